/- What the machine does of each code. Conditions: lists are not too long. -/
import Derived.Test.YtjpgfgajkjhonaaGreatDoorQTBC
import Derived.KernelRfl
import Derived.Test.YtjpgfgajkjhonaaGreatDoorQTAY
namespace Go.Proofs.YtjpgfgajkjhonaaGreatDoor
open Go.Vx
set_option maxRecDepth 100000
def MLay (f : Nat) (m : Mh) (st st' : List Va) (ts : List Tr) (tk : List Va) (frs : List Fr) : Prop :=
 ∀ K : Out → H → Prop, K (.ret (.tu [])) [.cells (mcs m (.d (.sl 5 (frs.map encF))) st' ts (tkd tk) went false 0), .no] →
  Sat Tryz.prog f [.p 0 0] [.cells (mcs m (.os 1) st ts (tkd tk) went false 0), .rows 5 (frs.map encF)] K
theorem push51 (m : Mh) (st : List Va) (ts : List Tr) (tk : List Va) (frs : List Fr) (v : Va) (hs : st.length < 1000000000) (h0 : 0 ≤ m.o.a) (hv : m.im.cs[m.o.a.toNat]? = some v) : MLay 145 m st (st ++ [v]) ts tk frs := by
 intro K hk
 refine s145 (keep := false) rfl ?_
 have hrow : (m.im.cs.map encV)[m.o.a.toNat]? = some (encV v) := by simp [hv]
 repeat' ((conv => whnf); first | exact zf | refine zg ?_ | intro _ | refine And.intro rfl ?_ | refine za ?_ | refine zl ?_ | fail)
 refine ⟨encV v, ⟨h0, hrow, rfl⟩, ?_⟩
 repeat' ((conv => whnf); first | exact zf | refine zg ?_ | intro _ | refine And.intro rfl ?_ | refine (.inr ?_ : (∃ _, _) ∨ _) | refine layA93 m st ts tk went false 0 frs v hs ?_ | refine za ?_ | refine zl ?_ | fail)
 exact hk
theorem load52 (m : Mh) (st : List Va) (ts : List Tr) (tk : List Va) (frs : List Fr) (f : Fr) (v : Va) (hs : st.length < 1000000000) (hl : 0 < frs.length) (hlf : frs.length < 1000000000) (hf : frs[frs.length - 1]? = some f) (h0 : 0 ≤ m.o.a) (hv : f.vars[m.o.a.toNat]? = some v) : MLay 146 m st (st ++ [v]) ts tk frs := by
 intro K hk
 refine s146 (keep := false) rfl ?_
 have hrow : (frs.map encF)[(((frs.map encF).length : Int) - 1).toNat]? = some (encF f) := by
  rw [List.getElem?_map, List.length_map]
  have e : ((frs.length : Int) - 1).toNat = frs.length - 1 := by omega
  rw [e, hf]; rfl
 have hrow2 : (f.vars.map encV)[m.o.a.toNat]? = some (encV v) := by simp [hv]
 repeat' ((conv => whnf); first | exact zf | refine zg ?_ | intro _ | refine And.intro rfl ?_ | refine (cfo_new (cfo_old ?_) : cfo _ (cfo (rqc _ _ _ _ 167 _ _ _ _ _ _ _) _)) | refine ⟨_, _, top74 m st ts tk went false 0 _ (by simp; omega) (by simp; omega) (And.intro rfl rfl), ?_⟩ | refine za ?_ | refine zl ?_ | fail)
 refine ⟨encF f, hrow, ?_⟩
 repeat' ((conv => whnf); first | exact zf | refine zg ?_ | intro _ | refine And.intro rfl ?_ | refine za ?_ | refine zl ?_ | fail)
 refine ⟨encV v, ⟨h0, hrow2, rfl⟩, ?_⟩
 repeat' ((conv => whnf); first | exact zf | refine zg ?_ | intro _ | refine And.intro rfl ?_ | refine (.inr ?_ : (∃ _, _) ∨ _) | refine layA93 m st ts tk went false 0 frs v hs ?_ | refine za ?_ | refine zl ?_ | fail)
 exact hk
end Go.Proofs.YtjpgfgajkjhonaaGreatDoor
namespace Go.Proofs.YtjpgfgajkjhonaaGreatDoor
open Go.Vx
def lastSet (frs : List Fr) (f : Fr) : List Fr := frs.set (frs.length - 1) f
theorem last_row {frs : List Fr} {f : Fr} (hl : 0 < frs.length) (hf : frs[frs.length - 1]? = some f) : (frs.map encF)[(((frs.map encF).length : Int) - 1).toNat]? = some (encF f) := by
 rw [List.getElem?_map, List.length_map]
 have e : ((frs.length : Int) - 1).toNat = frs.length - 1 := by omega
 rw [e, hf]; rfl
def lessM (a : Int) (ma : Int) : Int := bitv .and .u8 ma (IntKind.u8.wrap (bitv .and .i64 a 255))
theorem ret63A {K : Out → H → Prop} (m : Mh) (st : List Va) (ts : List Tr) (tk : List Va) (frs : List Fr) (hf : m.was.fr.length < 1000000000) (hs : m.was.st.length < 1000000000) (ht : m.was.tr.length < 1000000000) (hy : retOk m.was = true) (hn : ((retC m.was).fr.length : Int) ≤ m.fr)
  (hk : K (.ret (.tu [])) [.cells (mcs m (.d (.sl 5 ((retC m.was).fr.map encF))) (retC m.was).st (retC m.was).tr (tkd tk) ⟨1, retV m.was, o0⟩ false 0), .rows 5 (frs.map encF)]) :
  Sat Tryz.prog 157 [.p 0 0] [.cells (mcs m (.os 1) st ts (tkd tk) went false 0), .rows 5 (frs.map encF)] K := by
 have he := ret102 m.was hf hs ht
 simp only [retR, hy, cond_true] at he
 refine s157 (keep := false) rfl ?_
 repeat' ((conv => whnf); first | exact zf | refine zg ?_ | intro _ | refine And.intro rfl ?_ | refine ⟨_, he, ?_⟩ | refine (he).use ?_ | refine za ?_ | refine zl ?_ | fail)
 refine sp_intro (fun _ => ?_) (fun h => absurd h (by simp; omega))
 repeat' ((conv => whnf); first | exact zf | refine zg ?_ | intro _ | refine And.intro rfl ?_ | refine za ?_ | refine zl ?_ | fail)
 exact hk
theorem ret63B {K : Out → H → Prop} (m : Mh) (st : List Va) (ts : List Tr) (tk : List Va) (frs : List Fr) (hf : m.was.fr.length < 1000000000) (hs : m.was.st.length < 1000000000) (ht : m.was.tr.length < 1000000000) (hs2 : (retC m.was).st.length < 1000000000) (hy : retOk m.was = true) (hn : ¬ ((retC m.was).fr.length : Int) ≤ m.fr)
  (hk : K (.ret (.tu [])) [.cells (mcs m (.d (.sl 5 ((retC m.was).fr.map encF))) ((retC m.was).st ++ [retV m.was]) (retC m.was).tr (tkd tk) went false 0), .rows 5 (frs.map encF)]) :
  Sat Tryz.prog 157 [.p 0 0] [.cells (mcs m (.os 1) st ts (tkd tk) went false 0), .rows 5 (frs.map encF)] K := by
 have he := ret102 m.was hf hs ht
 simp only [retR, hy, cond_true] at he
 refine s157 (keep := false) rfl ?_
 repeat' ((conv => whnf); first | exact zf | refine zg ?_ | intro _ | refine And.intro rfl ?_ | refine ⟨_, he, ?_⟩ | refine (he).use ?_ | refine za ?_ | refine zl ?_ | fail)
 refine sp_intro (fun h => absurd h (by simp; omega)) (fun _ => ?_)
 repeat' ((conv => whnf); first | exact zf | refine zg ?_ | intro _ | refine And.intro rfl ?_ | refine (.inr ?_ : (∃ _, _) ∨ _) | refine layB93 m (retC m.was).st (retC m.was).tr tk went false 0 (retC m.was).fr (retV m.was) hs2 ?_ | refine za ?_ | refine zl ?_ | fail)
 exact hk
end Go.Proofs.YtjpgfgajkjhonaaGreatDoor
namespace Go.Proofs.YtjpgfgajkjhonaaGreatDoor
open Go.Vx
def codes : List (Int × Nat) := [(1, 1000145), (2, 1000146), (3, 1000147), (4, 1000148), (5, 1000149), (6, 1000150), (7, 1000151), (8, 1000151), (9, 1000151), (10, 1000151), (11, 1000151), (12, 1000152), (13, 1000151), (14, 1000153), (15, 1000154), (16, 1000155), (17, 1000156), (18, 1000157), (19, 1000158), (20, 1000159), (21, 1000160), (22, 1000161), (23, 1000162), (24, 1000163), (31, 1000164), (44, 1000165), (47, 1000166)]
def tbl (id : Nat) : List (V × V) := codes.map fun p => (.d (.int .i64 p.1), .fc p.2 [.p id 0])
set_option maxRecDepth 100000 in
set_option maxHeartbeats 4000000 in
theorem table26 {K : Out → H → Prop} (m : Mh) (hk : K (.ret (.mp 1)) [.cells (mcs0 m), .mp (tbl 0)]) : Sat Tryz.prog 107 [.p 0 0] [.cells (mcs0 m)] K := by
 refine s107 (keep := true) rfl ?_
 repeat' ((conv => whnf); first | exact zf | refine zg ?_ | intro _ | refine And.intro rfl ?_ | refine ⟨_, rfl, ?_⟩ | refine za ?_ | refine zl ?_ | fail)
 exact hk
end Go.Proofs.YtjpgfgajkjhonaaGreatDoor
namespace Go.Proofs.YtjpgfgajkjhonaaGreatDoor
open Go.Vx
set_option maxRecDepth 100000
def mkM (im : Im) (c : Co) (o : Op) (fr tr : Int) : Mh := ⟨im, c, o, max fr 0, max tr 0⟩
theorem fitR_some {im : Im} {c : Co} {o : Op} (h : fit im c = some o) : fitR im c = .tu [agO o, .d (.bool true)] := by simp only [fitR, h]
set_option maxRecDepth 100000 in
set_option maxHeartbeats 4000000 in
theorem stepQ (im : Im) (c : Co) (fr tr : Int) (o : Op) (hI : okI im) (hs : c.st.length < 1000000000) (h : fit im c = some o) (hq : ∀ id, fnd [0, 3] [.d (.int .i64 o.c)] (tbl id) 0 = some none) :
  SatP Tryz.prog 71 [agI im, agC c, .d (.int .i64 fr), .d (.int .i64 tr)] (.tu [agC c, agOu ⟨3, zeroV, o⟩]) := by
 have hf := fit21 im c hI hs
 rw [fitR_some h] at hf
 refine s71 (keep := false) rfl ?_
 repeat' ((conv => whnf); first | exact zf | refine zg ?_ | intro _ | refine And.intro rfl ?_ | refine ⟨_, hf, ?_⟩ | refine (hf).use ?_ | refine fro_more 1 ?_ | refine (cfo_new (cfo_old ?_) : cfo _ (cfo (rqc _ _ _ _ 107 _ _ _ _ _ _ _) _)) | refine ⟨_, _, table26 (mkM im c o fr tr) (And.intro rfl rfl), ?_⟩ | refine za ?_ | refine zl ?_ | fail)
 refine ⟨_, hq 5, ?_⟩
 repeat' ((conv => whnf); first | exact zf | refine zg ?_ | intro _ | refine And.intro rfl ?_ | refine za ?_ | refine zl ?_ | fail)
set_option maxRecDepth 100000 in
set_option maxHeartbeats 4000000 in
theorem stepS1 (im : Im) (c : Co) (fr tr : Int) (o : Op) (f : Fr) (F i : Nat) (hI : okI im) (hs : c.st.length < 1000000000) (h : fit im c = some o) (hr : Rdy (mkM im c o fr tr) f)
  (hq : ∀ id, fnd [0, 3] [.d (.int .i64 o.c)] (tbl id) 0 = some (some (i, .fc F [.p id 0]))) (hF1 : Nat.blt F 1000000 = false) (hF2 : Nat.blt F 2000000 = true) (frs' : List Fr) (st' : List Va) (ts' : List Tr)
  (hM : ∀ K : Out → H → Prop, K (.ret (.tu [])) [.cells (mcs (mkM im c o fr tr) (.d (.sl 5 (frs'.map encF))) st' ts' (tkd (tkn (mkM im c o fr tr))) went false 0), .no] → Sat Tryz.prog (F - 1000000) [.p 0 0] [.cells (mcs (mkM im c o fr tr) (.os 1) (lft (mkM im c o fr tr)) c.tr (tkd (tkn (mkM im c o fr tr))) went false 0), .rows 5 ((nxt c.fr f).map encF)] K) :
  SatP Tryz.prog 71 [agI im, agC c, .d (.int .i64 fr), .d (.int .i64 tr)] (.tu [agC ⟨frs', st', ts'⟩, agOu went]) := by
 have hf := fit21 im c hI hs
 rw [fitR_some h] at hf
 refine s71 (keep := false) rfl ?_
 repeat' ((conv => whnf); first | exact zf | refine zg ?_ | intro _ | refine And.intro rfl ?_ | refine ⟨_, hf, ?_⟩ | refine (hf).use ?_ | refine fro_more 1 ?_ | refine (cfo_new (cfo_old ?_) : cfo _ (cfo (rqc _ _ _ _ 107 _ _ _ _ _ _ _) _)) | refine ⟨_, _, table26 (mkM im c o fr tr) (And.intro rfl rfl), ?_⟩ | refine za ?_ | refine zl ?_ | fail)
 refine ⟨_, hq 5, ?_⟩
 repeat' ((conv => whnf); first | exact zf | refine zg ?_ | intro _ | refine And.intro rfl ?_ | refine (.inr ?_ : (∃ _, _) ∨ _) | refine begin27 (mkM im c o fr tr) f hr ?_ | refine za ?_ | refine zl ?_ | fail)
 conv => whnf
 rw [hF1]
 conv => whnf
 rw [hF2]
 repeat' ((conv => whnf); first | exact zf | refine zg ?_ | intro _ | refine And.intro rfl ?_ | refine (.inr ?_ : (∃ _, _) ∨ _) | refine hM _ ?_ | refine ⟨_, fit21 im c hI hs, ?_⟩ | refine (fit21 im c hI hs).use ?_ | refine za ?_ | refine zl ?_ | fail)
set_option maxRecDepth 100000 in
set_option maxHeartbeats 4000000 in
theorem stepS5 (im : Im) (c : Co) (fr tr : Int) (o : Op) (f : Fr) (F i : Nat) (hI : okI im) (hs : c.st.length < 1000000000) (h : fit im c = some o) (hr : Rdy (mkM im c o fr tr) f)
  (hq : ∀ id, fnd [0, 3] [.d (.int .i64 o.c)] (tbl id) 0 = some (some (i, .fc F [.p id 0]))) (hF1 : Nat.blt F 1000000 = false) (hF2 : Nat.blt F 2000000 = true) (frs' frs2 : List Fr) (st' : List Va) (ts' : List Tr) (u : Ou)
  (hM : ∀ K : Out → H → Prop, K (.ret (.tu [])) [.cells (mcs (mkM im c o fr tr) (.d (.sl 5 (frs'.map encF))) st' ts' (tkd (tkn (mkM im c o fr tr))) u false 0), .rows 5 (frs2.map encF)] → Sat Tryz.prog (F - 1000000) [.p 0 0] [.cells (mcs (mkM im c o fr tr) (.os 1) (lft (mkM im c o fr tr)) c.tr (tkd (tkn (mkM im c o fr tr))) went false 0), .rows 5 ((nxt c.fr f).map encF)] K) :
  SatP Tryz.prog 71 [agI im, agC c, .d (.int .i64 fr), .d (.int .i64 tr)] (.tu [agC ⟨frs', st', ts'⟩, agOu u]) := by
 have hf := fit21 im c hI hs
 rw [fitR_some h] at hf
 refine s71 (keep := false) rfl ?_
 repeat' ((conv => whnf); first | exact zf | refine zg ?_ | intro _ | refine And.intro rfl ?_ | refine ⟨_, hf, ?_⟩ | refine (hf).use ?_ | refine fro_more 1 ?_ | refine (cfo_new (cfo_old ?_) : cfo _ (cfo (rqc _ _ _ _ 107 _ _ _ _ _ _ _) _)) | refine ⟨_, _, table26 (mkM im c o fr tr) (And.intro rfl rfl), ?_⟩ | refine za ?_ | refine zl ?_ | fail)
 refine ⟨_, hq 5, ?_⟩
 repeat' ((conv => whnf); first | exact zf | refine zg ?_ | intro _ | refine And.intro rfl ?_ | refine (.inr ?_ : (∃ _, _) ∨ _) | refine begin27 (mkM im c o fr tr) f hr ?_ | refine za ?_ | refine zl ?_ | fail)
 conv => whnf
 rw [hF1]
 conv => whnf
 rw [hF2]
 repeat' ((conv => whnf); first | exact zf | refine zg ?_ | intro _ | refine And.intro rfl ?_ | refine (.inr ?_ : (∃ _, _) ∨ _) | refine hM _ ?_ | refine ⟨_, fit21 im c hI hs, ?_⟩ | refine (fit21 im c hI hs).use ?_ | refine za ?_ | refine zl ?_ | fail)
end Go.Proofs.YtjpgfgajkjhonaaGreatDoor
namespace Go.Proofs.YtjpgfgajkjhonaaGreatDoor
open Go.Vx
theorem fit_some {im : Im} {c : Co} {o : Op} (h : fit im c = some o) : ∃ f fn, c.fr.getLast? = some f ∧ within f.fu im.fs.length = true ∧ im.fs[f.fu.toNat]? = some fn ∧ within f.pc fn.code.length = true ∧ fn.code[f.pc.toNat]? = some o ∧
  rightB o = true ∧ operandB im f fn o = true ∧ popOk c (takes im o) = true := by
 unfold fit at h
 split at h
 ·cases h
 ·rename_i f hl
  cases h1 : within f.fu im.fs.length <;> rw [h1] at h <;> simp only [cond_true, cond_false] at h
  ·cases h
  split at h
  ·cases h
  ·rename_i fn hfn
   cases h2 : within f.pc fn.code.length <;> rw [h2] at h <;> simp only [cond_true, cond_false] at h
   ·cases h
   split at h
   ·cases h
   ·rename_i o' ho
    cases h3 : rightB o' && (operandB im f fn o' && popOk c (takes im o')) <;> rw [h3] at h <;> simp only [cond_true, cond_false] at h
    ·cases h
    ·cases h
     simp only [Bool.and_eq_true] at h3
     exact ⟨f, fn, hl, h1, hfn, h2, ho, h3.1, h3.2.1, h3.2.2⟩
theorem popL_len {c : Co} {n : Int} (h : popOk c n = true) : (popL c n).length = n.toNat ∧ (popC c n).st.length + n.toNat = c.st.length := by
 simp [popOk] at h
 simp [popL, popC, cutn]
 omega
structure Cx (im : Im) (c : Co) (fr tr : Int) (o : Op) (f : Fr) (fn : Fn) : Prop where
 hI : okI im
 h : fit im c = some o
 hl : c.fr.getLast? = some f
 w1 : 0 ≤ f.pc ∧ f.pc < 1000000000
 op : operandB im f fn o = true
 po : popOk c (takes im o) = true
 lf : c.fr.length < 900000000
 ls : c.st.length < 800000000
 lt : c.tr.length < 900000000
namespace Cx
variable {im : Im} {c : Co} {fr tr : Int} {o : Op} {f : Fr} {fn : Fn}
theorem call (x : Cx im c fr tr o f fn) (hc : o.c = 17) : ∃ g, 0 ≤ o.a ∧ im.fs[o.a.toNat]? = some g ∧ inR .i64 g.args := by
 obtain ⟨k1, k2⟩ := within_iff.1 (operand_call hc x.op)
 obtain ⟨g, hg⟩ : ∃ g, im.fs[o.a.toNat]? = some g := ⟨_, List.getElem?_eq_getElem (by omega)⟩
 exact ⟨g, k1, hg, x.hI.args _ _ hg⟩
theorem rdy (x : Cx im c fr tr o f fn) : Rdy (mkM im c o fr tr) f :=
 ⟨x.hl, by have := x.lf; show c.fr.length < _; omega, by have := x.ls; show c.st.length < _; omega, by have := x.w1; omega, x.po, x.call⟩
theorem hs (x : Cx im c fr tr o f fn) : c.st.length < 1000000000 := by have := x.ls; omega
theorem pos (x : Cx im c fr tr o f fn) : 0 < c.fr.length := by
 cases h : c.fr with
 | nil => have := x.hl; rw [h] at this; cases this
 | cons => simp
theorem last (x : Cx im c fr tr o f fn) : (nxt c.fr f)[(nxt c.fr f).length - 1]? = some { f with pc := f.pc + 1 } := by
 have := x.pos
 rw [nxt, List.length_set, List.getElem?_set_self (by omega)]
theorem nlen (x : Cx im c fr tr o f fn) : 0 < (nxt c.fr f).length ∧ (nxt c.fr f).length < 1000000000 := by
 have := x.pos; have := x.lf
 rw [nxt, List.length_set]; omega
theorem tl (x : Cx im c fr tr o f fn) : (tkn (mkM im c o fr tr)).length = (takes im o).toNat ∧ (lft (mkM im c o fr tr)).length + (takes im o).toNat = c.st.length := popL_len x.po
theorem sl (x : Cx im c fr tr o f fn) : (lft (mkM im c o fr tr)).length < 800000000 := by have := x.tl; have := x.ls; omega
end Cx
def layC (im : Im) (c : Co) (o : Op) (f : Fr) (l : List Va) : Co × Ou := (⟨nxt c.fr f, lft (mkM im c o 0 0) ++ l, c.tr⟩, went)
def tk0 (im : Im) (c : Co) (o : Op) : Va := ((tkn (mkM im c o 0 0))[0]?).getD zeroV
def tk1' (im : Im) (c : Co) (o : Op) : Va := ((tkn (mkM im c o 0 0))[1]?).getD zeroV
def opR (im : Im) (c : Co) (fr tr : Int) (o : Op) (f : Fr) : Co × Ou :=
 let exc := fun n => raise c n (max tr 0)
 let a := tk0 im c o
 let b := tk1' im c o
 let jmp : Co × Ou := (⟨lastSet (nxt c.fr f) { { f with pc := f.pc + 1 } with pc := o.a }, lft (mkM im c o 0 0), c.tr⟩, went)
 bif o.c == 1 then layC im c o f [(im.cs[o.a.toNat]?).getD zeroV]
 else bif o.c == 2 then layC im c o f [(f.vars[o.a.toNat]?).getD zeroV]
 else bif o.c == 4 then layC im c o f []
 else bif o.c == 5 then layC im c o f [a, a]
 else bif o.c == 6 then layC im c o f [b, a]
 else bif o.c == 12 then layC im c o f [truthV (eqV a b)]
 else bif decide (7 ≤ o.c) && decide (o.c ≤ 13) then (bif (a.k == 1) && (b.k == 1) then (match numR o.c a.n b.n with
  | .tu [.d (.int .i64 n), .d (.bool true)] => layC im c o f [num n]
  | _ => exc (-2)) else exc (-1))
 else bif o.c == 14 then (bif a.k == 1 then layC im c o f [truthV (a.n == 0)] else exc (-1))
 else bif o.c == 15 then jmp
 else bif o.c == 16 then (bif a.k == 1 then (bif a.n == 0 then layC im c o f [] else jmp) else exc (-1))
 else bif o.c == 17 then (bif enterOk ⟨nxt c.fr f, lft (mkM im c o 0 0), c.tr⟩ then (⟨(enterC ⟨nxt c.fr f, lft (mkM im c o 0 0), c.tr⟩ o.a (match im.fs[o.a.toNat]? with | some g => g.vars | none => 0) (tkn (mkM im c o 0 0)) f.ma).fr, lft (mkM im c o 0 0), c.tr⟩, went) else exc (-6))
 else bif o.c == 18 then (bif decide (((retC c).fr.length : Int) ≤ max fr 0) then (retC c, ⟨1, retV c, o0⟩) else (⟨(retC c).fr, (retC c).st ++ [retV c], (retC c).tr⟩, went))
 else bif o.c == 19 then (bif a.k == 1 then exc a.n else exc (-1))
 else bif o.c == 20 then (⟨nxt c.fr f, lft (mkM im c o 0 0), c.tr ++ [⟨(nxt c.fr f).length, (lft (mkM im c o 0 0)).length, o.a⟩]⟩, went)
 else bif o.c == 21 then (bif decide (max tr 0 < c.tr.length) then (⟨nxt c.fr f, lft (mkM im c o 0 0), c.tr.take (c.tr.length - 1)⟩, went) else layC im c o f [])
 else bif o.c == 44 then (⟨lastSet (nxt c.fr f) { { f with pc := f.pc + 1 } with ma := lessM o.a f.ma }, lft (mkM im c o 0 0), c.tr⟩, went)
 else bif o.c == 47 then layC im c o f [num f.ma]
 else (c, ⟨3, zeroV, o⟩)
def dom (c : Int) : Bool := !((c == 3) || (c == 22) || (c == 23) || (c == 24) || (c == 31))
def St (im : Im) (c : Co) (fr tr : Int) (r : Co × Ou) : Prop := SatP Tryz.prog 71 [agI im, agC c, .d (.int .i64 fr), .d (.int .i64 tr)] (.tu [agC r.1, agOu r.2])
section
variable {im : Im} {c : Co} {fr tr : Int} {f : Fr} {fn : Fn} {oa : Int}
theorem layQ {o : Op} (x : Cx im c fr tr o f fn) (F i : Nat) (l : List Va) (hq : ∀ id, fnd [0, 3] [.d (.int .i64 o.c)] (tbl id) 0 = some (some (i, .fc F [.p id 0]))) (hF1 : Nat.blt F 1000000 = false) (hF2 : Nat.blt F 2000000 = true)
  (hM : MLay (F - 1000000) (mkM im c o fr tr) (lft (mkM im c o fr tr)) (lft (mkM im c o fr tr) ++ l) c.tr (tkn (mkM im c o fr tr)) (nxt c.fr f)) : St im c fr tr (layC im c o f l) :=
 stepS1 im c fr tr o f F i x.hI x.hs x.h x.rdy hq hF1 hF2 (nxt c.fr f) (lft (mkM im c o fr tr) ++ l) c.tr hM
theorem op1 (x : Cx im c fr tr ⟨1, oa⟩ f fn) : St im c fr tr (opR im c fr tr ⟨1, oa⟩ f) := by
 have hw : within oa im.cs.length = true := x.op
 obtain ⟨k1, k2⟩ := within_iff.1 hw
 obtain ⟨v, hv⟩ : ∃ v, im.cs[oa.toNat]? = some v := ⟨_, List.getElem?_eq_getElem (by omega)⟩
 have e : opR im c fr tr ⟨1, oa⟩ f = layC im c ⟨1, oa⟩ f [v] := by
  show layC im c ⟨1, oa⟩ f [(im.cs[oa.toNat]?).getD zeroV] = _
  rw [hv]; rfl
 rw [e]
 exact layQ x 1000145 0 [v] (fun _ => rfl) rfl rfl (push51 _ _ _ _ _ v (by have := x.sl; omega) k1 hv)
theorem op2 (x : Cx im c fr tr ⟨2, oa⟩ f fn) : St im c fr tr (opR im c fr tr ⟨2, oa⟩ f) := by
 have hw : within oa f.vars.length = true := x.op
 obtain ⟨k1, k2⟩ := within_iff.1 hw
 obtain ⟨v, hv⟩ : ∃ v, f.vars[oa.toNat]? = some v := ⟨_, List.getElem?_eq_getElem (by omega)⟩
 have e : opR im c fr tr ⟨2, oa⟩ f = layC im c ⟨2, oa⟩ f [v] := by
  show layC im c ⟨2, oa⟩ f [(f.vars[oa.toNat]?).getD zeroV] = _
  rw [hv]; rfl
 rw [e]
 exact layQ x 1000146 1 [v] (fun _ => rfl) rfl rfl (load52 _ _ _ _ _ { f with pc := f.pc + 1 } v (by have := x.sl; omega) x.nlen.1 x.nlen.2 x.last k1 hv)
end
end Go.Proofs.YtjpgfgajkjhonaaGreatDoor
namespace Go.Proofs.YtjpgfgajkjhonaaGreatDoor
open Go.Vx
section
variable {im : Im} {c : Co} {fr tr : Int} {f : Fr} {fn : Fn} {oa : Int}
theorem op18 (x : Cx im c fr tr ⟨18, oa⟩ f fn) : St im c fr tr (opR im c fr tr ⟨18, oa⟩ f) := by
 have hlf := x.lf
 have hls := x.ls
 have hlt := x.lt
 have hpos := x.pos
 have hpo : popOk c 1 = true := x.po
 have hy : retOk c = true := by simp [retOk, hpo, hpos]
 have hl2 : (retC c).st.length < 1000000000 := by
  show (cutn c.st (base c)).length < _
  simp only [cutn, List.length_take]; omega
 have e : opR im c fr tr ⟨18, oa⟩ f = bif decide (((retC c).fr.length : Int) ≤ max fr 0) then (retC c, ⟨1, retV c, o0⟩) else (⟨(retC c).fr, (retC c).st ++ [retV c], (retC c).tr⟩, went) := rfl
 rw [e]
 by_cases hn : ((retC c).fr.length : Int) ≤ max fr 0
 ·rw [show decide (((retC c).fr.length : Int) ≤ max fr 0) = true by simpa using hn, cond_true]
  exact stepS5 im c fr tr ⟨18, oa⟩ f 1000157 17 x.hI x.hs x.h x.rdy (fun _ => rfl) rfl rfl (retC c).fr (nxt c.fr f) (retC c).st (retC c).tr ⟨1, retV c, o0⟩ (fun K hk => ret63A (mkM im c ⟨18, oa⟩ fr tr) _ c.tr _ (nxt c.fr f) (by show c.fr.length < _; omega) (by show c.st.length < _; omega) (by show c.tr.length < _; omega) hy hn hk)
 ·rw [show decide (((retC c).fr.length : Int) ≤ max fr 0) = false by simpa using hn, cond_false]
  exact stepS5 im c fr tr ⟨18, oa⟩ f 1000157 17 x.hI x.hs x.h x.rdy (fun _ => rfl) rfl rfl (retC c).fr (nxt c.fr f) ((retC c).st ++ [retV c]) (retC c).tr went (fun K hk => ret63B (mkM im c ⟨18, oa⟩ fr tr) _ c.tr _ (nxt c.fr f) (by show c.fr.length < _; omega) (by show c.st.length < _; omega) (by show c.tr.length < _; omega) hl2 hy hn hk)
theorem opA {o : Op} (x : Cx im c fr tr o f fn) (hq : ∀ id, fnd [0, 3] [.d (.int .i64 o.c)] (tbl id) 0 = some none) : St im c fr tr (c, ⟨3, zeroV, o⟩) :=
 stepQ im c fr tr o x.hI x.hs x.h hq
structure okC (im : Im) (c : Co) : Prop where
 hI : okI im
 cd : ∀ (i : Nat) (g : Fn), im.fs[i]? = some g → g.code.length < 1000000000
 lf : c.fr.length < 900000000
 ls : c.st.length < 800000000
 lt : c.tr.length < 900000000
 ma : ∀ f, c.fr.getLast? = some f → 0 ≤ f.ma ∧ f.ma ≤ 255
 dm : ∀ o, fit im c = some o → dom o.c = true
end
end Go.Proofs.YtjpgfgajkjhonaaGreatDoor
namespace Go.Proofs.YtjpgfgajkjhonaaGreatDoor
open Go.Vx
def c00 : Co := ⟨[], [], []⟩
end Go.Proofs.YtjpgfgajkjhonaaGreatDoor
namespace Go.Proofs.YtjpgfgajkjhonaaGreatDoor
open Go.Vx
end Go.Proofs.YtjpgfgajkjhonaaGreatDoor
namespace Go.Proofs.YtjpgfgajkjhonaaGreatDoor
open Go.Vx
end Go.Proofs.YtjpgfgajkjhonaaGreatDoor
namespace Go.Proofs.YtjpgfgajkjhonaaGreatDoor
open Go.Vx
set_option maxRecDepth 100000
def mkL (l : Lb) : Va := ⟨2, 0, [], l.s, l.i⟩
def lbV (v : Va) : Lb := ⟨v.ls, v.li⟩
def opX (im : Im) (c : Co) (fr tr : Int) (o : Op) (f : Fr) : Co × Ou :=
 let a := tk0 im c o
 let b := tk1' im c o
 bif o.c == 3 then (⟨lastSet (nxt c.fr f) { { f with pc := f.pc + 1 } with vars := f.vars.set o.a.toNat a }, lft (mkM im c o 0 0), c.tr⟩, went)
 else bif o.c == 22 then (bif (a.k == 2) && (b.k == 2) then layC im c o f [mkL (joinL (lbV a) (lbV b))] else raise c (-1) (max tr 0))
 else bif o.c == 23 then (bif (a.k == 2) && (b.k == 2) then layC im c o f [mkL (meetL (lbV a) (lbV b))] else raise c (-1) (max tr 0))
 else opR im c fr tr o f
section
variable {im : Im} {c : Co} {fr tr : Int} {f : Fr} {fn : Fn} {oa : Int}
def stepX (im : Im) (c : Co) (fr tr : Int) : Co × Ou :=
 match fit im c with
 | none => (c, failed (-6))
 | some o => match c.fr.getLast? with
  | none => (c, failed (-6))
  | some f => opX im c fr tr o f
structure okX (im : Im) (c : Co) : Prop where
 hI : okI im
 cd : ∀ (i : Nat) (g : Fn), im.fs[i]? = some g → g.code.length < 1000000000
 lf : c.fr.length < 900000000
 ls : c.st.length < 800000000
 lt : c.tr.length < 900000000
 ma : ∀ f, c.fr.getLast? = some f → (0 ≤ f.ma ∧ f.ma ≤ 255) ∧ f.vars.length < 1000000000
 sm : ∀ v ∈ c.st, smL (lbV v)
 dm : ∀ o, fit im c = some o → o.c ≠ 24 ∧ o.c ≠ 31
end
end Go.Proofs.YtjpgfgajkjhonaaGreatDoor
namespace Go.Proofs.YtjpgfgajkjhonaaGreatDoor
open Go.Vx
set_option maxRecDepth 100000
inductive OR where
 | ok (e : Fx) (f : Option Nat → Ca × Sto)
 | ex (n : Int) (c : Ca) (s : Sto)
def OR.K (r : OR) (K : Out → H → Prop) : Prop := match r with
 | .ok e f => ∀ b, K (.ret (.tu [])) (caF (f b).1 e false (f b).2)
 | .ex n c s => K (.pan (exV n)) (caB c s)
def untx : List UInt8 → Nat → List Nat
 | [], a => [a]
 | c :: r, a => bif c == 46 then a :: untx r 0 else untx r (10 * a + (c.toNat - 48))
def kpT (t : Th) : List Nat := untx t.pa 0 ++ [t.ma.toNat]
structure okN (t : Th) : Prop where
 pa : t.pa = txt (untx t.pa 0)
 ne : untx t.pa 0 ≠ []
 le : (untx t.pa 0).length < 24
 sm : ∀ n ∈ untx t.pa 0, n < 100
 m0 : 0 ≤ t.ma
 m1 : t.ma < 100
 r2 : t.ro < 1000000000
structure okMk (c : Ca) (s : Sto) (o : Ob) : Prop where
 n : okN c.t
 g : smG c.t.g
 l : smL o.l
 gs : goodS s
 k3 : 3 ≤ o.k
 k7 : o.k ≤ 7
 okl : okL o.l = true
 q : o.va.q.length < 100000000
 new : lookT (txt (kpT c.t)) s.th = none
 st : c.t.c.st.length < 1000000000
theorem okN.good {t : Th} (h : okN t) : goodN (kpT t) := by
 refine ⟨by simp [kpT], ?_, fun n hn => ?_⟩
 ·have := h.le; simp [kpT]; omega
 ·rcases List.mem_append.1 hn with g | g
  ·exact h.sm n g
  ·rw [List.mem_singleton.1 g]; have := h.m1; have := h.m0; omega
def makeR (c : Ca) (s : Sto) (o : Ob) : OR :=
 bif writeG c.t.g o.l == 0 then (bif decide (c.t.ro < 1) then .ex (-5) c s else .ok .no fun b => (addC { c with t := nameU c.t } (txt (kpT c.t)) o, addS s (kpT c.t) o b)) else .ex (writeG c.t.g o.l) c s
theorem make237 {K : Out → H → Prop} (c : Ca) (s : Sto) (o : Ob) (h : okMk c s o) (hk : (makeR c s o).K K) : Sat Tryz.prog 237 [.p 0 0, agOb o] (caB c s) K := by
 unfold makeR at hk
 by_cases hw : writeG c.t.g o.l = 0
 ·rw [hw] at hk
  by_cases hr : c.t.ro < 1
  ·rw [decide_eq_true hr] at hk
   replace hk : K (.pan (exV (-5))) (caB c s) := hk
   have h1 := write242 c.t.g o.l h.g h.l
   rw [hw] at h1
   have h2 := fun {K : Out → H → Prop} => name_no (K := K) c s hr
   refine s237 (keep := false) rfl ?_
   repeat' ((conv => whnf); first | exact zf | refine zg ?_ | intro _ | refine And.intro rfl ?_ | refine ⟨_, h1, ?_⟩ | refine (h1).use ?_ | refine za ?_ | refine zl ?_ | fail)
   conv => whnf
   refine may_ok ?_
   repeat' ((conv => whnf); first | exact zf | refine zg ?_ | intro _ | refine And.intro rfl ?_ | refine (cuo_new (cuo_old ?_)) | refine (.inr ?_ : (∃ _, _) ∨ _) | refine (h2 ?_) | refine za ?_ | refine zl ?_ | refine And.intro ?_ ?_ | fail)
   all_goals exact hk
  ·rw [decide_eq_false hr] at hk
   replace hk : ∀ b, K (.ret (.tu [])) (caB (addC { c with t := nameU c.t } (txt (kpT c.t)) o) (addS s (kpT c.t) o b)) := hk
   have hm : c.t.ma = (c.t.ma.toNat : Nat) := by have := h.n.m0; omega
   exact make_ok c s (untx c.t.pa 0) c.t.ma.toNat o h.g hw h.n.pa hm h.n.ne h.n.le h.n.sm (by have := h.n.m1; omega) (by omega) h.n.r2 h.n.good h.gs h.l h.k3 h.k7 h.okl h.q h.new h.st hk
 ·have hb : (writeG c.t.g o.l == 0) = false := by simp [hw]
  rw [hb] at hk
  replace hk : K (.pan (exV (writeG c.t.g o.l))) (caB c s) := hk
  have h1 := write242 c.t.g o.l h.g h.l
  refine s237 (keep := false) rfl ?_
  repeat' ((conv => whnf); first | exact zf | refine zg ?_ | intro _ | refine And.intro rfl ?_ | refine ⟨_, h1, ?_⟩ | refine (h1).use ?_ | refine (may_no _ hw ?_) | refine za ?_ | refine zl ?_ | fail)
  exact hk
def taintR (c : Ca) (s : Sto) (l : Lb) : OR := bif taintE c.t.g l == 0 then .ok .no fun _ => ({ c with t := { c.t with g := taintG c.t.g l } }, s) else .ex (taintE c.t.g l) c s
def kindsB (ks : List Int) (ar : List Va) : Bool := (ks.zip ar).all fun p => p.1 == 0 || p.2.k == p.1
def rowsI (ks : List Int) : List (List D) := ks.map fun n => [.int .i64 n]
def kindsK (b : Bool) (c : Ca) (s : Sto) (K : Out → H → Prop) : Prop := match b with
 | true => K (.ret (.tu [])) (caB c s)
 | false => K (.pan (exV (-1))) (caB c s)
theorem kinds233 {K : Out → H → Prop} (c : Ca) (s : Sto) (ks : List Int) (B : Bool) (hl : ks.length ≤ c.ar.length) (hb : kindsB ks c.ar = B) (hk : kindsK B c s K) : Sat Tryz.prog 233 [.p 0 0, .d (.sl 1 (rowsI ks))] (caB c s) K := by
 have hl1 : (rowsI ks).length = ks.length := List.length_map _
 have hl2 : (c.ar.map encV).length = c.ar.length := List.length_map _
 refine s233 (keep := false) rfl ?_
 repeat' ((conv => whnf); first | exact zf | refine zg ?_ | intro _ | refine And.intro rfl ?_ | refine za ?_ | refine zl ?_ | fail)
 conv => whnf
 refine loop_use2 [(0, .p 0 0), (6, .d (.sl 1 (rowsI ks))), (7, .d (.int .i64 (rowsI ks).length))] (fun i : Nat => i ≤ ks.length ∧ kindsB (ks.drop i) (c.ar.drop i) = B) (fun i => [(8, .d (.int .i64 i))]) (fun _ => caB c s) (fun i => ks.length - i) 0 ⟨Nat.zero_le _, hb⟩ ?_ ?_ ?_ (fun i hi => ?_)
 ·exact (by repeat' (first | exact trivial | exact rfl | exact Or.inl rfl | refine And.intro ?_ ?_ | refine Or.inr ?_))
 ·exact (by repeat' (first | exact trivial | exact rfl | exact Or.inl rfl | refine And.intro ?_ ?_ | refine Or.inr ?_))
 ·exact rfl
 repeat' ((conv => whnf); first | exact zf | refine zg ?_ | intro _ | refine And.intro rfl ?_ | refine za ?_ | refine zl ?_ | fail)
 refine sp_intro (fun hlt => ?_) (fun hge => ?_)
 ·have hlt : i < ks.length := by rw [← hl1]; simpa using hlt
  obtain ⟨k, hm⟩ : ∃ k, ks[i]? = some k := ⟨_, List.getElem?_eq_getElem hlt⟩
  obtain ⟨v, hv⟩ : ∃ v, c.ar[i]? = some v := ⟨_, List.getElem?_eq_getElem (by omega)⟩
  have hdk : ks.drop i = k :: ks.drop (i + 1) := by
   rw [List.drop_eq_getElem_cons hlt]
   rw [List.getElem?_eq_getElem hlt] at hm
   rw [Option.some.inj hm]
  have hdv : c.ar.drop i = v :: c.ar.drop (i + 1) := by
   have h2 : i < c.ar.length := by omega
   rw [List.drop_eq_getElem_cons h2]
   rw [List.getElem?_eq_getElem h2] at hv
   rw [Option.some.inj hv]
  have hB := hi.2
  rw [hdk, hdv] at hB
  simp only [kindsB, List.zip_cons_cons, List.all_cons] at hB
  have hrow : (rowsI ks)[i]? = some [D.int .i64 k] := by simp [rowsI, hm]
  have hrow2 : (c.ar.map encV)[i]? = some (encV v) := by simp [hv]
  repeat' ((conv => whnf); first | exact zf | refine zg ?_ | intro _ | refine And.intro rfl ?_ | refine za ?_ | refine zl ?_ | fail)
  refine ⟨_, ⟨by omega, hrow, rfl⟩, ?_⟩
  by_cases hk0 : k = 0
  ·subst hk0
   repeat' ((conv => whnf); first | exact zf | refine zg ?_ | intro _ | refine And.intro rfl ?_ | refine za ?_ | refine zl ?_ | refine zt ?_ | refine zu ?_ | fail)
   refine ⟨i + 1, ⟨hlt, by simpa [kindsB] using hB⟩, Nat.sub_lt_sub_left hlt (Nat.lt_succ_self i), (by repeat' (first | exact trivial | exact rfl | exact Or.inl rfl | refine And.intro ?_ ?_ | refine Or.inr ?_)), (by repeat' (first | exact trivial | exact rfl | exact Or.inl rfl | refine And.intro ?_ ?_ | refine Or.inr ?_)), rfl⟩
  ·by_cases hkv : v.k = k
   ·skip
    repeat' ((conv => whnf); first | exact zf | refine zg ?_ | intro _ | refine And.intro rfl ?_ | refine ⟨_, ⟨by omega, hrow2, rfl⟩, ?_⟩ | refine za ?_ | refine zl ?_ | refine zt ?_ | refine zu ?_ | fail)
    refine ⟨i + 1, ⟨hlt, by simpa [kindsB, hkv] using hB⟩, Nat.sub_lt_sub_left hlt (Nat.lt_succ_self i), (by repeat' (first | exact trivial | exact rfl | exact Or.inl rfl | refine And.intro ?_ ?_ | refine Or.inr ?_)), (by repeat' (first | exact trivial | exact rfl | exact Or.inl rfl | refine And.intro ?_ ?_ | refine Or.inr ?_)), rfl⟩
   ·have hBf : B = false := by rw [← hB]; simp [hk0, hkv]
    rw [hBf] at hk
    repeat' ((conv => whnf); first | exact zf | refine zg ?_ | intro _ | refine And.intro rfl ?_ | refine ⟨_, ⟨by omega, hrow2, rfl⟩, ?_⟩ | refine (except249 _ ?_) | refine za ?_ | refine zl ?_ | refine zt ?_ | refine zu ?_ | fail)
    exact hk
 ·have hge : i = ks.length := by
   have : ¬ i < ks.length := by rw [← hl1]; simpa using hge
   omega
  have hBt : B = true := by rw [← hi.2, hge, List.drop_length]; rfl
  rw [hBt] at hk
  repeat' ((conv => whnf); first | exact zf | refine zg ?_ | intro _ | refine And.intro rfl ?_ | refine za ?_ | refine zl ?_ | fail)
  exact hk
theorem kinds_ok {K : Out → H → Prop} (c : Ca) (s : Sto) (ks : List Int) (hl : ks.length ≤ c.ar.length) (hb : kindsB ks c.ar = true) (hk : K (.ret (.tu [])) (caB c s)) : Sat Tryz.prog 233 [.p 0 0, .d (.sl 1 (rowsI ks))] (caB c s) K := kinds233 c s ks true hl hb hk
theorem kinds_no {K : Out → H → Prop} (c : Ca) (s : Sto) (ks : List Int) (hl : ks.length ≤ c.ar.length) (hb : kindsB ks c.ar = false) (hk : K (.pan (exV (-1))) (caB c s)) : Sat Tryz.prog 233 [.p 0 0, .d (.sl 1 (rowsI ks))] (caB c s) K := kinds233 c s ks false hl hb hk
theorem taint234 {K : Out → H → Prop} (c : Ca) (s : Sto) (l : Lb) (hs : smG c.t.g) (hl : smL l) (hj : smL (joinL c.t.g.cur l)) (hk : (taintR c s l).K K) : Sat Tryz.prog 234 [.p 0 0, agL l] (caB c s) K := by
 unfold taintR at hk
 by_cases he : taintE c.t.g l = 0
 ·rw [he] at hk
  exact taint_ok c s l hs hl hj he (hk none)
 ·have hb : (taintE c.t.g l == 0) = false := by simp [he]
  rw [hb] at hk
  exact taint_no c s l hs hl hj he hk
def newR (k : Int) (c : Ca) (s : Sto) : OR := bif kindsB [0, 2] c.ar then makeR c s { noOb with k := k, l := lbV (c.ar[1]?.getD noV), v := c.ar[0]?.getD noV } else .ex (-1) c s
theorem newBox174 {K : Out → H → Prop} (c : Ca) (s : Sto) (a m : Va) (har : c.ar = [a, m]) (h : okMk c s { noOb with k := 3, l := lbV m, v := a }) (hk : (newR 3 c s).K K) : Sat Tryz.prog 174 [.p 0 0] (caB c s) K := by
 obtain ⟨im, now, t, tr, o, ar, ma⟩ := c
 subst har
 have h2 := fun {K : Out → H → Prop} => make237 (K := K) ⟨im, now, t, tr, o, [a, m], ma⟩ s _ h
 unfold newR at hk
 cases hb : kindsB [0, 2] [a, m] with
 | true =>
  have h1 := fun {K : Out → H → Prop} => kinds_ok (K := K) ⟨im, now, t, tr, o, [a, m], ma⟩ s [0, 2] (Nat.le_refl _) hb
  dsimp only at hk
  rw [hb, cond_true] at hk
  replace hk : (makeR ⟨im, now, t, tr, o, [a, m], ma⟩ s { noOb with k := 3, l := lbV m, v := a }).K K := hk
  generalize hR : makeR ⟨im, now, t, tr, o, [a, m], ma⟩ s { noOb with k := 3, l := lbV m, v := a } = R at h2 hk
  cases R with
  | ok e f =>
   cases e
   all_goals
    refine s174 (keep := false) rfl ?_
    repeat' ((conv => whnf); first | exact zf | refine zg ?_ | intro _ | refine And.intro rfl ?_ | refine (.inr ?_ : (∃ _, _) ∨ _) | refine (h1 ?_) | refine (h2 (fun b => ?_)) | refine ⟨_, ⟨by omega, rfl, rfl⟩, ?_⟩ | refine za ?_ | refine zl ?_ | fail)
    exact hk _
  | ex n c' s' =>
   have h3 := fun {K : Out → H → Prop} (g : K (.pan (exV n)) (caB c' s')) => h2 (K := K) g
   refine s174 (keep := false) rfl ?_
   repeat' ((conv => whnf); first | exact zf | refine zg ?_ | intro _ | refine And.intro rfl ?_ | refine (.inr ?_ : (∃ _, _) ∨ _) | refine (h1 ?_) | refine (h3 ?_) | refine ⟨_, ⟨by omega, rfl, rfl⟩, ?_⟩ | refine za ?_ | refine zl ?_ | fail)
   exact hk
 | false =>
  have h1 := fun {K : Out → H → Prop} => kinds_no (K := K) ⟨im, now, t, tr, o, [a, m], ma⟩ s [0, 2] (Nat.le_refl _) hb
  dsimp only at hk
  rw [hb, cond_false] at hk
  refine s174 (keep := false) rfl ?_
  repeat' ((conv => whnf); first | exact zf | refine zg ?_ | intro _ | refine And.intro rfl ?_ | refine (.inr ?_ : (∃ _, _) ∨ _) | refine (h1 ?_) | refine za ?_ | refine zl ?_ | fail)
  exact hk
theorem newRef176 {K : Out → H → Prop} (c : Ca) (s : Sto) (a m : Va) (har : c.ar = [a, m]) (h : okMk c s { noOb with k := 4, l := lbV m, v := a }) (hk : (newR 4 c s).K K) : Sat Tryz.prog 176 [.p 0 0] (caB c s) K := by
 obtain ⟨im, now, t, tr, o, ar, ma⟩ := c
 subst har
 have h2 := fun {K : Out → H → Prop} => make237 (K := K) ⟨im, now, t, tr, o, [a, m], ma⟩ s _ h
 unfold newR at hk
 cases hb : kindsB [0, 2] [a, m] with
 | true =>
  have h1 := fun {K : Out → H → Prop} => kinds_ok (K := K) ⟨im, now, t, tr, o, [a, m], ma⟩ s [0, 2] (Nat.le_refl _) hb
  dsimp only at hk
  rw [hb, cond_true] at hk
  replace hk : (makeR ⟨im, now, t, tr, o, [a, m], ma⟩ s { noOb with k := 4, l := lbV m, v := a }).K K := hk
  generalize hR : makeR ⟨im, now, t, tr, o, [a, m], ma⟩ s { noOb with k := 4, l := lbV m, v := a } = R at h2 hk
  cases R with
  | ok e f =>
   cases e
   all_goals
    refine s176 (keep := false) rfl ?_
    repeat' ((conv => whnf); first | exact zf | refine zg ?_ | intro _ | refine And.intro rfl ?_ | refine (.inr ?_ : (∃ _, _) ∨ _) | refine (h1 ?_) | refine (h2 (fun b => ?_)) | refine ⟨_, ⟨by omega, rfl, rfl⟩, ?_⟩ | refine za ?_ | refine zl ?_ | fail)
    exact hk _
  | ex n c' s' =>
   have h3 := fun {K : Out → H → Prop} (g : K (.pan (exV n)) (caB c' s')) => h2 (K := K) g
   refine s176 (keep := false) rfl ?_
   repeat' ((conv => whnf); first | exact zf | refine zg ?_ | intro _ | refine And.intro rfl ?_ | refine (.inr ?_ : (∃ _, _) ∨ _) | refine (h1 ?_) | refine (h3 ?_) | refine ⟨_, ⟨by omega, rfl, rfl⟩, ?_⟩ | refine za ?_ | refine zl ?_ | fail)
   exact hk
 | false =>
  have h1 := fun {K : Out → H → Prop} => kinds_no (K := K) ⟨im, now, t, tr, o, [a, m], ma⟩ s [0, 2] (Nat.le_refl _) hb
  dsimp only at hk
  rw [hb, cond_false] at hk
  refine s176 (keep := false) rfl ?_
  repeat' ((conv => whnf); first | exact zf | refine zg ?_ | intro _ | refine And.intro rfl ?_ | refine (.inr ?_ : (∃ _, _) ∨ _) | refine (h1 ?_) | refine za ?_ | refine zl ?_ | fail)
  exact hk
def newVR (c : Ca) (s : Sto) : OR := bif kindsB [2] c.ar then makeR c s { noOb with k := 5, l := lbV (c.ar[0]?.getD noV) } else .ex (-1) c s
theorem newVar179 {K : Out → H → Prop} (c : Ca) (s : Sto) (m : Va) (har : c.ar = [m]) (h : okMk c s { noOb with k := 5, l := lbV m }) (hk : (newVR c s).K K) : Sat Tryz.prog 179 [.p 0 0] (caB c s) K := by
 obtain ⟨im, now, t, tr, o, ar, ma⟩ := c
 subst har
 have h2 := fun {K : Out → H → Prop} => make237 (K := K) ⟨im, now, t, tr, o, [m], ma⟩ s _ h
 unfold newVR at hk
 cases hb : kindsB [2] [m] with
 | true =>
  have h1 := fun {K : Out → H → Prop} => kinds_ok (K := K) ⟨im, now, t, tr, o, [m], ma⟩ s [2] (Nat.le_refl _) hb
  dsimp only at hk
  rw [hb, cond_true] at hk
  replace hk : (makeR ⟨im, now, t, tr, o, [m], ma⟩ s { noOb with k := 5, l := lbV m }).K K := hk
  generalize hR : makeR ⟨im, now, t, tr, o, [m], ma⟩ s { noOb with k := 5, l := lbV m } = R at h2 hk
  cases R with
  | ok e f =>
   cases e
   all_goals
    refine s179 (keep := false) rfl ?_
    repeat' ((conv => whnf); first | exact zf | refine zg ?_ | intro _ | refine And.intro rfl ?_ | refine (.inr ?_ : (∃ _, _) ∨ _) | refine (h1 ?_) | refine (h2 (fun b => ?_)) | refine ⟨_, ⟨by omega, rfl, rfl⟩, ?_⟩ | refine za ?_ | refine zl ?_ | fail)
    exact hk _
  | ex n c' s' =>
   have h3 := fun {K : Out → H → Prop} (g : K (.pan (exV n)) (caB c' s')) => h2 (K := K) g
   refine s179 (keep := false) rfl ?_
   repeat' ((conv => whnf); first | exact zf | refine zg ?_ | intro _ | refine And.intro rfl ?_ | refine (.inr ?_ : (∃ _, _) ∨ _) | refine (h1 ?_) | refine (h3 ?_) | refine ⟨_, ⟨by omega, rfl, rfl⟩, ?_⟩ | refine za ?_ | refine zl ?_ | fail)
   exact hk
 | false =>
  have h1 := fun {K : Out → H → Prop} => kinds_no (K := K) ⟨im, now, t, tr, o, [m], ma⟩ s [2] (Nat.le_refl _) hb
  dsimp only at hk
  rw [hb, cond_false] at hk
  refine s179 (keep := false) rfl ?_
  repeat' ((conv => whnf); first | exact zf | refine zg ?_ | intro _ | refine And.intro rfl ?_ | refine (.inr ?_ : (∃ _, _) ∨ _) | refine (h1 ?_) | refine za ?_ | refine zl ?_ | fail)
  exact hk
def raiseR (c : Ca) (s : Sto) : OR := bif kindsB [2] c.ar then taintR c s (lbV (c.ar[0]?.getD noV)) else .ex (-1) c s
theorem raise172 {K : Out → H → Prop} (c : Ca) (s : Sto) (m : Va) (har : c.ar = [m]) (hs : smG c.t.g) (hl : smL (lbV m)) (hj : smL (joinL c.t.g.cur (lbV m))) (hk : (raiseR c s).K K) : Sat Tryz.prog 172 [.p 0 0] (caB c s) K := by
 obtain ⟨im, now, t, tr, o, ar, ma⟩ := c
 subst har
 have h2 := fun {K : Out → H → Prop} => taint234 (K := K) ⟨im, now, t, tr, o, [m], ma⟩ s (lbV m) hs hl hj
 unfold raiseR at hk
 cases hb : kindsB [2] [m] with
 | true =>
  have h1 := fun {K : Out → H → Prop} => kinds_ok (K := K) ⟨im, now, t, tr, o, [m], ma⟩ s [2] (Nat.le_refl _) hb
  dsimp only at hk
  rw [hb, cond_true] at hk
  replace hk : (taintR ⟨im, now, t, tr, o, [m], ma⟩ s (lbV m)).K K := hk
  generalize hR : taintR ⟨im, now, t, tr, o, [m], ma⟩ s (lbV m) = R at h2 hk
  cases R with
  | ok e f =>
   cases e
   all_goals
    refine s172 (keep := false) rfl ?_
    repeat' ((conv => whnf); first | exact zf | refine zg ?_ | intro _ | refine And.intro rfl ?_ | refine (.inr ?_ : (∃ _, _) ∨ _) | refine (h1 ?_) | refine (h2 (fun b => ?_)) | refine ⟨_, ⟨by omega, rfl, rfl⟩, ?_⟩ | refine za ?_ | refine zl ?_ | fail)
    exact hk _
  | ex n c' s' =>
   have h3 := fun {K : Out → H → Prop} (g : K (.pan (exV n)) (caB c' s')) => h2 (K := K) g
   refine s172 (keep := false) rfl ?_
   repeat' ((conv => whnf); first | exact zf | refine zg ?_ | intro _ | refine And.intro rfl ?_ | refine (.inr ?_ : (∃ _, _) ∨ _) | refine (h1 ?_) | refine (h3 ?_) | refine ⟨_, ⟨by omega, rfl, rfl⟩, ?_⟩ | refine za ?_ | refine zl ?_ | fail)
   exact hk
 | false =>
  have h1 := fun {K : Out → H → Prop} => kinds_no (K := K) ⟨im, now, t, tr, o, [m], ma⟩ s [2] (Nat.le_refl _) hb
  dsimp only at hk
  rw [hb, cond_false] at hk
  refine s172 (keep := false) rfl ?_
  repeat' ((conv => whnf); first | exact zf | refine zg ?_ | intro _ | refine And.intro rfl ?_ | refine (.inr ?_ : (∃ _, _) ∨ _) | refine (h1 ?_) | refine za ?_ | refine zl ?_ | fail)
  exact hk
def outR (c : Ca) (s : Sto) : OR := bif kindsB [0, 2] c.ar then
 (bif writeG c.t.g (lbV (c.ar[1]?.getD noV)) == 0 then .ok (.out ⟨lbV (c.ar[1]?.getD noV), c.ar[0]?.getD noV⟩) fun _ => (c, s) else .ex (writeG c.t.g (lbV (c.ar[1]?.getD noV))) c s) else .ex (-1) c s
theorem out185 {K : Out → H → Prop} (c : Ca) (s : Sto) (a m : Va) (har : c.ar = [a, m]) (hs : smG c.t.g) (hl : smL (lbV m)) (hk : (outR c s).K K) : Sat Tryz.prog 185 [.p 0 0] (caB c s) K := by
 obtain ⟨im, now, t, tr, o, ar, ma⟩ := c
 subst har
 have h2 := write242 t.g (lbV m) hs hl
 unfold outR at hk
 cases hb : kindsB [0, 2] [a, m] with
 | true =>
  have h1 := fun {K : Out → H → Prop} => kinds_ok (K := K) ⟨im, now, t, tr, o, [a, m], ma⟩ s [0, 2] (Nat.le_refl _) hb
  dsimp only at hk
  rw [hb, cond_true] at hk
  by_cases hw : writeG t.g (lbV m) = 0
  ·rw [hw] at h2
   have hwb : (writeG t.g (lbV m) == 0) = true := by simp [hw]
   replace hk : OR.K (bif writeG t.g (lbV m) == 0 then .ok (.out ⟨lbV m, a⟩) fun _ => (⟨im, now, t, tr, o, [a, m], ma⟩, s) else .ex (writeG t.g (lbV m)) ⟨im, now, t, tr, o, [a, m], ma⟩ s) K := hk
   rw [hwb, cond_true] at hk
   refine s185 (keep := false) rfl ?_
   repeat' ((conv => whnf); first | exact zf | refine zg ?_ | intro _ | refine And.intro rfl ?_ | refine (.inr ?_ : (∃ _, _) ∨ _) | refine (h1 ?_) | refine ⟨_, h2, ?_⟩ | refine (h2).use ?_ | refine (may_ok ?_) | refine ⟨_, ⟨by omega, rfl, rfl⟩, ?_⟩ | refine za ?_ | refine zl ?_ | fail)
   exact hk none
  ·have hwb : (writeG t.g (lbV m) == 0) = false := by simp [hw]
   replace hk : OR.K (bif writeG t.g (lbV m) == 0 then .ok (.out ⟨lbV m, a⟩) fun _ => (⟨im, now, t, tr, o, [a, m], ma⟩, s) else .ex (writeG t.g (lbV m)) ⟨im, now, t, tr, o, [a, m], ma⟩ s) K := hk
   rw [hwb, cond_false] at hk
   refine s185 (keep := false) rfl ?_
   repeat' ((conv => whnf); first | exact zf | refine zg ?_ | intro _ | refine And.intro rfl ?_ | refine (.inr ?_ : (∃ _, _) ∨ _) | refine (h1 ?_) | refine ⟨_, h2, ?_⟩ | refine (h2).use ?_ | refine (may_no _ hw ?_) | refine ⟨_, ⟨by omega, rfl, rfl⟩, ?_⟩ | refine za ?_ | refine zl ?_ | fail)
   exact hk
 | false =>
  have h1 := fun {K : Out → H → Prop} => kinds_no (K := K) ⟨im, now, t, tr, o, [a, m], ma⟩ s [0, 2] (Nat.le_refl _) hb
  dsimp only at hk
  rw [hb, cond_false] at hk
  refine s185 (keep := false) rfl ?_
  repeat' ((conv => whnf); first | exact zf | refine zg ?_ | intro _ | refine And.intro rfl ?_ | refine (.inr ?_ : (∃ _, _) ∨ _) | refine (h1 ?_) | refine za ?_ | refine zl ?_ | fail)
  exact hk
def thingT (s : Sto) (h : Va) : Option (Nat × Ob) := match lookT h.nm s.th with
 | some (i, o) => bif (o.k == h.k) && ((o.l.s == h.ls) && (o.l.i == h.li)) then some (i, o) else none
 | none => none
def thingO (s : Sto) (h : Va) : Ob := ((thingT s h).map (·.2)).getD noOb
def smQ (s : Sto) (nm : List UInt8) : Prop := ∀ i o, lookT nm s.th = some (i, o) → o.va.q.length < 100000000
theorem thing243 {K : Out → H → Prop} (c : Ca) (s : Sto) (h : Va) (hqa : smQ s h.nm) (hk : K (.ret (.tu [agOb (thingO s h), .d (.bool (thingT s h).isSome)])) (caB c s)) : Sat Tryz.prog 243 [.p 0 0, agV h] (caB c s) K := by
 have hq : (getO s h.nm).va.q.length < 100000000 := by
  unfold getO
  cases hlk : lookT h.nm s.th with
  | none => simp [noOb, noVr]
  | some p => exact hqa p.1 p.2 hlk
 have hg := get16 (K := fun out hh => out = .ret (.tu [agOb (getO s h.nm), .d (.bool (hasO s h.nm))]) ∧ hh = stB s) s h.nm hq ⟨rfl, rfl⟩
 unfold getO hasO at hg
 unfold thingO thingT at hk
 cases hlk : lookT h.nm s.th with
 | none =>
  rw [hlk] at hg hk
  refine s243 (keep := false) rfl ?_
  repeat' ((conv => whnf); first | exact zf | refine zg ?_ | intro _ | refine And.intro rfl ?_ | refine (cfo_new (cfo_old ?_) : cfo _ (cfo (rqc _ _ _ _ 16 _ _ _ _ _ _ _) _)) | refine ⟨_, _, hg, ?_⟩ | refine za ?_ | refine zl ?_ | refine zt ?_ | refine zu ?_ | fail)
  exact hk
 | some p =>
  obtain ⟨i, o⟩ := p
  rw [hlk] at hg hk
  dsimp only [Option.map, Option.getD, Option.isSome] at hg
  dsimp only at hk
  cases hkk : o.k == h.k with
  | false =>
   rw [hkk] at hk
   refine s243 (keep := false) rfl ?_
   repeat' ((conv => whnf); first | exact zf | refine zg ?_ | intro _ | refine And.intro rfl ?_ | refine (cfo_new (cfo_old ?_) : cfo _ (cfo (rqc _ _ _ _ 16 _ _ _ _ _ _ _) _)) | refine ⟨_, _, hg, ?_⟩ | refine za ?_ | refine zl ?_ | refine zt ?_ | refine zu ?_ | fail)
   exact hk
  | true =>
   cases hll : (o.l.s == h.ls) && (o.l.i == h.li) with
   | false =>
    rw [hkk, hll] at hk
    have e2 : (!(o.l.s == h.ls && (o.l.i == h.li && true))) = true := by rw [Bool.and_true, hll]; rfl
    refine s243 (keep := false) rfl ?_
    repeat' ((conv => whnf); first | exact zf | refine zg ?_ | intro _ | refine And.intro rfl ?_ | refine (cfo_new (cfo_old ?_) : cfo _ (cfo (rqc _ _ _ _ 16 _ _ _ _ _ _ _) _)) | refine ⟨_, _, hg, ?_⟩ | refine (sp_t e2 ?_) | refine za ?_ | refine zl ?_ | refine zt ?_ | refine zu ?_ | fail)
    exact hk
   | true =>
    rw [hkk, hll] at hk
    have e2 : (!(o.l.s == h.ls && (o.l.i == h.li && true))) = false := by rw [Bool.and_true, hll]; rfl
    refine s243 (keep := false) rfl ?_
    repeat' ((conv => whnf); first | exact zf | refine zg ?_ | intro _ | refine And.intro rfl ?_ | refine (cfo_new (cfo_old ?_) : cfo _ (cfo (rqc _ _ _ _ 16 _ _ _ _ _ _ _) _)) | refine ⟨_, _, hg, ?_⟩ | refine (sp_f e2 ?_) | refine za ?_ | refine zl ?_ | refine zt ?_ | refine zu ?_ | fail)
    exact hk
def tellR (c : Ca) (s : Sto) (o : Ob) : OR := bif o.ex then .ex o.v.n c s else .ok .no fun _ => ({ c with t := { c.t with c := pushC c.t.c o.v } }, s)
theorem tell239 {K : Out → H → Prop} (c : Ca) (s : Sto) (o : Ob) (hl : c.t.c.st.length < 1000000000) (hk : (tellR c s o).K K) : Sat Tryz.prog 239 [.p 0 0, agOb o] (caB c s) K := by
 obtain ⟨ok, ol, ov, oe, od, oq, of, om⟩ := o
 unfold tellR at hk
 cases oe with
 | true =>
  replace hk : K (.pan (exV ov.n)) (caB c s) := hk
  refine s239 (keep := false) rfl ?_
  repeat' ((conv => whnf); first | exact zf | refine zg ?_ | intro _ | refine And.intro rfl ?_ | refine (except249 _ ?_) | refine za ?_ | refine zl ?_ | fail)
  exact hk
 | false =>
  replace hk : K (.ret (.tu [])) (caB { c with t := { c.t with c := pushC c.t.c ov } } s) := hk none
  have h1 := fun {K : Out → H → Prop} => push241 (K := K) c s ov hl
  refine s239 (keep := false) rfl ?_
  repeat' ((conv => whnf); first | exact zf | refine zg ?_ | intro _ | refine And.intro rfl ?_ | refine (.inr ?_ : (∃ _, _) ∨ _) | refine (h1 ?_) | refine za ?_ | refine zl ?_ | fail)
  exact hk
def readR (c : Ca) (s : Sto) (h : Va) (go : Ca → Sto → Ob → OR) : OR :=
 bif taintE c.t.g (lbV h) == 0 then (match thingT s h with
  | some (_, o) => go { c with t := { c.t with g := taintG c.t.g (lbV h) } } s o
  | none => .ok .no fun _ => ({ c with t := { c.t with g := taintG c.t.g (lbV h), c := pushC c.t.c (num 0) } }, s)) else .ex (taintE c.t.g (lbV h)) c s
theorem read238t {K : Out → H → Prop} (c : Ca) (s : Sto) (h : Va) (hl : c.t.c.st.length < 1000000000) (hs : smG c.t.g) (hlh : smL (lbV h)) (hj : smL (joinL c.t.g.cur (lbV h))) (hqa : smQ s h.nm) (hk : (readR c s h tellR).K K) : Sat Tryz.prog 238 [.p 0 0, agV h, .fc 1000239 [.p 0 0]] (caB c s) K := by
 unfold readR at hk
 by_cases he : taintE c.t.g (lbV h) = 0
 ·have h1 := fun {K : Out → H → Prop} => taint_ok (K := K) c s (lbV h) hs hlh hj he
  have h2 := fun {K : Out → H → Prop} => thing243 (K := K) { c with t := { c.t with g := taintG c.t.g (lbV h) } } s h hqa
  rw [he] at hk
  unfold thingO at h2
  cases ht : thingT s h with
  | none =>
   rw [ht] at h2 hk
   replace hk : K (.ret (.tu [])) (caB { c with t := { c.t with g := taintG c.t.g (lbV h), c := pushC c.t.c (num 0) } } s) := hk none
   have h3 := fun {K : Out → H → Prop} => push241 (K := K) { c with t := { c.t with g := taintG c.t.g (lbV h) } } s (num 0) hl
   refine s238 (keep := false) rfl ?_
   repeat' ((conv => whnf); first | exact zf | refine zg ?_ | intro _ | refine And.intro rfl ?_ | refine (.inr ?_ : (∃ _, _) ∨ _) | refine (h1 ?_) | refine (h2 ?_) | refine (h3 ?_) | refine za ?_ | refine zl ?_ | fail)
   exact hk
  | some p =>
   obtain ⟨i, o⟩ := p
   rw [ht] at h2 hk
   replace hk : (tellR { c with t := { c.t with g := taintG c.t.g (lbV h) } } s o).K K := hk
   have h3 := fun {K : Out → H → Prop} => tell239 (K := K) { c with t := { c.t with g := taintG c.t.g (lbV h) } } s o hl
   generalize hR : tellR { c with t := { c.t with g := taintG c.t.g (lbV h) } } s o = R at h3 hk
   cases R with
   | ok e f =>
    cases e
    all_goals
     refine s238 (keep := false) rfl ?_
     repeat' ((conv => whnf); first | exact zf | refine zg ?_ | intro _ | refine And.intro rfl ?_ | refine (.inr ?_ : (∃ _, _) ∨ _) | refine (h1 ?_) | refine (h2 ?_) | refine (h3 (fun b => ?_)) | refine za ?_ | refine zl ?_ | fail)
     exact hk _
   | ex n c' s' =>
    have h4 := fun {K : Out → H → Prop} (g : K (.pan (exV n)) (caB c' s')) => h3 (K := K) g
    refine s238 (keep := false) rfl ?_
    repeat' ((conv => whnf); first | exact zf | refine zg ?_ | intro _ | refine And.intro rfl ?_ | refine (.inr ?_ : (∃ _, _) ∨ _) | refine (h1 ?_) | refine (h2 ?_) | refine (h4 ?_) | refine za ?_ | refine zl ?_ | fail)
    exact hk
 ·have hb : (taintE c.t.g (lbV h) == 0) = false := by simp [he]
  rw [hb] at hk
  have h1 := fun {K : Out → H → Prop} => taint_no (K := K) c s (lbV h) hs hlh hj he
  refine s238 (keep := false) rfl ?_
  repeat' ((conv => whnf); first | exact zf | refine zg ?_ | intro _ | refine And.intro rfl ?_ | refine (.inr ?_ : (∃ _, _) ∨ _) | refine (h1 ?_) | refine za ?_ | refine zl ?_ | fail)
  exact hk
def openR (c : Ca) (s : Sto) : OR := bif kindsB [3] c.ar then readR c s (c.ar[0]?.getD noV) tellR else .ex (-1) c s
theorem open175 {K : Out → H → Prop} (c : Ca) (s : Sto) (h : Va) (har : c.ar = [h]) (hl : c.t.c.st.length < 1000000000) (hs : smG c.t.g) (hlh : smL (lbV h)) (hj : smL (joinL c.t.g.cur (lbV h))) (hqa : smQ s h.nm) (hk : (openR c s).K K) : Sat Tryz.prog 175 [.p 0 0] (caB c s) K := by
 obtain ⟨im, now, t, tr, o, ar, ma⟩ := c
 subst har
 have h2 := fun {K : Out → H → Prop} => read238t (K := K) ⟨im, now, t, tr, o, [h], ma⟩ s h hl hs hlh hj hqa
 unfold openR at hk
 cases hb : kindsB [3] [h] with
 | true =>
  have h1 := fun {K : Out → H → Prop} => kinds_ok (K := K) ⟨im, now, t, tr, o, [h], ma⟩ s [3] (Nat.le_refl _) hb
  dsimp only at hk
  rw [hb, cond_true] at hk
  replace hk : (readR ⟨im, now, t, tr, o, [h], ma⟩ s h tellR).K K := hk
  generalize hR : readR ⟨im, now, t, tr, o, [h], ma⟩ s h tellR = R at h2 hk
  cases R with
  | ok e f =>
   cases e
   all_goals
    refine s175 (keep := false) rfl ?_
    repeat' ((conv => whnf); first | exact zf | refine zg ?_ | intro _ | refine And.intro rfl ?_ | refine (.inr ?_ : (∃ _, _) ∨ _) | refine (h1 ?_) | refine (h2 (fun b => ?_)) | refine ⟨_, ⟨by omega, rfl, rfl⟩, ?_⟩ | refine za ?_ | refine zl ?_ | fail)
    exact hk _
  | ex n c' s' =>
   have h3 := fun {K : Out → H → Prop} (g : K (.pan (exV n)) (caB c' s')) => h2 (K := K) g
   refine s175 (keep := false) rfl ?_
   repeat' ((conv => whnf); first | exact zf | refine zg ?_ | intro _ | refine And.intro rfl ?_ | refine (.inr ?_ : (∃ _, _) ∨ _) | refine (h1 ?_) | refine (h3 ?_) | refine ⟨_, ⟨by omega, rfl, rfl⟩, ?_⟩ | refine za ?_ | refine zl ?_ | fail)
   exact hk
 | false =>
  have h1 := fun {K : Out → H → Prop} => kinds_no (K := K) ⟨im, now, t, tr, o, [h], ma⟩ s [3] (Nat.le_refl _) hb
  dsimp only at hk
  rw [hb, cond_false] at hk
  refine s175 (keep := false) rfl ?_
  repeat' ((conv => whnf); first | exact zf | refine zg ?_ | intro _ | refine And.intro rfl ?_ | refine (.inr ?_ : (∃ _, _) ∨ _) | refine (h1 ?_) | refine za ?_ | refine zl ?_ | fail)
  exact hk
end Go.Proofs.YtjpgfgajkjhonaaGreatDoor
