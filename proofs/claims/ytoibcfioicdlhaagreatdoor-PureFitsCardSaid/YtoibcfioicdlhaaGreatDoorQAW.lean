/- One step: its parts. Conditions: lists are not too long; numbers are in range. -/
import Derived.Test.YtoibcfioicdlhaaGreatDoorQAV
import Derived.KernelRfl
namespace Go.Proofs.YtoibcfioicdlhaaGreatDoor
open Go.Vx
set_option maxRecDepth 100000
def mkM (im : Im) (c : Co) (o : Op) (fr tr : Int) : Mh := ⟨im, c, o, max fr 0, max tr 0⟩
theorem fitR_some {im : Im} {c : Co} {o : Op} (h : fit im c = some o) : fitR im c = .tu [agO o, .d (.bool true)] := by simp only [fitR, h]
theorem fitR_none {im : Im} {c : Co} (h : fit im c = none) : fitR im c = .tu [agO o0, .d (.bool false)] := by simp only [fitR, h]
theorem stepN (im : Im) (c : Co) (fr tr : Int) (hI : okI im) (hs : c.st.length < 1000000000) (h : fit im c = none) :
    SatP Tryz.prog 13 [agI im, agC c, .d (.int .i64 fr), .d (.int .i64 tr)] (.tu [agC c, agOu (failed (-6))]) := by
  have hf := fit21 im c hI hs
  rw [fitR_none h] at hf
  refine s13 (keep := false) rfl ?_
  repeat' ((conv => whnf); first | exact zf | refine zg ?_ | intro _ | refine And.intro rfl ?_ | refine ⟨_, hf, ?_⟩ | refine (hf).use ?_ | refine ⟨_, whole25 (-6), ?_⟩ | refine (whole25 (-6)).use ?_ | refine za ?_ | refine zl ?_ | fail)
set_option maxRecDepth 100000 in
set_option maxHeartbeats 4000000 in
theorem stepQ (im : Im) (c : Co) (fr tr : Int) (o : Op) (hI : okI im) (hs : c.st.length < 1000000000) (h : fit im c = some o) (hq : ∀ id, fnd [0, 3] [.d (.int .i64 o.c)] (tbl id) 0 = some none) :
    SatP Tryz.prog 13 [agI im, agC c, .d (.int .i64 fr), .d (.int .i64 tr)] (.tu [agC c, agOu ⟨3, zeroV, o⟩]) := by
  have hf := fit21 im c hI hs
  rw [fitR_some h] at hf
  refine s13 (keep := false) rfl ?_
  repeat' ((conv => whnf); first | exact zf | refine zg ?_ | intro _ | refine And.intro rfl ?_ | refine ⟨_, hf, ?_⟩ | refine (hf).use ?_ | refine fro_more 1 ?_ | refine (cfo_new ?_ : cfo _ (rqc _ _ _ _ 26 _ _ _ _ _ _ _)) | refine ⟨_, _, table26 (mkM im c o fr tr) (And.intro rfl rfl), ?_⟩ | refine za ?_ | refine zl ?_ | fail)
  refine ⟨_, hq 5, ?_⟩
  repeat' ((conv => whnf); first | exact zf | refine zg ?_ | intro _ | refine And.intro rfl ?_ | refine za ?_ | refine zl ?_ | fail)
set_option maxRecDepth 100000 in
set_option maxHeartbeats 4000000 in
theorem stepS1 (im : Im) (c : Co) (fr tr : Int) (o : Op) (f : Fr) (F i : Nat) (hI : okI im) (hs : c.st.length < 1000000000) (h : fit im c = some o) (hr : Rdy (mkM im c o fr tr) f)
    (hq : ∀ id, fnd [0, 3] [.d (.int .i64 o.c)] (tbl id) 0 = some (some (i, .fc F [.p id 0]))) (hF1 : Nat.blt F 1000000 = false) (hF2 : Nat.blt F 2000000 = true) (frs' : List Fr) (st' : List Va) (ts' : List Tr)
    (hM : ∀ K : Out → H → Prop, K (.ret (.tu [])) [.cells (mcs (mkM im c o fr tr) (.d (.sl 5 (frs'.map encF))) st' ts' (tkd (tkn (mkM im c o fr tr))) went false 0), .no] → Sat Tryz.prog (F - 1000000) [.p 0 0] [.cells (mcs (mkM im c o fr tr) (.os 1) (lft (mkM im c o fr tr)) c.tr (tkd (tkn (mkM im c o fr tr))) went false 0), .rows 5 ((nxt c.fr f).map encF)] K) :
    SatP Tryz.prog 13 [agI im, agC c, .d (.int .i64 fr), .d (.int .i64 tr)] (.tu [agC ⟨frs', st', ts'⟩, agOu went]) := by
  have hf := fit21 im c hI hs
  rw [fitR_some h] at hf
  refine s13 (keep := false) rfl ?_
  repeat' ((conv => whnf); first | exact zf | refine zg ?_ | intro _ | refine And.intro rfl ?_ | refine ⟨_, hf, ?_⟩ | refine (hf).use ?_ | refine fro_more 1 ?_ | refine (cfo_new ?_ : cfo _ (rqc _ _ _ _ 26 _ _ _ _ _ _ _)) | refine ⟨_, _, table26 (mkM im c o fr tr) (And.intro rfl rfl), ?_⟩ | refine za ?_ | refine zl ?_ | fail)
  refine ⟨_, hq 5, ?_⟩
  repeat' ((conv => whnf); first | exact zf | refine zg ?_ | intro _ | refine And.intro rfl ?_ | refine (.inr ?_ : (∃ _, _) ∨ _) | refine begin27 (mkM im c o fr tr) f hr ?_ | refine za ?_ | refine zl ?_ | fail)
  conv => whnf
  rw [hF1]
  conv => whnf
  rw [hF2]
  repeat' ((conv => whnf); first | exact zf | refine zg ?_ | intro _ | refine And.intro rfl ?_ | refine (.inr ?_ : (∃ _, _) ∨ _) | refine hM _ ?_ | refine ⟨_, fit21 im c hI hs, ?_⟩ | refine (fit21 im c hI hs).use ?_ | refine za ?_ | refine zl ?_ | fail)
set_option maxRecDepth 100000 in
set_option maxHeartbeats 4000000 in
theorem stepS2 (im : Im) (c : Co) (fr tr : Int) (o : Op) (f : Fr) (F i : Nat) (hI : okI im) (hs : c.st.length < 1000000000) (h : fit im c = some o) (hr : Rdy (mkM im c o fr tr) f)
    (hq : ∀ id, fnd [0, 3] [.d (.int .i64 o.c)] (tbl id) 0 = some (some (i, .fc F [.p id 0]))) (hF1 : Nat.blt F 1000000 = false) (hF2 : Nat.blt F 2000000 = true) (frs' : List Fr) (st' : List Va) (ts' : List Tr)
    (hM : ∀ K : Out → H → Prop, K (.ret (.tu [])) [.cells (mcs (mkM im c o fr tr) (.os 1) st' ts' (tkd (tkn (mkM im c o fr tr))) went false 0), .rows 5 (frs'.map encF)] → Sat Tryz.prog (F - 1000000) [.p 0 0] [.cells (mcs (mkM im c o fr tr) (.os 1) (lft (mkM im c o fr tr)) c.tr (tkd (tkn (mkM im c o fr tr))) went false 0), .rows 5 ((nxt c.fr f).map encF)] K) :
    SatP Tryz.prog 13 [agI im, agC c, .d (.int .i64 fr), .d (.int .i64 tr)] (.tu [agC ⟨frs', st', ts'⟩, agOu went]) := by
  have hf := fit21 im c hI hs
  rw [fitR_some h] at hf
  refine s13 (keep := false) rfl ?_
  repeat' ((conv => whnf); first | exact zf | refine zg ?_ | intro _ | refine And.intro rfl ?_ | refine ⟨_, hf, ?_⟩ | refine (hf).use ?_ | refine fro_more 1 ?_ | refine (cfo_new ?_ : cfo _ (rqc _ _ _ _ 26 _ _ _ _ _ _ _)) | refine ⟨_, _, table26 (mkM im c o fr tr) (And.intro rfl rfl), ?_⟩ | refine za ?_ | refine zl ?_ | fail)
  refine ⟨_, hq 5, ?_⟩
  repeat' ((conv => whnf); first | exact zf | refine zg ?_ | intro _ | refine And.intro rfl ?_ | refine (.inr ?_ : (∃ _, _) ∨ _) | refine begin27 (mkM im c o fr tr) f hr ?_ | refine za ?_ | refine zl ?_ | fail)
  conv => whnf
  rw [hF1]
  conv => whnf
  rw [hF2]
  repeat' ((conv => whnf); first | exact zf | refine zg ?_ | intro _ | refine And.intro rfl ?_ | refine (.inr ?_ : (∃ _, _) ∨ _) | refine hM _ ?_ | refine ⟨_, fit21 im c hI hs, ?_⟩ | refine (fit21 im c hI hs).use ?_ | refine za ?_ | refine zl ?_ | fail)
set_option maxRecDepth 100000 in
set_option maxHeartbeats 4000000 in
theorem stepS3 (im : Im) (c : Co) (fr tr : Int) (o : Op) (f : Fr) (F i : Nat) (hI : okI im) (hs : c.st.length < 1000000000) (h : fit im c = some o) (hr : Rdy (mkM im c o fr tr) f)
    (hq : ∀ id, fnd [0, 3] [.d (.int .i64 o.c)] (tbl id) 0 = some (some (i, .fc F [.p id 0]))) (hF1 : Nat.blt F 1000000 = false) (hF2 : Nat.blt F 2000000 = true) (frs' : List Fr) (st' : List Va) (ts' : List Tr) (cd : Int) (hf9 : c.fr.length < 1000000000)
    (hM : ∀ K : Out → H → Prop, K (.ret (.tu [])) [.cells (mcs (mkM im c o fr tr) (.os 1) st' ts' (tkd (tkn (mkM im c o fr tr))) went true cd), .rows 5 (frs'.map encF)] → Sat Tryz.prog (F - 1000000) [.p 0 0] [.cells (mcs (mkM im c o fr tr) (.os 1) (lft (mkM im c o fr tr)) c.tr (tkd (tkn (mkM im c o fr tr))) went false 0), .rows 5 ((nxt c.fr f).map encF)] K) :
    SatP Tryz.prog 13 [agI im, agC c, .d (.int .i64 fr), .d (.int .i64 tr)] (.tu [agC (raise c cd (max tr 0)).1, agOu (raise c cd (max tr 0)).2]) := by
  have hf := fit21 im c hI hs
  rw [fitR_some h] at hf
  refine s13 (keep := false) rfl ?_
  repeat' ((conv => whnf); first | exact zf | refine zg ?_ | intro _ | refine And.intro rfl ?_ | refine ⟨_, hf, ?_⟩ | refine (hf).use ?_ | refine fro_more 1 ?_ | refine (cfo_new ?_ : cfo _ (rqc _ _ _ _ 26 _ _ _ _ _ _ _)) | refine ⟨_, _, table26 (mkM im c o fr tr) (And.intro rfl rfl), ?_⟩ | refine za ?_ | refine zl ?_ | fail)
  refine ⟨_, hq 5, ?_⟩
  repeat' ((conv => whnf); first | exact zf | refine zg ?_ | intro _ | refine And.intro rfl ?_ | refine (.inr ?_ : (∃ _, _) ∨ _) | refine begin27 (mkM im c o fr tr) f hr ?_ | refine za ?_ | refine zl ?_ | fail)
  conv => whnf
  rw [hF1]
  conv => whnf
  rw [hF2]
  repeat' ((conv => whnf); first | exact zf | refine zg ?_ | intro _ | refine And.intro rfl ?_ | refine (.inr ?_ : (∃ _, _) ∨ _) | refine hM _ ?_ | refine ⟨_, raise28 c cd (max tr 0) hf9 hs, ?_⟩ | refine (raise28 c cd (max tr 0) hf9 hs).use ?_ | refine za ?_ | refine zl ?_ | fail)
set_option maxRecDepth 100000 in
set_option maxHeartbeats 4000000 in
theorem stepS4 (im : Im) (c : Co) (fr tr : Int) (o : Op) (f : Fr) (F i : Nat) (hI : okI im) (hs : c.st.length < 1000000000) (h : fit im c = some o) (hr : Rdy (mkM im c o fr tr) f)
    (hq : ∀ id, fnd [0, 3] [.d (.int .i64 o.c)] (tbl id) 0 = some (some (i, .fc F [.p id 0]))) (hF1 : Nat.blt F 1000000 = false) (hF2 : Nat.blt F 2000000 = true) (frs' : List Fr) (st' : List Va) (ts' : List Tr)
    (hM : ∀ K : Out → H → Prop, K (.ret (.tu [])) [.cells (mcs2 (mkM im c o fr tr) (.os 1) st' (.cl 3 (ts'.map encT)) (tkd (tkn (mkM im c o fr tr))) went false 0), .rows 5 (frs'.map encF)] → Sat Tryz.prog (F - 1000000) [.p 0 0] [.cells (mcs (mkM im c o fr tr) (.os 1) (lft (mkM im c o fr tr)) c.tr (tkd (tkn (mkM im c o fr tr))) went false 0), .rows 5 ((nxt c.fr f).map encF)] K) :
    SatP Tryz.prog 13 [agI im, agC c, .d (.int .i64 fr), .d (.int .i64 tr)] (.tu [agC ⟨frs', st', ts'⟩, agOu went]) := by
  have hf := fit21 im c hI hs
  rw [fitR_some h] at hf
  refine s13 (keep := false) rfl ?_
  repeat' ((conv => whnf); first | exact zf | refine zg ?_ | intro _ | refine And.intro rfl ?_ | refine ⟨_, hf, ?_⟩ | refine (hf).use ?_ | refine fro_more 1 ?_ | refine (cfo_new ?_ : cfo _ (rqc _ _ _ _ 26 _ _ _ _ _ _ _)) | refine ⟨_, _, table26 (mkM im c o fr tr) (And.intro rfl rfl), ?_⟩ | refine za ?_ | refine zl ?_ | fail)
  refine ⟨_, hq 5, ?_⟩
  repeat' ((conv => whnf); first | exact zf | refine zg ?_ | intro _ | refine And.intro rfl ?_ | refine (.inr ?_ : (∃ _, _) ∨ _) | refine begin27 (mkM im c o fr tr) f hr ?_ | refine za ?_ | refine zl ?_ | fail)
  conv => whnf
  rw [hF1]
  conv => whnf
  rw [hF2]
  repeat' ((conv => whnf); first | exact zf | refine zg ?_ | intro _ | refine And.intro rfl ?_ | refine (.inr ?_ : (∃ _, _) ∨ _) | refine hM _ ?_ | refine ⟨_, fit21 im c hI hs, ?_⟩ | refine (fit21 im c hI hs).use ?_ | refine za ?_ | refine zl ?_ | fail)
set_option maxRecDepth 100000 in
set_option maxHeartbeats 4000000 in
theorem stepS5 (im : Im) (c : Co) (fr tr : Int) (o : Op) (f : Fr) (F i : Nat) (hI : okI im) (hs : c.st.length < 1000000000) (h : fit im c = some o) (hr : Rdy (mkM im c o fr tr) f)
    (hq : ∀ id, fnd [0, 3] [.d (.int .i64 o.c)] (tbl id) 0 = some (some (i, .fc F [.p id 0]))) (hF1 : Nat.blt F 1000000 = false) (hF2 : Nat.blt F 2000000 = true) (frs' frs2 : List Fr) (st' : List Va) (ts' : List Tr) (u : Ou)
    (hM : ∀ K : Out → H → Prop, K (.ret (.tu [])) [.cells (mcs (mkM im c o fr tr) (.d (.sl 5 (frs'.map encF))) st' ts' (tkd (tkn (mkM im c o fr tr))) u false 0), .rows 5 (frs2.map encF)] → Sat Tryz.prog (F - 1000000) [.p 0 0] [.cells (mcs (mkM im c o fr tr) (.os 1) (lft (mkM im c o fr tr)) c.tr (tkd (tkn (mkM im c o fr tr))) went false 0), .rows 5 ((nxt c.fr f).map encF)] K) :
    SatP Tryz.prog 13 [agI im, agC c, .d (.int .i64 fr), .d (.int .i64 tr)] (.tu [agC ⟨frs', st', ts'⟩, agOu u]) := by
  have hf := fit21 im c hI hs
  rw [fitR_some h] at hf
  refine s13 (keep := false) rfl ?_
  repeat' ((conv => whnf); first | exact zf | refine zg ?_ | intro _ | refine And.intro rfl ?_ | refine ⟨_, hf, ?_⟩ | refine (hf).use ?_ | refine fro_more 1 ?_ | refine (cfo_new ?_ : cfo _ (rqc _ _ _ _ 26 _ _ _ _ _ _ _)) | refine ⟨_, _, table26 (mkM im c o fr tr) (And.intro rfl rfl), ?_⟩ | refine za ?_ | refine zl ?_ | fail)
  refine ⟨_, hq 5, ?_⟩
  repeat' ((conv => whnf); first | exact zf | refine zg ?_ | intro _ | refine And.intro rfl ?_ | refine (.inr ?_ : (∃ _, _) ∨ _) | refine begin27 (mkM im c o fr tr) f hr ?_ | refine za ?_ | refine zl ?_ | fail)
  conv => whnf
  rw [hF1]
  conv => whnf
  rw [hF2]
  repeat' ((conv => whnf); first | exact zf | refine zg ?_ | intro _ | refine And.intro rfl ?_ | refine (.inr ?_ : (∃ _, _) ∨ _) | refine hM _ ?_ | refine ⟨_, fit21 im c hI hs, ?_⟩ | refine (fit21 im c hI hs).use ?_ | refine za ?_ | refine zl ?_ | fail)
set_option maxRecDepth 100000 in
set_option maxHeartbeats 4000000 in
theorem stepS6 (im : Im) (c : Co) (fr tr : Int) (o : Op) (f : Fr) (F i : Nat) (hI : okI im) (hs : c.st.length < 1000000000) (h : fit im c = some o) (hr : Rdy (mkM im c o fr tr) f)
    (hq : ∀ id, fnd [0, 3] [.d (.int .i64 o.c)] (tbl id) 0 = some (some (i, .fc F [.p id 0]))) (hF1 : Nat.blt F 1000000 = false) (hF2 : Nat.blt F 2000000 = true) (frs' : List Fr) (st' : List Va) (ts' : List Tr) (cd : Int) (hf9 : c.fr.length < 1000000000)
    (hM : ∀ K : Out → H → Prop, K (.ret (.tu [])) [.cells (mcs (mkM im c o fr tr) (.d (.sl 5 (frs'.map encF))) st' ts' (tkd (tkn (mkM im c o fr tr))) went true cd), .no] → Sat Tryz.prog (F - 1000000) [.p 0 0] [.cells (mcs (mkM im c o fr tr) (.os 1) (lft (mkM im c o fr tr)) c.tr (tkd (tkn (mkM im c o fr tr))) went false 0), .rows 5 ((nxt c.fr f).map encF)] K) :
    SatP Tryz.prog 13 [agI im, agC c, .d (.int .i64 fr), .d (.int .i64 tr)] (.tu [agC (raise c cd (max tr 0)).1, agOu (raise c cd (max tr 0)).2]) := by
  have hf := fit21 im c hI hs
  rw [fitR_some h] at hf
  refine s13 (keep := false) rfl ?_
  repeat' ((conv => whnf); first | exact zf | refine zg ?_ | intro _ | refine And.intro rfl ?_ | refine ⟨_, hf, ?_⟩ | refine (hf).use ?_ | refine fro_more 1 ?_ | refine (cfo_new ?_ : cfo _ (rqc _ _ _ _ 26 _ _ _ _ _ _ _)) | refine ⟨_, _, table26 (mkM im c o fr tr) (And.intro rfl rfl), ?_⟩ | refine za ?_ | refine zl ?_ | fail)
  refine ⟨_, hq 5, ?_⟩
  repeat' ((conv => whnf); first | exact zf | refine zg ?_ | intro _ | refine And.intro rfl ?_ | refine (.inr ?_ : (∃ _, _) ∨ _) | refine begin27 (mkM im c o fr tr) f hr ?_ | refine za ?_ | refine zl ?_ | fail)
  conv => whnf
  rw [hF1]
  conv => whnf
  rw [hF2]
  repeat' ((conv => whnf); first | exact zf | refine zg ?_ | intro _ | refine And.intro rfl ?_ | refine (.inr ?_ : (∃ _, _) ∨ _) | refine hM _ ?_ | refine ⟨_, raise28 c cd (max tr 0) hf9 hs, ?_⟩ | refine (raise28 c cd (max tr 0) hf9 hs).use ?_ | refine za ?_ | refine zl ?_ | fail)
end Go.Proofs.YtoibcfioicdlhaaGreatDoor
namespace Go.Proofs.YtoibcfioicdlhaaGreatDoor
open Go.Vx
theorem fit_some {im : Im} {c : Co} {o : Op} (h : fit im c = some o) : ∃ f fn, c.fr.getLast? = some f ∧ within f.fu im.fs.length = true ∧ im.fs[f.fu.toNat]? = some fn ∧ within f.pc fn.code.length = true ∧ fn.code[f.pc.toNat]? = some o ∧
    rightB o = true ∧ operandB im f fn o = true ∧ popOk c (takes im o) = true := by
  unfold fit at h
  split at h
  · cases h
  · rename_i f hl
    cases h1 : within f.fu im.fs.length <;> rw [h1] at h <;> simp only [cond_true, cond_false] at h
    · cases h
    split at h
    · cases h
    · rename_i fn hfn
      cases h2 : within f.pc fn.code.length <;> rw [h2] at h <;> simp only [cond_true, cond_false] at h
      · cases h
      split at h
      · cases h
      · rename_i o' ho
        cases h3 : rightB o' && (operandB im f fn o' && popOk c (takes im o')) <;> rw [h3] at h <;> simp only [cond_true, cond_false] at h
        · cases h
        · cases h
          simp only [Bool.and_eq_true] at h3
          exact ⟨f, fn, hl, h1, hfn, h2, ho, h3.1, h3.2.1, h3.2.2⟩
theorem popL_len {c : Co} {n : Int} (h : popOk c n = true) : (popL c n).length = n.toNat ∧ (popC c n).st.length + n.toNat = c.st.length := by
  simp [popOk] at h
  simp [popL, popC, cutn]
  omega
structure Cx (im : Im) (c : Co) (fr tr : Int) (o : Op) (f : Fr) (fn : Fn) : Prop where
  hI : okI im
  h : fit im c = some o
  hl : c.fr.getLast? = some f
  w1 : 0 ≤ f.pc ∧ f.pc < 1000000000
  op : operandB im f fn o = true
  po : popOk c (takes im o) = true
  lf : c.fr.length < 900000000
  ls : c.st.length < 800000000
  lt : c.tr.length < 900000000
namespace Cx
variable {im : Im} {c : Co} {fr tr : Int} {o : Op} {f : Fr} {fn : Fn}
theorem call (x : Cx im c fr tr o f fn) (hc : o.c = 17) : ∃ g, 0 ≤ o.a ∧ im.fs[o.a.toNat]? = some g ∧ inR .i64 g.args := by
  obtain ⟨k1, k2⟩ := within_iff.1 (operand_call hc x.op)
  obtain ⟨g, hg⟩ : ∃ g, im.fs[o.a.toNat]? = some g := ⟨_, List.getElem?_eq_getElem (by omega)⟩
  exact ⟨g, k1, hg, x.hI.args _ _ hg⟩
theorem rdy (x : Cx im c fr tr o f fn) : Rdy (mkM im c o fr tr) f :=
  ⟨x.hl, by have := x.lf; show c.fr.length < _; omega, by have := x.ls; show c.st.length < _; omega, by have := x.w1; omega, x.po, x.call⟩
theorem hs (x : Cx im c fr tr o f fn) : c.st.length < 1000000000 := by have := x.ls; omega
theorem pos (x : Cx im c fr tr o f fn) : 0 < c.fr.length := by
  cases h : c.fr with
  | nil => have := x.hl; rw [h] at this; cases this
  | cons => simp
theorem last (x : Cx im c fr tr o f fn) : (nxt c.fr f)[(nxt c.fr f).length - 1]? = some { f with pc := f.pc + 1 } := by
  have := x.pos
  rw [nxt, List.length_set, List.getElem?_set_self (by omega)]
theorem nlen (x : Cx im c fr tr o f fn) : 0 < (nxt c.fr f).length ∧ (nxt c.fr f).length < 1000000000 := by
  have := x.pos; have := x.lf
  rw [nxt, List.length_set]; omega
theorem tl (x : Cx im c fr tr o f fn) : (tkn (mkM im c o fr tr)).length = (takes im o).toNat ∧ (lft (mkM im c o fr tr)).length + (takes im o).toNat = c.st.length := popL_len x.po
theorem sl (x : Cx im c fr tr o f fn) : (lft (mkM im c o fr tr)).length < 800000000 := by have := x.tl; have := x.ls; omega
theorem tk1 (x : Cx im c fr tr o f fn) (h : takes im o = 1) : ∃ a, tkn (mkM im c o fr tr) = [a] := by
  have := x.tl.1
  rw [h] at this
  match hh : tkn (mkM im c o fr tr), this with
  | [a], _ => exact ⟨a, rfl⟩
theorem tk2 (x : Cx im c fr tr o f fn) (h : takes im o = 2) : ∃ a b, tkn (mkM im c o fr tr) = [a, b] := by
  have := x.tl.1
  rw [h] at this
  match hh : tkn (mkM im c o fr tr), this with
  | [a, b], _ => exact ⟨a, b, rfl⟩
end Cx
def layC (im : Im) (c : Co) (o : Op) (f : Fr) (l : List Va) : Co × Ou := (⟨nxt c.fr f, lft (mkM im c o 0 0) ++ l, c.tr⟩, went)
def tk0 (im : Im) (c : Co) (o : Op) : Va := ((tkn (mkM im c o 0 0))[0]?).getD zeroV
def tk1' (im : Im) (c : Co) (o : Op) : Va := ((tkn (mkM im c o 0 0))[1]?).getD zeroV
def opR (im : Im) (c : Co) (fr tr : Int) (o : Op) (f : Fr) : Co × Ou :=
  let exc := fun n => raise c n (max tr 0)
  let a := tk0 im c o
  let b := tk1' im c o
  let jmp : Co × Ou := (⟨lastSet (nxt c.fr f) { { f with pc := f.pc + 1 } with pc := o.a }, lft (mkM im c o 0 0), c.tr⟩, went)
  bif o.c == 1 then layC im c o f [(im.cs[o.a.toNat]?).getD zeroV]
  else bif o.c == 2 then layC im c o f [(f.vars[o.a.toNat]?).getD zeroV]
  else bif o.c == 4 then layC im c o f []
  else bif o.c == 5 then layC im c o f [a, a]
  else bif o.c == 6 then layC im c o f [b, a]
  else bif o.c == 12 then layC im c o f [truthV (eqV a b)]
  else bif decide (7 ≤ o.c) && decide (o.c ≤ 13) then (bif (a.k == 1) && (b.k == 1) then (match numR o.c a.n b.n with
    | .tu [.d (.int .i64 n), .d (.bool true)] => layC im c o f [num n]
    | _ => exc (-2)) else exc (-1))
  else bif o.c == 14 then (bif a.k == 1 then layC im c o f [truthV (a.n == 0)] else exc (-1))
  else bif o.c == 15 then jmp
  else bif o.c == 16 then (bif a.k == 1 then (bif a.n == 0 then layC im c o f [] else jmp) else exc (-1))
  else bif o.c == 17 then (bif enterOk ⟨nxt c.fr f, lft (mkM im c o 0 0), c.tr⟩ then (⟨(enterC ⟨nxt c.fr f, lft (mkM im c o 0 0), c.tr⟩ o.a (match im.fs[o.a.toNat]? with | some g => g.vars | none => 0) (tkn (mkM im c o 0 0)) f.ma).fr, lft (mkM im c o 0 0), c.tr⟩, went) else exc (-6))
  else bif o.c == 18 then (bif decide (((retC c).fr.length : Int) ≤ max fr 0) then (retC c, ⟨1, retV c, o0⟩) else (⟨(retC c).fr, (retC c).st ++ [retV c], (retC c).tr⟩, went))
  else bif o.c == 19 then (bif a.k == 1 then exc a.n else exc (-1))
  else bif o.c == 20 then (⟨nxt c.fr f, lft (mkM im c o 0 0), c.tr ++ [⟨(nxt c.fr f).length, (lft (mkM im c o 0 0)).length, o.a⟩]⟩, went)
  else bif o.c == 21 then (bif decide (max tr 0 < c.tr.length) then (⟨nxt c.fr f, lft (mkM im c o 0 0), c.tr.take (c.tr.length - 1)⟩, went) else layC im c o f [])
  else bif o.c == 44 then (⟨lastSet (nxt c.fr f) { { f with pc := f.pc + 1 } with ma := lessM o.a f.ma }, lft (mkM im c o 0 0), c.tr⟩, went)
  else bif o.c == 47 then layC im c o f [num f.ma]
  else (c, ⟨3, zeroV, o⟩)
def dom (c : Int) : Bool := !((c == 3) || (c == 22) || (c == 23) || (c == 24) || (c == 31))
def St (im : Im) (c : Co) (fr tr : Int) (r : Co × Ou) : Prop := SatP Tryz.prog 13 [agI im, agC c, .d (.int .i64 fr), .d (.int .i64 tr)] (.tu [agC r.1, agOu r.2])
section
variable {im : Im} {c : Co} {fr tr : Int} {f : Fr} {fn : Fn} {oa : Int}
theorem layQ {o : Op} (x : Cx im c fr tr o f fn) (F i : Nat) (l : List Va) (hq : ∀ id, fnd [0, 3] [.d (.int .i64 o.c)] (tbl id) 0 = some (some (i, .fc F [.p id 0]))) (hF1 : Nat.blt F 1000000 = false) (hF2 : Nat.blt F 2000000 = true)
    (hM : MLay (F - 1000000) (mkM im c o fr tr) (lft (mkM im c o fr tr)) (lft (mkM im c o fr tr) ++ l) c.tr (tkn (mkM im c o fr tr)) (nxt c.fr f)) : St im c fr tr (layC im c o f l) :=
  stepS1 im c fr tr o f F i x.hI x.hs x.h x.rdy hq hF1 hF2 (nxt c.fr f) (lft (mkM im c o fr tr) ++ l) c.tr hM
theorem keepQ {o : Op} (x : Cx im c fr tr o f fn) (F i : Nat) (frs' : List Fr) (ts' : List Tr) (hq : ∀ id, fnd [0, 3] [.d (.int .i64 o.c)] (tbl id) 0 = some (some (i, .fc F [.p id 0]))) (hF1 : Nat.blt F 1000000 = false) (hF2 : Nat.blt F 2000000 = true)
    (hM : MKeep (F - 1000000) (mkM im c o fr tr) (lft (mkM im c o fr tr)) c.tr ts' (tkn (mkM im c o fr tr)) (nxt c.fr f) frs' false 0) : St im c fr tr (⟨frs', lft (mkM im c o 0 0), ts'⟩, went) :=
  stepS2 im c fr tr o f F i x.hI x.hs x.h x.rdy hq hF1 hF2 frs' (lft (mkM im c o fr tr)) ts' hM
theorem excQ {o : Op} (x : Cx im c fr tr o f fn) (F i : Nat) (n : Int) (hq : ∀ id, fnd [0, 3] [.d (.int .i64 o.c)] (tbl id) 0 = some (some (i, .fc F [.p id 0]))) (hF1 : Nat.blt F 1000000 = false) (hF2 : Nat.blt F 2000000 = true)
    (hM : MKeep (F - 1000000) (mkM im c o fr tr) (lft (mkM im c o fr tr)) c.tr c.tr (tkn (mkM im c o fr tr)) (nxt c.fr f) (nxt c.fr f) true n) : St im c fr tr (raise c n (max tr 0)) :=
  stepS3 im c fr tr o f F i x.hI x.hs x.h x.rdy hq hF1 hF2 (nxt c.fr f) (lft (mkM im c o fr tr)) c.tr n (by have := x.lf; omega) hM
theorem op1 (x : Cx im c fr tr ⟨1, oa⟩ f fn) : St im c fr tr (opR im c fr tr ⟨1, oa⟩ f) := by
  have hw : within oa im.cs.length = true := x.op
  obtain ⟨k1, k2⟩ := within_iff.1 hw
  obtain ⟨v, hv⟩ : ∃ v, im.cs[oa.toNat]? = some v := ⟨_, List.getElem?_eq_getElem (by omega)⟩
  have e : opR im c fr tr ⟨1, oa⟩ f = layC im c ⟨1, oa⟩ f [v] := by
    show layC im c ⟨1, oa⟩ f [(im.cs[oa.toNat]?).getD zeroV] = _
    rw [hv]; rfl
  rw [e]
  exact layQ x 1000051 0 [v] (fun _ => rfl) rfl rfl (push51 _ _ _ _ _ v (by have := x.sl; omega) k1 hv)
theorem op2 (x : Cx im c fr tr ⟨2, oa⟩ f fn) : St im c fr tr (opR im c fr tr ⟨2, oa⟩ f) := by
  have hw : within oa f.vars.length = true := x.op
  obtain ⟨k1, k2⟩ := within_iff.1 hw
  obtain ⟨v, hv⟩ : ∃ v, f.vars[oa.toNat]? = some v := ⟨_, List.getElem?_eq_getElem (by omega)⟩
  have e : opR im c fr tr ⟨2, oa⟩ f = layC im c ⟨2, oa⟩ f [v] := by
    show layC im c ⟨2, oa⟩ f [(f.vars[oa.toNat]?).getD zeroV] = _
    rw [hv]; rfl
  rw [e]
  exact layQ x 1000052 1 [v] (fun _ => rfl) rfl rfl (load52 _ _ _ _ _ { f with pc := f.pc + 1 } v (by have := x.sl; omega) x.nlen.1 x.nlen.2 x.last k1 hv)
theorem op4 (x : Cx im c fr tr ⟨4, oa⟩ f fn) : St im c fr tr (opR im c fr tr ⟨4, oa⟩ f) := by
  have e : opR im c fr tr ⟨4, oa⟩ f = (⟨nxt c.fr f, lft (mkM im c ⟨4, oa⟩ 0 0), c.tr⟩, went) := by
    show layC im c ⟨4, oa⟩ f [] = _
    simp [layC]
  rw [e]
  exact keepQ x 1000054 3 _ _ (fun _ => rfl) rfl rfl (pop54 _ _ _ _ _)
theorem t0 {o : Op} {a : Va} {l : List Va} (h : tkn (mkM im c o fr tr) = a :: l) : tk0 im c o = a := by
  have : tkn (mkM im c o 0 0) = a :: l := h
  simp [tk0, this]
theorem t1 {o : Op} {a b : Va} {l : List Va} (h : tkn (mkM im c o fr tr) = a :: b :: l) : tk1' im c o = b := by
  have : tkn (mkM im c o 0 0) = a :: b :: l := h
  simp [tk1', this]
theorem op5 (x : Cx im c fr tr ⟨5, oa⟩ f fn) : St im c fr tr (opR im c fr tr ⟨5, oa⟩ f) := by
  obtain ⟨a, ha⟩ := x.tk1 rfl
  have e : opR im c fr tr ⟨5, oa⟩ f = layC im c ⟨5, oa⟩ f [a, a] := by
    show layC im c ⟨5, oa⟩ f [tk0 im c ⟨5, oa⟩, tk0 im c ⟨5, oa⟩] = _
    rw [t0 ha]
  rw [e]
  refine layQ x 1000055 4 [a, a] (fun _ => rfl) rfl rfl ?_
  rw [ha]
  have := dup55 (mkM im c ⟨5, oa⟩ fr tr) (lft (mkM im c ⟨5, oa⟩ fr tr)) c.tr a (nxt c.fr f) (by have := x.sl; omega)
  rwa [List.append_assoc] at this
theorem op6 (x : Cx im c fr tr ⟨6, oa⟩ f fn) : St im c fr tr (opR im c fr tr ⟨6, oa⟩ f) := by
  obtain ⟨a, b, ha⟩ := x.tk2 rfl
  have e : opR im c fr tr ⟨6, oa⟩ f = layC im c ⟨6, oa⟩ f [b, a] := by
    show layC im c ⟨6, oa⟩ f [tk1' im c ⟨6, oa⟩, tk0 im c ⟨6, oa⟩] = _
    rw [t0 ha, t1 ha]
  rw [e]
  refine layQ x 1000056 5 [b, a] (fun _ => rfl) rfl rfl ?_
  rw [ha]
  have := swap56 (mkM im c ⟨6, oa⟩ fr tr) (lft (mkM im c ⟨6, oa⟩ fr tr)) c.tr a b (nxt c.fr f) (by have := x.sl; omega)
  rwa [List.append_assoc] at this
theorem op12 (x : Cx im c fr tr ⟨12, oa⟩ f fn) : St im c fr tr (opR im c fr tr ⟨12, oa⟩ f) := by
  obtain ⟨a, b, ha⟩ := x.tk2 rfl
  have e : opR im c fr tr ⟨12, oa⟩ f = layC im c ⟨12, oa⟩ f [truthV (eqV a b)] := by
    show layC im c ⟨12, oa⟩ f [truthV (eqV (tk0 im c ⟨12, oa⟩) (tk1' im c ⟨12, oa⟩))] = _
    rw [t0 ha, t1 ha]
  rw [e]
  refine layQ x 1000058 11 [truthV (eqV a b)] (fun _ => rfl) rfl rfl ?_
  rw [ha]
  exact eq58 (mkM im c ⟨12, oa⟩ fr tr) (lft (mkM im c ⟨12, oa⟩ fr tr)) c.tr a b (nxt c.fr f) (by have := x.sl; omega)
theorem numR_or (k a b : Int) : (∃ n, numR k a b = okR2 n) ∨ numR k a b = noR2 := by
  unfold numR
  cases k == 7 <;> cases k == 8 <;> cases k == 9 <;> cases k == 10 <;> cases k == 11 <;> cases k == 12 <;> simp only [cond_true, cond_false] <;>
    first
      | exact .inl ⟨_, rfl⟩
      | (cases b == 0 <;> simp only [cond_true, cond_false] <;> first | exact .inl ⟨_, rfl⟩ | exact .inr trivial | exact .inr rfl)
def numO (im : Im) (c : Co) (tr : Int) (o : Op) (f : Fr) : Co × Ou :=
  bif ((tk0 im c o).k == 1) && ((tk1' im c o).k == 1) then (match numR o.c (tk0 im c o).n (tk1' im c o).n with
    | .tu [.d (.int .i64 n), .d (.bool true)] => layC im c o f [num n]
    | _ => raise c (-2) (max tr 0)) else raise c (-1) (max tr 0)
theorem opN {o : Op} (x : Cx im c fr tr o f fn) (i : Nat) (hc : 7 ≤ o.c ∧ o.c ≤ 13) (ht : takes im o = 2) (hq : ∀ id, fnd [0, 3] [.d (.int .i64 o.c)] (tbl id) 0 = some (some (i, .fc 1000057 [.p id 0]))) : St im c fr tr (numO im c tr o f) := by
  obtain ⟨a, b, ha⟩ := x.tk2 ht
  have h0 := t0 ha
  have h1 := t1 ha
  unfold numO
  rw [h0, h1]
  by_cases hab : a.k = 1 ∧ b.k = 1
  · rw [show ((a.k == 1) && (b.k == 1)) = true by simp [hab.1, hab.2]]
    simp only [cond_true]
    rcases numR_or o.c a.n b.n with ⟨n, hn⟩ | hn
    · rw [hn]
      refine layQ x 1000057 i [num n] hq rfl rfl ?_
      rw [ha]
      exact number57A (mkM im c o fr tr) _ c.tr a b (nxt c.fr f) n (by have := x.sl; omega) hc hab.1 hab.2 hn
    · rw [hn]
      refine excQ x 1000057 i (-2) hq rfl rfl ?_
      rw [ha]
      exact number57B (mkM im c o fr tr) _ c.tr a b (nxt c.fr f) hc hab.1 hab.2 hn
  · have e : ((a.k == 1) && (b.k == 1)) = false := by
      cases hh : ((a.k == 1) && (b.k == 1)) with
      | false => rfl
      | true => simp at hh; exact absurd hh hab
    rw [e]
    refine excQ x 1000057 i (-1) hq rfl rfl ?_
    rw [ha]
    exact number57E (mkM im c o fr tr) _ c.tr a b (nxt c.fr f) hab
end
end Go.Proofs.YtoibcfioicdlhaaGreatDoor
namespace Go.Proofs.YtoibcfioicdlhaaGreatDoor
open Go.Vx
section
variable {im : Im} {c : Co} {fr tr : Int} {f : Fr} {fn : Fn} {oa : Int}
theorem beqT {a b : Int} (h : a = b) : (a == b) = true := by simp [h]
theorem beqF {a b : Int} (h : ¬ a = b) : (a == b) = false := by simp [h]
theorem lay0 (o : Op) : layC im c o f [] = (⟨nxt c.fr f, lft (mkM im c o 0 0), c.tr⟩, went) := by simp [layC]
theorem op14 (x : Cx im c fr tr ⟨14, oa⟩ f fn) : St im c fr tr (opR im c fr tr ⟨14, oa⟩ f) := by
  obtain ⟨a, ha⟩ := x.tk1 rfl
  have e : opR im c fr tr ⟨14, oa⟩ f = bif a.k == 1 then layC im c ⟨14, oa⟩ f [truthV (a.n == 0)] else raise c (-1) (max tr 0) := by
    show (bif (tk0 im c ⟨14, oa⟩).k == 1 then layC im c ⟨14, oa⟩ f [truthV ((tk0 im c ⟨14, oa⟩).n == 0)] else raise c (-1) (max tr 0)) = _
    rw [t0 ha]
  rw [e]
  by_cases hk : a.k = 1
  · rw [beqT hk, cond_true]
    refine layQ x 1000059 13 _ (fun _ => rfl) rfl rfl ?_
    rw [ha]
    exact not59A (mkM im c ⟨14, oa⟩ fr tr) _ c.tr a (nxt c.fr f) (by have := x.sl; omega) hk
  · rw [beqF hk, cond_false]
    refine excQ x 1000059 13 (-1) (fun _ => rfl) rfl rfl ?_
    rw [ha]
    exact not59E (mkM im c ⟨14, oa⟩ fr tr) _ c.tr a (nxt c.fr f) hk
theorem op15 (x : Cx im c fr tr ⟨15, oa⟩ f fn) : St im c fr tr (opR im c fr tr ⟨15, oa⟩ f) :=
  keepQ x 1000060 14 _ _ (fun _ => rfl) rfl rfl (jump60 (mkM im c ⟨15, oa⟩ fr tr) _ c.tr _ (nxt c.fr f) { f with pc := f.pc + 1 } x.nlen.1 x.nlen.2 x.last)
theorem op16 (x : Cx im c fr tr ⟨16, oa⟩ f fn) : St im c fr tr (opR im c fr tr ⟨16, oa⟩ f) := by
  obtain ⟨a, ha⟩ := x.tk1 rfl
  have e : opR im c fr tr ⟨16, oa⟩ f = bif a.k == 1 then (bif a.n == 0 then layC im c ⟨16, oa⟩ f [] else (⟨lastSet (nxt c.fr f) { { f with pc := f.pc + 1 } with pc := oa }, lft (mkM im c ⟨16, oa⟩ 0 0), c.tr⟩, went)) else raise c (-1) (max tr 0) := by
    show (bif (tk0 im c ⟨16, oa⟩).k == 1 then (bif (tk0 im c ⟨16, oa⟩).n == 0 then layC im c ⟨16, oa⟩ f [] else _) else raise c (-1) (max tr 0)) = _
    rw [t0 ha]
  rw [e]
  by_cases hk : a.k = 1
  · rw [beqT hk, cond_true]
    by_cases hn : a.n = 0
    · rw [beqT hn, cond_true, lay0]
      refine keepQ x 1000061 15 _ _ (fun _ => rfl) rfl rfl ?_
      rw [ha]
      exact jumpIf61B (mkM im c ⟨16, oa⟩ fr tr) _ c.tr a (nxt c.fr f) hk hn
    · rw [beqF hn, cond_false]
      refine keepQ x 1000061 15 _ _ (fun _ => rfl) rfl rfl ?_
      rw [ha]
      exact jumpIf61A (mkM im c ⟨16, oa⟩ fr tr) _ c.tr a (nxt c.fr f) { f with pc := f.pc + 1 } x.nlen.1 x.nlen.2 x.last hk hn
  · rw [beqF hk, cond_false]
    refine excQ x 1000061 15 (-1) (fun _ => rfl) rfl rfl ?_
    rw [ha]
    exact jumpIf61E (mkM im c ⟨16, oa⟩ fr tr) _ c.tr a (nxt c.fr f) hk
theorem op17 (x : Cx im c fr tr ⟨17, oa⟩ f fn) : St im c fr tr (opR im c fr tr ⟨17, oa⟩ f) := by
  obtain ⟨g, h0, hg, _⟩ := x.call rfl
  have hlen := x.nlen
  have hpo := popL_len x.po
  have htk : (tkn (mkM im c ⟨17, oa⟩ fr tr)).length < 1000000000 := by have := x.tl; have := x.ls; omega
  have e : opR im c fr tr ⟨17, oa⟩ f = bif enterOk ⟨nxt c.fr f, lft (mkM im c ⟨17, oa⟩ 0 0), c.tr⟩ then (⟨(enterC ⟨nxt c.fr f, lft (mkM im c ⟨17, oa⟩ 0 0), c.tr⟩ oa g.vars (tkn (mkM im c ⟨17, oa⟩ 0 0)) f.ma).fr, lft (mkM im c ⟨17, oa⟩ 0 0), c.tr⟩, went) else raise c (-6) (max tr 0) := by
    show (bif enterOk ⟨nxt c.fr f, lft (mkM im c ⟨17, oa⟩ 0 0), c.tr⟩ then (⟨(enterC ⟨nxt c.fr f, lft (mkM im c ⟨17, oa⟩ 0 0), c.tr⟩ oa (match im.fs[oa.toNat]? with | some g => g.vars | none => 0) (tkn (mkM im c ⟨17, oa⟩ 0 0)) f.ma).fr, lft (mkM im c ⟨17, oa⟩ 0 0), c.tr⟩, went) else raise c (-6) (max tr 0)) = _
    rw [hg]
  rw [e]
  cases hy : enterOk ⟨nxt c.fr f, lft (mkM im c ⟨17, oa⟩ 0 0), c.tr⟩ with
  | true =>
    rw [cond_true]
    exact stepS1 im c fr tr ⟨17, oa⟩ f 1000062 16 x.hI x.hs x.h x.rdy (fun _ => rfl) rfl rfl _ (lft (mkM im c ⟨17, oa⟩ fr tr)) c.tr (fun K hk => call62A (mkM im c ⟨17, oa⟩ fr tr) _ c.tr _ (nxt c.fr f) { f with pc := f.pc + 1 } g hlen.1 hlen.2 htk x.last h0 hg hy hk)
  | false =>
    rw [cond_false]
    exact stepS6 im c fr tr ⟨17, oa⟩ f 1000062 16 x.hI x.hs x.h x.rdy (fun _ => rfl) rfl rfl (nxt c.fr f) (lft (mkM im c ⟨17, oa⟩ fr tr)) c.tr (-6) (by have := x.lf; omega) (fun K hk => call62B (mkM im c ⟨17, oa⟩ fr tr) _ c.tr _ (nxt c.fr f) { f with pc := f.pc + 1 } g hlen.1 hlen.2 htk x.last h0 hg hy hk)
theorem op18 (x : Cx im c fr tr ⟨18, oa⟩ f fn) : St im c fr tr (opR im c fr tr ⟨18, oa⟩ f) := by
  have hlf := x.lf
  have hls := x.ls
  have hlt := x.lt
  have hpos := x.pos
  have hpo : popOk c 1 = true := x.po
  have hy : retOk c = true := by simp [retOk, hpo, hpos]
  have hl2 : (retC c).st.length < 1000000000 := by
    show (cutn c.st (base c)).length < _
    simp only [cutn, List.length_take]; omega
  have e : opR im c fr tr ⟨18, oa⟩ f = bif decide (((retC c).fr.length : Int) ≤ max fr 0) then (retC c, ⟨1, retV c, o0⟩) else (⟨(retC c).fr, (retC c).st ++ [retV c], (retC c).tr⟩, went) := rfl
  rw [e]
  by_cases hn : ((retC c).fr.length : Int) ≤ max fr 0
  · rw [show decide (((retC c).fr.length : Int) ≤ max fr 0) = true by simpa using hn, cond_true]
    exact stepS5 im c fr tr ⟨18, oa⟩ f 1000063 17 x.hI x.hs x.h x.rdy (fun _ => rfl) rfl rfl (retC c).fr (nxt c.fr f) (retC c).st (retC c).tr ⟨1, retV c, o0⟩ (fun K hk => ret63A (mkM im c ⟨18, oa⟩ fr tr) _ c.tr _ (nxt c.fr f) (by show c.fr.length < _; omega) (by show c.st.length < _; omega) (by show c.tr.length < _; omega) hy hn hk)
  · rw [show decide (((retC c).fr.length : Int) ≤ max fr 0) = false by simpa using hn, cond_false]
    exact stepS5 im c fr tr ⟨18, oa⟩ f 1000063 17 x.hI x.hs x.h x.rdy (fun _ => rfl) rfl rfl (retC c).fr (nxt c.fr f) ((retC c).st ++ [retV c]) (retC c).tr went (fun K hk => ret63B (mkM im c ⟨18, oa⟩ fr tr) _ c.tr _ (nxt c.fr f) (by show c.fr.length < _; omega) (by show c.st.length < _; omega) (by show c.tr.length < _; omega) hl2 hy hn hk)
theorem op19 (x : Cx im c fr tr ⟨19, oa⟩ f fn) : St im c fr tr (opR im c fr tr ⟨19, oa⟩ f) := by
  obtain ⟨a, ha⟩ := x.tk1 rfl
  have e : opR im c fr tr ⟨19, oa⟩ f = bif a.k == 1 then raise c a.n (max tr 0) else raise c (-1) (max tr 0) := by
    show (bif (tk0 im c ⟨19, oa⟩).k == 1 then raise c (tk0 im c ⟨19, oa⟩).n (max tr 0) else raise c (-1) (max tr 0)) = _
    rw [t0 ha]
  rw [e]
  by_cases hk : a.k = 1
  · rw [beqT hk, cond_true]
    refine excQ x 1000064 18 a.n (fun _ => rfl) rfl rfl ?_
    rw [ha]
    exact throw64A (mkM im c ⟨19, oa⟩ fr tr) _ c.tr a (nxt c.fr f) hk
  · rw [beqF hk, cond_false]
    refine excQ x 1000064 18 (-1) (fun _ => rfl) rfl rfl ?_
    rw [ha]
    exact throw64E (mkM im c ⟨19, oa⟩ fr tr) _ c.tr a (nxt c.fr f) hk
theorem op20 (x : Cx im c fr tr ⟨20, oa⟩ f fn) : St im c fr tr (opR im c fr tr ⟨20, oa⟩ f) :=
  keepQ x 1000065 19 _ _ (fun _ => rfl) rfl rfl (try65 (mkM im c ⟨20, oa⟩ fr tr) _ c.tr _ (nxt c.fr f) (by have := x.lt; omega))
theorem op21 (x : Cx im c fr tr ⟨21, oa⟩ f fn) : St im c fr tr (opR im c fr tr ⟨21, oa⟩ f) := by
  have e : opR im c fr tr ⟨21, oa⟩ f = bif decide (max tr 0 < c.tr.length) then (⟨nxt c.fr f, lft (mkM im c ⟨21, oa⟩ 0 0), c.tr.take (c.tr.length - 1)⟩, went) else layC im c ⟨21, oa⟩ f [] := rfl
  rw [e]
  by_cases hn : max tr 0 < (c.tr.length : Int)
  · rw [show decide (max tr 0 < (c.tr.length : Int)) = true by simpa using hn, cond_true]
    exact stepS4 im c fr tr ⟨21, oa⟩ f 1000066 20 x.hI x.hs x.h x.rdy (fun _ => rfl) rfl rfl (nxt c.fr f) (lft (mkM im c ⟨21, oa⟩ fr tr)) (c.tr.take (c.tr.length - 1)) (fun K hk => end66A (mkM im c ⟨21, oa⟩ fr tr) _ c.tr _ (nxt c.fr f) hn (by show 0 ≤ max tr 0; omega) hk)
  · rw [show decide (max tr 0 < (c.tr.length : Int)) = false by simpa using hn, cond_false, lay0]
    exact keepQ x 1000066 20 _ _ (fun _ => rfl) rfl rfl (fun K hk => end66B (mkM im c ⟨21, oa⟩ fr tr) _ c.tr _ (nxt c.fr f) hn hk)
theorem op44 (x : Cx im c fr tr ⟨44, oa⟩ f fn) : St im c fr tr (opR im c fr tr ⟨44, oa⟩ f) :=
  keepQ x 1000071 25 _ _ (fun _ => rfl) rfl rfl (less71 (mkM im c ⟨44, oa⟩ fr tr) _ c.tr _ (nxt c.fr f) { f with pc := f.pc + 1 } x.nlen.1 x.nlen.2 x.last)
theorem op47 (x : Cx im c fr tr ⟨47, oa⟩ f fn) (hma : 0 ≤ f.ma ∧ f.ma ≤ 255) : St im c fr tr (opR im c fr tr ⟨47, oa⟩ f) :=
  layQ x 1000072 26 [num f.ma] (fun _ => rfl) rfl rfl (own72 (mkM im c ⟨47, oa⟩ fr tr) _ c.tr _ (nxt c.fr f) { f with pc := f.pc + 1 } (by have := x.sl; omega) x.nlen.1 x.nlen.2 x.last hma)
theorem opA {o : Op} (x : Cx im c fr tr o f fn) (hq : ∀ id, fnd [0, 3] [.d (.int .i64 o.c)] (tbl id) 0 = some none) : St im c fr tr (c, ⟨3, zeroV, o⟩) :=
  stepQ im c fr tr o x.hI x.hs x.h hq
def stepR (im : Im) (c : Co) (fr tr : Int) : Co × Ou :=
  match fit im c with
  | none => (c, failed (-6))
  | some o => match c.fr.getLast? with
    | none => (c, failed (-6))
    | some f => opR im c fr tr o f
structure okC (im : Im) (c : Co) : Prop where
  hI : okI im
  cd : ∀ (i : Nat) (g : Fn), im.fs[i]? = some g → g.code.length < 1000000000
  lf : c.fr.length < 900000000
  ls : c.st.length < 800000000
  lt : c.tr.length < 900000000
  ma : ∀ f, c.fr.getLast? = some f → 0 ≤ f.ma ∧ f.ma ≤ 255
  dm : ∀ o, fit im c = some o → dom o.c = true
set_option maxHeartbeats 4000000 in
theorem opAll {o : Op} (x : Cx im c fr tr o f fn) (hma : 0 ≤ f.ma ∧ f.ma ≤ 255) (hd : dom o.c = true) (hr : rightB o = true) : St im c fr tr (opR im c fr tr o f) := by
  obtain ⟨k, oa⟩ := o
  have hk : 1 ≤ k ∧ k ≤ 47 := by
    unfold rightB at hr
    cases hi : inf k with
    | none => rw [hi] at hr; cases hr
    | some i => have := inf_some hi; omega
  have h47 : k = 1 ∨ k = 2 ∨ k = 3 ∨ k = 4 ∨ k = 5 ∨ k = 6 ∨ k = 7 ∨ k = 8 ∨ k = 9 ∨ k = 10 ∨ k = 11 ∨ k = 12 ∨ k = 13 ∨ k = 14 ∨ k = 15 ∨ k = 16 ∨ k = 17 ∨ k = 18 ∨ k = 19 ∨ k = 20 ∨ k = 21 ∨ k = 22 ∨ k = 23 ∨ k = 24 ∨ k = 25 ∨ k = 26 ∨ k = 27 ∨ k = 28 ∨ k = 29 ∨ k = 30 ∨ k = 31 ∨ k = 32 ∨ k = 33 ∨ k = 34 ∨ k = 35 ∨ k = 36 ∨ k = 37 ∨ k = 38 ∨ k = 39 ∨ k = 40 ∨ k = 41 ∨ k = 42 ∨ k = 43 ∨ k = 44 ∨ k = 45 ∨ k = 46 ∨ k = 47 := by omega
  rcases h47 with rfl | rfl | rfl | rfl | rfl | rfl | rfl | rfl | rfl | rfl | rfl | rfl | rfl | rfl | rfl | rfl | rfl | rfl | rfl | rfl | rfl | rfl | rfl | rfl | rfl | rfl | rfl | rfl | rfl | rfl | rfl | rfl | rfl | rfl | rfl | rfl | rfl | rfl | rfl | rfl | rfl | rfl | rfl | rfl | rfl | rfl | rfl
  · exact op1 x
  · exact op2 x
  · exact absurd hd Bool.false_ne_true
  · exact op4 x
  · exact op5 x
  · exact op6 x
  · exact opN x 6 (show (7 : Int) ≤ 7 ∧ (7 : Int) ≤ 13 by decide) rfl (fun _ => rfl)
  · exact opN x 7 (show (7 : Int) ≤ 8 ∧ (8 : Int) ≤ 13 by decide) rfl (fun _ => rfl)
  · exact opN x 8 (show (7 : Int) ≤ 9 ∧ (9 : Int) ≤ 13 by decide) rfl (fun _ => rfl)
  · exact opN x 9 (show (7 : Int) ≤ 10 ∧ (10 : Int) ≤ 13 by decide) rfl (fun _ => rfl)
  · exact opN x 10 (show (7 : Int) ≤ 11 ∧ (11 : Int) ≤ 13 by decide) rfl (fun _ => rfl)
  · exact op12 x
  · exact opN x 12 (show (7 : Int) ≤ 13 ∧ (13 : Int) ≤ 13 by decide) rfl (fun _ => rfl)
  · exact op14 x
  · exact op15 x
  · exact op16 x
  · exact op17 x
  · exact op18 x
  · exact op19 x
  · exact op20 x
  · exact op21 x
  · exact absurd hd Bool.false_ne_true
  · exact absurd hd Bool.false_ne_true
  · exact absurd hd Bool.false_ne_true
  · exact opA x (fun _ => rfl)
  · exact opA x (fun _ => rfl)
  · exact opA x (fun _ => rfl)
  · exact opA x (fun _ => rfl)
  · exact opA x (fun _ => rfl)
  · exact opA x (fun _ => rfl)
  · exact absurd hd Bool.false_ne_true
  · exact opA x (fun _ => rfl)
  · exact opA x (fun _ => rfl)
  · exact opA x (fun _ => rfl)
  · exact opA x (fun _ => rfl)
  · exact opA x (fun _ => rfl)
  · exact opA x (fun _ => rfl)
  · exact opA x (fun _ => rfl)
  · exact opA x (fun _ => rfl)
  · exact opA x (fun _ => rfl)
  · exact opA x (fun _ => rfl)
  · exact opA x (fun _ => rfl)
  · exact opA x (fun _ => rfl)
  · exact op44 x
  · exact opA x (fun _ => rfl)
  · exact opA x (fun _ => rfl)
  · exact op47 x hma
theorem step13 (h : okC im c) : St im c fr tr (stepR im c fr tr) := by
  unfold stepR
  cases hf : fit im c with
  | none => exact stepN im c fr tr h.hI (by have := h.ls; omega) hf
  | some o =>
    obtain ⟨f, fn, hl, w1, hfn, w2, ho, hr, hop, hpo⟩ := fit_some hf
    simp only [hl]
    obtain ⟨a1, a2⟩ := within_iff.1 w2
    have := h.cd _ _ hfn
    exact opAll (fn := fn) ⟨h.hI, hf, hl, ⟨a1, by omega⟩, hop, hpo, h.lf, h.ls, h.lt⟩ (h.ma f hl) (h.dm o hf) hr
end
end Go.Proofs.YtoibcfioicdlhaaGreatDoor
namespace Go.Proofs.YtoibcfioicdlhaaGreatDoor
open Go.Vx
def okCb (im : Im) (c : Co) : Bool :=
  im.fs.all (fun g => decide (-9223372036854775808 ≤ g.args) && (decide (g.args ≤ 9223372036854775807) && decide (g.code.length < 1000000000))) && (decide (c.fr.length < 900000000) && (decide (c.st.length < 800000000) && (decide (c.tr.length < 900000000) &&
    ((match c.fr.getLast? with | some f => decide (0 ≤ f.ma) && decide (f.ma ≤ 255) | none => true) && (match fit im c with | some o => dom o.c | none => true)))))
theorem okC_of {im : Im} {c : Co} (h : okCb im c = true) : okC im c := by
  simp only [okCb, Bool.and_eq_true, List.all_eq_true, decide_eq_true_eq] at h
  obtain ⟨h1, h2, h3, h4, h5, h6⟩ := h
  refine ⟨⟨fun i g hg => ?_⟩, fun i g hg => (h1 g (List.mem_of_getElem? hg)).2.2, h2, h3, h4, fun f hf => ?_, fun o ho => ?_⟩
  · have := h1 g (List.mem_of_getElem? hg)
    exact ⟨this.1, this.2.1⟩
  · rw [hf] at h5
    simpa using h5
  · rw [ho] at h6
    exact h6
def c00 : Co := ⟨[], [], []⟩
def begC (fn : Int) (g : Fn) (v : Va) (ma : Int) : Co := enterC c00 fn g.vars [v] ma
theorem begun12 (im : Im) (fn : Int) (g : Fn) (v : Va) (ma : Int) (h0 : 0 ≤ fn) (hg : im.fs[fn.toNat]? = some g) : SatP Tryz.prog 12 [agI im, .d (.int .i64 fn), agV v, .d (.int .u8 ma)] (agC (begC fn g v ma)) := by
  have he := enter24 c00 fn g.vars [v] ma (by decide) (by simp)
  have hy : enterOk c00 = true := rfl
  simp only [enterR, hy, cond_true] at he
  have hrow : (im.fs.map encFn)[fn.toNat]? = some (encFn g) := by simp [hg]
  refine s12 (keep := false) rfl ?_
  repeat' ((conv => whnf); first | exact zf | refine zg ?_ | intro _ | refine And.intro rfl ?_ | refine ⟨_, he, ?_⟩ | refine (he).use ?_ | refine za ?_ | refine zl ?_ | fail)
  refine ⟨encFn g, ⟨h0, hrow, rfl⟩, ?_⟩
  repeat' ((conv => whnf); first | exact zf | refine zg ?_ | intro _ | refine And.intro rfl ?_ | refine ⟨_, he, ?_⟩ | refine (he).use ?_ | refine za ?_ | refine zl ?_ | fail)
def imE (l : List Op) : Im := ⟨[num 5, ⟨2, 0, [], [1], []⟩], [⟨1, 0, l⟩]⟩
theorem code23 (l : List Op) : SatP Tryz.prog 23 [.d (.sl 2 (l.map encO))] (agI (imE l)) := by
  refine s23 (keep := false) rfl ?_
  repeat' ((conv => whnf); first | exact zf | refine zg ?_ | intro _ | refine And.intro rfl ?_ | refine za ?_ | refine zl ?_ | fail)
def fewV (v : Va) : Va := ⟨v.k, v.n, v.nm, v.ls.take 6, v.li.take 6⟩
theorem few14 (v : Va) : SatP Tryz.prog 14 [agV v] (agV (fewV v)) := by
  refine s14 (keep := false) rfl ?_
  repeat' ((conv => whnf); first | exact zf | refine zg ?_ | intro _ | refine And.intro rfl ?_ | refine za ?_ | refine zl ?_ | fail)
  have e : ∀ l : List UInt8, (l.take (min (l.length : Int) 6).toNat).drop (0 : Int).toNat = l.take 6 := by
    intro l
    show l.take (min (l.length : Int) 6).toNat = _
    rcases Nat.lt_or_ge l.length 6 with h | h
    · rw [List.take_of_length_le (by omega), List.take_of_length_le (by omega)]
    · congr 1; omega
  show Out.ret (V.ag [.d (.int .i64 v.k), .d (.int .i64 v.n), .d (.str v.nm), .d (.str ((v.ls.take (min (v.ls.length : Int) 6).toNat).drop (0 : Int).toNat)), .d (.str ((v.li.take (min (v.li.length : Int) 6).toNat).drop (0 : Int).toNat))]) = _
  rw [e, e]
  rfl
def coB (c : Co) : B := .cells [.d (.sl 5 (c.fr.map encF)), .d (.sl 5 (c.st.map encV)), .d (.sl 3 (c.tr.map encT))]
def imB (im : Im) : B := .cells [.d (.sl 5 (im.cs.map encV)), .d (.sl 3 (im.fs.map encFn))]
def e1 : Im := imE [⟨1, 0⟩, ⟨2, 0⟩, ⟨8, 0⟩, ⟨18, 0⟩]
def e1c : Co := begC 0 ⟨1, 0, [⟨1, 0⟩, ⟨2, 0⟩, ⟨8, 0⟩, ⟨18, 0⟩]⟩ (num 7) 3
def itr (im : Im) (c : Co) : Nat → Co
  | 0 => c
  | n + 1 => (stepR im (itr im c n) 0 0).1
theorem e1_ok : ∀ i, i < 3 → okCb e1 (itr e1 e1c i) = true ∧ (stepR e1 (itr e1 e1c i) 0 0).2 = went
  | 0, _ => ⟨rfl, rfl⟩
  | 1, _ => ⟨rfl, rfl⟩
  | 2, _ => ⟨rfl, rfl⟩
def e2 : Im := imE [⟨25, 0⟩, ⟨18, 0⟩]
def e2c : Co := begC 0 ⟨1, 0, [⟨25, 0⟩, ⟨18, 0⟩]⟩ (num 0) 0
def e3 : Im := imE [⟨2, 0⟩, ⟨1, 1⟩, ⟨7, 0⟩, ⟨18, 0⟩]
def e3c : Co := begC 0 ⟨1, 0, [⟨2, 0⟩, ⟨1, 1⟩, ⟨7, 0⟩, ⟨18, 0⟩]⟩ (num 0) 0
theorem stepQ13 {im : Im} {c : Co} (h : okCb im c = true) {r : Co × Ou} (hr : stepR im c 0 0 = r) : SatP Tryz.prog 13 [agI im, agC c, .d (.int .i64 0), .d (.int .i64 0)] (.tu [agC r.1, agOu r.2]) := by
  subst hr
  exact step13 (okC_of h)
set_option maxRecDepth 100000 in
set_option maxHeartbeats 4000000 in
theorem examples10 : SatP Tryz.prog 10 [] (.d (.bool true)) := by
  refine s10 (keep := false) rfl ?_
  repeat' ((conv => whnf); first | exact zf | refine zg ?_ | intro _ | refine And.intro rfl ?_ | refine ⟨_, code23 [⟨1, 0⟩, ⟨2, 0⟩, ⟨8, 0⟩, ⟨18, 0⟩], ?_⟩ | refine (code23 [⟨1, 0⟩, ⟨2, 0⟩, ⟨8, 0⟩, ⟨18, 0⟩]).use ?_ | refine ⟨_, number11 7, ?_⟩ | refine (number11 7).use ?_ | refine ⟨_, begun12 e1 0 ⟨1, 0, [⟨1, 0⟩, ⟨2, 0⟩, ⟨8, 0⟩, ⟨18, 0⟩]⟩ (num 7) 3 (by decide) rfl, ?_⟩ | refine (begun12 e1 0 ⟨1, 0, [⟨1, 0⟩, ⟨2, 0⟩, ⟨8, 0⟩, ⟨18, 0⟩]⟩ (num 7) 3 (by decide) rfl).use ?_ | refine za ?_ | refine zl ?_ | fail)
  conv => whnf
  refine loop_use [27, 28, 32, 33, 34, 31, 35, 36, 5, 6, 37, 38, 39, 40, 3, 41, 29, 30, 4] (fun i : Nat => i ≤ 3) (fun i => [(3, .d (.int .i64 0)), (4, .d (.int .i64 i))]) (fun i => [imB e1, coB (itr e1 e1c i)]) (fun i => 3 - i) 0 (Nat.zero_le _) ?_ ?_ ?_ (fun i hi => ?_)
  · exact (by repeat' (first | exact trivial | exact rfl | exact Or.inl rfl | refine And.intro ?_ ?_ | refine Or.inr ?_))
  · exact (by repeat' (first | exact trivial | exact rfl | exact Or.inl rfl | refine And.intro ?_ ?_ | refine Or.inr ?_))
  · exact rfl
  repeat' ((conv => whnf); first | exact zf | refine zg ?_ | intro _ | refine And.intro rfl ?_ | refine za ?_ | refine zl ?_ | fail)
  refine sp_intro (fun hlt => ?_) (fun hge => ?_)
  · have hlt : i < 3 := by simp at hlt; omega
    have hs := step13 (fr := 0) (tr := 0) (okC_of (e1_ok i hlt).1)
    unfold St at hs
    rw [(e1_ok i hlt).2] at hs
    have hwk : went.k = 0 := rfl
    repeat' ((conv => whnf); first | exact zf | refine zg ?_ | intro _ | refine And.intro rfl ?_ | refine ⟨_, hs, ?_⟩ | refine (hs).use ?_ | refine za ?_ | refine zl ?_ | fail)
    refine ⟨i + 1, hlt, Nat.sub_lt_sub_left hlt (Nat.lt_succ_self i), (by repeat' (first | exact trivial | exact rfl | exact Or.inl rfl | refine And.intro ?_ ?_ | refine Or.inr ?_)), ⟨.inl rfl, .inl rfl, trivial⟩, rfl⟩
  · have hge : i = 3 := by simp at hge; omega
    subst hge
    repeat' ((conv => whnf); first | exact zf | refine zg ?_ | intro _ | refine And.intro rfl ?_ | refine ⟨_, stepQ13 (im := e1) (c := itr e1 e1c 3) rfl (r := (⟨[], [], []⟩, ⟨1, num (-2), o0⟩)) rfl, ?_⟩ | refine (stepQ13 (im := e1) (c := itr e1 e1c 3) rfl (r := (⟨[], [], []⟩, ⟨1, num (-2), o0⟩)) rfl).use ?_ | refine ⟨_, stepQ13 (im := e1) (c := c00) rfl (r := (c00, failed (-6))) rfl, ?_⟩ | refine (stepQ13 (im := e1) (c := c00) rfl (r := (c00, failed (-6))) rfl).use ?_ | refine ⟨_, code23 [⟨25, 0⟩, ⟨18, 0⟩], ?_⟩ | refine (code23 [⟨25, 0⟩, ⟨18, 0⟩]).use ?_ | refine ⟨_, number11 0, ?_⟩ | refine (number11 0).use ?_ | refine ⟨_, begun12 e2 0 ⟨1, 0, [⟨25, 0⟩, ⟨18, 0⟩]⟩ (num 0) 0 (by decide) rfl, ?_⟩ | refine (begun12 e2 0 ⟨1, 0, [⟨25, 0⟩, ⟨18, 0⟩]⟩ (num 0) 0 (by decide) rfl).use ?_ | refine ⟨_, stepQ13 (im := e2) (c := e2c) rfl (r := (e2c, ⟨3, zeroV, ⟨25, 0⟩⟩)) rfl, ?_⟩ | refine (stepQ13 (im := e2) (c := e2c) rfl (r := (e2c, ⟨3, zeroV, ⟨25, 0⟩⟩)) rfl).use ?_ | refine ⟨_, code23 [⟨2, 0⟩, ⟨1, 1⟩, ⟨7, 0⟩, ⟨18, 0⟩], ?_⟩ | refine (code23 [⟨2, 0⟩, ⟨1, 1⟩, ⟨7, 0⟩, ⟨18, 0⟩]).use ?_ | refine ⟨_, begun12 e3 0 ⟨1, 0, [⟨2, 0⟩, ⟨1, 1⟩, ⟨7, 0⟩, ⟨18, 0⟩]⟩ (num 0) 0 (by decide) rfl, ?_⟩ | refine (begun12 e3 0 ⟨1, 0, [⟨2, 0⟩, ⟨1, 1⟩, ⟨7, 0⟩, ⟨18, 0⟩]⟩ (num 0) 0 (by decide) rfl).use ?_ | refine ⟨_, stepQ13 (im := e3) (c := e3c) rfl (r := (itr e3 e3c 1, went)) rfl, ?_⟩ | refine (stepQ13 (im := e3) (c := e3c) rfl (r := (itr e3 e3c 1, went)) rfl).use ?_ | refine ⟨_, stepQ13 (im := e3) (c := itr e3 e3c 1) rfl (r := (itr e3 e3c 2, went)) rfl, ?_⟩ | refine (stepQ13 (im := e3) (c := itr e3 e3c 1) rfl (r := (itr e3 e3c 2, went)) rfl).use ?_ | refine ⟨_, stepQ13 (im := e3) (c := itr e3 e3c 2) rfl (r := (itr e3 e3c 2, failed (-1))) rfl, ?_⟩ | refine (stepQ13 (im := e3) (c := itr e3 e3c 2) rfl (r := (itr e3 e3c 2, failed (-1))) rfl).use ?_ | refine za ?_ | refine zl ?_ | fail)
end Go.Proofs.YtoibcfioicdlhaaGreatDoor
namespace Go.Proofs.YtoibcfioicdlhaaGreatDoor
open Go.Vx
end Go.Proofs.YtoibcfioicdlhaaGreatDoor
namespace Go.Proofs.YtoibcfioicdlhaaGreatDoor
open Go.Vx
end Go.Proofs.YtoibcfioicdlhaaGreatDoor
