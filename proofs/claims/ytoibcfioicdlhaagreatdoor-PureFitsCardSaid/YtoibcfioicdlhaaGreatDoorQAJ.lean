/- More of the small operations in the picture: tests for nil, empty slices, what is cleared, bytes of texts. Conditions: none; lemmas on the definitions before. -/
import Derived.Test.YtoibcfioicdlhaaGreatDoorQAI
import Derived.Laws.CopyRow
import Derived.MapKept
namespace Go.Vx
section
variable {P : Program} {E : Ent} {n : Nat} {G : Nat → Prop} {ρ : List Value} {t : T} {h : H} {a : Act} {w : World} {o : Oper} {nxt : Act → World → Prop} {Q : Exit → Act → World → Prop} {K KP : V → T → H → Prop}
variable (S : Nat → List V → H → (Out → H → Prop) → Prop) (ow : Nat → Bool)
theorem op_nq (hC : Conc E n G ρ t h a w) (hn : Nxt E n a o K nxt) {ne : Bool} {ty e t1 t2 : TypeId} {x : Operand} {ox : O} (ho : o.op = .binOp (bif ne then .neq else .eql) ty x (.const (.slice none 0 0)) t2) (hu : P.underlying ty = some (.slice e)) (hx : opd P t1 x = some ox)
    (hk : opx S ow (.nq ne ox) t h K KP) : o.wp P a w nxt Q := by
  have hv := opd_ok hC hx
  have run : ∀ (ad : Option Addr) (m c : Nat), a.eval x = .slice ad m c → (execOp a.eval o).run P w = .ok (.value (.bool (bif ne then !ad.isNone else ad.isNone))) w := by
    intro ad m c he
    have e0 : a.eval (.const (.slice none 0 0)) = .slice none 0 0 := rfl
    have heq : ∀ k, (Op.equalIn (k + 1) ty (.slice ad m c) (.slice none 0 0)).run P w = .ok ad.isNone w := fun k => by
      cases ad <;> simp [Op.equalIn, run_underlying hu]
    have heq : (Op.equal ty (.slice ad m c) (.slice none 0 0)).run P w = .ok ad.isNone w := heq 9999
    cases ne <;> simp only [cond_true, cond_false] at ho ⊢ <;> simp only [execOp, ho, he, e0]
    · refine run_execv ?_
      simp [eqGuard, binOp, heq]
    · refine run_execv ?_
      simp [eqGuard, binOp, heq]
  have both : ∀ (ad : Option Addr) (m c : Nat), a.eval x = .slice ad m c → K (.d (.bool true)) t h ∧ K (.d (.bool false)) t h → o.wp P a w nxt Q := by
    intro ad m c he hk
    refine wp_quiet hC hn (v := .d (.bool (bif ne then !ad.isNone else ad.isNone))) (run ad m c he) (.d (.bool _)) ?_
    cases (bif ne then !ad.isNone else ad.isNone)
    · exact hk.2
    · exact hk.1
  have one : ∀ (ad : Addr) (m c : Nat), a.eval x = .slice (some ad) m c → K (.d (.bool ne)) t h → o.wp P a w nxt Q := by
    intro ad m c he hk
    have := run (some ad) m c he
    exact wp_quiet hC hn this (.d (.bool _)) (by cases ne <;> exact hk)
  have data : ∀ (z : Nat) (r : List (List D)), RepD G w (a.eval x) (.sl z r) → (match r with | [] => K (.d (.bool true)) t h ∧ K (.d (.bool false)) t h | _ :: _ => K (.d (.bool ne)) t h) → o.wp P a w nxt Q := by
    intro z r hD hk
    cases r with
    | nil =>
      obtain ⟨ad, c, he, _⟩ := hD.len
      exact both ad _ c he hk
    | cons r0 rs =>
      rcases hD.sll with ⟨_, h2⟩ | ⟨b, o, cap, U, he, _⟩
      · cases h2
      · exact one _ _ cap he hk
  simp only [opx] at hk
  split at hk
  · rename_i z r hg
    rw [hg] at hv
    exact data z r hv.toD hk
  · rename_i z r hg
    rw [hg] at hv
    obtain ⟨ad, m, he, hD⟩ := hv.cll
    exact data z r (he ▸ hD) hk
  · rename_i id hg
    rw [hg] at hv
    rw [get?_eq] at hk
    split at hk
    · rename_i z r hcs
      obtain ⟨ad, c, he, _, hρ⟩ := own_val hC hv hcs
      cases r with
      | nil => exact both ad _ c he hk
      | cons r0 rs =>
        rcases hC.ok.hr.rep id _ _ hρ hcs with ⟨_, h2⟩ | ⟨b, cap, arr, ty', hb, _⟩
        · cases h2
        · rw [hb] at he
          exact one _ _ cap he hk
    · exact hk.elim
  · exact hk.elim
theorem op_ns (hC : Conc E n G ρ t h a w) (hn : Nxt E n a o K nxt) {ty e : TypeId} {zs : List V} (ho : o.op = .buildSlice ty 0 #[]) (hu : P.underlying ty = some (.slice e)) (hz : zer P e = some zs) (hk : opx S ow (.ns (P.cellsOf e)) t h K KP) : o.wp P a w nxt Q := by
  obtain ⟨i, z, hi, _⟩ := zer_ok (G := G) (w := w) (ρ := ρ) hz
  simp only [opx, fl_eq, fnat_eq] at hk
  have hC2 := hC.push (Grw.alloc w (.cells #[] e)) (.slice (some ⟨w.heap.size, 0, none⟩) 0 0) (.rows (P.cellsOf e) []) (by intro b hb; simp only [blk, Option.some.injEq] at hb; omega)
    (.inr ⟨w.heap.size, 0, #[], e, rfl, heap_alloc_new w _, Nat.le_refl _, by simp, by simp, by simp⟩)
  refine wp_val (v' := .slice (some ⟨w.heap.size, 0, none⟩) 0 0) ?_ (hn _ _ _ _ _ _ _ hC2 (.k (.os h.length _ 0 0 (by rw [← hC.ok.hr.len]; simp))) hk)
  have hrun : (Instr.buildSlice ty 0 #[]).run P w = .ok (.slice (some ⟨w.heap.size, 0, none⟩) 0 0) (w.alloc (.cells #[] e)) := by
    simp [Instr.buildSlice, Instr.fill, run_underlying hu, sizeOf, typeInfo, hi, newRow]
    congr 2
    exact Array.eq_empty_of_size_eq_zero (by simp)
  simp only [execOp, ho]
  exact run_execv (by simpa using hrun)
theorem op_ix (hC : Conc E n G ρ t h a w) (hn : Nxt E n a o K nxt) {ty t1 t2 : TypeId} {x i : Operand} {ox oi : O} (ho : o.op = .index ty x i) (hu : P.underlying ty = some .string) (hx : opd P t1 x = some ox) (hi : opd P t2 i = some oi)
    (hk : opx S ow (.ix ox oi) t h K KP) : o.wp P a w nxt Q := by
  have hvx := opd_ok hC hx
  have hvi := opd_ok hC hi
  simp only [opx] at hk
  split at hk
  · rename_i s k m hgx hgi
    rw [hgx] at hvx
    rw [hgi] at hvi
    obtain ⟨sv, e1, rfl, _⟩ := hvx.str
    have e2 := hvi.int
    obtain ⟨b, ⟨h1, h2⟩, hk⟩ := hk
    have hb : sv[m.toNat]? = some b := by
      rw [Array.getElem?_toList] at h2
      exact h2
    refine wp_quiet hC hn (v' := .int .u8 b.toNat) ?_ (.d (.int _ _)) hk
    simp [execOp, ho, e1, e2, Instr.index, asIntOf, run_underlying hu, h1, hb]
  · exact hk.elim
theorem Rep2.ovl {v : Value} {id z i : Nat} (h : Rep2 G w ρ v (.ov id z i)) : ∃ a n c, ρ[id]? = some (.slice a n c) ∧ v = sliced a i n c z := by
  cases h with | o h => cases h with | c h => cases h with | k h => cases h with | ov _ _ _ _ a n c h1 h2 => exact ⟨a, n, c, h1, h2⟩
theorem mapM_get0 {α β : Type} {f : α → Option β} : ∀ {l : List α} {r : List β}, l.mapM f = some r → r.length = l.length ∧ ∀ (k : Nat) (x : α) (y : β), l[k]? = some x → r[k]? = some y → f x = some y := by
  intro l
  induction l with
  | nil => intro r h; simp at h; subst h; simp
  | cons x l ih =>
    intro r h
    simp only [List.mapM_cons, Option.bind_eq_bind, Option.bind_eq_some_iff, Option.pure_def, Option.some.injEq] at h
    obtain ⟨y, hy, ys, hys, rfl⟩ := h
    obtain ⟨h1, h2⟩ := ih hys
    refine ⟨by simp [h1], fun k x' y' hx hy' => ?_⟩
    cases k with
    | zero => simp at hx hy'; subst hx hy'; exact hy
    | succ k => exact h2 k x' y' (by simpa using hx) (by simpa using hy')
theorem dof_ok {v : Value} {x : V} {d : D} (hv : RepK G w ρ v x) (hd : dof x = some d) : RepD G w v d := by
  cases hv <;> simp only [dof, reduceCtorEq, Option.some.injEq] at hd
  · subst hd; assumption
  · subst hd; exact .slz _
theorem op_clr (hC : Conc E n G ρ t h a w) (hn : Nxt E n a o K nxt) {ty e t1 : TypeId} {zs : List V} {ds : List D} {x : Operand} {ox : O} (ho : o.op = .call { callee := .builtin .clear, args := #[x], argTypes := #[ty] }) (hu : P.underlying ty = some (.slice e)) (hz : zer P e = some zs)
    (hd : zs.mapM dof = some ds) (hzl : zs.length = P.cellsOf e) (hz0 : P.cellsOf e ≠ 0) (hx : opd P t1 x = some ox) (hk : opx S ow (.clr ox ds (P.cellsOf e)) t h K KP) : o.wp P a w nxt Q := by
  have hv := opd_ok hC hx
  obtain ⟨it, z, hi, hz1, hzs, hst, hzr⟩ := zer_ok (G := G) (w := w) (ρ := ρ) hz
  obtain ⟨hdl, hdg⟩ := mapM_get0 hd
  have hci : P.cellsOf e = it.size := by simp [Program.cellsOf, hi]
  generalize hzz : P.cellsOf e = zz at *
  simp only [opx] at hk
  split at hk
  · rename_i id z' i hg
    rw [hg] at hv
    rw [get?_eq] at hk
    split at hk
    · rename_i z'' r hcs
      obtain ⟨⟨k1, k2, k3⟩, hk⟩ := hk
      obtain rfl := nbq k1
      obtain rfl := nbq k2
      have k3 := Nat.le_of_ble_eq_true k3
      rw [fl_eq] at hk
      obtain ⟨ad, m, c, hρ, hval⟩ := hv.ovl
      have hrep := hC.ok.hr.rep id _ _ hρ hcs
      have hlc : m = r.length ∧ m ≤ c := by
        rcases hrep with ⟨he, rfl⟩ | ⟨b, cap, arr, ty, he, h1, h2, _⟩
        · simp only [Value.slice.injEq] at he
          obtain ⟨rfl, rfl, rfl⟩ := he
          simp
        · simp only [Value.slice.injEq] at he
          obtain ⟨rfl, rfl, rfl⟩ := he
          exact ⟨rfl, h2⟩
      obtain ⟨rfl, hmc⟩ := hlc
      have runs : ∀ (v : Value) (w' : World), a.eval x = v → (Builtin.clear_ #[ty] o.type #[v]).run P w = .ok (.tuple #[]) w' → (execOp a.eval o).run P w = .ok (.value (.tuple #[])) w' := by
        intro v w' he hr
        simp [execOp, ho, resolve, invoke, builtin, he, hr]
      by_cases hil : i = r.length
      · have hsame : h.set id (.rows z'' (r.take i ++ List.replicate (r.length - i) ds)) = h := by
          rw [hil, List.take_length, Nat.sub_self, List.replicate_zero, List.append_nil]
          exact set_self hcs
        rw [hsame] at hk
        refine wp_val (runs _ w hval ?_) (hn _ _ _ _ _ _ _ hC (.tu #[] [] rfl (by simp)) hk)
        subst hil
        simp only [sliced, Nat.sub_self]
        cases (if c = r.length then ad else ad.map (·.add (r.length * z''))) <;> simp [Builtin.clear_, run_underlying hu]
      · have hil : i < r.length := by omega
        rcases hrep with ⟨_, rfl⟩ | ⟨b, cap, arr, ty', he, h1, h2, h3, h4, h5⟩
        · simp at hil
        simp only [Value.slice.injEq] at he
        obtain ⟨rfl, _, rfl⟩ := he
        have hv2 : a.eval x = .slice (some ⟨b, i * z'', none⟩) (r.length - i) (c - i) := by
          rw [hval]
          simp [sliced, show ¬ c = i by omega, add_off]
        have hz'' : it.size = z'' := hci.symm
        have hzc : z.cells.size = z'' := by rw [hzs, hzl]
        have hzpos : 0 < z'' := by omega
        have hmul : (r.length - i) * z'' + i * z'' = r.length * z'' := by rw [← Nat.add_mul]; congr 1; omega
        have hle : r.length * z'' ≤ c * z'' := Nat.mul_le_mul_right _ h2
        have hnl : (Builtin.zeroCells z.cells (r.length - i)).toList.length = (r.length - i) * z'' := by simp [Builtin.zeroCells, hzc]
        have hng : ∀ k, k < (r.length - i) * z'' → (Builtin.zeroCells z.cells (r.length - i)).toList[k]? = some (z.cells.getD (k % z'') undef) := by
          intro k hk
          have hml : k % z'' < z.cells.size := by rw [hzc]; exact Nat.mod_lt _ hzpos
          simp only [Builtin.zeroCells, Array.getElem?_toList, Array.getElem?_map, hzc, Array.getElem?_range, hk, if_true, Option.map_some, Option.some.injEq]
          rw [getElem!_pos z.cells _ hml, Array.getD_eq_getD_getElem?, Array.getElem?_eq_getElem hml]
          rfl
        have hzj : ∀ j, j < z'' → ∃ x, zs[j]? = some x ∧ RepK G w ρ (z.cells.getD j undef) x := fun j hj => by
          have hjl : j < zs.length := by rw [hzl]; exact hj
          exact ⟨zs[j], List.getElem?_eq_getElem hjl, (hzr j _ (List.getElem?_eq_getElem hjl)).1⟩
        have hone : ∀ u ∈ (Builtin.zeroCells z.cells (r.length - i)).toList, u.oneCell' = true := by
          intro u hu
          obtain ⟨k, hk⟩ := List.mem_iff_getElem?.1 hu
          have hkl : k < (r.length - i) * z'' := by rw [← hnl]; exact (List.getElem?_eq_some_iff.1 hk).1
          rw [hng k hkl] at hk
          cases hk
          obtain ⟨y, hy, hr⟩ := hzj (k % z'') (Nat.mod_lt _ hzpos)
          exact one_ok (.k hr) (List.all_eq_true.1 hst y (List.mem_of_getElem? hy))
        have hrun := run_storeCells_at (P := P) b (i * z'') ty' (Builtin.zeroCells z.cells (r.length - i)).toList 0 arr w h1 (by rw [hnl]; omega) hone
        rw [Nat.add_zero, hnl] at hrun
        have hC' := hC.upd1 (w' := w.setRow b (arr.toList.take (i * z'') ++ (Builtin.zeroCells z.cells (r.length - i)).toList ++ arr.toList.drop (i * z'' + (r.length - i) * z'')).toArray) (x1 := .rows z'' (r.take i ++ List.replicate (r.length - i) ds)) hρ hcs (by simp) (by simp)
          (fun c hc => setRow_other w b c _ (by simp only [blk, ne_eq, Option.some.injEq] at hc; omega)) rfl rfl rfl
          (.inr ⟨b, c, _, ty', by simp; omega, setRow_heap w b arr _ ty' _ h1, by simp; omega, h3, by
            simp only [List.size_toArray, List.length_append, List.length_take, List.length_drop, Array.length_toList, hnl]; omega, fun i' row hi' => by
            have hs' : ∀ c, G c → (w.setRow b (arr.toList.take (i * z'') ++ (Builtin.zeroCells z.cells (r.length - i)).toList ++ arr.toList.drop (i * z'' + (r.length - i) * z'')).toArray).heap[c]? = w.heap[c]? := fun c hc => setRow_other w b c _ (fun e => by
              subst e; exact hC.ok.hr.gd c hc ⟨id, _, _, hρ, hcs, by simp, rfl⟩)
            have hgetr := fun k => row_get (arr := arr) (off := i * z'') hnl (by omega) k
            by_cases hii : i' < i
            · rw [List.getElem?_append_left (by simp; omega), List.getElem?_take, if_pos hii] at hi'
              obtain ⟨g1, g2⟩ := h5 i' row hi'
              refine ⟨g1, fun j x hj => ?_⟩
              have hjl : j < z'' := by rw [← g1]; exact (List.getElem?_eq_some_iff.1 hj).1
              have : i' * z'' + z'' ≤ i * z'' := by
                have := Nat.mul_le_mul_right z'' (show i' + 1 ≤ i by omega)
                rwa [Nat.add_mul, Nat.one_mul] at this
              rw [hgetr, if_neg (by omega)]
              exact (g2 j x hj).mono (fun _ h => h) hs'
            · rw [List.getElem?_append_right (by simp; omega)] at hi'
              have hmin : (r.take i).length = i := by simp; omega
              rw [hmin, List.getElem?_replicate] at hi'
              split at hi'
              · rename_i hlt
                cases hi'
                refine ⟨by rw [hdl, hzl], fun j x hj => ?_⟩
                have hjl : j < z'' := by rw [← hzl, ← hdl]; exact (List.getElem?_eq_some_iff.1 hj).1
                have hi1 : i' * z'' = i * z'' + (i' - i) * z'' := by rw [← Nat.add_mul]; congr 1; omega
                have hi2 : (i' - i) * z'' + z'' ≤ (r.length - i) * z'' := by
                  have := Nat.mul_le_mul_right z'' (show (i' - i) + 1 ≤ r.length - i by omega)
                  rwa [Nat.add_mul, Nat.one_mul] at this
                rw [hgetr, if_pos ⟨by omega, by omega⟩]
                have hk : i' * z'' + j - i * z'' = j + (i' - i) * z'' := by omega
                rw [hk, List.getD_eq_getElem?_getD, hng _ (by omega), Nat.add_mul_mod_self_right, Nat.mod_eq_of_lt hjl]
                obtain ⟨y, hy, hr⟩ := hzj j hjl
                exact (dof_ok hr (hdg j y x hy hj)).mono (fun _ h => h) hs'
              · cases hi'⟩)
        refine wp_val (runs _ _ hv2 ?_) (hn _ _ _ _ _ _ _ hC' (.tu #[] [] rfl (by simp)) hk)
        have hn0 : ¬ (r.length - i = 0) := by omega
        obtain ⟨k, hk⟩ := Nat.exists_eq_succ_of_ne_zero hn0
        rw [hk] at hrun ⊢
        simp [Builtin.clear_, run_underlying hu, zeroValue, typeInfo, hi, hz1, hrun]
    · exact hk.elim
  · exact hk.elim
end
end Go.Vx
namespace Go.Vx
open Go.MapKept
section
variable {P : Program} {E : Ent} {n : Nat} {G : Nat → Prop} {ρ : List Value} {t : T} {h : H} {a : Act} {w : World} {o : Oper} {nxt : Act → World → Prop} {Q : Exit → Act → World → Prop} {K KP : V → T → H → Prop}
variable (S : Nat → List V → H → (Out → H → Prop) → Prop) (ow : Nat → Bool)
theorem nm_val {v : Value} (h : RepD G w v .nm) : v = .map none := by cases h; rfl
theorem kn_inj {j k : IntKind} (h : Nat.beq (kn j) (kn k) = true) : j = k := by revert h; cases j <;> cases k <;> simp [kn]
theorem keyb_shape {ks : List Nat} {x : V} (h : keyb ks x = true) : (∃ j k n, ks = [0, j] ∧ x = .d (.int k n) ∧ Nat.beq (kn k) j = true) ∨ (∃ b, ks = [1] ∧ x = .d (.bool b)) ∨ (∃ s, ks = [2] ∧ x = .d (.str s)) := by
  unfold keyb at h
  split at h
  · exact .inl ⟨_, _, _, rfl, rfl, h⟩
  · exact .inr (.inl ⟨_, rfl, rfl⟩)
  · exact .inr (.inr ⟨_, rfl, rfl⟩)
  · cases h
theorem kys_desc {kt : TypeId} {ks : List Nat} (hks : kys P kt = some ks) : (∃ k, P.underlying kt = some (.int k) ∧ ks = [0, kn k]) ∨ (P.underlying kt = some .bool ∧ ks = [1]) ∨ (P.underlying kt = some .string ∧ ks = [2]) := by
  unfold kys at hks
  split at hks
  · cases hks; exact .inl ⟨_, ‹_›, rfl⟩
  · cases hks; exact .inr (.inl ⟨‹_›, rfl⟩)
  · cases hks; exact .inr (.inr ⟨‹_›, rfl⟩)
  · cases hks
theorem key_is {kt : TypeId} {ks : List Nat} (hks : kys P kt = some ks) {v : Value} {x : V} (hb : keyb ks x = true) (hv : Rep2 G w ρ v x) : ∃ d, P.underlying kt = some d ∧ IsKey d v := by
  rcases kys_desc hks with ⟨k, hd, rfl⟩ | ⟨hd, rfl⟩ | ⟨hd, rfl⟩ <;> refine ⟨_, hd, ?_⟩ <;> rcases keyb_shape hb with ⟨j, k', n, e, rfl, hj⟩ | ⟨b, e, rfl⟩ | ⟨s, e, rfl⟩ <;> simp at e <;> try (cases e; done)
  · subst e
    rw [hv.int]
    exact kn_inj hj
  · rw [hv.bool]; trivial
  · obtain ⟨sv, rfl, _⟩ := hv.str; trivial
theorem keq {kt : TypeId} {ks : List Nat} {d : TypeDesc} (hks : kys P kt = some ks) (hd : P.underlying kt = some d) {v u : Value} {x y : V} {b : Bool} (hx : keyb ks x = true) (hy : keyb ks y = true) (hv : Rep2 G w ρ v x) (hu : Rep2 G w ρ u y)
    (he : eqb (ks.take 1) x.cs y.cs = some b) : Instr.sameNow d v u = some b ∧ (b = true → v = u) := by
  rcases keyb_shape hx with ⟨j, k, m, rfl, rfl, hj⟩ | ⟨b1, rfl, rfl⟩ | ⟨s1, rfl, rfl⟩ <;> rcases keyb_shape hy with ⟨j', k', m', e, rfl, hj'⟩ | ⟨b2, e, rfl⟩ | ⟨s2, e, rfl⟩ <;> simp at e <;> try (cases e; done)
  · subst e
    rcases kys_desc hks with ⟨kk, hd', e⟩ | ⟨_, e⟩ | ⟨_, e⟩ <;> simp at e
    rw [hd] at hd'
    cases hd'
    subst e
    obtain rfl := kn_inj hj
    obtain rfl := kn_inj hj'
    rw [hv.int, hu.int]
    have hkk : ∀ q : IntKind, Nat.beq (kn q) (kn q) = true := fun q => by cases q <;> rfl
    simp only [V.cs, List.take_succ_cons, List.take_zero, eqb, eq1, hkk, cond_true, Bool.and_true, Option.some.injEq] at he
    subst he
    simp [Instr.sameNow]
  · rcases kys_desc hks with ⟨kk, hd', e⟩ | ⟨hd', e⟩ | ⟨_, e⟩ <;> simp at e
    rw [hd] at hd'
    cases hd'
    rw [hv.bool, hu.bool]
    simp only [V.cs, List.take_succ_cons, List.take_zero, eqb, eq1, Bool.and_true, Option.some.injEq] at he
    subst he
    simp [Instr.sameNow]
  · rcases kys_desc hks with ⟨kk, hd', e⟩ | ⟨hd', e⟩ | ⟨hd', e⟩ <;> simp at e
    rw [hd] at hd'
    cases hd'
    obtain ⟨v1, rfl, rfl, _⟩ := hv.str
    obtain ⟨u1, rfl, rfl, _⟩ := hu.str
    simp only [V.cs, List.take_succ_cons, List.take_zero, eqb, eq1, Bool.and_true, Option.some.injEq] at he
    subst he
    have e1 : (v1 == u1) = (v1.data.toList == u1.data.toList) := by
      rw [Bool.eq_iff_iff, bytes_beq, beq_iff_eq]
      constructor
      · rintro rfl; rfl
      · intro h
        obtain ⟨⟨l⟩⟩ := v1
        obtain ⟨⟨l'⟩⟩ := u1
        simp only at h
        rw [h]
    refine ⟨by simp only [Instr.sameNow, e1], fun h => ?_⟩
    rw [← e1, bytes_beq] at h
    rw [h]
theorem fnd_ok {kt : TypeId} {ks : List Nat} {d : TypeDesc} (hks : kys P kt = some ks) (hd : P.underlying kt = some d) {k : Value} {kx : V} (hk : Rep2 G w ρ k kx) (hkb : keyb ks kx = true) :
    ∀ (es : List (V × V)) (l : List MapEntry) (i : Nat) (r : Option (Nat × V)), l.length = es.length → (∀ (j : Nat) (e : MapEntry) (x : V × V), l[j]? = some e → es[j]? = some x → Rep1 G w ρ e.key x.1 ∧ Rep1 G w ρ e.val x.2) → fnd ks kx.cs es i = some r →
      match r with
      | none => Instr.findNow d k l i = some none
      | some (j, y) => ∃ m e x, j = i + m ∧ l[m]? = some e ∧ es[m]? = some x ∧ x.2 = y ∧ e.key = k ∧ Instr.findNow d k l i = some (some (j, e.val)) := by
  intro es
  induction es with
  | nil =>
    intro l i r hl _ hf
    cases l with
    | cons _ _ => simp at hl
    | nil => cases hf; rfl
  | cons x es ih =>
    intro l i r hl hr hf
    cases l with
    | nil => simp at hl
    | cons e l =>
      have h0 := hr 0 e x rfl rfl
      simp only [fnd] at hf
      cases hkx : keyb ks x.1 <;> rw [hkx] at hf
      · cases hf
      simp only [cond_true] at hf
      split at hf
      · rename_i b hb
        obtain ⟨g1, g2⟩ := keq hks hd hkb hkx hk (.o h0.1) hb
        cases b
        · simp only [cond_false] at hf
          have := ih l (i + 1) r (by simpa using hl) (fun j e' x' he hx => hr (j + 1) e' x' (by simpa using he) (by simpa using hx)) hf
          cases r with
          | none => simp only at this ⊢; simp only [Instr.findNow, g1, this]
          | some p =>
            obtain ⟨p1, p2⟩ := p
            obtain ⟨m, e', x', hp, h1, h2, h3, h4, h5⟩ := this
            exact ⟨m + 1, e', x', by omega, by simpa using h1, by simpa using h2, h3, h4, by simp only [Instr.findNow, g1, h5]⟩
        · simp only [cond_true, Option.some.injEq] at hf
          subst hf
          exact ⟨0, e, x, rfl, rfl, rfl, rfl, (g2 rfl).symm, by simp only [Instr.findNow, g1]⟩
      · cases hf
theorem mp_val (hC : Conc E n G ρ t h a w) {v : Value} {id : Nat} {es : List (V × V)} (hv : Rep2 G w ρ v (.mp id)) (hx : h[id]? = some (.mp es)) :
    ∃ r arr clk, v = .map (some r) ∧ ρ[id]? = some (.map (some r)) ∧ w.heap[r]? = some (.map arr clk) ∧ arr.size = es.length ∧ ord arr clk ∧ ∀ (i : Nat) (e : MapEntry) (x : V × V), arr[i]? = some e → es[i]? = some x → Rep1 G w ρ e.key x.1 ∧ Rep1 G w ρ e.val x.2 := by
  cases hv with | o hv => cases hv with | c hv => cases hv with | k hv => cases hv with | mp _ r hρ =>
  obtain ⟨r', arr, clk, e, h1, h2, h3, h4⟩ := hC.ok.hr.rep id _ _ hρ hx
  cases e
  exact ⟨r, arr, clk, rfl, hρ, h1, h2, h3, h4⟩
theorem dm_val (hC : Conc E n G ρ t h a w) {v : Value} {id : Nat} {es : List (D × Bool × List D)} (hv : Rep2 G w ρ v (.mp id)) (hx : h[id]? = some (.dm es)) :
    ∃ r arr clk, v = .map (some r) ∧ ρ[id]? = some (.map (some r)) ∧ w.heap[r]? = some (.map arr clk) ∧ arr.size = (mpOf es).length ∧ ord arr clk ∧ ∀ (i : Nat) (e : MapEntry) (x : V × V), arr[i]? = some e → (mpOf es)[i]? = some x → Rep1 G w ρ e.key x.1 ∧ Rep1 G w ρ e.val x.2 := by
  cases hv with | o hv => cases hv with | c hv => cases hv with | k hv => cases hv with | mp _ r hρ =>
  obtain ⟨r', arr, clk, e, h1, h2, h3, h4⟩ := hC.ok.hr.rep id _ _ hρ hx
  cases e
  exact ⟨r, arr, clk, rfl, hρ, h1, h2, h3, h4⟩
theorem zval_ok {ty : TypeId} {zv : V} (hz : zval P ty = some zv) : ∃ z, (zeroValue ty).run P w = .ok z w ∧ Rep1 G w ρ z zv ∧ id1 zv = [] := by
  simp only [zval, Option.bind_eq_bind, Option.bind_eq_some_iff] at hz
  obtain ⟨zs, hzs, i, hi, z, hz0, hm⟩ := hz
  obtain ⟨i', z', hi', hz', h1, hstor, h3⟩ := zer_ok (G := G) (w := w) (ρ := ρ) hzs
  rw [hi] at hi'; cases hi'
  rw [hz0] at hz'; cases hz'
  refine ⟨z, by simp [zeroValue, typeInfo, hi, hz0], ?_⟩
  have hid : ∀ (v : V), idc v = [] → (∀ f c, v ≠ .fc f c) → id0 v = [] := fun v hv hf => by cases v <;> first | exact hv | exact absurd rfl (hf _ _)
  have hnf : ∀ {v : Value} {x : V}, RepK G w ρ v x → ∀ f c, x ≠ .fc f c := by
    intro v x hx f c e; subst e; cases hx
  have hna : ∀ {v : Value} {x : V}, RepK G w ρ v x → ∀ c, x ≠ .ag c := by
    intro v x hx c e; subst e; cases hx
  clear hstor
  split at hm
  · cases hm
    refine ⟨.ag _ _ (by simpa [Value.cells] using h1) (fun j x hx => .k (by simpa [Value.cells] using (h3 j x hx).1)), ?_⟩
    simp only [id1, List.flatMap_eq_nil_iff]
    intro x hx
    obtain ⟨j, hj⟩ := List.mem_iff_getElem?.1 hx
    exact hid x (h3 j x hj).2 (hnf (h3 j x hj).1)
  · rename_i x hna'
    cases hm
    have hx := h3 0 _ rfl
    have hc : z.cells = #[z] := by
      cases z <;> first | rfl | exact absurd rfl (hna' _)
    rw [hc] at hx
    refine ⟨.c (.k hx.1), ?_⟩
    have h0 := hid _ hx.2 (hnf hx.1)
    have h1 := hna hx.1
    cases zv <;> first | exact h0 | exact absurd rfl (h1 _)
  · cases hm
theorem rep1_of {v : Value} {x : V} (hv : Rep2 G w ρ v x) (hs : stom x = true) : Rep1 G w ρ v x := by
  cases hv with
  | o h => exact h
  | tu => cases hs
theorem rep1_key {ks : List Nat} {v : Value} {x : V} (hv : Rep2 G w ρ v x) (hs : keyb ks x = true) : Rep1 G w ρ v x := by
  rcases keyb_shape hs with ⟨_, _, _, _, rfl, _⟩ | ⟨_, _, rfl⟩ | ⟨_, _, rfl⟩ <;> exact .c (.k (.d hv.toD))
theorem op_mm (hC : Conc E n G ρ t h a w) (hn : Nxt E n a o K nxt) {ty : TypeId} {pl : Bool} (ho : o.op = .makeMap ty none) (hk : opx S ow (.mm pl) t h K KP) : o.wp P a w nxt Q := by
  simp only [opx, fl_eq, fnat_eq] at hk
  have hC2 := hC.push (Grw.alloc w (.map #[] 0)) (.map (some w.heap.size)) (mmB pl) (by intro b hb; simp only [blk, Option.some.injEq] at hb; omega) (by
    have h0 : RepM G (w.alloc (.map #[] 0)) (ρ ++ [.map (some w.heap.size)]) (.map (some w.heap.size)) [] := ⟨w.heap.size, #[], 0, rfl, heap_alloc_new w _, rfl, ⟨by simp, by simp⟩, by simp⟩
    cases pl <;> exact h0)
  refine wp_val (v' := .map (some w.heap.size)) ?_ (hn _ _ _ _ _ _ _ hC2 (.k (.mp h.length _ (by rw [← hC.ok.hr.len]; simp))) hk)
  simp only [execOp, ho]
  exact run_execv (by simp [Instr.makeMap])
theorem op_ml (hC : Conc E n G ρ t h a w) (hn : Nxt E n a o K nxt) {ty kt e t1 t2 : TypeId} {x k : Operand} {ox ok' : O} {ks : List Nat} {zv : V} {ok : Bool} (ho : o.op = .lookup ty x k ok) (hu : P.underlying ty = some (.map kt e)) (hx : opd P t1 x = some ox) (hkk : opd P t2 k = some ok')
    (hks : kys P kt = some ks) (hz : zval P e = some zv) (hk : opx S ow (.ml ox ok' ks zv ok) t h K KP) : o.wp P a w nxt Q := by
  have hvx := opd_ok hC hx
  have hvk := opd_ok hC hkk
  obtain ⟨z, hz1, hz2, _⟩ := zval_ok (P := P) (G := G) (w := w) (ρ := ρ) hz
  have tup : ∀ (v : Value) (y : V) (b : Bool), Rep1 G w ρ v y → Rep2 G w ρ (if ok then .tuple #[v, .bool b] else v) (bif ok then .tu [y, .d (.bool b)] else y) := by
    intro v y b hv
    cases ok
    · exact .o hv
    · refine .tu #[v, .bool b] _ rfl (fun i x hx => ?_)
      match i, hx with
      | 0, hx => cases hx; exact hv
      | 1, hx => cases hx; exact .c (.k (.d (.bool b)))
  have key : ∀ (id : Nat) (es : List (V × V)), (∃ r arr clk, a.eval x = .map (some r) ∧ ρ[id]? = some (.map (some r)) ∧ w.heap[r]? = some (.map arr clk) ∧ arr.size = es.length ∧ ord arr clk ∧ ∀ (i : Nat) (e : MapEntry) (x : V × V), arr[i]? = some e → es[i]? = some x → Rep1 G w ρ e.key x.1 ∧ Rep1 G w ρ e.val x.2) →
      (keyb ks (gv t ok') = true ∧ ∃ r, fnd ks (gv t ok').cs es 0 = some r ∧ (match r with
        | some (_, v) => (stom v = true) ∧ K (bif ok then .tu [v, .d (.bool true)] else v) t h
        | none => K (bif ok then .tu [zv, .d (.bool false)] else zv) t h)) → o.wp P a w nxt Q := by
    intro id es hval hk
    obtain ⟨hkb, r, hf, hk⟩ := hk
    obtain ⟨m, arr, clk, he, hρ, hb, hsz, _, hr⟩ := hval
    obtain ⟨d, hd, hik⟩ := key_is hks hkb hvk
    have hf' := fnd_ok hks hd hvk hkb es arr.toList 0 r (by simpa using hsz) (fun j e x h1 h2 => hr j e x (by simpa using h1) h2) hf
    cases r with
    | none =>
      refine wp_quiet hC hn (v' := if ok then .tuple #[z, .bool false] else z) ?_ (tup z zv false hz2) hk
      simp only [execOp, ho]
      refine run_execv ?_
      simp [Instr.lookup, run_underlying hu, he, MapKept.run_getObj_map hb, MapKept.run_checkKey hd hik, MapKept.run_findKey hd hf', hz1]
    | some p =>
      obtain ⟨i, y⟩ := p
      obtain ⟨m', e', x', rfl, h1, h2, rfl, h4, h5⟩ := hf'
      have hv := (hr m' e' x' (by simpa using h1) h2).2
      refine wp_quiet hC hn (v' := if ok then .tuple #[e'.val, .bool true] else e'.val) ?_ (tup e'.val x'.2 true hv) hk.2
      simp only [execOp, ho]
      refine run_execv ?_
      simp [Instr.lookup, run_underlying hu, he, MapKept.run_getObj_map hb, MapKept.run_checkKey hd hik, MapKept.run_findKey hd h5]
  simp only [opx] at hk
  split at hk
  · rename_i id hg
    rw [hg] at hvx
    rw [get?_eq] at hk
    split at hk
    · rename_i es hes
      exact key id es (mp_val hC hvx hes) hk
    · rename_i es hes
      exact key id _ (dm_val hC hvx hes) hk
    · exact hk.elim
  · rename_i hg
    rw [hg] at hvx
    have he : a.eval x = .map none := nm_val hvx.toD
    obtain ⟨hkb, hk⟩ := hk
    obtain ⟨d, hd, hik⟩ := key_is hks hkb hvk
    refine wp_quiet hC hn (v' := if ok then .tuple #[z, .bool false] else z) ?_ (tup z zv false hz2) hk
    simp only [execOp, ho]
    refine run_execv ?_
    simp [Instr.lookup, run_underlying hu, he, MapKept.run_checkKey hd hik, MapKept.run_findKey (l := []) (a := none) hd rfl, hz1]
  · exact hk.elim
theorem modify_map {α β : Type} (g : α → β) (f : α → α) (hg : ∀ x, g (f x) = g x) : ∀ (l : List α) (i : Nat), (l.modify i f).map g = l.map g := by
  intro l
  induction l with
  | nil => intro i; cases i <;> rfl
  | cons x l ih =>
    intro i
    cases i with
    | zero => simp [hg]
    | succ i => simp [ih i]
theorem ord_modify {arr : Array MapEntry} {clk i : Nat} {f : MapEntry → MapEntry} (hf : ∀ e, (f e).born = e.born) (h : ord arr clk) : ord (arr.modify i f) clk := by
  have e : ((arr.modify i f).toList.map (·.born)) = arr.toList.map (·.born) := by
    rw [Array.toList_modify]
    exact modify_map _ _ hf _ _
  refine ⟨fun x hx => ?_, by rw [e]; exact h.2⟩
  have : x.born ∈ (arr.modify i f).toList.map (·.born) := List.mem_map.2 ⟨x, hx, rfl⟩
  rw [e] at this
  obtain ⟨y, hy, hxy⟩ := List.mem_map.1 this
  rw [← hxy]; exact h.1 y hy
theorem ord_push {arr : Array MapEntry} {clk : Nat} {e : MapEntry} (he : e.born = clk) (h : ord arr clk) : ord (arr.push e) (clk + 1) := by
  refine ⟨fun x hx => ?_, ?_⟩
  · rw [Array.toList_push] at hx
    rcases List.mem_append.1 hx with hx | hx
    · have := h.1 x hx; omega
    · simp at hx; subst hx; omega
  · rw [Array.toList_push, List.map_append, List.pairwise_append]
    refine ⟨h.2, by simp, fun x hx y hy => ?_⟩
    simp at hy
    subst hy
    obtain ⟨z, hz, rfl⟩ := List.mem_map.1 hx
    have := h.1 z hz; omega
theorem ord_erase {arr : Array MapEntry} {clk i : Nat} (h : ord arr clk) : ord (arr.eraseIdxIfInBounds i) clk := by
  have hs : (arr.eraseIdxIfInBounds i).toList.Sublist arr.toList := by
    unfold Array.eraseIdxIfInBounds
    split
    · simp only [Array.toList_eraseIdx]; exact List.eraseIdx_sublist _ _
    · exact List.Sublist.refl _
  exact ⟨fun x hx => h.1 x (hs.subset hx), h.2.sublist (hs.map _)⟩
theorem Conc.updm (hC : Conc E n G ρ t h a w) {id r : Nat} {x0 x1 : B} {es' : List (V × V)} {arr arr' : Array MapEntry} {clk clk' : Nat} (hρ : ρ[id]? = some (.map (some r))) (hx : h[id]? = some x0) (hn : x0 ≠ .no) (hx1 : ∀ (G : Nat → Prop) (w : World) (ρ : List Value) (hd : Value), RepM G w ρ hd es' → RepB G w ρ hd x1) (hb : w.heap[r]? = some (.map arr clk)) (hs : arr'.size = es'.length) (ho : ord arr' clk')
    (hr : ∀ (i : Nat) (e : MapEntry) (x : V × V), arr'[i]? = some e → es'[i]? = some x → Rep1 G w ρ e.key x.1 ∧ Rep1 G w ρ e.val x.2) :
    Conc E n G ρ t (h.set id x1) a { w with heap := w.heap.setIfInBounds r (.map arr' clk') } := by
  have hh := MapKept.heap_set (o' := .map arr' clk') hb
  have hG : ∀ b, G b → (w.heap.setIfInBounds r (.map arr' clk'))[b]? = w.heap[b]? := fun b hbG => hh.2 b (fun e => hC.ok.hr.gd b hbG ⟨id, _, _, hρ, hx, hn, by rw [e]; rfl⟩)
  refine hC.upd1 (w' := { w with heap := w.heap.setIfInBounds r (.map arr' clk') }) hρ hx hn (by simp) (fun b hbk => hh.2 b (fun e => hbk (by rw [e]; rfl))) rfl rfl rfl ?_
  exact hx1 _ _ _ _ ⟨r, arr', clk', rfl, hh.1, hs, ho, fun i e x h1 h2 => ⟨(hr i e x h1 h2).1.mono (fun _ h => h) hG (fun _ _ => rfl), (hr i e x h1 h2).2.mono (fun _ h => h) hG (fun _ _ => rfl)⟩⟩
theorem mu_go {G1 : Nat → Prop} {ρ1 : List Value} {t1 : T} {h1 : H} (hC : Conc E n G1 ρ1 t1 h1 a w) (hn : Nxt E n a o K nxt) {ty kt e : TypeId} {x k v : Operand} {ks : List Nat} {kx vx : V} {id : Nat} {es : List (V × V)} {x0 x1 : B} (ho : o.op = .mapUpdate ty x k v ∨ o.op = .insert ty x k v) (hu : P.underlying ty = some (.map kt e))
    (hks : kys P kt = some ks) (hvk : Rep2 G1 w ρ1 (a.eval k) kx) (hkb : keyb ks kx = true) (hvv1 : Rep1 G1 w ρ1 (a.eval v) vx) (hx : h1[id]? = some x0) (hn0 : x0 ≠ .no)
    (hval : ∃ r arr clk, a.eval x = .map (some r) ∧ ρ1[id]? = some (.map (some r)) ∧ w.heap[r]? = some (.map arr clk) ∧ arr.size = es.length ∧ ord arr clk ∧ ∀ (i : Nat) (e : MapEntry) (x : V × V), arr[i]? = some e → es[i]? = some x → Rep1 G1 w ρ1 e.key x.1 ∧ Rep1 G1 w ρ1 e.val x.2)
    {r : Option (Nat × V)} (hf : fnd ks kx.cs es 0 = some r) (hx1 : ∀ (G : Nat → Prop) (w : World) (ρ : List Value) (hd : Value), RepM G w ρ hd (match r with
      | some (i, _) => es.set i (kx, vx)
      | none => es ++ [(kx, vx)]) → RepB G w ρ hd x1) (hk : K .ud t1 (h1.set id x1)) : o.wp P a w nxt Q := by
  have hexec : ∀ w', (Instr.mapUpdate ty (a.eval x) (a.eval k) (a.eval v)).run P w = .ok () w' → (execOp a.eval o).run P w = .ok .skip w' := by
    intro w' hw
    rcases ho with ho | ho <;> simp [execOp, ho, hw]
  obtain ⟨m, arr, clk, he, hρ, hb, hsz, hor, hr⟩ := hval
  obtain ⟨d, hd, hik⟩ := key_is hks hkb hvk
  have hf' := fnd_ok hks hd hvk hkb es arr.toList 0 r (by simpa using hsz) (fun j e x h1 h2 => hr j e x (by simpa using h1) h2) hf
  have hvk1 := rep1_key hvk hkb
  cases r with
  | none =>
    have hC2 := hC.updm (es' := es ++ [(kx, vx)]) (arr' := arr.push { key := a.eval k, val := a.eval v, born := clk }) (clk' := clk + 1) hρ hx hn0 hx1 hb (by simp [hsz]) (ord_push rfl hor) (fun i e' x' h1 h2 => by
      rw [Array.getElem?_push] at h1
      split at h1
      · rename_i hi
        cases h1
        rw [hi, hsz] at h2
        simp at h2
        subst h2
        exact ⟨hvk1, hvv1⟩
      · have hi : i < arr.size := (Array.getElem?_eq_some_iff.1 h1).1
        rw [List.getElem?_append_left (by omega)] at h2
        exact hr i e' x' h1 h2)
    refine wp_unit (hexec _ ?_) (hn _ _ _ _ _ _ _ hC2 (.k .ud) hk)
    simp [Instr.mapUpdate, run_underlying hu, he, MapKept.run_getObj_map hb, MapKept.run_checkKey hd hik, MapKept.run_findKey hd hf', MapKept.run_setObj_map _ hb]
  | some p =>
    obtain ⟨i, y⟩ := p
    obtain ⟨m', e', x', rfl, h1, h2, rfl, h4, h5⟩ := hf'
    have h1' : arr[m']? = some e' := by simpa using h1
    have hm' : m' < arr.size := (Array.getElem?_eq_some_iff.1 h1').1
    have hC2 := hC.updm (es' := es.set (0 + m') (kx, vx)) (arr' := arr.modify (0 + m') fun e => { e with key := a.eval k, val := a.eval v }) (clk' := clk) hρ hx hn0 hx1 hb (by simp [hsz]) (ord_modify (fun _ => rfl) hor) (fun i e'' x'' h1 h2 => by
      rw [Nat.zero_add] at h1 h2
      rw [Array.getElem?_modify] at h1
      rw [List.getElem?_set] at h2
      split at h1
      · rename_i hi
        subst hi
        rw [if_pos rfl] at h2
        rw [h1'] at h1
        cases h1
        split at h2
        · cases h2
          exact ⟨hvk1, hvv1⟩
        · cases h2
      · rename_i hi
        rw [if_neg hi] at h2
        exact hr i e'' x'' h1 h2)
    refine wp_unit (hexec _ ?_) (hn _ _ _ _ _ _ _ hC2 (.k .ud) hk)
    have hae : (arr[0 + m']?.map (·.key)).getD (a.eval k) = a.eval k := by rw [Nat.zero_add, h1']; exact h4
    simp [Instr.mapUpdate, run_underlying hu, he, MapKept.run_getObj_map hb, MapKept.run_checkKey hd hik, MapKept.run_findKey hd h5]
    simp only [Nat.zero_add] at hae
    simp [hae, MapKept.run_keyThatStays hik, MapKept.run_setObj_map _ hb]
theorem rep_scal0 {v : Value} {x : V} (h : Rep2 G w ρ v x) (h1 : stor x = true) (h2 : capb x = true) : RepK G w ρ v x ∧ v.cells = #[v] := by
  cases h with
  | o h => cases h with
    | c h => cases h with
      | k h =>
        refine ⟨h, ?_⟩
        cases h with
        | un => cases h1
        | ud => cases h1
        | d h => exact h.cells
        | ov id z i v a n c _ h => subst h; unfold sliced; (repeat' split) <;> rfl
        | _ => rfl
      | fc => cases h2
    | ag => cases h1
  | tu => cases h1
theorem op_mu (hC : Conc E n G ρ t h a w) (hn : Nxt E n a o K nxt) {ty kt e t1 t2 t3 : TypeId} {x k v : Operand} {ox ok' ov : O} {ks : List Nat} (ho : o.op = .mapUpdate ty x k v ∨ o.op = .insert ty x k v) (hu : P.underlying ty = some (.map kt e)) (hx : opd P t1 x = some ox) (hkk : opd P t2 k = some ok') (hv : opd P t3 v = some ov)
    (hks : kys P kt = some ks) (hk : opx S ow (.mu ox ok' ov ks) t h K KP) : o.wp P a w nxt Q := by
  have hvx := opd_ok hC hx
  have hvk := opd_ok hC hkk
  have hvv := opd_ok hC hv
  simp only [opx, fl_eq] at hk
  split at hk
  · rename_i id hg
    rw [hg] at hvx
    rw [get?_eq] at hk
    split at hk
    · rename_i es hes
      obtain ⟨⟨hst, hkb⟩, r, hf, hk⟩ := hk
      cases r with
      | none => exact mu_go (x1 := .mp (es ++ [(gv t ok', gv t ov)])) hC hn ho hu hks hvk hkb (rep1_of hvv hst) hes (by simp) (mp_val hC hvx hes) hf (fun _ _ _ _ h => h) hk
      | some q => exact mu_go (x1 := .mp (es.set q.1 (gv t ok', gv t ov))) hC hn ho hu hks hvk hkb (rep1_of hvv hst) hes (by simp) (mp_val hC hvx hes) hf (fun _ _ _ _ h => h) hk
    · rename_i es0 hes
      split at hk
      · rename_i kd hgk
        obtain ⟨⟨hst, hkb⟩, hk⟩ := hk
        simp only [Bool.and_eq_true, Bool.or_eq_true] at hst
        obtain ⟨hst, hsc⟩ := hst
        obtain ⟨c1, c2⟩ := cells_ok hvv hst
        obtain ⟨G', t', h', ds, hC1, hG', hdl, hds, hk⟩ := frz_ok (gv t ov).cs G t h (fun i => (a.eval v).cells.getD i undef) hC c2 hk
        rw [get?_eq] at hk
        split at hk
        · rename_i es hes'
          obtain ⟨r, hf, hk⟩ := hk
          rw [hgk] at hvk
          have hvk' : Rep2 G' w ρ (a.eval k) (.d kd) := .d (hvk.toD.mono hG' (fun _ _ => rfl))
          have hvx' : Rep2 G' w ρ (a.eval x) (.mp id) := hvx.mono hG' (fun _ _ => rfl) (fun _ _ => rfl)
          have hvv1 : Rep1 G' w ρ (a.eval v) (toV ((gv t ov).isag, ds)) := by
            cases hag : (gv t ov).isag with
            | true =>
              cases hgv : gv t ov with
              | ag cs =>
                rw [hgv] at hvv
                obtain ⟨cs', h1, h2, h3⟩ := hvv.agl
                rw [h1] at hds ⊢
                refine .ag cs' _ (by rw [hgv] at hdl; simp [h2, hdl, V.cs]) (fun i y hy => ?_)
                rw [List.getElem?_map] at hy
                cases hd : ds[i]? with
                | none => rw [hd] at hy; cases hy
                | some d =>
                  rw [hd] at hy; cases hy
                  exact .k (.d (hds i d hd))
              | _ => rw [hgv] at hag; cases hag
            | false =>
              have hca : capb (gv t ov) = true := hsc.resolve_left (by rw [hag]; simp)
              have hcs : (gv t ov).cs = [gv t ov] := by cases hgv : gv t ov <;> rw [hgv] at hag <;> first | rfl | cases hag
              have hs1 : stor (gv t ov) = true := by rw [hcs] at hst; simpa using hst
              obtain ⟨_, hcell⟩ := rep_scal0 hvv hs1 hca
              rw [hcs] at hdl
              match ds, hdl with
              | [d], _ =>
                have := hds 0 d rfl
                rw [hcell] at this
                exact .c (.k (.d this))
          cases r with
          | none => exact mu_go (x1 := .dm (es ++ [(kd, (gv t ov).isag, ds)])) hC1 hn ho hu hks hvk' hkb hvv1 hes' (by simp) (dm_val hC1 hvx' hes') hf (fun G w ρ hd hM => by
              show RepM G w ρ hd (mpOf (es ++ [(kd, (gv t ov).isag, ds)]))
              have e : mpOf (es ++ [(kd, (gv t ov).isag, ds)]) = mpOf es ++ [(.d kd, toV ((gv t ov).isag, ds))] := by simp [mpOf]
              rw [e]
              exact hM) hk
          | some q => exact mu_go (x1 := .dm (es.set q.1 (kd, (gv t ov).isag, ds))) hC1 hn ho hu hks hvk' hkb hvv1 hes' (by simp) (dm_val hC1 hvx' hes') hf (fun G w ρ hd hM => by
              show RepM G w ρ hd (mpOf (es.set q.1 (kd, (gv t ov).isag, ds)))
              have e : mpOf (es.set q.1 (kd, (gv t ov).isag, ds)) = (mpOf es).set q.1 (.d kd, toV ((gv t ov).isag, ds)) := by simp [mpOf, List.map_set]
              rw [e]
              exact hM) hk
        · exact hk.elim
      · exact hk.elim
    · exact hk.elim
  · exact hk.elim
theorem erase_map {α β : Type} (f : α → β) : ∀ (l : List α) (i : Nat), (l.eraseIdx i).map f = (l.map f).eraseIdx i
  | [], _ => rfl
  | _ :: _, 0 => rfl
  | x :: l, i + 1 => by simp [erase_map f l i]
theorem op_md (hC : Conc E n G ρ t h a w) (hn : Nxt E n a o K nxt) {ty kt e ty2 t1 t2 : TypeId} {x k : Operand} {ox ok' : O} {ks : List Nat} (ho : o.op = .call { callee := .builtin .delete, args := #[x, k], argTypes := #[ty, ty2] }) (hu : P.underlying ty = some (.map kt e)) (hx : opd P t1 x = some ox) (hkk : opd P t2 k = some ok')
    (hks : kys P kt = some ks) (hk : opx S ow (.md ox ok' ks) t h K KP) : o.wp P a w nxt Q := by
  have hvx := opd_ok hC hx
  have hvk := opd_ok hC hkk
  have hexec : ∀ w', (Builtin.delete_ #[ty, ty2] o.type #[a.eval x, a.eval k]).run P w = .ok (.tuple #[]) w' → (execOp a.eval o).run P w = .ok (.value (.tuple #[])) w' := by
    intro w' hw
    simp [execOp, ho, resolve, invoke, builtin, hw]
  have key : ∀ (id : Nat) (x0 : B) (x1 : Nat → B) (es : List (V × V)), h[id]? = some x0 → x0 ≠ .no → (∀ (i : Nat) (G : Nat → Prop) (w : World) (ρ : List Value) (hd : Value), RepM G w ρ hd (es.eraseIdx i) → RepB G w ρ hd (x1 i)) → (∃ r arr clk, a.eval x = .map (some r) ∧ ρ[id]? = some (.map (some r)) ∧ w.heap[r]? = some (.map arr clk) ∧ arr.size = es.length ∧ ord arr clk ∧ ∀ (i : Nat) (e : MapEntry) (x : V × V), arr[i]? = some e → es[i]? = some x → Rep1 G w ρ e.key x.1 ∧ Rep1 G w ρ e.val x.2) →
      (keyb ks (gv t ok') = true ∧ ∃ r, fnd ks (gv t ok').cs es 0 = some r ∧ (match r with
        | some (i, _) => K (.tu []) t (h.set id (x1 i))
        | none => K (.tu []) t h)) → o.wp P a w nxt Q := by
    intro id x0 x1 es hes hn0 hx1 hval hk
    obtain ⟨hkb, r, hf, hk⟩ := hk
    obtain ⟨m, arr, clk, he, hρ, hb, hsz, hor, hr⟩ := hval
    obtain ⟨d, hd, hik⟩ := key_is hks hkb hvk
    have hf' := fnd_ok hks hd hvk hkb es arr.toList 0 r (by simpa using hsz) (fun j e x h1 h2 => hr j e x (by simpa using h1) h2) hf
    cases r with
    | none =>
      refine wp_quiet hC hn (v' := .tuple #[]) (hexec _ ?_) (.tu #[] [] rfl (by simp)) hk
      have hset : w.heap.setIfInBounds m (.map arr clk) = w.heap := by
        apply Array.ext
        · simp
        · intro i h1 h2
          rw [Array.getElem_setIfInBounds]
          split
          · rename_i hi
            subst hi
            have := (Array.getElem?_eq_some_iff.1 hb).2
            exact this.symm
          · rfl
      simp [Builtin.delete_, run_underlying hu, he, MapKept.run_getObj_map hb, MapKept.run_checkKey hd hik, MapKept.run_findKey hd hf', MapKept.run_setObj_map _ hb, hset]
    | some p =>
      obtain ⟨i, y⟩ := p
      obtain ⟨m', e', x', rfl, h1, h2, rfl, h4, h5⟩ := hf'
      have h1' : arr[m']? = some e' := by simpa using h1
      have hm' : m' < arr.size := (Array.getElem?_eq_some_iff.1 h1').1
      have hC2 := hC.updm (es' := es.eraseIdx (0 + m')) (arr' := arr.eraseIdxIfInBounds (0 + m')) (clk' := clk) hρ hes hn0 (hx1 _) hb (by
          rw [Nat.zero_add, Array.eraseIdxIfInBounds, dif_pos hm', List.length_eraseIdx]
          simp [← hsz, hm']) (ord_erase hor) (fun i e'' x'' h1 h2 => by
        rw [Nat.zero_add] at h1 h2
        rw [Array.eraseIdxIfInBounds, dif_pos hm', Array.getElem?_eraseIdx] at h1
        rw [List.getElem?_eraseIdx] at h2
        split at h1
        · rename_i hi
          rw [if_pos hi] at h2
          exact hr _ _ _ h1 h2
        · rename_i hi
          rw [if_neg hi] at h2
          exact hr _ _ _ h1 h2)
      refine wp_val (hexec _ ?_) (hn _ _ _ _ _ _ _ hC2 (.tu #[] [] rfl (by simp)) hk)
      simp [Builtin.delete_, run_underlying hu, he, MapKept.run_getObj_map hb, MapKept.run_checkKey hd hik, MapKept.run_findKey hd h5, MapKept.run_setObj_map _ hb]
  simp only [opx, fl_eq] at hk
  split at hk
  · rename_i id hg
    rw [hg] at hvx
    rw [get?_eq] at hk
    split at hk
    · rename_i es hes
      exact key id _ (fun i => .mp (es.eraseIdx i)) es hes (by simp) (fun _ _ _ _ _ h => h) (mp_val hC hvx hes) hk
    · rename_i es hes
      exact key id _ (fun i => .dm (es.eraseIdx i)) _ hes (by simp) (fun i G w ρ hd hM => by
        show RepM G w ρ hd (mpOf (es.eraseIdx i))
        have e : mpOf (es.eraseIdx i) = (mpOf es).eraseIdx i := erase_map _ es i
        rw [e]
        exact hM) (dm_val hC hvx hes) hk
    · exact hk.elim
  · exact hk.elim
theorem op_lm (hC : Conc E n G ρ t h a w) (hn : Nxt E n a o K nxt) {ty kt e t1 : TypeId} {x : Operand} {ox : O} (ho : o.op = .call { callee := .builtin .len, args := #[x], argTypes := #[ty] }) (hu : P.underlying ty = some (.map kt e)) (hx : opd P t1 x = some ox)
    (hk : opx S ow (.lm ox) t h K KP) : o.wp P a w nxt Q := by
  have hvx := opd_ok hC hx
  simp only [opx] at hk
  split at hk
  · rename_i id hg
    rw [hg] at hvx
    rw [get?_eq] at hk
    split at hk
    · rename_i es hes
      obtain ⟨m, arr, clk, he, hρ, hb, hsz, hor, hr⟩ := mp_val hC hvx hes
      refine wp_quiet hC hn (v' := .int .i64 es.length) ?_ (.d (.int _ _)) hk
      simp [execOp, ho, resolve, invoke, builtin, Builtin.len_, run_underlying hu, he, MapKept.run_getObj_map hb, goInt, hsz]
    · rename_i es hes
      obtain ⟨m, arr, clk, he, hρ, hb, hsz, hor, hr⟩ := dm_val hC hvx hes
      have hsz : arr.size = es.length := by rw [hsz]; simp [mpOf]
      refine wp_quiet hC hn (v' := .int .i64 es.length) ?_ (.d (.int _ _)) hk
      simp [execOp, ho, resolve, invoke, builtin, Builtin.len_, run_underlying hu, he, MapKept.run_getObj_map hb, goInt, hsz]
    · exact hk.elim
  · rename_i hg
    rw [hg] at hvx
    have he : a.eval x = .map none := nm_val hvx.toD
    refine wp_quiet hC hn (v' := .int .i64 0) ?_ (.d (.int _ _)) hk
    simp [execOp, ho, resolve, invoke, builtin, Builtin.len_, run_underlying hu, he, goInt]
  · exact hk.elim
theorem op_ja (hC : Conc E n G ρ t h a w) (hn : Nxt E n a o K nxt) {ty e t1 t2 : TypeId} {m : Nat} {x i : Operand} {ox oi : O} (ho : o.op = .indexAddr ty x i) (hu : P.underlying ty = some (.array m e)) (hc0 : P.cellsOf e ≠ 0) (hx : opd P t1 x = some ox) (hi : opd P t2 i = some oi)
    (hk : opx S ow (.ja ox oi (P.cellsOf e) m) t h K KP) : o.wp P a w nxt Q := by
  have hvx := opd_ok hC hx
  have hvi := opd_ok hC hi
  have hrun : ∀ (b off : Nat) (k : IntKind) (j : Int), a.eval x = .pointer (some ⟨b, off, none⟩) → a.eval i = .int k j → 0 ≤ j → j < m →
      (execOp a.eval o).run P w = .ok (.value (.pointer (some ⟨b, off + j.toNat * P.cellsOf e, none⟩))) w := by
    intro b off k j h1 h2 h3 h4
    unfold Program.cellsOf at hc0 ⊢
    cases hie : P.info? e with
    | none => rw [hie] at hc0; simp at hc0
    | some ie =>
      simp [execOp, ho, h1, h2, Instr.indexAt, asIntOf, run_underlying hu, h3, h4, sizeOf, typeInfo, hie, add_off, Instr.sureAddr]
  simp only [opx, fnat_eq] at hk
  split at hk
  · rename_i k j hgi
    rw [hgi] at hvi
    have hei := hvi.int
    split at hk
    · rename_i row off hg
      rw [hg] at hvx
      obtain ⟨b, oo, U, hp, hGb, hU, hD⟩ := hvx.el
      obtain ⟨sub, ⟨h0, hs, hle⟩, hk⟩ := hk
      have hle := Nat.le_of_ble_eq_true hle
      have hj : j.toNat < m := by
        have := (List.getElem?_eq_some_iff.1 hs).1
        rwa [chunk_len] at this
      rw [chunk_get _ _ _ _ hj] at hs
      cases hs
      refine wp_quiet hC hn (hrun b (oo + off) k j hp hei h0 (by omega)) ?_ hk
      have hget : ∀ (q : Nat) (y : D), ((List.drop (j.toNat * P.cellsOf e) (List.drop off row)).take (P.cellsOf e))[q]? = some y → row[off + j.toNat * P.cellsOf e + q]? = some y := by
        intro q y hq
        rw [List.getElem?_take] at hq
        split at hq
        · rw [List.getElem?_drop, List.getElem?_drop] at hq
          rw [← hq]; congr 1; omega
        · cases hq
      have := RepK.e (ρ := ρ) b (oo + off + j.toNat * P.cellsOf e) 0 _ (fun q => U (off + j.toNat * P.cellsOf e + q)) hGb (fun q y hq => by
          have := hU _ _ (hget q y hq)
          rw [← this]; congr 2; omega) (fun q y hq => hD _ _ (hget q y hq))
      exact .k this
    · rename_i id off hg
      rw [hg] at hvx
      obtain ⟨b, hp, hρ⟩ := hvx.pt
      exact wp_quiet hC hn (hrun b off k j hp hei hk.1.1 hk.1.2) (.k (.p id _ b hρ)) hk.2
    · exact hk.elim
  · exact hk.elim
end
end Go.Vx
