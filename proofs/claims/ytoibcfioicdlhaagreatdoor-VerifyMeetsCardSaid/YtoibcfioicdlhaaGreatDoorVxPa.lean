/- More of the small operations in the picture: tests for nil, empty slices, what is cleared, bytes of texts. Conditions: none; lemmas on the definitions before. -/
import Derived.Test.YtoibcfioicdlhaaGreatDoorVxO
import Derived.Laws.CopyRow
namespace Go.Vx
section
variable {P : Program} {E : Ent} {n : Nat} {G : Nat → Prop} {ρ : List Value} {t : T} {h : H} {a : Act} {w : World} {o : Oper} {nxt : Act → World → Prop} {Q : Exit → Act → World → Prop} {K KP : V → T → H → Prop}
variable (S : Nat → List V → H → (Out → H → Prop) → Prop) (ow : Nat → Bool)

theorem op_nq (hC : Conc E n G ρ t h a w) (hn : Nxt E n a o K nxt) {ne : Bool} {ty e t1 t2 : TypeId} {x : Operand} {ox : O} (ho : o.op = .binOp (bif ne then .neq else .eql) ty x (.const (.slice none 0 0)) t2) (hu : P.underlying ty = some (.slice e)) (hx : opd P t1 x = some ox)
    (hk : opx S ow (.nq ne ox) t h K KP) : o.wp P a w nxt Q := by
  have hv := opd_ok hC hx
  have run : ∀ (ad : Option Addr) (m c : Nat), a.eval x = .slice ad m c → (execOp a.eval o).run P w = .ok (.value (.bool (bif ne then !ad.isNone else ad.isNone))) w := by
    intro ad m c he
    have e0 : a.eval (.const (.slice none 0 0)) = .slice none 0 0 := rfl
    have heq : ∀ k, (Op.equalIn (k + 1) ty (.slice ad m c) (.slice none 0 0)).run P w = .ok ad.isNone w := fun k => by
      cases ad <;> simp [Op.equalIn, run_underlying hu]
    have heq : (Op.equal ty (.slice ad m c) (.slice none 0 0)).run P w = .ok ad.isNone w := heq 9999
    cases ne <;> simp only [cond_true, cond_false] at ho ⊢ <;> simp only [execOp, ho, he, e0]
    · refine run_execv ?_
      simp [eqGuard, binOp, heq]
    · refine run_execv ?_
      simp [eqGuard, binOp, heq]
  have both : ∀ (ad : Option Addr) (m c : Nat), a.eval x = .slice ad m c → K (.d (.bool true)) t h ∧ K (.d (.bool false)) t h → o.wp P a w nxt Q := by
    intro ad m c he hk
    refine wp_quiet hC hn (v := .d (.bool (bif ne then !ad.isNone else ad.isNone))) (run ad m c he) (.d (.bool _)) ?_
    cases (bif ne then !ad.isNone else ad.isNone)
    · exact hk.2
    · exact hk.1
  have one : ∀ (ad : Addr) (m c : Nat), a.eval x = .slice (some ad) m c → K (.d (.bool ne)) t h → o.wp P a w nxt Q := by
    intro ad m c he hk
    have := run (some ad) m c he
    exact wp_quiet hC hn this (.d (.bool _)) (by cases ne <;> exact hk)
  have data : ∀ (z : Nat) (r : List (List D)), RepD G w (a.eval x) (.sl z r) → (match r with | [] => K (.d (.bool true)) t h ∧ K (.d (.bool false)) t h | _ :: _ => K (.d (.bool ne)) t h) → o.wp P a w nxt Q := by
    intro z r hD hk
    cases r with
    | nil =>
      obtain ⟨ad, c, he, _⟩ := hD.len
      exact both ad _ c he hk
    | cons r0 rs =>
      rcases hD.sll with ⟨_, h2⟩ | ⟨b, o, cap, U, he, _⟩
      · cases h2
      · exact one _ _ cap he hk
  simp only [opx] at hk
  split at hk
  · rename_i z r hg
    rw [hg] at hv
    exact data z r hv.toD hk
  · rename_i z r hg
    rw [hg] at hv
    obtain ⟨ad, m, he, hD⟩ := hv.cll
    exact data z r (he ▸ hD) hk
  · rename_i id hg
    rw [hg] at hv
    rw [get?_eq] at hk
    split at hk
    · rename_i z r hcs
      obtain ⟨ad, c, he, _, hρ⟩ := own_val hC hv hcs
      cases r with
      | nil => exact both ad _ c he hk
      | cons r0 rs =>
        rcases hC.ok.hr.rep id _ _ hρ hcs with ⟨_, h2⟩ | ⟨b, cap, arr, ty', hb, _⟩
        · cases h2
        · rw [hb] at he
          exact one _ _ cap he hk
    · exact hk.elim
  · exact hk.elim

theorem op_ns (hC : Conc E n G ρ t h a w) (hn : Nxt E n a o K nxt) {ty e : TypeId} {zs : List V} (ho : o.op = .buildSlice ty 0 #[]) (hu : P.underlying ty = some (.slice e)) (hz : zer P e = some zs) (hk : opx S ow (.ns (P.cellsOf e)) t h K KP) : o.wp P a w nxt Q := by
  obtain ⟨i, z, hi, _⟩ := zer_ok (G := G) (w := w) (ρ := ρ) hz
  simp only [opx, fl_eq, fnat_eq] at hk
  have hC2 := hC.push (Grw.alloc w (.cells #[] e)) (.slice (some ⟨w.heap.size, 0, none⟩) 0 0) (.rows (P.cellsOf e) []) (by intro b hb; simp only [blk, Option.some.injEq] at hb; omega)
    (.inr ⟨w.heap.size, 0, #[], e, rfl, heap_alloc_new w _, Nat.le_refl _, by simp, by simp, by simp⟩)
  refine wp_val (v' := .slice (some ⟨w.heap.size, 0, none⟩) 0 0) ?_ (hn _ _ _ _ _ _ _ hC2 (.k (.os h.length _ 0 0 (by rw [← hC.ok.hr.len]; simp))) hk)
  have hrun : (Instr.buildSlice ty 0 #[]).run P w = .ok (.slice (some ⟨w.heap.size, 0, none⟩) 0 0) (w.alloc (.cells #[] e)) := by
    simp [Instr.buildSlice, Instr.fill, run_underlying hu, sizeOf, typeInfo, hi, newRow]
    congr 2
    exact Array.eq_empty_of_size_eq_zero (by simp)
  simp only [execOp, ho]
  exact run_execv (by simpa using hrun)

theorem op_ix (hC : Conc E n G ρ t h a w) (hn : Nxt E n a o K nxt) {ty t1 t2 : TypeId} {x i : Operand} {ox oi : O} (ho : o.op = .index ty x i) (hu : P.underlying ty = some .string) (hx : opd P t1 x = some ox) (hi : opd P t2 i = some oi)
    (hk : opx S ow (.ix ox oi) t h K KP) : o.wp P a w nxt Q := by
  have hvx := opd_ok hC hx
  have hvi := opd_ok hC hi
  simp only [opx] at hk
  split at hk
  · rename_i s k m hgx hgi
    rw [hgx] at hvx
    rw [hgi] at hvi
    obtain ⟨sv, e1, rfl, _⟩ := hvx.str
    have e2 := hvi.int
    obtain ⟨b, ⟨h1, h2⟩, hk⟩ := hk
    have hb : sv[m.toNat]? = some b := by
      rw [Array.getElem?_toList] at h2
      exact h2
    refine wp_quiet hC hn (v' := .int .u8 b.toNat) ?_ (.d (.int _ _)) hk
    simp [execOp, ho, e1, e2, Instr.index, asIntOf, run_underlying hu, h1, hb]
  · exact hk.elim

theorem Rep2.ovl {v : Value} {id z i : Nat} (h : Rep2 G w ρ v (.ov id z i)) : ∃ a n c, ρ[id]? = some (.slice a n c) ∧ v = sliced a i n c z := by
  cases h with | o h => cases h with | c h => cases h with | k h => cases h with | ov _ _ _ _ a n c h1 h2 => exact ⟨a, n, c, h1, h2⟩

theorem mapM_get0 {α β : Type} {f : α → Option β} : ∀ {l : List α} {r : List β}, l.mapM f = some r → r.length = l.length ∧ ∀ (k : Nat) (x : α) (y : β), l[k]? = some x → r[k]? = some y → f x = some y := by
  intro l
  induction l with
  | nil => intro r h; simp at h; subst h; simp
  | cons x l ih =>
    intro r h
    simp only [List.mapM_cons, Option.bind_eq_bind, Option.bind_eq_some_iff, Option.pure_def, Option.some.injEq] at h
    obtain ⟨y, hy, ys, hys, rfl⟩ := h
    obtain ⟨h1, h2⟩ := ih hys
    refine ⟨by simp [h1], fun k x' y' hx hy' => ?_⟩
    cases k with
    | zero => simp at hx hy'; subst hx hy'; exact hy
    | succ k => exact h2 k x' y' (by simpa using hx) (by simpa using hy')

theorem dof_ok {v : Value} {x : V} {d : D} (hv : RepK G w ρ v x) (hd : dof x = some d) : RepD G w v d := by
  cases hv <;> simp only [dof, reduceCtorEq, Option.some.injEq] at hd
  · subst hd; assumption
  · subst hd; exact .slz _

theorem op_clr (hC : Conc E n G ρ t h a w) (hn : Nxt E n a o K nxt) {ty e t1 : TypeId} {zs : List V} {ds : List D} {x : Operand} {ox : O} (ho : o.op = .call { callee := .builtin .clear, args := #[x], argTypes := #[ty] }) (hu : P.underlying ty = some (.slice e)) (hz : zer P e = some zs)
    (hd : zs.mapM dof = some ds) (hzl : zs.length = P.cellsOf e) (hz0 : P.cellsOf e ≠ 0) (hx : opd P t1 x = some ox) (hk : opx S ow (.clr ox ds (P.cellsOf e)) t h K KP) : o.wp P a w nxt Q := by
  have hv := opd_ok hC hx
  obtain ⟨it, z, hi, hz1, hzs, hst, hzr⟩ := zer_ok (G := G) (w := w) (ρ := ρ) hz
  obtain ⟨hdl, hdg⟩ := mapM_get0 hd
  have hci : P.cellsOf e = it.size := by simp [Program.cellsOf, hi]
  generalize hzz : P.cellsOf e = zz at *
  simp only [opx] at hk
  split at hk
  · rename_i id z' i hg
    rw [hg] at hv
    rw [get?_eq] at hk
    split at hk
    · rename_i z'' r hcs
      obtain ⟨⟨k1, k2, k3⟩, hk⟩ := hk
      obtain rfl := nbq k1
      obtain rfl := nbq k2
      have k3 := Nat.le_of_ble_eq_true k3
      rw [fl_eq] at hk
      obtain ⟨ad, m, c, hρ, hval⟩ := hv.ovl
      have hrep := hC.ok.hr.rep id _ _ hρ hcs
      have hlc : m = r.length ∧ m ≤ c := by
        rcases hrep with ⟨he, rfl⟩ | ⟨b, cap, arr, ty, he, h1, h2, _⟩
        · simp only [Value.slice.injEq] at he
          obtain ⟨rfl, rfl, rfl⟩ := he
          simp
        · simp only [Value.slice.injEq] at he
          obtain ⟨rfl, rfl, rfl⟩ := he
          exact ⟨rfl, h2⟩
      obtain ⟨rfl, hmc⟩ := hlc
      have runs : ∀ (v : Value) (w' : World), a.eval x = v → (Builtin.clear_ #[ty] o.type #[v]).run P w = .ok (.tuple #[]) w' → (execOp a.eval o).run P w = .ok (.value (.tuple #[])) w' := by
        intro v w' he hr
        simp [execOp, ho, resolve, invoke, builtin, he, hr]
      by_cases hil : i = r.length
      · have hsame : h.set id (.rows z'' (r.take i ++ List.replicate (r.length - i) ds)) = h := by
          rw [hil, List.take_length, Nat.sub_self, List.replicate_zero, List.append_nil]
          exact set_self hcs
        rw [hsame] at hk
        refine wp_val (runs _ w hval ?_) (hn _ _ _ _ _ _ _ hC (.tu #[] [] rfl (by simp)) hk)
        subst hil
        simp only [sliced, Nat.sub_self]
        cases (if c = r.length then ad else ad.map (·.add (r.length * z''))) <;> simp [Builtin.clear_, run_underlying hu]
      · have hil : i < r.length := by omega
        rcases hrep with ⟨_, rfl⟩ | ⟨b, cap, arr, ty', he, h1, h2, h3, h4, h5⟩
        · simp at hil
        simp only [Value.slice.injEq] at he
        obtain ⟨rfl, _, rfl⟩ := he
        have hv2 : a.eval x = .slice (some ⟨b, i * z'', none⟩) (r.length - i) (c - i) := by
          rw [hval]
          simp [sliced, show ¬ c = i by omega, add_off]
        have hz'' : it.size = z'' := hci.symm
        have hzc : z.cells.size = z'' := by rw [hzs, hzl]
        have hzpos : 0 < z'' := by omega
        have hmul : (r.length - i) * z'' + i * z'' = r.length * z'' := by rw [← Nat.add_mul]; congr 1; omega
        have hle : r.length * z'' ≤ c * z'' := Nat.mul_le_mul_right _ h2
        have hnl : (Builtin.zeroCells z.cells (r.length - i)).toList.length = (r.length - i) * z'' := by simp [Builtin.zeroCells, hzc]
        have hng : ∀ k, k < (r.length - i) * z'' → (Builtin.zeroCells z.cells (r.length - i)).toList[k]? = some (z.cells.getD (k % z'') undef) := by
          intro k hk
          have hml : k % z'' < z.cells.size := by rw [hzc]; exact Nat.mod_lt _ hzpos
          simp only [Builtin.zeroCells, Array.getElem?_toList, Array.getElem?_map, hzc, Array.getElem?_range, hk, if_true, Option.map_some, Option.some.injEq]
          rw [getElem!_pos z.cells _ hml, Array.getD_eq_getD_getElem?, Array.getElem?_eq_getElem hml]
          rfl
        have hzj : ∀ j, j < z'' → ∃ x, zs[j]? = some x ∧ RepK G w ρ (z.cells.getD j undef) x := fun j hj => by
          have hjl : j < zs.length := by rw [hzl]; exact hj
          exact ⟨zs[j], List.getElem?_eq_getElem hjl, (hzr j _ (List.getElem?_eq_getElem hjl)).1⟩
        have hone : ∀ u ∈ (Builtin.zeroCells z.cells (r.length - i)).toList, u.oneCell' = true := by
          intro u hu
          obtain ⟨k, hk⟩ := List.mem_iff_getElem?.1 hu
          have hkl : k < (r.length - i) * z'' := by rw [← hnl]; exact (List.getElem?_eq_some_iff.1 hk).1
          rw [hng k hkl] at hk
          cases hk
          obtain ⟨y, hy, hr⟩ := hzj (k % z'') (Nat.mod_lt _ hzpos)
          exact one_ok (.k hr) (List.all_eq_true.1 hst y (List.mem_of_getElem? hy))
        have hrun := run_storeCells_at (P := P) b (i * z'') ty' (Builtin.zeroCells z.cells (r.length - i)).toList 0 arr w h1 (by rw [hnl]; omega) hone
        rw [Nat.add_zero, hnl] at hrun
        have hC' := hC.upd1 (w' := w.setRow b (arr.toList.take (i * z'') ++ (Builtin.zeroCells z.cells (r.length - i)).toList ++ arr.toList.drop (i * z'' + (r.length - i) * z'')).toArray) (x1 := .rows z'' (r.take i ++ List.replicate (r.length - i) ds)) hρ hcs (by simp) (by simp)
          (fun c hc => setRow_other w b c _ (by simp only [blk, ne_eq, Option.some.injEq] at hc; omega)) rfl rfl rfl
          (.inr ⟨b, c, _, ty', by simp; omega, setRow_heap w b arr _ ty' _ h1, by simp; omega, h3, by
            simp only [List.size_toArray, List.length_append, List.length_take, List.length_drop, Array.length_toList, hnl]; omega, fun i' row hi' => by
            have hs' : ∀ c, G c → (w.setRow b (arr.toList.take (i * z'') ++ (Builtin.zeroCells z.cells (r.length - i)).toList ++ arr.toList.drop (i * z'' + (r.length - i) * z'')).toArray).heap[c]? = w.heap[c]? := fun c hc => setRow_other w b c _ (fun e => by
              subst e; exact hC.ok.hr.gd c hc ⟨id, _, _, hρ, hcs, by simp, rfl⟩)
            have hgetr := fun k => row_get (arr := arr) (off := i * z'') hnl (by omega) k
            by_cases hii : i' < i
            · rw [List.getElem?_append_left (by simp; omega), List.getElem?_take, if_pos hii] at hi'
              obtain ⟨g1, g2⟩ := h5 i' row hi'
              refine ⟨g1, fun j x hj => ?_⟩
              have hjl : j < z'' := by rw [← g1]; exact (List.getElem?_eq_some_iff.1 hj).1
              have : i' * z'' + z'' ≤ i * z'' := by
                have := Nat.mul_le_mul_right z'' (show i' + 1 ≤ i by omega)
                rwa [Nat.add_mul, Nat.one_mul] at this
              rw [hgetr, if_neg (by omega)]
              exact (g2 j x hj).mono (fun _ h => h) hs'
            · rw [List.getElem?_append_right (by simp; omega)] at hi'
              have hmin : (r.take i).length = i := by simp; omega
              rw [hmin, List.getElem?_replicate] at hi'
              split at hi'
              · rename_i hlt
                cases hi'
                refine ⟨by rw [hdl, hzl], fun j x hj => ?_⟩
                have hjl : j < z'' := by rw [← hzl, ← hdl]; exact (List.getElem?_eq_some_iff.1 hj).1
                have hi1 : i' * z'' = i * z'' + (i' - i) * z'' := by rw [← Nat.add_mul]; congr 1; omega
                have hi2 : (i' - i) * z'' + z'' ≤ (r.length - i) * z'' := by
                  have := Nat.mul_le_mul_right z'' (show (i' - i) + 1 ≤ r.length - i by omega)
                  rwa [Nat.add_mul, Nat.one_mul] at this
                rw [hgetr, if_pos ⟨by omega, by omega⟩]
                have hk : i' * z'' + j - i * z'' = j + (i' - i) * z'' := by omega
                rw [hk, List.getD_eq_getElem?_getD, hng _ (by omega), Nat.add_mul_mod_self_right, Nat.mod_eq_of_lt hjl]
                obtain ⟨y, hy, hr⟩ := hzj j hjl
                exact (dof_ok hr (hdg j y x hy hj)).mono (fun _ h => h) hs'
              · cases hi'⟩)
        refine wp_val (runs _ _ hv2 ?_) (hn _ _ _ _ _ _ _ hC' (.tu #[] [] rfl (by simp)) hk)
        have hn0 : ¬ (r.length - i = 0) := by omega
        obtain ⟨k, hk⟩ := Nat.exists_eq_succ_of_ne_zero hn0
        rw [hk] at hrun ⊢
        simp [Builtin.clear_, run_underlying hu, zeroValue, typeInfo, hi, hz1, hrun]
    · exact hk.elim
  · exact hk.elim
end
end Go.Vx
