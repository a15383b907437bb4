/- Each small operation does in the model what it does to the picture: numbers, tests, lengths, functions, parts of slices. Conditions: none; lemmas on the definitions before. -/
import Derived.Test.YtoibcfioicdlhaaGreatDoorVxG
import Derived.Laws.Concat
namespace Go.Vx

theorem wrap_in {k : IntKind} {n : Int} (h : inR k n) : k.wrap n = n := by
  unfold IntKind.wrap
  cases k <;> simp only [inR] at h <;> simp [IntKind.bits, IntKind.signed] <;> omega

theorem fn_val {G : Nat → Prop} {w : World} {v : Value} {f : Nat} (h : RepD G w v (.fn f)) : v = .func (.func f) #[] #[] := by cases h; rfl

section
variable {P : Program} {E : Ent} {n : Nat} {G : Nat → Prop} {ρ : List Value} {t : T} {h : H} {a : Act} {w : World} {o : Oper} {nxt : Act → World → Prop} {Q : Exit → Act → World → Prop} {K KP : V → T → H → Prop}
variable (S : Nat → List V → H → (Out → H → Prop) → Prop) (ow : Nat → Bool)

theorem ari_ok (hC : Conc E n G ρ t h a w) (hn : Nxt E n a o K nxt) {k : IntKind} {m : Int} (hr : (execOp a.eval o).run P w = .ok (.value (.int k (k.wrap m))) w) (hk : ari k m fun m => K (.d (.int k m)) t h) : o.wp P a w nxt Q := by
  rcases hk with ⟨h1, h2⟩ | h2
  · rw [wrap_in h1] at hr
    exact wp_quiet hC hn hr (.d (.int k m)) h2
  · exact wp_quiet hC hn hr (.d (.int k _)) h2

theorem op_bin (hC : Conc E n G ρ t h a w) (hn : Nxt E n a o K nxt) {b : BinOp} {ty t1 t2 t3 : TypeId} {x y : Operand} {ox oy : O} (ho : o.op = .binOp b ty x y t3) (hx : opd P t1 x = some ox) (hy : opd P t2 y = some oy)
    (hk : opx S ow (.bin b ox oy) t h K KP) : o.wp P a w nxt Q := by
  have hvx := opd_ok hC hx
  have hvy := opd_ok hC hy
  simp only [opx] at hk
  split at hk
  · rename_i p q hgx hgy
    rw [hgx] at hvx
    rw [hgy] at hvy
    obtain ⟨s1, e1, rfl, m1⟩ := hvx.str
    obtain ⟨s2, e2, rfl, m2⟩ := hvy.str
    cases b <;> simp only at hk <;> try exact hk.elim
    have hsz : (s1 ++ s2).size ≤ maxLen := by
      have h1 := hk.1
      rw [Array.length_toList, Array.length_toList] at h1
      rw [ByteArray.size_append]
      exact h1
    have hadd := run_string_add_sum (P := P) (w := w) s1 s2 (by
      have h1 := hk.1
      rw [Array.length_toList, Array.length_toList] at h1
      exact h1)
    refine wp_quiet hC hn (v' := .string (s1 ++ s2)) ?_ (.d ?_) hk.2
    · simp [execOp, ho, e1, e2, eqGuard, binOp, hadd]
    · have := RepD.str (G := G) (w := w) (s1 ++ s2) hsz
      simpa using this
  · rename_i k p k' q hgx hgy
    rw [hgx] at hvx
    rw [hgy] at hvy
    have e1 := hvx.int
    have e2 := hvy.int
    cases hsh : shf b <;> rw [hsh] at hk
    rotate_left
    · simp only [cond_true] at hk
      obtain ⟨h0, hk⟩ := hk
      have hr : (execOp a.eval o).run P w = .ok (.value (.int k (shv b k p q))) w := by
        cases b <;> simp only [shf, Bool.false_eq_true] at hsh
        · simp [execOp, ho, e1, e2, eqGuard, binOp, Op.shift, shv, if_neg (Int.not_lt.2 h0)]
        · simp [execOp, ho, e1, e2, eqGuard, binOp, Op.shift, shv, if_neg (Int.not_lt.2 h0)]
      exact wp_quiet hC hn hr (.d (.int _ _)) hk
    simp only [cond_false] at hk
    cases hkn : Nat.beq (kn k) (kn k') <;> rw [hkn] at hk
    · exact hk.elim
    obtain rfl : k = k' := by revert hkn; cases k <;> cases k' <;> simp [kn]
    simp only [cond_true] at hk
    cases b <;> simp only at hk <;> try (first | exact hk.elim | (simp [shf] at hsh; done))
    · exact ari_ok hC hn (by simp [execOp, ho, e1, e2, eqGuard, binOp, Op.intArith]) hk
    · exact ari_ok hC hn (by simp [execOp, ho, e1, e2, eqGuard, binOp, Op.intArith]) hk
    · exact ari_ok hC hn (by simp [execOp, ho, e1, e2, eqGuard, binOp, Op.intArith]) hk
    · exact ari_ok hC hn (by simp [execOp, ho, e1, e2, eqGuard, binOp, Op.intDiv, hk.1]) hk.2
    · exact wp_quiet hC hn (v' := .int k (p.tmod q)) (by simp [execOp, ho, e1, e2, eqGuard, binOp, Op.intDiv, hk.1]) (.d (.int _ _)) hk.2
    · exact wp_quiet hC hn (v' := .int k (bitv .and k p q)) (by simp [execOp, ho, e1, e2, eqGuard, binOp, Op.intBits, bitv]) (.d (.int _ _)) hk
    · exact wp_quiet hC hn (v' := .int k (bitv .or k p q)) (by simp [execOp, ho, e1, e2, eqGuard, binOp, Op.intBits, bitv]) (.d (.int _ _)) hk
    · exact wp_quiet hC hn (v' := .int k (bitv .xor k p q)) (by simp [execOp, ho, e1, e2, eqGuard, binOp, Op.intBits, bitv]) (.d (.int _ _)) hk
    · exact wp_quiet hC hn (v' := .int k (bitv .andNot k p q)) (by simp [execOp, ho, e1, e2, eqGuard, binOp, Op.intBits, bitv]) (.d (.int _ _)) hk
    · exact wp_quiet hC hn (v' := .bool (p == q)) (by simp [execOp, ho, e1, e2, eqGuard, binOp, Op.intCmp]) (.d (.bool _)) hk
    · exact wp_quiet hC hn (v' := .bool (p != q)) (by simp [execOp, ho, e1, e2, eqGuard, binOp, Op.intCmp]) (.d (.bool _)) hk
    · exact wp_quiet hC hn (v' := .bool (decide (p < q))) (by simp [execOp, ho, e1, e2, eqGuard, binOp, Op.intCmp]) (.d (.bool _)) hk
    · exact wp_quiet hC hn (v' := .bool (decide (p ≤ q))) (by simp [execOp, ho, e1, e2, eqGuard, binOp, Op.intCmp]) (.d (.bool _)) hk
    · exact wp_quiet hC hn (v' := .bool (decide (q < p))) (by simp [execOp, ho, e1, e2, eqGuard, binOp, Op.intCmp]) (.d (.bool _)) hk
    · exact wp_quiet hC hn (v' := .bool (decide (q ≤ p))) (by simp [execOp, ho, e1, e2, eqGuard, binOp, Op.intCmp]) (.d (.bool _)) hk
  · exact hk.elim

theorem op_un (hC : Conc E n G ρ t h a w) (hn : Nxt E n a o K nxt) {u : UnOp} {ty t1 : TypeId} {x : Operand} {ox : O} (ho : o.op = .unOp u ty x) (hx : opd P t1 x = some ox) (hk : opx S ow (.un u ox) t h K KP) : o.wp P a w nxt Q := by
  have hvx := opd_ok hC hx
  simp only [opx] at hk
  split at hk
  · rename_i b hgx
    rw [hgx] at hvx
    have e1 := hvx.bool
    exact wp_quiet hC hn (v' := .bool (!b)) (by simp [execOp, ho, e1, Op.unary]) (.d (.bool _)) hk
  · rename_i k p hgx
    rw [hgx] at hvx
    have e1 := hvx.int
    exact ari_ok hC hn (by simp [execOp, ho, e1, Op.unary, Op.intArith]) hk
  · exact hk.elim

theorem op_cv (hC : Conc E n G ρ t h a w) (hn : Nxt E n a o K nxt) {s d t1 : TypeId} {k ks : IntKind} {x : Operand} {ox : O} (ho : o.op = .convert s d x) (hs : P.underlying s = some (.int ks)) (hd : P.underlying d = some (.int k)) (hx : opd P t1 x = some ox) (hk : opx S ow (.cv k ox) t h K KP) : o.wp P a w nxt Q := by
  have hvx := opd_ok hC hx
  simp only [opx] at hk
  split at hk
  · rename_i k' p hgx
    rw [hgx] at hvx
    have e1 := hvx.int
    exact ari_ok hC hn (by simp [execOp, ho, e1, Go.convert, run_underlying hs, run_underlying hd, Conv.intToInt]) hk
  · exact hk.elim

theorem op_ln (hC : Conc E n G ρ t h a w) (hn : Nxt E n a o K nxt) {ty t1 e : TypeId} {x : Operand} {ox : O} (ho : o.op = .call { callee := .builtin .len, args := #[x], argTypes := #[ty] })
    (hu : P.underlying ty = some (.slice e)) (hx : opd P t1 x = some ox) (hk : opx S ow (.ln ox) t h K KP) : o.wp P a w nxt Q := by
  have hvx := dv_ok (opd_ok hC hx)
  have sl : ∀ (ad : Option Addr) (m c : Nat), a.eval x = .slice ad m c → (execOp a.eval o).run P w = .ok (.value (.int .i64 m)) w := by
    intro ad m c hv
    simp [execOp, ho, resolve, invoke, builtin, Builtin.len_, hv, run_underlying hu, goInt]
  simp only [opx] at hk
  split at hk
  · rename_i z r hg
    rw [hg] at hvx
    obtain ⟨ad, c, hv, hl⟩ := hvx.toD.len
    exact wp_quiet hC hn (sl _ _ _ hv) (.d (.int _ _)) (hk hl)
  · rename_i z r hg
    rw [hg] at hvx
    obtain ⟨ad, m, hv, hD⟩ := hvx.cll
    obtain ⟨ad', c, hv', hl⟩ := hD.len
    rw [hv'] at hv
    exact wp_quiet hC hn (sl _ _ _ hv) (.d (.int _ _)) (hk hl)
  · rename_i id hg
    rw [hg] at hvx
    obtain ⟨ad, m, c, hv, hρ⟩ := hvx.osl
    rw [get?_eq] at hk
    split at hk
    · rename_i z r hr
      rcases hC.ok.hr.rep id _ _ hρ hr with ⟨he, rfl⟩ | ⟨b, cap, arr, ty', he, _, hlc, hcm, _⟩
      · cases he
        exact wp_quiet hC hn (sl _ _ _ hv) (.d (.int _ _)) (hk (by simp))
      · cases he
        exact wp_quiet hC hn (sl _ _ _ hv) (.d (.int _ _)) (hk (Nat.le_trans hlc hcm))
    · exact hk.elim
  · exact hk.elim

theorem size_list (s : ByteArray) : s.size = s.data.toList.length := (Array.length_toList (xs := s.data)).symm

theorem op_ls (hC : Conc E n G ρ t h a w) (hn : Nxt E n a o K nxt) {ty t1 : TypeId} {x : Operand} {ox : O} (ho : o.op = .call { callee := .builtin .len, args := #[x], argTypes := #[ty] })
    (hu : P.underlying ty = some .string) (hx : opd P t1 x = some ox) (hk : opx S ow (.ls ox) t h K KP) : o.wp P a w nxt Q := by
  have hvx := opd_ok hC hx
  simp only [opx] at hk
  split at hk
  · rename_i s hg
    rw [hg] at hvx
    obtain ⟨s', hv, rfl, hm⟩ := hvx.str
    refine wp_quiet hC hn (v' := .int .i64 s'.size) ?_ (.d ?_) (hk (by rw [← size_list]; exact hm))
    · simp [execOp, ho, resolve, invoke, builtin, Builtin.len_, hv, run_underlying hu, goInt]
    · rw [← size_list]; exact .int _ _
  · exact hk.elim

theorem op_mn (hC : Conc E n G ρ t h a w) (hn : Nxt E n a o K nxt) {ts : Array TypeId} {t1 t2 : TypeId} {x y : Operand} {ox oy : O} (ho : o.op = .call { callee := .builtin .min, args := #[x, y], argTypes := ts })
    (hx : opd P t1 x = some ox) (hy : opd P t2 y = some oy) (hk : opx S ow (.mn ox oy) t h K KP) : o.wp P a w nxt Q := by
  have hvx := opd_ok hC hx
  have hvy := opd_ok hC hy
  simp only [opx] at hk
  split at hk
  · rename_i k p k' q hgx hgy
    rw [hgx] at hvx
    rw [hgy] at hvy
    have e1 := hvx.int
    have e2 := hvy.int
    refine wp_quiet hC hn (v' := .int k (min p q)) ?_ (.d (.int _ _)) hk
    have : (if q < p then q else p) = min p q := by omega
    simp [execOp, ho, resolve, invoke, builtin, Builtin.min_, Builtin.min2, e1, e2, this]
  · exact hk.elim

theorem op_mx (hC : Conc E n G ρ t h a w) (hn : Nxt E n a o K nxt) {ts : Array TypeId} {t1 t2 : TypeId} {x y : Operand} {ox oy : O} (ho : o.op = .call { callee := .builtin .max, args := #[x, y], argTypes := ts })
    (hx : opd P t1 x = some ox) (hy : opd P t2 y = some oy) (hk : opx S ow (.mx ox oy) t h K KP) : o.wp P a w nxt Q := by
  have hvx := opd_ok hC hx
  have hvy := opd_ok hC hy
  simp only [opx] at hk
  split at hk
  · rename_i k p k' q hgx hgy
    rw [hgx] at hvx
    rw [hgy] at hvy
    have e1 := hvx.int
    have e2 := hvy.int
    refine wp_quiet hC hn (v' := .int k (max p q)) ?_ (.d (.int _ _)) hk
    have : (if q > p then q else p) = max p q := by omega
    have h' : (if p < q then q else p) = max p q := by omega
    simp [execOp, ho, resolve, invoke, builtin, Builtin.max_, Builtin.max2, e1, e2, h']
  · exact hk.elim

theorem op_ex (hC : Conc E n G ρ t h a w) (hn : Nxt E n a o K nxt) {t1 : TypeId} {x : Operand} {i : Nat} {ox : O} (ho : o.op = .extract x i) (hx : opd P t1 x = some ox) (hk : opx S ow (.ex ox i) t h K KP) : o.wp P a w nxt Q := by
  have hvx := opd_ok hC hx
  simp only [opx] at hk
  split at hk
  · rename_i vs hg
    rw [hg] at hvx
    obtain ⟨cs, hv, hs, hr⟩ := hvx.tul
    rw [get?_eq] at hk
    split at hk
    · rename_i v hi
      have hil : i < cs.size := by rw [hs]; exact (List.getElem?_eq_some_iff.1 hi).1
      refine wp_quiet hC hn (v' := cs.getD i undef) ?_ (.o (hr i v hi)) hk
      simp [execOp, ho, Instr.extract, hv, hil]
    · exact hk.elim
  · exact hk.elim

theorem op_nc (hC : Conc E n G ρ t h a w) (hn : Nxt E n a o K nxt) {t1 : TypeId} {x : Operand} {ox : O} (ho : o.op = .nilCheck x) (hx : opd P t1 x = some ox) (hk : opx S ow (.nc ox) t h K KP) : o.wp P a w nxt Q := by
  have hvx := opd_ok hC hx
  simp only [opx] at hk
  split at hk
  · rename_i i oo hg
    rw [hg] at hvx
    obtain ⟨b, hv, _⟩ := hvx.pt
    exact wp_quiet hC hn (v' := a.eval x) (by simp [execOp, ho, hv]) hvx hk
  · rename_i r oo hg
    rw [hg] at hvx
    obtain ⟨b, _, _, hv, _⟩ := hvx.el
    exact wp_quiet hC hn (v' := a.eval x) (by simp [execOp, ho, hv]) hvx hk
  · rename_i i z j oo hg
    rw [hg] at hvx
    obtain ⟨b, _, _, hv, _⟩ := hvx.ql
    exact wp_quiet hC hn (v' := a.eval x) (by simp [execOp, ho, hv]) hvx hk
  · rename_i f c hg
    rw [hg] at hvx
    obtain ⟨cs, hv, _⟩ := hvx.fcl
    cases hb : Nat.blt f 2000000 <;> rw [hb] at hk
    · exact hk.elim
    have hlt : f < 2000000 := by simpa [Nat.blt_eq] using hb
    have hv' : ∃ g y1 y2, a.eval x = .func (.func g) y1 y2 := by
      by_cases h1 : f < 1000000
      · exact ⟨_, _, _, fcv_fn hv h1⟩
      · exact ⟨_, _, _, fcv_bm hv h1 hlt⟩
    obtain ⟨g, y1, y2, hv'⟩ := hv'
    exact wp_quiet hC hn (v' := a.eval x) (by simp [execOp, ho, hv']) hvx hk
  · rename_i f hg
    rw [hg] at hvx
    have hv : a.eval x = .func (.func f) #[] #[] := fn_val hvx.toD
    exact wp_quiet hC hn (v' := a.eval x) (by simp [execOp, ho, hv]) hvx hk
  · rename_i row off hg
    rw [hg] at hvx
    have hv := hvx.toD
    generalize hav : a.eval x = av at hv
    cases hv with
    | pt b o _ _ U h1 h2 h3 => exact wp_quiet hC hn (v' := a.eval x) (by simp [execOp, ho, hav]) (by rw [hav]; exact .k (.e b o off row U h1 h2 h3)) hk
  · exact hk.elim
end
end Go.Vx
