/- Each small operation does in the model what it does to the picture: values held against each other; appended to. Conditions: none; lemmas on the definitions before. -/
import Derived.Test.YtoibcfioicdlhaaGreatDoorVxJ
namespace Go.Vx

theorem eqx_b {ks : List Nat} {x y : List V} {K : Bool → Prop} (h : eqx ks x y K) : ∃ e, eqb ks x y = some e ∧ K e := by
  unfold eqx at h
  split at h
  · exact ⟨_, ‹_›, h⟩
  · exact h.elim

theorem eqb_cons {k : Nat} {ks : List Nat} {x y : List V} {e : Bool} (h : eqb (k :: ks) x y = some e) : ∃ x0 r y0 s b e', x = x0 :: r ∧ y = y0 :: s ∧ eq1 k x0 y0 = some b ∧ eqb ks r s = some e' ∧ e = (b && e') := by
  cases x with
  | nil => simp [eqb] at h
  | cons x0 r => cases y with
    | nil => simp [eqb] at h
    | cons y0 s =>
      simp only [eqb] at h
      split at h
      · split at h
        · cases h; exact ⟨_, _, _, _, _, _, rfl, rfl, ‹_›, ‹_›, rfl⟩
        · cases h
      · cases h

theorem eqb_nil {x y : List V} {e : Bool} (h : eqb [] x y = some e) : x = [] ∧ y = [] ∧ e = true := by
  cases x <;> cases y <;> simp [eqb] at h ⊢
  exact h

theorem eqb_len : ∀ (ks : List Nat) (x y : List V) (e : Bool), eqb ks x y = some e → x.length = ks.length ∧ y.length = ks.length := by
  intro ks
  induction ks with
  | nil => intro x y e h; obtain ⟨rfl, rfl, _⟩ := eqb_nil h; simp
  | cons k ks ih =>
    intro x y e h
    obtain ⟨x0, r, y0, s, b, e', rfl, rfl, _, h2, _⟩ := eqb_cons h
    have := ih _ _ _ h2
    simp [this]

theorem eqb_append : ∀ (a b : List Nat) (x y : List V) (e : Bool), eqb (a ++ b) x y = some e → ∃ e1 e2, eqb a (x.take a.length) (y.take a.length) = some e1 ∧ eqb b (x.drop a.length) (y.drop a.length) = some e2 ∧ e = (e1 && e2) := by
  intro a
  induction a with
  | nil => intro b x y e h; exact ⟨true, e, by simp [eqb], by simpa using h, by simp⟩
  | cons k a ih =>
    intro b x y e h
    obtain ⟨x0, r, y0, s, b1, e', rfl, rfl, h1, h2, rfl⟩ := eqb_cons h
    obtain ⟨e1, e2, g1, g2, rfl⟩ := ih _ _ _ _ h2
    exact ⟨b1 && e1, e2, by simp [eqb, h1, g1], by simpa using g2, by simp [Bool.and_assoc]⟩

section
variable {P : Program} {E : Ent} {n : Nat} {G : Nat → Prop} {ρ : List Value} {t : T} {h : H} {a : Act} {w : World} {o : Oper} {nxt : Act → World → Prop} {Q : Exit → Act → World → Prop} {K KP : V → T → H → Prop}

/-- A value, by its type's shape, over its cells. -/
def Shp (P : Program) (G : Nat → Prop) (w : World) (ρ : List Value) (ty : TypeId) (v : Value) (cs : List V) : Prop :=
  match P.underlying ty with
  | some (.struct _) => ∃ arr : Array Value, v = .agg arr ∧ arr.size = cs.length ∧ ∀ (i : Nat) (x : V), cs[i]? = some x → RepC G w ρ (arr.getD i undef) x
  | _ => ∃ x, cs = [x] ∧ RepC G w ρ v x

theorem part_ok {ty : TypeId} {arr : Array Value} {cs : List V} {off : Nat} {ks : List Nat} {m : Nat} (hs : arr.size = cs.length) (hr : ∀ (i : Nat) (x : V), cs[i]? = some x → RepC G w ρ (arr.getD i undef) x) (hf : flat P m ty = some ks) (hle : off + ks.length ≤ cs.length) :
    ∃ v, (part ty arr off).run P w = .ok v w ∧ Shp P G w ρ ty v ((cs.drop off).take ks.length) := by
  cases m with
  | zero => cases hf
  | succ m =>
    simp only [flat] at hf
    have scalar : ∀ d, P.underlying ty = some d → (∀ fs, d ≠ .struct fs) → (∀ k e, d ≠ .array k e) → ks.length = 1 → ∃ v, (part ty arr off).run P w = .ok v w ∧ Shp P G w ρ ty v ((cs.drop off).take ks.length) := by
      intro d hd h1 h2 h3
      have hol : off < arr.size := by omega
      have hag : isAg P ty = some false := by
        cases d <;> first | exact absurd rfl (h1 _) | exact absurd rfl (h2 _ _) | simp [isAg, hd]
      refine ⟨arr[off], by simp [part, run_isAgg hag, hol], ?_⟩
      have hoc : off < cs.length := by omega
      have hx := hr off _ (List.getElem?_eq_getElem hoc)
      have hcs : (cs.drop off).take ks.length = [cs[off]] := by
        rw [h3, List.drop_eq_getElem_cons hoc]
        rfl
      rw [hcs]
      unfold Shp
      rw [hd]
      rw [Array.getD_eq_getD_getElem?, Array.getElem?_eq_getElem hol] at hx
      cases d <;> first | exact ⟨_, rfl, hx⟩ | exact absurd rfl (h1 _)
    split at hf
    · rename_i k hd; cases hf; exact scalar _ hd (by simp) (by simp) rfl
    · rename_i hd; cases hf; exact scalar _ hd (by simp) (by simp) rfl
    · rename_i hd; cases hf; exact scalar _ hd (by simp) (by simp) rfl
    · rename_i fs hd
      split at hf
      · cases hf
      · simp only [Option.bind_eq_bind, Option.bind_eq_some_iff] at hf
        obtain ⟨b, hb, hif⟩ := hf
        split at hif
        · rename_i hbl
          cases hif
          have hag : isAg P ty = some true := by simp [isAg, hd]
          unfold Program.cellsOf at hbl
          cases hi : P.info? ty with
          | none => exfalso; simp [Program.underlying, hi] at hd
          | some i =>
            rw [hi] at hbl
            simp at hbl
            refine ⟨.agg (arr.extract off (off + ks.length)), by simp [part, run_isAgg hag, sizeOf, typeInfo, hi, hbl], ?_⟩
            unfold Shp
            rw [hd]
            refine ⟨_, rfl, by simp; omega, fun j x hx => ?_⟩
            rw [List.getElem?_take] at hx
            split at hx
            · rename_i hj
              rw [List.getElem?_drop] at hx
              have := hr _ x hx
              have hl : off + j < arr.size := by rw [hs]; exact (List.getElem?_eq_some_iff.1 hx).1
              rw [Array.getD_eq_getD_getElem?, Array.getElem?_eq_getElem hl] at this
              rw [Array.getD_eq_getD_getElem?, Array.getElem?_extract, if_pos (by omega), Array.getElem?_eq_getElem hl]
              exact this
            · cases hx
        · cases hif
    · cases hf

theorem RepC.toD {v : Value} {x : D} (h : RepC G w ρ v (.d x)) : RepD G w v x := (Rep2.c h).toD

theorem equalIn_ok : ∀ (m : Nat) (ty : TypeId) (ks : List Nat) (x y : Value) (cx cy : List V) (e : Bool) (d : Nat), flat P m ty = some ks → Shp P G w ρ ty x cx → Shp P G w ρ ty y cy → eqb ks cx cy = some e → m ≤ d →
    (Op.equalIn d ty x y).run P w = .ok e w := by
  intro m
  induction m with
  | zero => intro ty ks x y cx cy e d hf; cases hf
  | succ m ih =>
    intro ty ks x y cx cy e d hf hx hy he hd
    obtain ⟨d, rfl⟩ : ∃ d', d = d' + 1 := ⟨d - 1, by omega⟩
    simp only [flat] at hf
    split at hf
    · rename_i k hu
      cases hf
      simp only [Shp, hu] at hx hy
      obtain ⟨vx, rfl, hx⟩ := hx
      obtain ⟨vy, rfl, hy⟩ := hy
      obtain ⟨x0, r, y0, s, b, e', h1, h2, h3, h4, rfl⟩ := eqb_cons he
      cases h1; cases h2
      obtain ⟨_, _, rfl⟩ := eqb_nil h4
      unfold eq1 at h3
      split at h3 <;> first | (cases h3; done) | (rename_i hh; cases hh; done) | skip
      · rename_i k1 a1 k2 b1 _
        cases hkk : Nat.beq (kn k1) (kn k2) <;> rw [hkk] at h3
        · cases h3
        · cases h3
          obtain rfl : k1 = k2 := by revert hkk; cases k1 <;> cases k2 <;> simp [kn]
          have e1 := (Rep2.c hx).int
          have e2 := (Rep2.c hy).int
          rw [e1, e2, Bool.and_true]
          exact run_equalIn_int w d ty _ _ _ _ hu
    · rename_i hu
      cases hf
      simp only [Shp, hu] at hx hy
      obtain ⟨vx, rfl, hx⟩ := hx
      obtain ⟨vy, rfl, hy⟩ := hy
      obtain ⟨x0, r, y0, s, b, e', h1, h2, h3, h4, rfl⟩ := eqb_cons he
      cases h1; cases h2
      obtain ⟨_, _, rfl⟩ := eqb_nil h4
      unfold eq1 at h3
      split at h3 <;> first | (cases h3; done) | (rename_i hh; cases hh; done) | skip
      · cases h3
        have e1 := (Rep2.c hx).bool
        have e2 := (Rep2.c hy).bool
        rw [e1, e2, Bool.and_true]
        exact run_equalIn_bool' w d ty _ _ hu
    · rename_i hu
      cases hf
      simp only [Shp, hu] at hx hy
      obtain ⟨vx, rfl, hx⟩ := hx
      obtain ⟨vy, rfl, hy⟩ := hy
      obtain ⟨x0, r, y0, s, b, e', h1, h2, h3, h4, rfl⟩ := eqb_cons he
      cases h1; cases h2
      obtain ⟨_, _, rfl⟩ := eqb_nil h4
      unfold eq1 at h3
      split at h3 <;> first | (cases h3; done) | (rename_i hh; cases hh; done) | skip
      · cases h3
        obtain ⟨s1, e1, e2, _⟩ := (Rep2.c hx).str
        obtain ⟨s2, e3, e4, _⟩ := (Rep2.c hy).str
        rw [e1, e3, Bool.and_true]
        rw [run_equalIn_string w d ty _ _ hu, ByteArray.toList_eq, ByteArray.toList_eq, e2, e4]
    · rename_i fs hu
      split at hf
      · cases hf
      · rename_i hst
        simp only [Option.bind_eq_bind, Option.bind_eq_some_iff] at hf
        obtain ⟨b, hb, hif⟩ := hf
        split at hif
        · cases hif
          simp only [Shp, hu] at hx hy
          obtain ⟨ax, rfl, hxs, hxr⟩ := hx
          obtain ⟨ay, rfl, hys, hyr⟩ := hy
          have hfo : P.fieldsOf ty = fs := by simp [Program.fieldsOf, hu]
          rw [run_equalIn_struct w d ty ax ay (by rw [hfo]; exact hu) (by simpa using hst), hfo]
          have key : ∀ (fl : List Field) (off : Nat) (b : List Nat) (e : Bool), flatFs (flat P m) off fl = some b → eqb b (cx.drop off) (cy.drop off) = some e → off + b.length = cx.length → off + b.length = cy.length →
              (Op.eqFields d ax ay fl).run P w = .ok e w := by
            intro fl
            induction fl with
            | nil =>
              intro off b e hb he h1 h2
              cases hb
              have : cx.drop off = [] := List.drop_eq_nil_of_le (by simp at h1; omega)
              have h' : cy.drop off = [] := List.drop_eq_nil_of_le (by simp at h2; omega)
              rw [this, h'] at he
              simp [eqb] at he
              subst he
              simp [Op.eqFields]
            | cons f fl ihf =>
              intro off b e hb he h1 h2
              simp only [flatFs] at hb
              split at hb
              · cases hb
              · rename_i hn
                simp only [Bool.or_eq_true, decide_eq_true_eq, bne_iff_ne, ne_eq, not_or, Decidable.not_not] at hn
                obtain ⟨hn1, hn2⟩ := hn
                simp only [Option.bind_eq_bind, Option.bind_eq_some_iff] at hb
                obtain ⟨b1, hb1, b2, hb2, hbb⟩ := hb
                cases hbb
                simp only [List.length_append] at h1 h2
                obtain ⟨e1, e2, g1, g2, rfl⟩ := eqb_append _ _ _ _ _ he
                obtain ⟨v1, p1, s1⟩ := part_ok (off := off) hxs hxr hb1 (by omega)
                obtain ⟨v2, p2, s2⟩ := part_ok (off := off) hys hyr hb1 (by omega)
                have hr := ih _ _ _ _ _ _ _ d hb1 s1 s2 g1 (by omega)
                rw [List.drop_drop, List.drop_drop] at g2
                have hrest := ihf (off + b1.length) b2 e2 hb2 g2 (by omega) (by omega)
                subst hn2
                simp only [Op.eqFields, hn1, ne_eq, not_false_eq_true, if_true, Sem.run_bind, p1, p2, hr, Result.andThen_ok, Sem.run_ite]
                cases e1
                · simp
                · simpa using hrest
          refine key fs.toList 0 ks e hb (by simpa using he) ?_ ?_
          · have := (eqb_len _ _ _ _ he).1; omega
          · have := (eqb_len _ _ _ _ he).2; omega
        · cases hif
    · cases hf

theorem flat_shp {m : Nat} {ty : TypeId} {ks : List Nat} {v : Value} {x : V} {b : Bool} (hf : flat P m ty = some ks) (ha : isAg P ty = some b) (hg : x.isag = b) (hv : Rep2 G w ρ v x) (hs : x.cs.all stor = true) : Shp P G w ρ ty v x.cs := by
  obtain ⟨h1, h2⟩ := cells_ok hv hs
  simp only [isAg, Option.map_eq_some_iff] at ha
  obtain ⟨d, hd, hb⟩ := ha
  have scalar : b = false → (∀ fs, d ≠ .struct fs) → Shp P G w ρ ty v x.cs := by
    rintro rfl hn
    have hcs : x.cs = [x] := by cases x <;> first | rfl | cases hg
    have hc : RepC G w ρ v x := by
      cases hv with
      | o h => cases h with
        | c h => exact h
        | ag => cases hg
      | tu => rw [hcs] at hs; simp [stor] at hs
    rw [hcs]
    unfold Shp
    rw [hd]
    cases d <;> first | exact absurd rfl (hn _) | exact ⟨x, rfl, hc⟩
  cases m with
  | zero => cases hf
  | succ m =>
    simp only [flat, hd] at hf
    cases d <;> simp only at hf hb <;> first | (cases hf; done) | (subst hb; exact scalar rfl (by simp)) | skip
    subst hb
    cases x <;> first | (cases hg; done) | skip
    obtain ⟨cs, rfl, g1, g2⟩ := hv.agl
    unfold Shp
    rw [hd]
    exact ⟨cs, rfl, g1, g2⟩

theorem eqb_stor : ∀ (ks : List Nat) (x y : List V) (e : Bool), eqb ks x y = some e → x.all stor = true ∧ y.all stor = true := by
  intro ks
  induction ks with
  | nil => intro x y e h; obtain ⟨rfl, rfl, _⟩ := eqb_nil h; simp
  | cons k ks ih =>
    intro x y e h
    obtain ⟨x0, r, y0, s, b, e', rfl, rfl, h1, h2, _⟩ := eqb_cons h
    have := ih _ _ _ h2
    unfold eq1 at h1
    split at h1 <;> first | (cases h1; done) | simp [this, stor]

variable (S : Nat → List V → H → (Out → H → Prop) → Prop) (ow : Nat → Bool)

theorem op_eq (hC : Conc E n G ρ t h a w) (hn : Nxt E n a o K nxt) {ne st : Bool} {ks : List Nat} {ty t1 t2 t3 : TypeId} {x y : Operand} {ox oy : O} (ho : o.op = .binOp (if ne then .neq else .eql) ty x y t3) (hx : opd P t1 x = some ox) (hy : opd P t2 y = some oy)
    (hni : ∀ k, P.underlying ty ≠ some (.int k)) (hg : P.eqGuardType P.depth ty = false) (hf : flat P 100 ty = some ks) (ha : isAg P ty = some st) (hk : opx S ow (.eq ne st ks ox oy) t h K KP) : o.wp P a w nxt Q := by
  have hvx := opd_ok hC hx
  have hvy := opd_ok hC hy
  simp only [opx] at hk
  obtain ⟨⟨g1, g2⟩, hk⟩ := hk
  obtain ⟨e, he, hk⟩ := eqx_b hk
  obtain ⟨s1, s2⟩ := eqb_stor _ _ _ _ he
  have hsx := flat_shp hf ha g1 hvx s1
  have hsy := flat_shp hf ha g2 hvy s2
  have hr := equalIn_ok 100 ty ks _ _ _ _ e 10000 hf hsx hsy he (by decide)
  refine wp_quiet hC hn (v' := .bool (bif ne then !e else e)) ?_ (.d (.bool _)) hk
  simp only [execOp, ho]
  refine run_execv ?_
  generalize a.eval x = vx at *
  generalize a.eval y = vy at *
  cases hu : P.underlying ty with
  | none => simp [isAg, hu] at ha
  | some d =>
    replace hf : flat P (99 + 1) ty = some ks := hf
    rw [flat] at hf
    simp only [hu] at hf
    cases d <;> simp only at hf <;> first | (cases hf; done) | skip
    · cases hf
      simp only [Shp, hu] at hsx hsy
      obtain ⟨cx, ex, hsx⟩ := hsx
      obtain ⟨cy, ey, hsy⟩ := hsy
      rw [ex, ey] at he
      obtain ⟨x0, r, y0, s, b, e', h1, h2, h3, h4, rfl⟩ := eqb_cons he
      cases h1; cases h2
      unfold eq1 at h3
      split at h3 <;> first | (cases h3; done) | (rename_i hh; cases hh; done) | skip
      have e1 := (Rep2.c hsx).bool
      have e2 := (Rep2.c hsy).bool
      subst e1 e2
      cases ne <;> simp [eqGuard, binOp, Op.equal, Op.maxDepth, hr]
    · exact absurd hu (hni _)
    · cases hf
      simp only [Shp, hu] at hsx hsy
      obtain ⟨cx, ex, hsx⟩ := hsx
      obtain ⟨cy, ey, hsy⟩ := hsy
      rw [ex, ey] at he
      obtain ⟨x0, r, y0, s, b, e', h1, h2, h3, h4, rfl⟩ := eqb_cons he
      cases h1; cases h2
      unfold eq1 at h3
      split at h3 <;> first | (cases h3; done) | (rename_i hh; cases hh; done) | skip
      obtain ⟨s1, e1, _, _⟩ := (Rep2.c hsx).str
      obtain ⟨s2, e2, _, _⟩ := (Rep2.c hsy).str
      subst e1 e2
      rw [run_equalIn_string w _ ty _ _ hu] at hr
      simp only [Result.ok.injEq, and_true] at hr
      cases ne <;> simp [eqGuard, binOp, Op.stringOp, hr]
    · simp only [Shp, hu] at hsx hsy
      obtain ⟨ax, rfl, _⟩ := hsx
      obtain ⟨ay, rfl, _⟩ := hsy
      cases ne
      · simp only [Bool.false_eq_true, if_false, cond_false, Sem.run_bind, run_eqGuard_agg w _ ty x y ax ay hg, Result.andThen_ok, run_eql_struct, hr]
      · simp only [if_true, cond_true, Sem.run_bind, run_eqGuard_agg w _ ty x y ax ay hg, Result.andThen_ok, run_neq_struct, hr]
end
end Go.Vx
