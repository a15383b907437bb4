/- The walk inside a round of a range over a function: from the laws of a frame to those of the wide fence, whatever round it is in. Conditions: no op of the region is a defer. -/
import Derived.Test.YtjpgfgajkjhonaaGreatDoorQTAO
import Derived.OrdersIn
import Derived.RegionIn
import Derived.RangeFuncFrom
import Derived.RangeFuncNested
import Derived.RangeFuncLeaves
namespace Go.Vx
theorem Fw.fn (r : Option Nat) (f : FuncId) : (Fw r).fn f := trivial
theorem Fw.room (r : Option Nat) (n : Nat) : (Fw r).room n := fun _ h => by simp [Fw, Fence.wide] at h
theorem Fw.depth (r : Option Nat) (N : Nat) : (Fw r).depth.isSome = true → 1 ≤ N := fun h => by simp [Fw, Fence.wide] at h
section
variable {P : Program} {ops : Array Oper} {Q : Exit → Act → World → Prop} {a : Act} {w : World} {o : Oper} {nxt : Act → World → Prop} {r : Option Nat} {N : Nat}
theorem nod_ne (h : nod o = true) : ∀ c, o.op ≠ .defer c := by
 intro c hc
 unfold nod at h
 rw [hc] at h
 cases h
theorem calls_in {f : FuncId} {args : Array Value} {R : Ending → World → Prop} (h : Calls P f args w R) : CallsIn (Fw r) N P f args w R :=
 ⟨trivial, fun cs _ => let ⟨e, w', fr, r, s, x⟩ := h cs; ⟨e, w', fr, r, comesIn_wide.2 s, x⟩⟩
theorem in_calls {f : FuncId} {args : Array Value} {R : Ending → World → Prop} (h : CallsIn (Fw r) N P f args w R) : Calls P f args w R :=
 fun cs => let ⟨e, w', fr, q, s, x⟩ := h.2 cs (Fw.room _ _); ⟨e, w', fr, q, comesIn_wide.1 s, x⟩
theorem rows_in {row : String} {args : Array Value} {R : Value → World → Prop} (h : Rows P row args w R) : RowsIn (Fw r) N P row args w R :=
 fun c cs _ => let ⟨v, w', q, s⟩ := h c cs; ⟨v, w', q, stepsIn_wide.2 s⟩
theorem op_in (hd : nod o = true) (h : o.wp P a w nxt Q) : o.wpIn (Fw r) N P a w nxt Q := by
 unfold Oper.wpIn
 refine ⟨fun _ _ => trivial, ?_⟩
 rw [Oper.semAt_eq _ _ _ (nod_ne hd)]
 unfold Oper.wp at h
 generalize (execOp a.eval o).run P w = res at *
 cases res with
 | ok x w' =>
  cases x <;> simp only [Oper.upon, Oper.uponIn] at h ⊢ <;> first
   | exact h
   | exact ⟨Fw.depth _ _, calls_in h⟩
   | exact ⟨Fw.depth _ _, rows_in h⟩
   | exact h.elim
 | halt x w' => cases x <;> simp only [Oper.upon, Oper.uponIn] at h ⊢ <;> exact h
theorem wpOp_in (hl : ¬ LetsOut Q) {i : Nat} (hd : ∀ o, ops[i]? = some o → nod o = true) {K K' : Act → World → Prop} (hK : ∀ a w, K a w → K' a w) (h : wpOp P ops Q i K a w) : wpOpIn (Fw r) N P ops Q i K' a w := by
 unfold wpOp at h
 unfold wpOpIn
 split
 ·rename_i he
  rw [he] at h
  exact hK _ _ h
 ·rename_i o he
  rw [he] at h
  simp only at h
  split
  ·rename_i hw
   rw [if_pos hw] at h
   rcases h with h | ⟨_, h⟩
   ·exact op_in (hd o he) (Oper.wp_mono hK h)
   ·exact absurd h hl
  ·rename_i hw
   rw [if_neg hw] at h
   exact ⟨fun _ _ => trivial, hK _ _ h⟩
theorem wpOps_in (hl : ¬ LetsOut Q) (hd : ∀ (i : Nat) o, ops[i]? = some o → nod o = true) : ∀ (l : List Nat) (a : Act) (w : World), wpOps P ops Q l a w → wpOpsIn (Fw r) N P ops Q l a w := by
 intro l
 induction l with
 | nil => exact fun a w h => h
 | cons i l ih =>
  intro a w h
  rw [wpOps_cons] at h
  rw [wpOpsIn_cons]
  exact wpOp_in hl (hd i) ih h
theorem wpAny_in (hl : ¬ LetsOut Q) (hd : ∀ (i : Nat) o, ops[i]? = some o → nod o = true) {md : Region.Mode} : ∀ (fuel : Nat) (ls : Array Bool) (a : Act) (w : World), wpAny P md ops Q fuel ls a w → wpAnyIn (Fw r) N P md ops Q fuel ls a w := by
 intro fuel
 induction fuel with
 | zero => exact fun ls a w h => h
 | succ fuel ih =>
  intro ls a w h
  exact ⟨h.1, fun i hi => wpOp_in hl (hd i) (ih _) (h.2 i hi)⟩
theorem region_in {id : Nat} (hl : ¬ LetsOut Q) (hd : ∀ (i : Nat) o, ops[i]? = some o → nod o = true) (h : wpList P ops Q ops.toList a w) : (Code.region id ops false).wpIn (Fw r) N P Q a w := by
 have e := wpOps_eq_wpList (P := P) (Q := Q) (ops := ops) ops.toList 0 (fun j => by simp)
 refine wpIn_region (wpOps_in hl hd _ _ _ ?_)
 rw [List.range_eq_range', ← Array.length_toList, e]
 exact h
theorem region_any_in {id : Nat} (hl : ¬ LetsOut Q) (hd : ∀ (i : Nat) o, ops[i]? = some o → nod o = true) (hm : P.follows .mixedOrders = true)
  (h : wpAny P .any ops Q ops.size (Array.replicate ops.size false) a { w with drawn := w.drawn + 1 }) : (Code.region id ops true).wpIn (Fw r) N P Q a w :=
 wpIn_region_any hm (wpAny_in hl hd _ _ _ _ h)
theorem nod_all (h : ops.toList.all nod = true) : ∀ (i : Nat) o, ops[i]? = some o → nod o = true := fun _ o ho =>
 List.all_eq_true.1 h o (Array.mem_toList_iff.2 (Array.mem_of_getElem? ho))
theorem qk_nl {E : Ent} {n : Nat} {K : Ex → T → H → Prop} : ¬ LetsOut (QK E n K) := fun ⟨_, _, _, _, _, _, _, h⟩ => h.elim
theorem wpIn_loopx {A : Type} {c : Code} (I : A → Act → World → Prop) (μ : A → Nat) (x : A) (h₀ : I x a w)
  (round : ∀ x a w, I x a w → c.wpIn (Fw r) N P (Exit.then (fun a' w' => ∃ y, I y a' w' ∧ μ y < μ x) Q) a w) : (Code.loop c).wpIn (Fw r) N P Q a w := by
 intro b k cs hro hb hr
 have key : ∀ (n : Nat) (x : A) (a : Act) (w : World), μ x = n → I x a w →
   ∃ e a' w', Q e a' w' ∧ ArrivesIn (Machine.fenced P (Fw r)) P (lone (b.atR a (.code c :: .inLoop c :: k)) cs w) b k cs e a' w' := by
  intro n
  induction n using Nat.strongRecOn with
  | _ n ih =>
   intro x a w hn hI
   obtain ⟨e, a₁, w₁, hq, harr⟩ := round x a w hI b (.inLoop c :: k) cs hro hb hr
   cases e with
   | normal =>
    obtain ⟨y, hI₁, hlt⟩ := hq
    obtain ⟨e₂, a₂, w₂, hq₂, harr₂⟩ := ih (μ y) (hn ▸ hlt) y a₁ w₁ rfl hI₁
    exact ⟨e₂, a₂, w₂, hq₂, .of_steps (StepsIn.trans harr (.one (fenced_calm hb hr rfl) stepR_inLoop)) harr₂⟩
   | exit id => exact ⟨_, a₁, w₁, hq, .pass (x := .inLoop c) rfl (fun _ _ => .inl (by simp)) harr⟩
   | goto l => exact ⟨_, a₁, w₁, hq, .pass (x := .inLoop c) rfl (fun _ _ => .inl (by simp)) harr⟩
   | ret => exact ⟨_, a₁, w₁, hq, .pass (x := .inLoop c) rfl (fun _ _ => .inl (by simp)) harr⟩
   | panic ch => exact ⟨_, a₁, w₁, hq, .pass (x := .inLoop c) rfl (fun _ _ => .inl (by simp)) harr⟩
   | outgrown => exact ⟨_, a₁, w₁, hq, .pass (x := .inLoop c) rfl (fun _ _ => .inl (by simp)) harr⟩
 obtain ⟨e, a', w', hq, harr⟩ := key _ x a w rfl h₀
 exact ⟨e, a', w', hq, .of_steps (.one (fenced_calm hb hr rfl) stepR_loop) harr⟩
end
end Go.Vx
namespace Go.Vx
section
variable {P : Program} {E : Ent} {n : Nat} {G G' : Nat → Prop} {ρ ρ' : List Value} {t : T} {h h' : H} {a : Act} {w w' : World}
def rcb (w : World) (b : Nat) : Prop := (∃ r, w.heap[b]? = some (.loop r)) ∨ ∃ ds, w.heap[b]? = some (.deferred ds)
theorem rcb.nclb {b : Nat} (h : rcb w b) (hc : clb w b) : False := by
 obtain ⟨x, y, z, hc⟩ := hc
 rcases h with ⟨r, h⟩ | ⟨r, h⟩ <;> rw [hc] at h <;> cases h
theorem rcb.lt {b : Nat} (h : rcb w b) : b < w.heap.size := by
 rcases h with ⟨r, h⟩ | ⟨r, h⟩ <;> exact (Array.getElem?_eq_some_iff.1 h).1
theorem RepB.nrec {hd : Value} {x : B} {r : Nat} (hb : RepB G w ρ hd x) (hn : x ≠ .no) (hr : r ∈ bks hd x) (h : rcb w r) : False := by
 rcases h with ⟨_, h⟩ | ⟨_, h⟩ <;> rcases hb.obj hn hr with ⟨_, _, h1⟩ | ⟨_, _, h1⟩ | ⟨_, _, _, _, h1⟩ <;> (rw [h] at h1; cases h1)
theorem HR.nrec (hr : HR G w ρ h) {b : Nat} (hb : rcb w b) : ¬ own ρ h b := fun ⟨id, v, x, h1, h2, h3, h4⟩ => (hr.rep id v x h1 h2).nrec h3 h4 hb
theorem Ok.ng (hO : Ok E G w ρ h) {l : Nat} (hl : rcb w l) (he : ¬ E.G l) : ¬ G l := fun hg => (hO.go l hg).elim he fun h => hl.nclb h.1
theorem Ok.comp {ds' : List Deferred} {ms' : List Nat} (hO : Ok E G w ρ h) (hms : ∀ r ∈ E.ms, r ∈ ms') (hP : Ok ⟨w, G, ρ, h, ds', ms'⟩ G' w' ρ' h') : Ok E G' w' ρ' h' := by
 refine ⟨hP.hr, fun b hb => hP.gm b (hO.gm b hb), fun b hb => ?_, fun b hb => ?_, fun b hb hn => ?_, Nat.le_trans hO.size hP.size, hP.os.trans hO.os, hP.tape.trans hO.tape, hP.out.trans hO.out,
  fun id v hv hs => hP.hand id v (hO.hand id v hv hs) hs, Nat.le_trans hO.hl hP.hl, fun r hr => hP.mks r (hms r hr)⟩
 ·rcases hP.go b hb with h1 | ⟨h1, h2⟩
  ·rcases hO.go b h1 with h3 | ⟨h3, h4⟩
   ·exact .inl h3
   ·exact .inr ⟨h3.same (hP.frame b (hO.hr.gl b h1) (hO.hr.gd b h1)), h4⟩
  ·refine .inr ⟨h1, ?_⟩
   rcases h2 with h2 | h2
   ·exact .inl (Nat.le_trans hO.size h2)
   ·exact hO.oo b h2
 ·rcases hP.oo b hb with h1 | h1
  ·exact .inl (Nat.le_trans hO.size h1)
  ·exact hO.oo b h1
 ·refine (hP.frame b (Nat.lt_of_lt_of_le hb hO.size) fun ho => ?_).trans (hO.frame b hb hn)
  rcases hO.oo b ho with h1 | h1
  ·exact absurd hb (Nat.not_lt.2 h1)
  ·exact hn h1
theorem Ok.putr (hO : Ok E G w ρ h) {l : Nat} (hl : rcb w l) (hE : E.w.heap.size ≤ l) (hg : ¬ G l) {ms : List Nat} (hm : ∀ r ∈ ms, r ∈ E.ms ∧ r ≠ l) {ds : List Deferred} (o : Obj) : Ok { E with ds := ds, ms := ms } G (w.putObj l o) ρ h := by
 have hw : ∀ b, b ≠ l → (w.putObj l o).heap[b]? = w.heap[b]? := fun _ hb => World.putObj_heap_other hb
 have hG : ∀ b, G b → (w.putObj l o).heap[b]? = w.heap[b]? := fun b hb => hw b fun e => hg (e ▸ hb)
 have hn := hO.hr.nrec hl
 refine ⟨⟨hO.hr.len, fun id v x hv hx => ?_, hO.hr.dis, fun b hb => by rw [World.putObj_size]; exact hO.hr.gl b hb, hO.hr.gd, hO.hr.glb.mono (fun _ h => h) hG⟩, hO.gm, fun b hb => (hO.go b hb).imp (fun h => h) fun h2 => ⟨h2.1.same (hG b hb), h2.2⟩, hO.oo,
  fun b hb hno => (hw b fun e => ?_).trans (hO.frame b hb hno), by rw [World.putObj_size]; exact hO.size, hO.os, hO.tape, hO.out, hO.hand, hO.hl, fun r hr => ?_⟩
 ·by_cases hx0 : x = .no
  ·subst hx0; trivial
  ·exact (hO.hr.rep id v _ hv hx).mono (fun _ h => h) hG (fun b hb => hw b fun e => hn (e ▸ ⟨id, v, x, hv, hx, hx0, hb⟩)) (fun _ _ => rfl)
 ·subst e; exact absurd hb (Nat.not_lt.2 hE)
 ·obtain ⟨h1, h2⟩ := hm r hr
  obtain ⟨g1, g2, g3⟩ := hO.mks r h1
  exact ⟨(hw r h2).trans g1, g2, g3⟩
theorem rep_putr {v : Value} {x : V} (hv : Rep2 G w ρ v x) {l : Nat} (hg : ¬ G l) (o : Obj) : Rep2 G (w.putObj l o) ρ v x :=
 hv.mono (fun _ h => h) (fun _ hb => World.putObj_heap_other fun e => hg (e ▸ hb)) (fun _ _ => rfl)
theorem RepK.ns {v : Value} {x : V} (hv : RepK G w ρ v x) (hs : slc x = false) : ∀ i ∈ idc x, ∃ u, ρ[i]? = some u ∧ isSl u = false := by
 intro i hi
 cases hv with
 | p id off b h => simp only [idc, List.mem_singleton] at hi; subst hi; exact ⟨_, h, rfl⟩
 | mp id r h => simp only [idc, List.mem_singleton] at hi; subst hi; exact ⟨_, h, rfl⟩
 | it id r m h => simp only [idc, List.mem_singleton] at hi; subst hi; exact ⟨_, h, rfl⟩
 | os id a n c h => cases hs
 | q id z i off b n c h => cases hs
 | ov id z i _ a n c h hv => cases hs
 | _ => simp [idc] at hi
theorem slc0 {x : V} (h : sl0 x = false) : slc x = false := by cases x <;> first | exact h | rfl
theorem sl01 {x : V} (h : sl1 x = false) : sl0 x = false := by cases x <;> first | exact h | rfl
theorem sl12 {x : V} (h : sl2 x = false) : sl1 x = false := by cases x <;> first | exact h | rfl
theorem RepC.ns {v : Value} {x : V} (hv : RepC G w ρ v x) (hs : sl0 x = false) : ∀ i ∈ id0 x, ∃ u, ρ[i]? = some u ∧ isSl u = false := by
 intro i hi
 cases hv with
 | k h =>
  have e : id0 x = idc x := by cases h <;> rfl
  exact h.ns (slc0 hs) i (e ▸ hi)
 | fc f u cs caps h0 h1 h2 =>
  simp only [id0, List.mem_flatMap] at hi
  obtain ⟨y, hy, hi⟩ := hi
  obtain ⟨k, hk⟩ := List.mem_iff_getElem?.1 hy
  simp only [sl0, List.any_eq_false] at hs
  exact (h2 k y hk).ns (by simpa using hs y hy) i hi
theorem Rep1.ns {v : Value} {x : V} (hv : Rep1 G w ρ v x) (hs : sl1 x = false) : ∀ i ∈ id1 x, ∃ u, ρ[i]? = some u ∧ isSl u = false := by
 intro i hi
 cases hv with
 | c h =>
  have e : id1 x = id0 x := by
   cases h with
   | k h => cases h <;> rfl
   | fc => rfl
  exact h.ns (sl01 hs) i (e ▸ hi)
 | ag cs vs h1 h2 =>
  simp only [id1, List.mem_flatMap] at hi
  obtain ⟨y, hy, hi⟩ := hi
  obtain ⟨k, hk⟩ := List.mem_iff_getElem?.1 hy
  simp only [sl1, List.any_eq_false] at hs
  exact (h2 k y hk).ns (by simpa using hs y hy) i hi
theorem Rep2.ns {v : Value} {x : V} (hv : Rep2 G w ρ v x) (hs : sl2 x = false) : ∀ i ∈ id2 x, ∃ u, ρ[i]? = some u ∧ isSl u = false := by
 intro i hi
 cases hv with
 | o h =>
  have e : id2 x = id1 x := by
   cases h with
   | c h => cases h with
    | k h => cases h <;> rfl
    | fc => rfl
   | ag => rfl
  exact h.ns (sl12 hs) i (e ▸ hi)
 | tu cs vs h1 h2 =>
  simp only [id2, List.mem_flatMap] at hi
  obtain ⟨y, hy, hi⟩ := hi
  obtain ⟨k, hk⟩ := List.mem_iff_getElem?.1 hy
  simp only [sl2, List.any_eq_false] at hs
  exact (h2 k y hk).ns (by simpa using hs y hy) i hi
def Stay (G : Nat → Prop) (w : World) (ρ : List Value) (G' : Nat → Prop) (w' : World) (ρ' : List Value) : Prop :=
 (∀ b, G b → G' b ∧ w'.heap[b]? = w.heap[b]?) ∧ ∀ (i : Nat) (u : Value), ρ[i]? = some u → isSl u = false → ρ'[i]? = some u
theorem Stay.refl : Stay G w ρ G w ρ := ⟨fun _ h => ⟨h, rfl⟩, fun _ _ h _ => h⟩
theorem Stay.trans {G1 G2 : Nat → Prop} {w1 w2 : World} {ρ1 ρ2 : List Value} (h : Stay G w ρ G1 w1 ρ1) (k : Stay G1 w1 ρ1 G2 w2 ρ2) : Stay G w ρ G2 w2 ρ2 :=
 ⟨fun b hb => let h1 := h.1 b hb; let h2 := k.1 b h1.1; ⟨h2.1, h2.2.trans h1.2⟩, fun i u hi hu => k.2 i u (h.2 i u hi hu) hu⟩
theorem Stay.put {l : Nat} (hg : ¬ G l) (o : Obj) : Stay G w ρ G (w.putObj l o) ρ := ⟨fun _ hb => ⟨hb, World.putObj_heap_other fun e => hg (e ▸ hb)⟩, fun _ _ h _ => h⟩
theorem Ok.stay {ds : List Deferred} {ms : List Nat} (hr : HR G w ρ h) (hP : Ok ⟨w, G, ρ, h, ds, ms⟩ G' w' ρ' h') : Stay G w ρ G' w' ρ' :=
 ⟨fun b hb => ⟨hP.gm b hb, hP.frame b (hr.gl b hb) (hr.gd b hb)⟩, hP.hand⟩
theorem Stay.rep (hS : Stay G w ρ G' w' ρ') {v : Value} {x : V} (hv : Rep2 G w ρ v x) (hs : sl2 x = false) : Rep2 G' w' ρ' v x :=
 hv.mono (fun b hb => (hS.1 b hb).1) (fun b hb => (hS.1 b hb).2) (fun i hi => let ⟨u, h1, h2⟩ := hv.ns hs i hi; (hS.2 i u h1 h2).trans h1.symm)
theorem Stay.repk (hS : Stay G w ρ G' w' ρ') {v : Value} {x : V} (hv : RepK G w ρ v x) (hs : slc x = false) : RepK G' w' ρ' v x :=
 hv.mono (fun b hb => (hS.1 b hb).1) (fun b hb => (hS.1 b hb).2) (fun i hi => let ⟨u, h1, h2⟩ := hv.ns hs i hi; (hS.2 i u h1 h2).trans h1.symm)
def mkD (r : Nat) : Deferred := { target := .collected r, args := #[] }
def MkOf (E E' : Ent) : Prop := ∃ l : List Nat, E' = { E with ds := l.map mkD ++ E.ds, ms := l ++ E.ms } ∧ (E.ms.Nodup → (l ++ E.ms).Nodup) ∧ ∀ r ∈ l, E.w.heap.size ≤ r
theorem MkOf.refl (E : Ent) : MkOf E E := ⟨[], rfl, fun h => h, by simp⟩
theorem MkOf.trans {E E1 E2 : Ent} (h : MkOf E E1) (k : MkOf E1 E2) : MkOf E E2 := by
 obtain ⟨l, rfl, h1, h2⟩ := h
 obtain ⟨m, rfl, k1, k2⟩ := k
 refine ⟨m ++ l, by simp, fun h => by simpa using k1 (h1 h), fun r hr => ?_⟩
 rcases List.mem_append.1 hr with h | h
 ·exact k2 r h
 ·exact h2 r h
theorem MkOf.ew {E E1 : Ent} (h : MkOf E E1) : E1.w = E.w := by obtain ⟨l, rfl, _⟩ := h; rfl
theorem MkOf.eG {E E1 : Ent} (h : MkOf E E1) : E1.G = E.G := by obtain ⟨l, rfl, _⟩ := h; rfl
theorem MkOf.er {E E1 : Ent} (h : MkOf E E1) : E1.ρ = E.ρ := by obtain ⟨l, rfl, _⟩ := h; rfl
theorem MkOf.eh {E E1 : Ent} (h : MkOf E E1) : E1.h = E.h := by obtain ⟨l, rfl, _⟩ := h; rfl
def nrf : Code → Bool
 | .seq a b => nrf a && nrf b
 | .cond _ a b => nrf a && nrf b
 | .block _ c => nrf c
 | .loop c => nrf c
 | .rangeFunc _ _ _ _ => false
 | _ => true
def QM (b : Bool) (E : Ent) (n : Nat) (K : Ex → T → H → Prop) (e : Exit) (a : Act) (w : World) : Prop :=
 ∃ E', MkOf E E' ∧ (b = true → E' = E) ∧ QK E' n K e a w
theorem QM.of {b : Bool} {K : Ex → T → H → Prop} {e : Exit} (h : QK E n K e a w) : QM b E n K e a w := ⟨E, .refl E, fun _ => rfl, h⟩
theorem QM.qk {K : Ex → T → H → Prop} {e : Exit} (h : QM true E n K e a w) : QK E n K e a w := by
 obtain ⟨E', h1, h2, h3⟩ := h
 rw [h2 rfl] at h3
 exact h3
def Rnd (r : Option Nat) (E : Ent) : Prop := ∀ l, r = some l → (∃ rec, E.w.heap[l]? = some (.loop rec)) ∧ ¬ own E.ρ E.h l
theorem Rnd.none (E : Ent) : Rnd none E := fun _ h => by cases h
theorem Rnd.mk {r : Option Nat} {E E1 : Ent} (h : Rnd r E) (hm : MkOf E E1) : Rnd r E1 := by
 obtain ⟨l, rfl, _⟩ := hm
 exact h
def WK (P : Program) (ow : Nat → Bool) (n : Nat) (c : Code) (x : C) : Prop :=
 ∀ (r : Option Nat) (N : Nat) (E : Ent), E.ρ.length = E.h.length → Rnd r E → ∀ (G : Nat → Prop) (ρ : List Value) (t : T) (h : H) (a : Act) (w : World) (K : Ex → T → H → Prop), Conc E n G ρ t h a w →
  wx (Sat P) ow E.h.length x t h K → c.wpIn (Fw r) N P (QM (nrf c) E n K) a w
theorem rwd_rep {d : D} (h : rwd d) : RepD G w (encD d) d := by
 cases d with
 | int k n => exact .int k n
 | bool b => exact .bool b
 | str s =>
  have := RepD.str (G := G) (w := w) ⟨s.toArray⟩ (by simpa [ByteArray.size, rwd, maxLen] using h)
  simpa [encD] using this
 | _ => exact h.elim
theorem lys_ok : ∀ (ps : List Nat) (r : List D) (t : T) (u : Array Value), (∀ p ∈ ps, p < u.size) → (∀ d ∈ r, rwd d) → (∀ i, Rep2 G w ρ (u.getD i undef) (gs t i)) →
  ∀ i, Rep2 G w ρ (((ps.zip (r.map encD)).foldl (fun t (p, v) => t.setIfInBounds p v) u).getD i undef) (gs (lys ps r t) i) := by
 intro ps
 induction ps with
 | nil => intro r t u _ _ h; exact h
 | cons p ps ih =>
  intro r t u hp hr h
  cases r with
  | nil => exact h
  | cons d r =>
   refine ih r _ (u.setIfInBounds p (encD d)) (fun q hq => by simpa using hp q (by simp [hq])) (fun x hx => hr x (by simp [hx])) (fun i => ?_)
   have hpl := hp p (by simp)
   rw [gs_cons]
   by_cases e : p = i
   ·subst e
    simp only [Nat.beq_refl, cond_true]
    have := rwd_rep (G := G) (w := w) (hr d (by simp))
    simpa [Array.getElem?_setIfInBounds, hpl] using (Rep2.o (.c (.k (.d this))) : Rep2 G w ρ _ _)
   ·rw [nbeq e, cond_false]
    simpa [Array.getElem?_setIfInBounds, e] using h i
theorem fold_size : ∀ (l : List (Nat × Value)) (u : Array Value), (l.foldl (fun t (p, v) => t.setIfInBounds p v) u).size = u.size := by
 intro l
 induction l with
 | nil => intro u; rfl
 | cons x l ih => intro u; rw [List.foldl_cons, ih]; simp
theorem gs_memb {T0 : T} (h : (T0.all fun p => !(sl2 p.2)) = true) (i : Nat) : sl2 (gs T0 i) = false := by
 rcases (show gs T0 i = .un ∨ ∃ p ∈ T0, p.2 = gs T0 i from by
  induction T0 with
  | nil => exact .inl rfl
  | cons p T0 ih =>
   simp only [List.all_cons, Bool.and_eq_true] at h
   rw [gs_cons]
   cases hb : Nat.beq p.1 i
   ·rw [cond_false]
    rcases ih h.2 with h1 | ⟨q, h1, h2⟩
    ·exact .inl h1
    ·exact .inr ⟨q, by simp [h1], h2⟩
   ·rw [cond_true]
    exact .inr ⟨p, by simp, rfl⟩) with e | ⟨p, hp, e⟩
 ·rw [e]; rfl
 ·rw [← e]
  have := List.all_eq_true.1 h p hp
  simpa using this
end
end Go.Vx
