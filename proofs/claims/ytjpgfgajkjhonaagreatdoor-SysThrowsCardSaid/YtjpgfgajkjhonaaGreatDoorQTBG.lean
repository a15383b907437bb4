/- An argument that can be read as data has a picture. Conditions: its type is built of numbers, bools, texts, slices and structs. -/
import Derived.Test.YtjpgfgajkjhonaaGreatDoorQTAS
import Derived.Test.YtjpgfgajkjhonaaGreatDoorRows
import Derived.ProofKit
import Derived.JoinedCond
import Derived.Carry
namespace Go.Vx
open Go.Proofs.YtjpgfgajkjhonaaGreatDoor
inductive Ty where
 | int (k : IntKind)
 | bool
 | str
 | sl (e : Ty)
 | un
 | pr (a b : Ty)
def Ty.n : Ty → Nat
 | .un => 0
 | .pr a b => a.n + b.n
 | _ => 1
section
variable {H : Type} {enc : TypeId × Value → H} {P : Program} {W : World}
theorem inR_of {k : IntKind} {n : Int} (h : (Lit.int k n).wf = true) : inR k n := by
 cases k <;> simp [Lit.wf, IntKind.min, IntKind.max, IntKind.signed, IntKind.bits] at h <;> simp [inR] <;> omega
end
end Go.Vx
namespace Go.Vx
open Go.ChangeShapes Go.WideShapes Go.ChangeAt Go.RowKit
section
variable {H : Type} {enc : TypeId × Value → H} {P : Program} {W : World}
theorem calls_of_sat {f : Nat} {vs : List V} {args : Array Value} (hgl : Glb (all W) W) (hs : SatP P f vs (.d (.bool true))) (hl : args.size = vs.length) (hr : ∀ (i : Nat) (x : V), vs[i]? = some x → Rep2 (all W) W [] (args.getD i undef) x) (hf : Nat.blt f 5000000 = true := by rfl) :
  Calls P f args W fun e W' => e = .returned (.bool true) ∧ Below W.heap.size W W' := by
 have h0 : HR (all W) W [] [] := ⟨rfl, fun id v x h => by simp at h, fun id _ v _ _ _ _ h => by simp at h, fun b hb => hb, (fun b _ ho => by
  obtain ⟨id, v, x, h, _⟩ := ho
  simp at h), hgl⟩
 have := (Sat.fn hs (by simpa [Nat.blt_eq] using hf)).run (all W) W [] args.toList h0 (by simpa using hl) (fun i x hi => by simpa [List.getD_eq_getElem?_getD, Array.getD_eq_getD_getElem?] using hr i x hi)
 rw [Array.toArray_toList] at this
 refine this.mono fun e W' hq => ?_
 obtain ⟨G', ρ', h', out, hO, he, rfl, rfl⟩ := hq
 obtain ⟨v, rfl, hv⟩ := he
 refine ⟨by rw [hv.bool], hO.os, hO.tape, hO.out, hO.size, fun b hb => hO.frame b hb ?_⟩
 rintro ⟨id, v, x, h, _⟩
 simp at h
theorem trodAll_stays (hlo : laidOutB P = true) {W' : World} (hb : Below W.heap.size W W') (sp : Nat → Bool) : ∀ (ts : List TypeId) (vs : List Value) (ds : List (DataW H)) (ps : List MemPlace), (∀ t ∈ ts, P.readableRec t = true ∧ t < P.types.size) → (∀ p ∈ ps, p.block < W.heap.size) → (∀ p ∈ ps, sp p.block = true) →
  DataW.TrodAll enc P W 0 (fun _ => true) true ts vs ds ps → DataW.TrodAll enc P W' 0 sp true ts vs ds ps := by
 intro ts
 induction ts with
 | nil =>
  intro vs ds ps _ _ _ h
  cases vs <;> cases ds <;> first | exact h | exact h.elim
 | cons t ts ih =>
  intro vs ds ps h1 h2 h3 h
  cases vs with
  | nil => exact h.elim
  | cons v vs => cases ds with
   | nil => exact h.elim
   | cons d ds =>
    obtain ⟨p, q, g1, g2, rfl⟩ := h
    obtain ⟨r1, r2⟩ := h1 t (by simp)
    exact ⟨p, q, WideElems.Trod_stays hlo r1 r2 g1 (fun x hx => hb.same (h2 x (by simp [hx]))) (fun x hx => h3 x (by simp [hx])), ih vs ds q (fun t ht => h1 t (by simp [ht])) (fun x hx => h2 x (by simp [hx])) (fun x hx => h3 x (by simp [hx])) g2, rfl⟩
theorem post_law {f : Func} {s : ChangeSpec} {W' : World} {args : Array Value} {ds gs : List (DataW H)} {before : List MemPlace} {tb : TypeId} (hlo : laidOutB P = true) (hread : ∀ t ∈ f.params.toList, P.readableRec t = true ∧ t < P.types.size)
  (hres : f.resultTypes = #[tb]) (htb : P.underlying tb = some .bool) (hv : s.vars = []) (hW : DataW.Whole enc P f.params.toList s.vars false W args.toList ds gs before)
  (h1 : (s.fn H (ds ++ gs)).results = [.lit (.bool true)]) (h2 : (s.fn H (ds ++ gs)).args = ds) (h3 : (s.fn H (ds ++ gs)).vars = []) (hb : Below W.heap.size W W') :
  s.post enc P f false true false false W args (.bool true) W' := by
 have hlt : ∀ p ∈ before, p.block < W.heap.size := fun p hp => hW.lt p hp
 have hW' := hW
 obtain ⟨p, q, hA, hV, rfl, hz, hn⟩ := hW
 rw [hv] at hV
 have hq : q = [] := by
  cases gs with
  | nil => exact hV
  | cons g gs => exact hV.elim
 subst hq
 have har : ∀ sp : Nat → Bool, (∀ x ∈ p ++ [], sp x.block = true) → DataW.TrodAll enc P W' 0 sp true f.params.toList args.toList (s.fn H (ds ++ gs)).args p := fun sp hsp => by
  rw [h2]
  exact trodAll_stays hlo hb sp _ _ _ _ hread (fun x hx => hlt x (by simp [hx])) (fun x hx => hsp x (by simp [hx])) hA
 have hvr : ∀ sp : Nat → Bool, DataW.TrodVars enc P W' sp s.vars (s.fn H (ds ++ gs)).vars [] := fun sp => by rw [hv, h3]; rfl
 have hre : ∀ (b : Nat) (sp : Nat → Bool) (hd : Bool), DataW.TrodAll enc P W' b sp hd f.resultTypes.toList ((Value.bool true).resultList f.resultTypes.size) (s.fn H (ds ++ gs)).results [] := fun b sp hd => by
  rw [h1, hres]
  exact trodAll_mk1 (shut_bool htb true)
 have hold : ∀ x ∈ p ++ [], (fun b => decide (b < W.heap.size)) x.block = true := fun x hx => by simpa using hlt x hx
 refine ⟨ds, gs, p ++ [], [], p, [], hW', hre _ _ _, har _ hold, hvr _, World.keptBut_mono (fun x hx => ⟨hx, ?_⟩) (hb.frame (· ∈ p ++ [])), fun h => by cases h⟩
 rw [List.mem_append] at hx
 exact .inr hx
theorem open_nt {t : TypeId} {k : IntKind} {base : Nat} {v : Value} {d : DataW H} {p : List MemPlace} (hu : P.underlying t = some (.int k)) (hok : Value.okWide P W .any base t v) (h : DataW.Trod enc P W 0 (fun _ => true) true t v d p) :
  ∃ n, inR k n ∧ Rep2 (all W) W [] v (.d (.int k n)) := by
 obtain ⟨a, rfl, _, _, wa⟩ := open_int hu hok h
 exact ⟨a, inR_of wa, .o (.c (.k (.d (.int k a))))⟩
end
end Go.Vx
