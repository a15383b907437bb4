/- The keys of a map of numbers, sorted: the library's contract, in the picture. Conditions: a map of at most a million numbers. -/
import Derived.Test.YtoibcfioicdlhaaGreatDoorLy
import Derived.Test.YtoibcfioicdlhaaGreatDoorVxV
import Derived.KernelRfl
namespace Go.Proofs.YtoibcfioicdlhaaGreatDoor
open Go.Vx
open Go.RowKit Go.Maps Go.Sort Go.Shelf Go.Proofs

/-- From small to great. -/
def srt (l : List Int) : List Int := l.mergeSort fun x y => decide (x ≤ y)
def rowsI (l : List Int) : List (List D) := l.map fun n => [.int .i64 n]

theorem sortsA (m : Nat) : AnyZI.SortsIn Tryz.prog sortedAR Fence.wide m :=
  ⟨fun blk off cap ss W hH hblk hsz => callsIn_wide.2 (AnyM.slices_Sort_int sortA blk off cap ss W hH hblk hsz),
   fun p cap W => callsIn_wide.2 (AnyM.slices_Sort_int_none sortA p cap W)⟩

theorem keyOf3 {n : Int} (h : inR .i64 n) : keyOf Tryz.prog 3 (.int .i64 n) = some (.int .i64 n) := by
  have hw : (Lit.int .i64 n).wf = true := by
    simp only [inR] at h
    simp [Lit.wf, IntKind.min, IntKind.max, IntKind.signed, IntKind.bits]
    omega
  simp [keyOf, Tryz.underlying3, mapKey, hw]

theorem srt_perm {a b : List Int} (h : a.Perm b) : srt a = srt b := mergeSort_of_perm_i h

set_option maxHeartbeats 2000000 in
theorem sorted37 {ρk : Ren} (Lk : SlLaysZI.n7 Tryz.prog ρk) {g : Nat} (hg : ρk.f 10 = g) (h26 : ρk.t 26 = 3) (hfn : g < 1000000) (eg : ∀ args w, (callFunc g args).run Tryz.prog w = .ok (.enter g args) w) (es : List (D × Bool × List D)) (ks : List Int)
    (hks : es.map (·.1) = ks.map fun n => .int .i64 n) (hin : ∀ n ∈ ks, inR .i64 n) (hnd : ks.Nodup) (hlen : ks.length ≤ 1000000) :
    Sat Tryz.prog 37 [.fc g [.p 0 0]] [.cells [.mp 1], .dm es] fun out h => out = .ret (.os 2) ∧ h = [.cells [.mp 1], .dm es, .rows 1 (rowsI (srt ks))] := by
  refine ⟨by kernel_rfl, fun G w ρ vs hR hl hv => ?_⟩
  have hρ := hR.len
  match ρ, hρ with
  | [v0, v1], _ =>
  match vs, hl with
  | [a0], _ =>
  obtain ⟨b, arr, ty, rfl, hb, hsz, hr⟩ := hR.rep 0 v0 _ rfl rfl
  obtain ⟨r, arr', clk, hv1, hb', hsz', hord, hre⟩ := hR.rep 1 v1 _ rfl rfl
  have hc := hr 0 (.mp 1) rfl
  have hcell : w.cell? ⟨b, 0, none⟩ = some (.map (some r)) := by
    cases hc with
    | k hc =>
      generalize hav : arr.getD 0 undef = av at hc
      cases hc with
      | mp _ r2 h2 =>
        simp only [List.getElem?_cons_succ, List.getElem?_cons_zero, Option.some.injEq] at h2
        rw [hv1] at h2
        cases h2
        have h0 : 0 < arr.size := by rw [hsz]; exact Nat.one_pos
        rw [cell_arr hb, Array.getElem?_eq_getElem h0]
        rw [Array.getD_eq_getD_getElem?, Array.getElem?_eq_getElem h0] at hav
        exact congrArg some hav
  have ha0 : a0 = .func (.func g) #[] #[.pointer (some ⟨b, 0, none⟩)] := by
    obtain ⟨cs, hfc, hcs, hcr⟩ := (hv 0 _ rfl).fcl
    have h1 := fcv_fn hfc hfn
    have h2 := hcr 0 _ rfl
    have : cs = #[.pointer (some ⟨b, 0, none⟩)] := by
      cases cs with
      | mk l =>
        match l, hcs with
        | [x], _ =>
          have h3 : (#[x] : Array Value).getD 0 undef = x := rfl
          rw [h3] at h2
          cases h2 with
          | p _ _ b2 h4 =>
            simp only [List.getElem?_cons_zero, Option.some.injEq, Value.pointer.injEq, Addr.mk.injEq, and_true] at h4
            rw [h4]
    rw [this] at h1
    exact h1
  subst ha0
  -- the keys, as they stand in the world
  have hks : (mpOf es).map (·.1) = ks.map fun n => .d (.int .i64 n) := by
    have h1 : (mpOf es).map (·.1) = (es.map (·.1)).map V.d := by simp [mpOf]
    rw [h1, hks, List.map_map]
    rfl
  generalize mpOf es = es1 at *
  have hkl : arr'.toList.map (·.key) = ks.map (Value.int .i64) := by
    apply List.ext_getElem?
    intro i
    rw [List.getElem?_map, List.getElem?_map]
    have hlk : es1.length = ks.length := by simpa using congrArg List.length hks
    cases he : arr'.toList[i]? with
    | none =>
      have : ks[i]? = none := by
        rw [List.getElem?_eq_none_iff] at he ⊢
        simp at he
        omega
      rw [this]; rfl
    | some e =>
      have hi : i < es1.length := by
        have := (List.getElem?_eq_some_iff.1 he).1
        simp at this
        omega
      have hx := List.getElem?_eq_getElem hi
      have h1 := (hre i e es1[i] (by simpa using he) hx).1
      have h2 : (es1.map (·.1))[i]? = some es1[i].1 := by rw [List.getElem?_map, hx]; rfl
      rw [hks, List.getElem?_map] at h2
      cases hk : ks[i]? with
      | none => rw [hk] at h2; cases h2
      | some n =>
        rw [hk] at h2
        simp only [Option.map_some, Option.some.injEq] at h2
        rw [← h2] at h1
        have h3 : e.key = .int .i64 n := Rep2.int (.o h1)
        rw [Option.map_some, Option.map_some, h3]
  have hkey : ∀ e ∈ arr'.toList, ∃ n ∈ ks, e.key = .int .i64 n := by
    intro e he
    have : e.key ∈ arr'.toList.map (·.key) := List.mem_map.2 ⟨e, he, rfl⟩
    rw [hkl] at this
    obtain ⟨n, hn, h⟩ := List.mem_map.1 this
    exact ⟨n, hn, h.symm⟩
  have hsz2 : arr'.size = ks.length := by
    have := congrArg List.length hkl
    simpa using this
  let R : Value → Option (DataW Unit × List MemPlace) := fun _ => some (.nil, [])
  have hrd : ∀ e ∈ arr'.toList, ∃ n, e.key = .int .i64 n ∧ WideElems.rd Tryz.prog 3 R e = some (.int .i64 n, .nil) := by
    intro e he
    obtain ⟨n, hn, hk⟩ := hkey e he
    refine ⟨n, hk, ?_⟩
    simp only [WideElems.rd, hk, keyOf3 (hin n hn)]
    rfl
  have hown : w.ownsMap Tryz.prog 3 R r arr'.size (.map ((arr'.toList.map (WideElems.rg Tryz.prog 3 R)).foldr DataW.insert [])) := by
    refine ⟨arr', clk, hb', ⟨by rw [hsz2]; simp only [maxLen]; omega, ⟨hord.1, ?_, ?_⟩, fun x hx => ?_⟩, Nat.le_refl _, rfl⟩
    · exact hord.2.imp fun h => Nat.ne_of_lt h
    · rw [hkl]
      refine List.pairwise_map.2 (hnd.imp fun h e => h (by simpa using e))
    · obtain ⟨n, _, h⟩ := hrd x hx
      exact ⟨_, h⟩
  have hperm : (intKeys (.map ((arr'.toList.map (WideElems.rg Tryz.prog 3 R)).foldr DataW.insert []) : DataW Unit)).Perm ks := by
    have h1 : (intKeys (.map ((arr'.toList.map (WideElems.rg Tryz.prog 3 R)).foldr DataW.insert []) : DataW Unit)).Perm ((arr'.toList.map (WideElems.rg Tryz.prog 3 R)).map fun p => Go.intOf p.1) := (WideShapes.sorted_perm _).map _
    have h2 : ((arr'.toList.map (WideElems.rg Tryz.prog 3 R)).map fun p => Go.intOf p.1) = ks := by
      have h3 : ((arr'.toList.map (WideElems.rg Tryz.prog 3 R)).map fun p => Go.intOf p.1) = (arr'.toList.map (·.key)).map fun v => match v with | .int _ n => n | _ => 0 := by
        rw [List.map_map, List.map_map]
        refine List.map_congr_left fun e he => ?_
        obtain ⟨n, h4, h5⟩ := hrd e he
        simp only [Function.comp, WideElems.rg_of h5, h4, Go.intOf]
      rw [h3, hkl, List.map_map]
      exact (List.map_congr_left fun n _ => rfl).trans (List.map_id' ks)
    exact h2 ▸ h1
  have hsize : Maps.size (.map ((arr'.toList.map (WideElems.rg Tryz.prog 3 R)).foldr DataW.insert []) : DataW Unit) = ks.length := by
    have := (WideShapes.sorted_perm (arr'.toList.map (WideElems.rg Tryz.prog 3 R))).length_eq
    simp only [Maps.size, List.length_map, Array.length_toList] at this ⊢
    rw [this, hsz2]
  have hblt : b < w.heap.size := (Array.getElem?_eq_some_iff.1 hb).1
  have hseq : SeqGives Fence.wide 2 Tryz.prog g #[.pointer (some ⟨b, 0, none⟩)] encZ (fun ss => ss.Perm (intKeys (.map ((arr'.toList.map (WideElems.rg Tryz.prog 3 R)).foldr DataW.insert []) : DataW Unit))) (Maps.size (.map ((arr'.toList.map (WideElems.rg Tryz.prog 3 R)).foldr DataW.insert []) : DataW Unit)) w := by
    have := AnyZI.keys_gives (ρ := ρk) { Lk with } Fence.wide 2 trivial rfl (by omega) b r arr'.size _ w hblt hcell (by rw [h26]; exact hown)
    rw [hg] at this
    exact this
  have cS := AnyZI.sorted_in sortedA Fence.wide 5 trivial trivial trivial trivial rfl (by omega) (sortsA _) (enters_of Tryz.func86 (by kernel_rfl) rfl) g #[.pointer (some ⟨b, 0, none⟩)] trivial eg _ _ (by rw [hsize]; simp only [maxLen]; omega) (by rw [hsize]; omega) w hseq
  change CallsIn _ _ Tryz.prog 37 _ _ _ at cS
  refine (callsIn_wide.1 cS).mono ?_
  rintro e w' ⟨v, ss, rfl, hS, hrow, hnil, hbel⟩
  have hss : ss.mergeSort (fun x y => decide (x ≤ y)) = srt ks := srt_perm (hS.trans hperm)
  rw [hss] at hrow
  have hssl : ss.length = (srt ks).length := by rw [← hss, List.length_mergeSort]
  have hgrw : Grw w w' := ⟨hbel.size, hbel.block, hbel.os, hbel.tape, hbel.output⟩
  have hO := (Ok.refl hR).push hgrw v (.rows 1 (rowsI (srt ks))) (fun b2 hb2 => by
    rcases hrow.2 with ⟨rfl, _⟩ | ⟨g2, cap, cur, rfl, h1, _⟩
    · cases hb2
    · simp only [blk, Option.some.injEq] at hb2
      omega) (by
    rcases hrow.2 with ⟨rfl, h0⟩ | ⟨g2, cap, cur, rfl, h1, h2, h3, h4, h5, h6⟩
    · refine .inl ⟨rfl, ?_⟩
      have : srt ks = [] := List.eq_nil_of_length_eq_zero (by omega)
      rw [this]; rfl
    · have hrl : (rowsI (srt ks)).length = ss.length := by simp [rowsI, hssl]
      refine .inr ⟨g2, cap, cur, _, by rw [hrl], h2, by rw [hrl]; exact h3, h4, h5, fun i row hi => ?_⟩
      rw [rowsI, List.getElem?_map] at hi
      cases hk : (srt ks)[i]? with
      | none => rw [hk] at hi; cases hi
      | some n =>
        rw [hk] at hi
        cases hi
        refine ⟨rfl, fun j x hx => ?_⟩
        match j, hx with
        | 0, hx =>
          cases hx
          have hil : i < ss.length := by rw [hssl]; exact (List.getElem?_eq_some_iff.1 hk).1
          have h7 : (cur.toList.take (ss.length * 1))[i]? = some (encZ n) := by rw [h6, List.getElem?_map, hk]; rfl
          rw [List.getElem?_take, if_pos (by omega), Array.getElem?_toList] at h7
          have h8 : cur.getD (i * 1 + 0) undef = .int .i64 n := by
            rw [Array.getD_eq_getD_getElem?, show i * 1 + 0 = i by omega, h7]; rfl
          rw [h8]
          exact .int .i64 n)
  refine ⟨G, _, _, .ret (.os 2), hO, ⟨v, rfl, ?_⟩, rfl, rfl⟩
  rcases hrow.2 with ⟨rfl, _⟩ | ⟨g2, cap, cur, rfl, _⟩
  · exact .k (.os 2 none 0 0 rfl)
  · exact .k (.os 2 _ _ _ rfl)
end Go.Proofs.YtoibcfioicdlhaaGreatDoor
