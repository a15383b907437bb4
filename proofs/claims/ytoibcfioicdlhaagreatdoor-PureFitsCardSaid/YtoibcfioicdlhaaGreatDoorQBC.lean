/- The kit's contracts of the library, laid at this program: numbers alone. Conditions: none. -/
import Derived.Shelf.SlIterI.Nil
import Derived.Shelf.SortM.Plain
import Derived.Shelf.SortM.SortNone
import Derived.Test.YtoibcfioicdlhaaGreatDoorChecked
import Derived.KernelRfl
import Derived.Test.YtoibcfioicdlhaaGreatDoorQAR
import Derived.Test.YtoibcfioicdlhaaGreatDoorQAU
import Derived.Test.YtoibcfioicdlhaaGreatDoorQAY
namespace Go.Proofs.YtoibcfioicdlhaaGreatDoor
open Go.RowKit Go.Maps Go.Sort Go.Shelf Go.Proofs
def keysSR : Go.Shelf.Ren := ⟨fun | 7 => 38 | 10 => 87 | n => n, fun | 23 => 96 | 26 => 3 | 3 => 106 | 28 => 103 | 0 => 0 | 27 => 102 | 33 => 135 | 4 => 4 | n => n, fun | n => n⟩
theorem keysS : SlLaysZI.n7 Tryz.prog keysSR where
  mixed := by kernel_rfl
  f7 := ⟨"maps.Keys[map[int]lazaretto/verify.spot,int,lazaretto/verify.spot]", by decide, Tryz.func38.trans (congrArg some (by kernel_rfl))⟩
  f10 := ⟨"maps.Keys[map[int]lazaretto/verify.spot,int,lazaretto/verify.spot]$1", by decide, Tryz.func87.trans (congrArg some (by kernel_rfl))⟩
  t0 := Tryz.underlying0
  a0 := Tryz.isAgg0
  z0 := Tryz.sizeOf0
  v0 := Tryz.zeroValue0
  t4 := Tryz.underlying4
  a4 := Tryz.isAgg4
  z4 := Tryz.sizeOf4
  v4 := Tryz.zeroValue4
  t23 := Tryz.underlying96
  a23 := Tryz.isAgg96
  z23 := Tryz.sizeOf96
  v23 := Tryz.zeroValue96
  t26 := Tryz.underlying3
  a26 := Tryz.isAgg3
  z26 := Tryz.sizeOf3
  v26 := Tryz.zeroValue3
  t27 := Tryz.underlying102
  a27 := Tryz.isAgg102
  z27 := Tryz.sizeOf102
  v27 := Tryz.zeroValue102
  t28 := Tryz.underlying103
  a28 := Tryz.isAgg103
  z28 := Tryz.sizeOf103
  v28 := Tryz.zeroValue103
  t33 := Tryz.underlying135
  a33 := Tryz.isAgg135
  z33 := Tryz.sizeOf135
  v33 := Tryz.zeroValue135
def keysBR : Go.Shelf.Ren := ⟨fun | 7 => 83 | 10 => 119 | n => n, fun | 23 => 129 | 26 => 3 | 3 => 4 | 28 => 103 | 0 => 0 | 27 => 102 | 33 => 135 | 4 => 4 | n => n, fun | n => n⟩
theorem keysB : SlLaysZI.n7 Tryz.prog keysBR where
  mixed := by kernel_rfl
  f7 := ⟨"maps.Keys[map[int]bool,int,bool]", by decide, Tryz.func83.trans (congrArg some (by kernel_rfl))⟩
  f10 := ⟨"maps.Keys[map[int]bool,int,bool]$1", by decide, Tryz.func119.trans (congrArg some (by kernel_rfl))⟩
  t0 := Tryz.underlying0
  a0 := Tryz.isAgg0
  z0 := Tryz.sizeOf0
  v0 := Tryz.zeroValue0
  t4 := Tryz.underlying4
  a4 := Tryz.isAgg4
  z4 := Tryz.sizeOf4
  v4 := Tryz.zeroValue4
  t23 := Tryz.underlying129
  a23 := Tryz.isAgg129
  z23 := Tryz.sizeOf129
  v23 := Tryz.zeroValue129
  t26 := Tryz.underlying3
  a26 := Tryz.isAgg3
  z26 := Tryz.sizeOf3
  v26 := Tryz.zeroValue3
  t27 := Tryz.underlying102
  a27 := Tryz.isAgg102
  z27 := Tryz.sizeOf102
  v27 := Tryz.zeroValue102
  t28 := Tryz.underlying103
  a28 := Tryz.isAgg103
  z28 := Tryz.sizeOf103
  v28 := Tryz.zeroValue103
  t33 := Tryz.underlying135
  a33 := Tryz.isAgg135
  z33 := Tryz.sizeOf135
  v33 := Tryz.zeroValue135
def sortedAR : Go.Shelf.Ren := ⟨fun | 6 => 37 | 8 => 85 | 9 => 86 | 11 => 120 | 13 => 122 | 12 => 121 | 23 => 146 | 24 => 147 | 14 => 137 | 15 => 138 | 16 => 139 | 17 => 140 | 18 => 141 | 19 => 142 | 20 => 143 | 21 => 144 | 22 => 145 | 25 => 165 | 26 => 166 | 27 => 167 | 28 => 168 | 29 => 169 | 30 => 170 | 31 => 177 | n => n, fun | 26 => 3 | 28 => 103 | 24 => 57 | 0 => 0 | 3 => 3 | 37 => 164 | 48 => 189 | 50 => 191 | 4 => 4 | 40 => 182 | 39 => 181 | 45 => 186 | 5 => 5 | 9 => 9 | 51 => 204 | 55 => 208 | 57 => 219 | 58 => 220 | 33 => 135 | n => n, fun | n => n⟩
theorem sortedA : SlLaysZI.n6 Tryz.prog sortedAR where
  mixed := by kernel_rfl
  f6 := ⟨"slices.Sorted[int]", by decide, Tryz.func37.trans (congrArg some (by kernel_rfl))⟩
  f8 := ⟨"slices.Collect[int]", by decide, Tryz.func85.trans (congrArg some (by kernel_rfl))⟩
  f11 := ⟨"slices.AppendSeq[[]int,int]", by decide, Tryz.func120.trans (congrArg some (by kernel_rfl))⟩
  t0 := Tryz.underlying0
  a0 := Tryz.isAgg0
  z0 := Tryz.sizeOf0
  v0 := Tryz.zeroValue0
  t24 := Tryz.underlying57
  a24 := Tryz.isAgg57
  z24 := Tryz.sizeOf57
  v24 := Tryz.zeroValue57
  t26 := Tryz.underlying3
  a26 := Tryz.isAgg3
  z26 := Tryz.sizeOf3
  v26 := Tryz.zeroValue3
  t28 := Tryz.underlying103
  a28 := Tryz.isAgg103
  z28 := Tryz.sizeOf103
  v28 := Tryz.zeroValue103
  i26 := by kernel_rfl
def sortAR : Go.Shelf.Ren := ⟨fun | 5 => 86 | 8 => 122 | 7 => 121 | 19 => 146 | 20 => 147 | 10 => 137 | 11 => 138 | 12 => 139 | 13 => 140 | 14 => 141 | 15 => 142 | 16 => 143 | 17 => 144 | 18 => 145 | 30 => 165 | 31 => 166 | 32 => 167 | 33 => 168 | 34 => 169 | 35 => 170 | 40 => 177 | n => n, fun | 23 => 57 | 25 => 3 | 3 => 3 | 32 => 164 | 22 => 57 | 0 => 0 | 44 => 189 | 46 => 191 | 4 => 4 | 36 => 182 | 35 => 181 | 41 => 186 | 5 => 5 | 9 => 9 | 53 => 204 | 57 => 208 | 63 => 219 | 64 => 220 | n => n, fun | n => n⟩
theorem sortA : SlLaysM.n5 Tryz.prog sortAR where
  mixed := by kernel_rfl
  f5 := ⟨"slices.Sort[[]int,int]", by decide, Tryz.func86.trans (congrArg some (by kernel_rfl))⟩
  f7 := ⟨"slices.pdqsortOrdered[int]", by decide, Tryz.func121.trans (congrArg some (by kernel_rfl))⟩
  f8 := Tryz.func122.trans (congrArg some (by kernel_rfl))
  f10 := ⟨"slices.insertionSortOrdered[int]", by decide, Tryz.func137.trans (congrArg some (by kernel_rfl))⟩
  f11 := ⟨"slices.heapSortOrdered[int]", by decide, Tryz.func138.trans (congrArg some (by kernel_rfl))⟩
  f12 := ⟨"slices.breakPatternsOrdered[int]", by decide, Tryz.func139.trans (congrArg some (by kernel_rfl))⟩
  f13 := ⟨"slices.choosePivotOrdered[int]", by decide, Tryz.func140.trans (congrArg some (by kernel_rfl))⟩
  f14 := ⟨"slices.reverseRangeOrdered[int]", by decide, Tryz.func141.trans (congrArg some (by kernel_rfl))⟩
  f15 := ⟨"slices.partialInsertionSortOrdered[int]", by decide, Tryz.func142.trans (congrArg some (by kernel_rfl))⟩
  f16 := ⟨"cmp.Less[int]", by decide, Tryz.func143.trans (congrArg some (by kernel_rfl))⟩
  f17 := ⟨"slices.partitionEqualOrdered[int]", by decide, Tryz.func144.trans (congrArg some (by kernel_rfl))⟩
  f18 := ⟨"slices.partitionOrdered[int]", by decide, Tryz.func145.trans (congrArg some (by kernel_rfl))⟩
  f19 := Tryz.func146.trans (congrArg some (by kernel_rfl))
  f20 := Tryz.func147.trans (congrArg some (by kernel_rfl))
  f30 := ⟨"slices.siftDownOrdered[int]", by decide, Tryz.func165.trans (congrArg some (by kernel_rfl))⟩
  f31 := Tryz.func166.trans (congrArg some (by kernel_rfl))
  f32 := Tryz.func167.trans (congrArg some (by kernel_rfl))
  f33 := ⟨"slices.medianAdjacentOrdered[int]", by decide, Tryz.func168.trans (congrArg some (by kernel_rfl))⟩
  f34 := ⟨"slices.medianOrdered[int]", by decide, Tryz.func169.trans (congrArg some (by kernel_rfl))⟩
  f35 := ⟨"cmp.isNaN[int]", by decide, Tryz.func170.trans (congrArg some (by kernel_rfl))⟩
  f40 := ⟨"slices.order2Ordered[int]", by decide, Tryz.func177.trans (congrArg some (by kernel_rfl))⟩
  t0 := Tryz.underlying0
  a0 := Tryz.isAgg0
  z0 := Tryz.sizeOf0
  v0 := Tryz.zeroValue0
  t3 := Tryz.underlying3
  a3 := Tryz.isAgg3
  z3 := Tryz.sizeOf3
  v3 := Tryz.zeroValue3
  t4 := Tryz.underlying4
  a4 := Tryz.isAgg4
  z4 := Tryz.sizeOf4
  v4 := Tryz.zeroValue4
  t5 := Tryz.underlying5
  a5 := Tryz.isAgg5
  z5 := Tryz.sizeOf5
  v5 := Tryz.zeroValue5
  t9 := Tryz.underlying9
  a9 := Tryz.isAgg9
  z9 := Tryz.sizeOf9
  v9 := Tryz.zeroValue9
  t22 := Tryz.underlying57
  a22 := Tryz.isAgg57
  z22 := Tryz.sizeOf57
  v22 := Tryz.zeroValue57
  t23 := Tryz.underlying57
  a23 := Tryz.isAgg57
  z23 := Tryz.sizeOf57
  v23 := Tryz.zeroValue57
  t25 := Tryz.underlying3
  a25 := Tryz.isAgg3
  z25 := Tryz.sizeOf3
  v25 := Tryz.zeroValue3
  t32 := Tryz.underlying164
  a32 := Tryz.isAgg164
  z32 := Tryz.sizeOf164
  v32 := Tryz.zeroValue164
  t35 := Tryz.underlying181
  a35 := Tryz.isAgg181
  z35 := Tryz.sizeOf181
  v35 := Tryz.zeroValue181
  t36 := Tryz.underlying182
  a36 := Tryz.isAgg182
  z36 := Tryz.sizeOf182
  v36 := Tryz.zeroValue182
  t41 := Tryz.underlying186
  a41 := Tryz.isAgg186
  z41 := Tryz.sizeOf186
  v41 := Tryz.zeroValue186
  t44 := Tryz.underlying189
  a44 := Tryz.isAgg189
  z44 := Tryz.sizeOf189
  v44 := Tryz.zeroValue189
  t46 := Tryz.underlying191
  a46 := Tryz.isAgg191
  z46 := Tryz.sizeOf191
  v46 := Tryz.zeroValue191
  t53 := Tryz.underlying204
  a53 := Tryz.isAgg204
  z53 := Tryz.sizeOf204
  v53 := Tryz.zeroValue204
  t57 := Tryz.underlying208
  a57 := Tryz.isAgg208
  z57 := Tryz.sizeOf208
  v57 := Tryz.zeroValue208
  t63 := Tryz.underlying219
  a63 := Tryz.isAgg219
  z63 := Tryz.sizeOf219
  v63 := Tryz.zeroValue219
  t64 := Tryz.underlying220
  a64 := Tryz.isAgg220
  z64 := Tryz.sizeOf220
  v64 := Tryz.zeroValue220
end Go.Proofs.YtoibcfioicdlhaaGreatDoor
namespace Go.Proofs.YtoibcfioicdlhaaGreatDoor
open Go.Vx
set_option maxRecDepth 100000
open Go.RowKit Go.Maps Go.Sort Go.Shelf Go.Proofs
def srt (l : List Int) : List Int := l.mergeSort fun x y => decide (x ≤ y)
def rowsI (l : List Int) : List (List D) := l.map fun n => [.int .i64 n]
theorem sortsA (m : Nat) : AnyZI.SortsIn Tryz.prog sortedAR Fence.wide m :=
  ⟨fun blk off cap ss W hH hblk hsz => callsIn_wide.2 (AnyM.slices_Sort_int sortA blk off cap ss W hH hblk hsz),
   fun p cap W => callsIn_wide.2 (AnyM.slices_Sort_int_none sortA p cap W)⟩
theorem keyOf3 {n : Int} (h : inR .i64 n) : keyOf Tryz.prog 3 (.int .i64 n) = some (.int .i64 n) := by
  have hw : (Lit.int .i64 n).wf = true := by
    simp only [inR] at h
    simp [Lit.wf, IntKind.min, IntKind.max, IntKind.signed, IntKind.bits]
    omega
  simp [keyOf, Tryz.underlying3, mapKey, hw]
theorem srt_perm {a b : List Int} (h : a.Perm b) : srt a = srt b := mergeSort_of_perm_i h
set_option maxHeartbeats 2000000 in
theorem sorted37 {ρk : Ren} (Lk : SlLaysZI.n7 Tryz.prog ρk) {g : Nat} (hg : ρk.f 10 = g) (h26 : ρk.t 26 = 3) (hfn : g < 1000000) (eg : ∀ args w, (callFunc g args).run Tryz.prog w = .ok (.enter g args) w) (es : List (D × Bool × List D)) (ks : List Int)
    (hks : es.map (·.1) = ks.map fun n => .int .i64 n) (hin : ∀ n ∈ ks, inR .i64 n) (hnd : ks.Nodup) (hlen : ks.length ≤ 1000000) :
    Sat Tryz.prog 37 [.fc g [.p 0 0]] [.cells [.mp 1], .dm es] fun out h => out = .ret (.os 2) ∧ h = [.cells [.mp 1], .dm es, .rows 1 (rowsI (srt ks))] := by
  refine .inl ⟨by kernel_rfl, fun G w ρ vs hR hl hv => ?_⟩
  have hρ := hR.len
  match ρ, hρ with
  | [v0, v1], _ =>
  match vs, hl with
  | [a0], _ =>
  obtain ⟨b, arr, ty, rfl, hb, hsz, hr⟩ := hR.rep 0 v0 _ rfl rfl
  obtain ⟨r, arr', clk, hv1, hb', hsz', hord, hre⟩ := hR.rep 1 v1 _ rfl rfl
  have hc := hr 0 (.mp 1) rfl
  have hcell : w.cell? ⟨b, 0, none⟩ = some (.map (some r)) := by
    cases hc with
    | k hc =>
      generalize hav : arr.getD 0 undef = av at hc
      cases hc with
      | mp _ r2 h2 =>
        simp only [List.getElem?_cons_succ, List.getElem?_cons_zero, Option.some.injEq] at h2
        rw [hv1] at h2
        cases h2
        have h0 : 0 < arr.size := by rw [hsz]; exact Nat.one_pos
        rw [cell_arr hb, Array.getElem?_eq_getElem h0]
        rw [Array.getD_eq_getD_getElem?, Array.getElem?_eq_getElem h0] at hav
        exact congrArg some hav
  have ha0 : a0 = .func (.func g) #[] #[.pointer (some ⟨b, 0, none⟩)] := by
    obtain ⟨cs, hfc, hcs, hcr⟩ := (hv 0 _ rfl).fcl
    have h1 := fcv_fn hfc hfn
    have h2 := hcr 0 _ rfl
    have : cs = #[.pointer (some ⟨b, 0, none⟩)] := by
      cases cs with
      | mk l =>
        match l, hcs with
        | [x], _ =>
          have h3 : (#[x] : Array Value).getD 0 undef = x := rfl
          rw [h3] at h2
          cases h2 with
          | p _ _ b2 h4 =>
            simp only [List.getElem?_cons_zero, Option.some.injEq, Value.pointer.injEq, Addr.mk.injEq, and_true] at h4
            rw [h4]
    rw [this] at h1
    exact h1
  subst ha0
  have hks : (mpOf es).map (·.1) = ks.map fun n => .d (.int .i64 n) := by
    have h1 : (mpOf es).map (·.1) = (es.map (·.1)).map V.d := by simp [mpOf]
    rw [h1, hks, List.map_map]
    rfl
  generalize mpOf es = es1 at *
  have hkl : arr'.toList.map (·.key) = ks.map (Value.int .i64) := by
    apply List.ext_getElem?
    intro i
    rw [List.getElem?_map, List.getElem?_map]
    have hlk : es1.length = ks.length := by simpa using congrArg List.length hks
    cases he : arr'.toList[i]? with
    | none =>
      have : ks[i]? = none := by
        rw [List.getElem?_eq_none_iff] at he ⊢
        simp at he
        omega
      rw [this]; rfl
    | some e =>
      have hi : i < es1.length := by
        have := (List.getElem?_eq_some_iff.1 he).1
        simp at this
        omega
      have hx := List.getElem?_eq_getElem hi
      have h1 := (hre i e es1[i] (by simpa using he) hx).1
      have h2 : (es1.map (·.1))[i]? = some es1[i].1 := by rw [List.getElem?_map, hx]; rfl
      rw [hks, List.getElem?_map] at h2
      cases hk : ks[i]? with
      | none => rw [hk] at h2; cases h2
      | some n =>
        rw [hk] at h2
        simp only [Option.map_some, Option.some.injEq] at h2
        rw [← h2] at h1
        have h3 : e.key = .int .i64 n := Rep2.int (.o h1)
        rw [Option.map_some, Option.map_some, h3]
  have hkey : ∀ e ∈ arr'.toList, ∃ n ∈ ks, e.key = .int .i64 n := by
    intro e he
    have : e.key ∈ arr'.toList.map (·.key) := List.mem_map.2 ⟨e, he, rfl⟩
    rw [hkl] at this
    obtain ⟨n, hn, h⟩ := List.mem_map.1 this
    exact ⟨n, hn, h.symm⟩
  have hsz2 : arr'.size = ks.length := by
    have := congrArg List.length hkl
    simpa using this
  let R : Value → Option (DataW Unit × List MemPlace) := fun _ => some (.nil, [])
  have hrd : ∀ e ∈ arr'.toList, ∃ n, e.key = .int .i64 n ∧ WideElems.rd Tryz.prog 3 R e = some (.int .i64 n, .nil) := by
    intro e he
    obtain ⟨n, hn, hk⟩ := hkey e he
    refine ⟨n, hk, ?_⟩
    simp only [WideElems.rd, hk, keyOf3 (hin n hn)]
    rfl
  have hown : w.ownsMap Tryz.prog 3 R r arr'.size (.map ((arr'.toList.map (WideElems.rg Tryz.prog 3 R)).foldr DataW.insert [])) := by
    refine ⟨arr', clk, hb', ⟨by rw [hsz2]; simp only [maxLen]; omega, ⟨hord.1, ?_, ?_⟩, fun x hx => ?_⟩, Nat.le_refl _, rfl⟩
    · exact hord.2.imp fun h => Nat.ne_of_lt h
    · rw [hkl]
      refine List.pairwise_map.2 (hnd.imp fun h e => h (by simpa using e))
    · obtain ⟨n, _, h⟩ := hrd x hx
      exact ⟨_, h⟩
  have hperm : (intKeys (.map ((arr'.toList.map (WideElems.rg Tryz.prog 3 R)).foldr DataW.insert []) : DataW Unit)).Perm ks := by
    have h1 : (intKeys (.map ((arr'.toList.map (WideElems.rg Tryz.prog 3 R)).foldr DataW.insert []) : DataW Unit)).Perm ((arr'.toList.map (WideElems.rg Tryz.prog 3 R)).map fun p => Go.intOf p.1) := (WideShapes.sorted_perm _).map _
    have h2 : ((arr'.toList.map (WideElems.rg Tryz.prog 3 R)).map fun p => Go.intOf p.1) = ks := by
      have h3 : ((arr'.toList.map (WideElems.rg Tryz.prog 3 R)).map fun p => Go.intOf p.1) = (arr'.toList.map (·.key)).map fun v => match v with | .int _ n => n | _ => 0 := by
        rw [List.map_map, List.map_map]
        refine List.map_congr_left fun e he => ?_
        obtain ⟨n, h4, h5⟩ := hrd e he
        simp only [Function.comp, WideElems.rg_of h5, h4, Go.intOf]
      rw [h3, hkl, List.map_map]
      exact (List.map_congr_left fun n _ => rfl).trans (List.map_id' ks)
    exact h2 ▸ h1
  have hsize : Maps.size (.map ((arr'.toList.map (WideElems.rg Tryz.prog 3 R)).foldr DataW.insert []) : DataW Unit) = ks.length := by
    have := (WideShapes.sorted_perm (arr'.toList.map (WideElems.rg Tryz.prog 3 R))).length_eq
    simp only [Maps.size, List.length_map, Array.length_toList] at this ⊢
    rw [this, hsz2]
  have hblt : b < w.heap.size := (Array.getElem?_eq_some_iff.1 hb).1
  have hseq : SeqGives Fence.wide 2 Tryz.prog g #[.pointer (some ⟨b, 0, none⟩)] encZ (fun ss => ss.Perm (intKeys (.map ((arr'.toList.map (WideElems.rg Tryz.prog 3 R)).foldr DataW.insert []) : DataW Unit))) (Maps.size (.map ((arr'.toList.map (WideElems.rg Tryz.prog 3 R)).foldr DataW.insert []) : DataW Unit)) w := by
    have := AnyZI.keys_gives (ρ := ρk) { Lk with } Fence.wide 2 trivial rfl (by omega) b r arr'.size _ w hblt hcell (by rw [h26]; exact hown)
    rw [hg] at this
    exact this
  have cS := AnyZI.sorted_in sortedA Fence.wide 5 trivial trivial trivial trivial rfl (by omega) (sortsA _) (enters_of Tryz.func86 (by kernel_rfl) rfl) g #[.pointer (some ⟨b, 0, none⟩)] trivial eg _ _ (by rw [hsize]; simp only [maxLen]; omega) (by rw [hsize]; omega) w hseq
  change CallsIn _ _ Tryz.prog 37 _ _ _ at cS
  refine (callsIn_wide.1 cS).mono ?_
  rintro e w' ⟨v, ss, rfl, hS, hrow, hnil, hbel⟩
  have hss : ss.mergeSort (fun x y => decide (x ≤ y)) = srt ks := srt_perm (hS.trans hperm)
  rw [hss] at hrow
  have hssl : ss.length = (srt ks).length := by rw [← hss, List.length_mergeSort]
  have hgrw : Grw w w' := ⟨hbel.size, hbel.block, hbel.os, hbel.tape, hbel.output⟩
  have hO := (Ok.refl hR).push hgrw v (.rows 1 (rowsI (srt ks))) (fun b2 hb2 => by
    rcases hrow.2 with ⟨rfl, _⟩ | ⟨g2, cap, cur, rfl, h1, _⟩
    · cases hb2
    · simp only [blk, Option.some.injEq] at hb2
      omega) (by
    rcases hrow.2 with ⟨rfl, h0⟩ | ⟨g2, cap, cur, rfl, h1, h2, h3, h4, h5, h6⟩
    · refine .inl ⟨rfl, ?_⟩
      have : srt ks = [] := List.eq_nil_of_length_eq_zero (by omega)
      rw [this]; rfl
    · have hrl : (rowsI (srt ks)).length = ss.length := by simp [rowsI, hssl]
      refine .inr ⟨g2, cap, cur, _, by rw [hrl], h2, by rw [hrl]; exact h3, h4, h5, fun i row hi => ?_⟩
      rw [rowsI, List.getElem?_map] at hi
      cases hk : (srt ks)[i]? with
      | none => rw [hk] at hi; cases hi
      | some n =>
        rw [hk] at hi
        cases hi
        refine ⟨rfl, fun j x hx => ?_⟩
        match j, hx with
        | 0, hx =>
          cases hx
          have hil : i < ss.length := by rw [hssl]; exact (List.getElem?_eq_some_iff.1 hk).1
          have h7 : (cur.toList.take (ss.length * 1))[i]? = some (encZ n) := by rw [h6, List.getElem?_map, hk]; rfl
          rw [List.getElem?_take, if_pos (by omega), Array.getElem?_toList] at h7
          have h8 : cur.getD (i * 1 + 0) undef = .int .i64 n := by
            rw [Array.getD_eq_getD_getElem?, show i * 1 + 0 = i by omega, h7]; rfl
          rw [h8]
          exact .int .i64 n)
  refine ⟨G, _, _, .ret (.os 2), hO, ⟨v, rfl, ?_⟩, rfl, rfl⟩
  rcases hrow.2 with ⟨rfl, _⟩ | ⟨g2, cap, cur, rfl, _⟩
  · exact .k (.os 2 none 0 0 rfl)
  · exact .k (.os 2 _ _ _ rfl)
end Go.Proofs.YtoibcfioicdlhaaGreatDoor
namespace Go.Proofs.YtoibcfioicdlhaaGreatDoor
open Go.Vx
set_option maxRecDepth 100000
def flt (a e : Int) : V := .fc 2000098 [.d (.int .i64 a), .d (.int .i64 e)]
theorem must_t {K : Out → H → Prop} (a e : Int) (hk : K (.ret (.tu [])) []) : Sat Tryz.prog 118 [.d (.bool true), .d (.int .i64 a), .d (.int .i64 e)] [] K := by
  refine s118 (keep := false) rfl ?_
  repeat' ((conv => whnf); first | exact zf | refine zg ?_ | intro _ | refine And.intro rfl ?_ | refine za ?_ | refine zl ?_ | fail)
  exact hk
theorem must_f {K : Out → H → Prop} (a e : Int) (hk : K (.pan (flt a e)) []) : Sat Tryz.prog 118 [.d (.bool false), .d (.int .i64 a), .d (.int .i64 e)] [] K := by
  refine s118 (keep := false) rfl ?_
  repeat' ((conv => whnf); first | exact zf | refine zg ?_ | intro _ | refine And.intro rfl ?_ | refine za ?_ | refine zl ?_ | fail)
  exact hk
theorem must118 {K : Out → H → Prop} (b : Bool) (a e : Int) (h1 : b = true → K (.ret (.tu [])) []) (h2 : b = false → K (.pan (flt a e)) []) : Sat Tryz.prog 118 [.d (.bool b), .d (.int .i64 a), .d (.int .i64 e)] [] K := by
  cases b with
  | false => exact must_f a e (h2 rfl)
  | true => exact must_t a e (h1 rfl)
theorem right78I (n : Int) : SatP Tryz.prog 78 [agV (num n)] (.d (.bool true)) := by
  refine s78 (keep := false) rfl ?_
  repeat' ((conv => whnf); first | exact zf | refine zg ?_ | intro _ | refine And.intro rfl ?_ | refine za ?_ | refine zl ?_ | fail)
  refine outs_eq ?_
  show V.d (.bool ((1 == (1 : Int)) && ((n == n) && (([] == ([] : List UInt8)) && (([] == ([] : List UInt8)) && (([] == ([] : List UInt8)) && true)))))) = _
  simp
def okFn (f : Fn) : Bool := decide (0 ≤ f.args) && (decide (f.args ≤ 16) && (decide (0 ≤ f.vars) && (decide (f.vars ≤ 16) && (decide (f.args + f.vars ≤ 16) && (decide (0 < f.code.length) && (decide (f.code.length ≤ 256) && f.code.all rightB))))))
def agFn (f : Fn) : V := .ag [.d (.int .i64 f.args), .d (.int .i64 f.vars), .d (.sl 2 (f.code.map encO))]
theorem checkFun79 (f : Fn) (h : okFn f = true) : SatP Tryz.prog 79 [agFn f] (.d (.int .i64 0)) := by
  simp only [okFn, Bool.and_eq_true, decide_eq_true_eq, List.all_eq_true] at h
  obtain ⟨h1, h2, h3, h4, h5, h6, h7, h8⟩ := h
  refine s79 (keep := false) rfl ?_
  repeat' ((conv => whnf); first | exact zf | refine zg ?_ | intro _ | refine And.intro rfl ?_ | refine (.inl ⟨by unfold inR; omega, ?_⟩) | refine za ?_ | refine zl ?_ | refine sp_t (by first | (simp; done) | (simp; omega) | (simp at *; omega) | exact beq_eq_false_iff_ne.2 (by omega) | exact beq_eq_false_iff_ne.2 (by simp only [List.length_map]; omega) | exact beq_iff_eq.2 (by simp only [List.length_map]; omega) | exact bne_iff_ne.2 (by simp only [List.length_map]; omega)) ?_ | refine sp_f (by first | (simp; done) | (simp; omega) | (simp at *; omega) | exact beq_eq_false_iff_ne.2 (by omega) | exact beq_eq_false_iff_ne.2 (by simp only [List.length_map]; omega) | exact beq_iff_eq.2 (by simp only [List.length_map]; omega) | exact bne_iff_ne.2 (by simp only [List.length_map]; omega)) ?_ | fail)
  conv => whnf
  refine loop_use2 [(38, .d (.sl 2 (f.code.map encO))), (39, .d (.int .i64 (f.code.map encO).length))] (fun i : Nat => i ≤ f.code.length) (fun i => [(40, .d (.int .i64 i))]) (fun _ => []) (fun i => f.code.length - i) 0 (Nat.zero_le _) ?_ ?_ ?_ (fun i hi => ?_)
  · exact (by repeat' (first | exact trivial | exact rfl | exact Or.inl rfl | refine And.intro ?_ ?_ | refine Or.inr ?_))
  · exact (by repeat' (first | exact trivial | exact rfl | exact Or.inl rfl | refine And.intro ?_ ?_ | refine Or.inr ?_))
  · exact rfl
  repeat' ((conv => whnf); first | exact zf | refine zg ?_ | intro _ | refine And.intro rfl ?_ | refine za ?_ | refine zl ?_ | fail)
  refine sp_intro (fun hlt => ?_) (fun hge => ?_)
  · have hlt : i < f.code.length := by simpa using hlt
    obtain ⟨o, ho⟩ : ∃ o, f.code[i]? = some o := ⟨_, List.getElem?_eq_getElem hlt⟩
    have hro : rightB o = true := h8 o (List.mem_of_getElem? ho)
    have hri := right44 o
    rw [hro] at hri
    repeat' ((conv => whnf); first | exact zf | refine zg ?_ | intro _ | refine And.intro rfl ?_ | refine za ?_ | refine zl ?_ | fail)
    refine ⟨encO o, ⟨by omega, by simp [ho], rfl⟩, ?_⟩
    repeat' ((conv => whnf); first | exact zf | refine zg ?_ | intro _ | refine And.intro rfl ?_ | refine ⟨_, hri, ?_⟩ | refine (hri).use ?_ | refine (.inl ⟨by unfold inR; omega, ?_⟩) | refine za ?_ | refine zl ?_ | fail)
    refine ⟨i + 1, hlt, Nat.sub_lt_sub_left hlt (Nat.lt_succ_self i), (by repeat' (first | exact trivial | exact rfl | exact Or.inl rfl | refine And.intro ?_ ?_ | refine Or.inr ?_)), (by repeat' (first | exact trivial | exact rfl | exact Or.inl rfl | refine And.intro ?_ ?_ | refine Or.inr ?_)), rfl⟩
  · skip
    repeat' ((conv => whnf); first | exact zf | refine zg ?_ | intro _ | refine And.intro rfl ?_ | refine za ?_ | refine zl ?_ | fail)
def okC1 (v : Va) : Prop := (v.k = 1 ∨ v.k = 2) ∧ SatP Tryz.prog 78 [agV v] (.d (.bool true))
structure OkIm (im : Im) : Prop where
  c1 : im.cs.length ≤ 64
  c2 : ∀ v ∈ im.cs, okC1 v
  f1 : 0 < im.fs.length
  f2 : im.fs.length ≤ 16
  f3 : ∀ f ∈ im.fs, okFn f = true
theorem check35 (im : Im) (h : OkIm im) : SatP Tryz.prog 35 [agI im] (.d (.int .i64 0)) := by
  obtain ⟨h1, h2, h3, h4, h5⟩ := h
  refine s35 (keep := false) rfl ?_
  repeat' ((conv => whnf); first | exact zf | refine zg ?_ | intro _ | refine And.intro rfl ?_ | refine za ?_ | refine zl ?_ | refine sp_t (by first | (simp; done) | (simp; omega) | (simp at *; omega) | exact beq_eq_false_iff_ne.2 (by omega) | exact beq_eq_false_iff_ne.2 (by simp only [List.length_map]; omega) | exact beq_iff_eq.2 (by simp only [List.length_map]; omega) | exact bne_iff_ne.2 (by simp only [List.length_map]; omega)) ?_ | refine sp_f (by first | (simp; done) | (simp; omega) | (simp at *; omega) | exact beq_eq_false_iff_ne.2 (by omega) | exact beq_eq_false_iff_ne.2 (by simp only [List.length_map]; omega) | exact beq_iff_eq.2 (by simp only [List.length_map]; omega) | exact bne_iff_ne.2 (by simp only [List.length_map]; omega)) ?_ | fail)
  conv => whnf
  refine loop_use2 [(1, .p 0 0), (19, .d (.sl 5 (im.cs.map encV))), (20, .d (.int .i64 (im.cs.map encV).length))] (fun i : Nat => i ≤ im.cs.length) (fun i => [(21, .d (.int .i64 i))]) (fun _ => [.cells [.d (.sl 5 (im.cs.map encV)), .d (.sl 3 (im.fs.map encFn))]]) (fun i => im.cs.length - i) 0 (Nat.zero_le _) ?_ ?_ ?_ (fun i hi => ?_)
  · exact (by repeat' (first | exact trivial | exact rfl | exact Or.inl rfl | refine And.intro ?_ ?_ | refine Or.inr ?_))
  · exact (by repeat' (first | exact trivial | exact rfl | exact Or.inl rfl | refine And.intro ?_ ?_ | refine Or.inr ?_))
  · exact rfl
  repeat' ((conv => whnf); first | exact zf | refine zg ?_ | intro _ | refine And.intro rfl ?_ | refine za ?_ | refine zl ?_ | fail)
  refine sp_intro (fun hlt => ?_) (fun hge => ?_)
  · have hlt : i < im.cs.length := by simpa using hlt
    obtain ⟨v, hv⟩ : ∃ v, im.cs[i]? = some v := ⟨_, List.getElem?_eq_getElem hlt⟩
    obtain ⟨hk, hs⟩ := h2 v (List.mem_of_getElem? hv)
    repeat' ((conv => whnf); first | exact zf | refine zg ?_ | intro _ | refine And.intro rfl ?_ | refine za ?_ | refine zl ?_ | fail)
    refine ⟨encV v, ⟨by omega, by simp [hv], rfl⟩, ?_⟩
    rcases hk with hk | hk
    · have e1 : (v.k != 1) = false := by simp [hk]
      repeat' ((conv => whnf); first | exact zf | refine zg ?_ | intro _ | refine And.intro rfl ?_ | refine ⟨_, hs, ?_⟩ | refine (hs).use ?_ | refine (.inl ⟨by unfold inR; omega, ?_⟩) | refine (sp_f e1 ?_) | refine za ?_ | refine zl ?_ | fail)
      refine ⟨i + 1, hlt, Nat.sub_lt_sub_left hlt (Nat.lt_succ_self i), (by repeat' (first | exact trivial | exact rfl | exact Or.inl rfl | refine And.intro ?_ ?_ | refine Or.inr ?_)), (by repeat' (first | exact trivial | exact rfl | exact Or.inl rfl | refine And.intro ?_ ?_ | refine Or.inr ?_)), rfl⟩
    · have e1 : (v.k != 1) = true := by simp [hk]
      have e2 : (v.k != 2) = false := by simp [hk]
      repeat' ((conv => whnf); first | exact zf | refine zg ?_ | intro _ | refine And.intro rfl ?_ | refine ⟨_, hs, ?_⟩ | refine (hs).use ?_ | refine (.inl ⟨by unfold inR; omega, ?_⟩) | refine (sp_t e1 ?_) | refine (sp_f e2 ?_) | refine za ?_ | refine zl ?_ | fail)
      refine ⟨i + 1, hlt, Nat.sub_lt_sub_left hlt (Nat.lt_succ_self i), (by repeat' (first | exact trivial | exact rfl | exact Or.inl rfl | refine And.intro ?_ ?_ | refine Or.inr ?_)), (by repeat' (first | exact trivial | exact rfl | exact Or.inl rfl | refine And.intro ?_ ?_ | refine Or.inr ?_)), rfl⟩
  · skip
    repeat' ((conv => whnf); first | exact zf | refine zg ?_ | intro _ | refine And.intro rfl ?_ | refine za ?_ | refine zl ?_ | refine sp_t (by first | (simp; done) | (simp; omega) | (simp at *; omega) | exact beq_eq_false_iff_ne.2 (by omega) | exact beq_eq_false_iff_ne.2 (by simp only [List.length_map]; omega) | exact beq_iff_eq.2 (by simp only [List.length_map]; omega) | exact bne_iff_ne.2 (by simp only [List.length_map]; omega)) ?_ | refine sp_f (by first | (simp; done) | (simp; omega) | (simp at *; omega) | exact beq_eq_false_iff_ne.2 (by omega) | exact beq_eq_false_iff_ne.2 (by simp only [List.length_map]; omega) | exact beq_iff_eq.2 (by simp only [List.length_map]; omega) | exact bne_iff_ne.2 (by simp only [List.length_map]; omega)) ?_ | fail)
    conv => whnf
    refine loop_use2 [(1, .p 0 0), (44, .d (.sl 3 (im.fs.map encFn))), (45, .d (.int .i64 (im.fs.map encFn).length))] (fun i : Nat => i ≤ im.fs.length) (fun i => [(46, .d (.int .i64 i))]) (fun _ => [.cells [.d (.sl 5 (im.cs.map encV)), .d (.sl 3 (im.fs.map encFn))]]) (fun i => im.fs.length - i) 0 (Nat.zero_le _) ?_ ?_ ?_ (fun j hj => ?_)
    · exact (by repeat' (first | exact trivial | exact rfl | exact Or.inl rfl | refine And.intro ?_ ?_ | refine Or.inr ?_))
    · exact (by repeat' (first | exact trivial | exact rfl | exact Or.inl rfl | refine And.intro ?_ ?_ | refine Or.inr ?_))
    · exact rfl
    repeat' ((conv => whnf); first | exact zf | refine zg ?_ | intro _ | refine And.intro rfl ?_ | refine za ?_ | refine zl ?_ | fail)
    refine sp_intro (fun hlt => ?_) (fun hge => ?_)
    · have hlt : j < im.fs.length := by simpa using hlt
      obtain ⟨f, hf⟩ : ∃ f, im.fs[j]? = some f := ⟨_, List.getElem?_eq_getElem hlt⟩
      have hs := checkFun79 f (h5 f (List.mem_of_getElem? hf))
      repeat' ((conv => whnf); first | exact zf | refine zg ?_ | intro _ | refine And.intro rfl ?_ | refine za ?_ | refine zl ?_ | fail)
      refine ⟨encFn f, ⟨by omega, by simp [hf], rfl⟩, ?_⟩
      repeat' ((conv => whnf); first | exact zf | refine zg ?_ | intro _ | refine And.intro rfl ?_ | refine ⟨_, hs, ?_⟩ | refine (hs).use ?_ | refine (.inl ⟨by unfold inR; omega, ?_⟩) | refine za ?_ | refine zl ?_ | fail)
      refine ⟨j + 1, hlt, Nat.sub_lt_sub_left hlt (Nat.lt_succ_self j), (by repeat' (first | exact trivial | exact rfl | exact Or.inl rfl | refine And.intro ?_ ?_ | refine Or.inr ?_)), (by repeat' (first | exact trivial | exact rfl | exact Or.inl rfl | refine And.intro ?_ ?_ | refine Or.inr ?_)), rfl⟩
    · skip
      repeat' ((conv => whnf); first | exact zf | refine zg ?_ | intro _ | refine And.intro rfl ?_ | refine za ?_ | refine zl ?_ | fail)
end Go.Proofs.YtoibcfioicdlhaaGreatDoor
namespace Go.Proofs.YtoibcfioicdlhaaGreatDoor
open Go.Vx
set_option maxRecDepth 100000
abbrev Sn := List (Int × Int × Int)
def seenM (s : Sn) : List (D × Bool × List D) := s.map fun p => (.int .i64 p.1, true, [.int .i64 p.2.1, .int .i64 p.2.2])
def openM (l : List Int) : List (D × Bool × List D) := l.map fun x => (.int .i64 x, false, [.bool true])
def wB (im : Im) (fn : Fn) (s : Sn) (l : List Int) : H := [.cells [.d (.sl 5 (im.cs.map encV)), .d (.sl 3 (im.fs.map encFn)), .d (.int .i64 fn.args), .d (.int .i64 fn.vars), .d (.sl 2 (fn.code.map encO)), .mp 1, .mp 2], .dm (seenM s), .dm (openM l)]
def opErrA (im : Im) (fn : Fn) (o : Op) (ar : Int) : Option Int :=
    bif ar == 1 then (bif decide (o.a < im.cs.length) then none else some 5)
    else bif ar == 2 then (bif decide (o.a < fn.args + fn.vars) then none else some 1)
    else bif ar == 3 then (bif decide (o.a < fn.code.length) then none else some 7)
    else bif ar == 4 then (bif decide (o.a < im.fs.length) then (bif (o.c == 38 || (o.c == 40 || o.c == 45)) then (match im.fs[o.a.toNat]? with
        | some g => bif g.args == 1 then none else some 6
        | none => some 6) else none) else some 6)
    else bif ar == 5 then (bif decide (o.a ≤ 63) then none else some 1) else none
def opErr (im : Im) (fn : Fn) (o : Op) : Option Int :=
  match inf o.c with
  | none => none
  | some i => opErrA im fn o i.ar
theorem rightB_is {o : Op} (h : rightB o = true) : ∃ i, inf o.c = some i ∧ 0 ≤ o.a ∧ o.a ≤ 65535 := by
  unfold rightB at h
  cases hi : inf o.c with
  | none => rw [hi] at h; cases h
  | some i =>
    refine ⟨i, rfl, ?_⟩
    rw [hi] at h
    simp only at h
    cases hz : i.ar == 0 with
    | true => rw [hz] at h; simp at h; omega
    | false => rw [hz] at h; simp at h; omega
set_option maxRecDepth 100000 in
set_option maxHeartbeats 4000000 in
theorem operand81 {K : Out → H → Prop} (im : Im) (fn : Fn) (x : Int) (o : Op) (s : Sn) (l : List Int) (h0 : 0 ≤ x) (ho : fn.code[x.toNat]? = some o) (hr : rightB o = true) (hf : okFn fn = true)
    (hk : match opErr im fn o with
      | none => K (.ret (.tu [])) (wB im fn s l)
      | some e => K (.pan (flt x e)) (wB im fn s l)) : Sat Tryz.prog 81 [.p 0 0, .d (.int .i64 x)] (wB im fn s l) K := by
  obtain ⟨i, hi, ha0, ha1⟩ := rightB_is hr
  simp only [okFn, Bool.and_eq_true, decide_eq_true_eq] at hf
  obtain ⟨f1, f2, f3, f4, f5, f6, f7, _⟩ := hf
  obtain ⟨_, _, a0, a5, _⟩ := inf_some hi
  have he : opErr im fn o = opErrA im fn o i.ar := by simp only [opErr, hi]
  rw [he] at hk
  have hab := about_yes hi
  generalize ha : i.ar = ar at hk hab
  rw [ha] at a0 a5
  refine s81 (keep := false) rfl ?_
  repeat' ((conv => whnf); first | exact zf | refine zg ?_ | intro _ | refine And.intro rfl ?_ | refine za ?_ | refine zl ?_ | fail)
  refine ⟨encO o, ⟨h0, by simp [ho], rfl⟩, ?_⟩
  have h6 : ar = 0 ∨ ar = 1 ∨ ar = 2 ∨ ar = 3 ∨ ar = 4 ∨ ar = 5 := by omega
  rcases h6 with rfl | rfl | rfl | rfl | rfl | rfl
  · replace hk : K (.ret (.tu [])) (wB im fn s l) := hk
    repeat' ((conv => whnf); first | exact zf | refine zg ?_ | intro _ | refine And.intro rfl ?_ | refine ⟨_, hab, ?_⟩ | refine (hab).use ?_ | refine za ?_ | refine zl ?_ | fail)
    exact hk
  · replace hk : match (bif decide (o.a < im.cs.length) then none else some 5) with
      | none => K (.ret (.tu [])) (wB im fn s l)
      | some e => K (.pan (flt x e)) (wB im fn s l) := hk
    repeat' ((conv => whnf); first | exact zf | refine zg ?_ | intro _ | refine And.intro rfl ?_ | refine ⟨_, hab, ?_⟩ | refine (hab).use ?_ | refine za ?_ | refine zl ?_ | fail)
    refine must118 _ _ _ (fun hb => ?_) (fun hb => ?_)
    · rw [show decide (o.a < (im.cs.length : Int)) = true by simpa using hb] at hk
      repeat' ((conv => whnf); first | exact zf | refine zg ?_ | intro _ | refine And.intro rfl ?_ | refine za ?_ | refine zl ?_ | fail)
      exact hk
    · rw [show decide (o.a < (im.cs.length : Int)) = false by simpa using hb] at hk
      repeat' ((conv => whnf); first | exact zf | refine zg ?_ | intro _ | refine And.intro rfl ?_ | refine za ?_ | refine zl ?_ | fail)
      exact hk
  · replace hk : match (bif decide (o.a < fn.args + fn.vars) then none else some 1) with
      | none => K (.ret (.tu [])) (wB im fn s l)
      | some e => K (.pan (flt x e)) (wB im fn s l) := hk
    repeat' ((conv => whnf); first | exact zf | refine zg ?_ | intro _ | refine And.intro rfl ?_ | refine ⟨_, hab, ?_⟩ | refine (hab).use ?_ | refine (.inl ⟨by unfold inR; omega, ?_⟩) | refine za ?_ | refine zl ?_ | fail)
    refine must118 _ _ _ (fun hb => ?_) (fun hb => ?_)
    · rw [hb] at hk
      repeat' ((conv => whnf); first | exact zf | refine zg ?_ | intro _ | refine And.intro rfl ?_ | refine za ?_ | refine zl ?_ | fail)
      exact hk
    · rw [hb] at hk
      repeat' ((conv => whnf); first | exact zf | refine zg ?_ | intro _ | refine And.intro rfl ?_ | refine za ?_ | refine zl ?_ | fail)
      exact hk
  · replace hk : match (bif decide (o.a < fn.code.length) then none else some 7) with
      | none => K (.ret (.tu [])) (wB im fn s l)
      | some e => K (.pan (flt x e)) (wB im fn s l) := hk
    repeat' ((conv => whnf); first | exact zf | refine zg ?_ | intro _ | refine And.intro rfl ?_ | refine ⟨_, hab, ?_⟩ | refine (hab).use ?_ | refine za ?_ | refine zl ?_ | fail)
    refine must118 _ _ _ (fun hb => ?_) (fun hb => ?_)
    · rw [show decide (o.a < (fn.code.length : Int)) = true by simpa using hb] at hk
      repeat' ((conv => whnf); first | exact zf | refine zg ?_ | intro _ | refine And.intro rfl ?_ | refine za ?_ | refine zl ?_ | fail)
      exact hk
    · rw [show decide (o.a < (fn.code.length : Int)) = false by simpa using hb] at hk
      repeat' ((conv => whnf); first | exact zf | refine zg ?_ | intro _ | refine And.intro rfl ?_ | refine za ?_ | refine zl ?_ | fail)
      exact hk
  · replace hk : match (bif decide (o.a < im.fs.length) then (bif (o.c == 38 || (o.c == 40 || o.c == 45)) then (match im.fs[o.a.toNat]? with
        | some g => bif g.args == 1 then none else some 6
        | none => some 6) else none) else some 6) with
      | none => K (.ret (.tu [])) (wB im fn s l)
      | some e => K (.pan (flt x e)) (wB im fn s l) := hk
    repeat' ((conv => whnf); first | exact zf | refine zg ?_ | intro _ | refine And.intro rfl ?_ | refine ⟨_, hab, ?_⟩ | refine (hab).use ?_ | refine za ?_ | refine zl ?_ | fail)
    refine must118 _ _ _ (fun hb => ?_) (fun hb => ?_)
    · rw [show decide (o.a < (im.fs.length : Int)) = true by simpa using hb] at hk
      have hlt : o.a < im.fs.length := by simpa using hb
      obtain ⟨g, hg⟩ : ∃ g, im.fs[o.a.toNat]? = some g := ⟨_, List.getElem?_eq_getElem (by omega)⟩
      rw [hg] at hk
      have h38 : o.c = 38 ∨ o.c = 40 ∨ o.c = 45 ∨ (o.c ≠ 38 ∧ o.c ≠ 40 ∧ o.c ≠ 45) := by omega
      rcases h38 with hc | hc | hc | ⟨c1, c2, c3⟩
      · rw [hc] at hk
        replace hk : match (bif g.args == 1 then none else some 6) with
          | none => K (.ret (.tu [])) (wB im fn s l)
          | some e => K (.pan (flt x e)) (wB im fn s l) := hk
        have e1 : (o.c == 38) = true := by rw [hc]; rfl
        repeat' ((conv => whnf); first | exact zf | refine zg ?_ | intro _ | refine And.intro rfl ?_ | refine (sp_t e1 ?_) | refine za ?_ | refine zl ?_ | fail)
        refine ⟨encFn g, ⟨ha0, by simp [hg], rfl⟩, ?_⟩
        repeat' ((conv => whnf); first | exact zf | refine zg ?_ | intro _ | refine And.intro rfl ?_ | refine (sp_t e1 ?_) | refine za ?_ | refine zl ?_ | fail)
        refine must118 _ _ _ (fun hb => ?_) (fun hb => ?_)
        · rw [hb] at hk
          repeat' ((conv => whnf); first | exact zf | refine zg ?_ | intro _ | refine And.intro rfl ?_ | refine za ?_ | refine zl ?_ | fail)
          exact hk
        · rw [hb] at hk
          repeat' ((conv => whnf); first | exact zf | refine zg ?_ | intro _ | refine And.intro rfl ?_ | refine za ?_ | refine zl ?_ | fail)
          exact hk
      · rw [hc] at hk
        replace hk : match (bif g.args == 1 then none else some 6) with
          | none => K (.ret (.tu [])) (wB im fn s l)
          | some e => K (.pan (flt x e)) (wB im fn s l) := hk
        have e1 : (o.c == 38) = false := by rw [hc]; rfl
        have e2 : (o.c == 40) = true := by rw [hc]; rfl
        repeat' ((conv => whnf); first | exact zf | refine zg ?_ | intro _ | refine And.intro rfl ?_ | refine (sp_f e1 ?_) | refine (sp_t e2 ?_) | refine za ?_ | refine zl ?_ | fail)
        refine ⟨encFn g, ⟨ha0, by simp [hg], rfl⟩, ?_⟩
        repeat' ((conv => whnf); first | exact zf | refine zg ?_ | intro _ | refine And.intro rfl ?_ | refine za ?_ | refine zl ?_ | fail)
        refine must118 _ _ _ (fun hb => ?_) (fun hb => ?_)
        · rw [hb] at hk
          repeat' ((conv => whnf); first | exact zf | refine zg ?_ | intro _ | refine And.intro rfl ?_ | refine za ?_ | refine zl ?_ | fail)
          exact hk
        · rw [hb] at hk
          repeat' ((conv => whnf); first | exact zf | refine zg ?_ | intro _ | refine And.intro rfl ?_ | refine za ?_ | refine zl ?_ | fail)
          exact hk
      · rw [hc] at hk
        replace hk : match (bif g.args == 1 then none else some 6) with
          | none => K (.ret (.tu [])) (wB im fn s l)
          | some e => K (.pan (flt x e)) (wB im fn s l) := hk
        have e1 : (o.c == 38) = false := by rw [hc]; rfl
        have e2 : (o.c == 40) = false := by rw [hc]; rfl
        have e3 : (o.c == 45) = true := by rw [hc]; rfl
        repeat' ((conv => whnf); first | exact zf | refine zg ?_ | intro _ | refine And.intro rfl ?_ | refine (sp_f e1 ?_) | refine (sp_f e2 ?_) | refine (sp_t e3 ?_) | refine za ?_ | refine zl ?_ | fail)
        refine ⟨encFn g, ⟨ha0, by simp [hg], rfl⟩, ?_⟩
        repeat' ((conv => whnf); first | exact zf | refine zg ?_ | intro _ | refine And.intro rfl ?_ | refine za ?_ | refine zl ?_ | fail)
        refine must118 _ _ _ (fun hb => ?_) (fun hb => ?_)
        · rw [hb] at hk
          repeat' ((conv => whnf); first | exact zf | refine zg ?_ | intro _ | refine And.intro rfl ?_ | refine za ?_ | refine zl ?_ | fail)
          exact hk
        · rw [hb] at hk
          repeat' ((conv => whnf); first | exact zf | refine zg ?_ | intro _ | refine And.intro rfl ?_ | refine za ?_ | refine zl ?_ | fail)
          exact hk
      · have e1 : (o.c == 38) = false := by simpa using c1
        have e2 : (o.c == 40) = false := by simpa using c2
        have e3 : (o.c == 45) = false := by simpa using c3
        rw [e1, e2, e3] at hk
        repeat' ((conv => whnf); first | exact zf | refine zg ?_ | intro _ | refine And.intro rfl ?_ | refine (sp_f e1 ?_) | refine (sp_f e2 ?_) | refine (sp_f e3 ?_) | refine za ?_ | refine zl ?_ | fail)
        exact hk
    · rw [show decide (o.a < (im.fs.length : Int)) = false by simpa using hb] at hk
      repeat' ((conv => whnf); first | exact zf | refine zg ?_ | intro _ | refine And.intro rfl ?_ | refine za ?_ | refine zl ?_ | fail)
      exact hk
  · replace hk : match (bif decide (o.a ≤ 63) then none else some 1) with
      | none => K (.ret (.tu [])) (wB im fn s l)
      | some e => K (.pan (flt x e)) (wB im fn s l) := hk
    repeat' ((conv => whnf); first | exact zf | refine zg ?_ | intro _ | refine And.intro rfl ?_ | refine ⟨_, hab, ?_⟩ | refine (hab).use ?_ | refine za ?_ | refine zl ?_ | fail)
    refine must118 _ _ _ (fun hb => ?_) (fun hb => ?_)
    · rw [hb] at hk
      repeat' ((conv => whnf); first | exact zf | refine zg ?_ | intro _ | refine And.intro rfl ?_ | refine za ?_ | refine zl ?_ | fail)
      exact hk
    · rw [hb] at hk
      repeat' ((conv => whnf); first | exact zf | refine zg ?_ | intro _ | refine And.intro rfl ?_ | refine za ?_ | refine zl ?_ | fail)
      exact hk
end Go.Proofs.YtoibcfioicdlhaaGreatDoor
namespace Go.Proofs.YtoibcfioicdlhaaGreatDoor
open Go.Vx
set_option maxRecDepth 100000
def lookI : Sn → Int → Nat → Option (Nat × (Int × Int))
  | [], _, _ => none
  | p :: r, x, i => bif x == p.1 then some (i, p.2) else lookI r x (i + 1)
def memI : List Int → Int → Nat → Option Nat
  | [], _, _ => none
  | p :: r, x, i => bif x == p then some i else memI r x (i + 1)
def agS (p : Int × Int) : V := .ag [.d (.int .i64 p.1), .d (.int .i64 p.2)]
theorem fnd_seen (x : Int) : ∀ (s : Sn) (i : Nat), fnd [0, 3] [.d (.int .i64 x)] (mpOf (seenM s)) i = some ((lookI s x i).map fun r => (r.1, agS r.2))
  | [], i => rfl
  | p :: r, i => by
    show (bif x == p.1 && true then some (some (i, agS p.2)) else fnd [0, 3] [.d (.int .i64 x)] (mpOf (seenM r)) (i + 1)) = some (Option.map _ (bif x == p.1 then some (i, p.2) else lookI r x (i + 1)))
    cases x == p.1 with
    | true => rfl
    | false => exact fnd_seen x r (i + 1)
theorem fnd_open (x : Int) : ∀ (l : List Int) (i : Nat), fnd [0, 3] [.d (.int .i64 x)] (mpOf (openM l)) i = some ((memI l x i).map fun j => (j, .d (.bool true)))
  | [], i => rfl
  | p :: r, i => by
    show (bif x == p && true then some (some (i, V.d (.bool true))) else fnd [0, 3] [.d (.int .i64 x)] (mpOf (openM r)) (i + 1)) = some (Option.map _ (bif x == p then some i else memI r x (i + 1)))
    cases x == p with
    | true => rfl
    | false => exact fnd_open x r (i + 1)
def ins (l : List Int) (x : Int) : List Int := match memI l x 0 with
  | some _ => l
  | none => l ++ [x]
def era (l : List Int) (x : Int) : List Int := match memI l x 0 with
  | some i => l.eraseIdx i
  | none => l
theorem memI_get {x : Int} : ∀ {l : List Int} {i j : Nat}, memI l x i = some j → i ≤ j ∧ l[j - i]? = some x
  | [], _, _, h => by cases h
  | p :: r, i, j, h => by
    simp only [memI] at h
    cases hx : x == p with
    | true =>
      rw [hx] at h
      simp only [cond_true, Option.some.injEq] at h
      subst h
      simp only [beq_iff_eq] at hx
      simp [hx]
    | false =>
      rw [hx] at h
      simp only [cond_false] at h
      obtain ⟨h1, h2⟩ := memI_get h
      refine ⟨by omega, ?_⟩
      rw [show j - i = (j - (i + 1)) + 1 by omega]
      simpa using h2
theorem open_set {l : List Int} {x : Int} {j : Nat} (h : memI l x 0 = some j) : (openM l).set j (.int .i64 x, false, [.bool true]) = openM l := by
  obtain ⟨_, h2⟩ := memI_get h
  rw [Nat.sub_zero] at h2
  refine List.ext_getElem? fun k => ?_
  rw [List.getElem?_set]
  split
  · rename_i hk
    subst hk
    have hlt : j < l.length := (List.getElem?_eq_some_iff.1 h2).1
    rw [if_pos (by simpa [openM] using hlt)]
    simp [openM, h2]
  · rfl
theorem open_app (l : List Int) (x : Int) : openM l ++ [(.int .i64 x, false, [.bool true])] = openM (l ++ [x]) := by simp [openM]
theorem open_erase (l : List Int) (j : Nat) : (openM l).eraseIdx j = openM (l.eraseIdx j) := by simp [openM, erase_map]
theorem seen_app (s : Sn) (x : Int) (p : Int × Int) : seenM s ++ [(.int .i64 x, true, [.int .i64 p.1, .int .i64 p.2])] = seenM (s ++ [(x, p)]) := by simp [seenM]
def rch (s : Sn) (l : List Int) (x : Int) (p : Int × Int) : Option (Sn × List Int) :=
  match lookI s x 0 with
  | some r => bif r.2.1 == p.1 && (r.2.2 == p.2 && true) then some (s, l) else none
  | none => some (s ++ [(x, p)], ins l x)
set_option maxRecDepth 100000 in
theorem reach82 {K : Out → H → Prop} (im : Im) (fn : Fn) (s : Sn) (l : List Int) (f x : Int) (p : Int × Int)
    (hk : match rch s l x p with
      | some q => K (.ret (.tu [])) (wB im fn q.1 q.2)
      | none => K (.pan (flt f 8)) (wB im fn s l)) : Sat Tryz.prog 82 [.p 0 0, .d (.int .i64 f), .d (.int .i64 x), agS p] (wB im fn s l) K := by
  have hs := fnd_seen x s 0
  have ho := fnd_open x l 0
  unfold rch at hk
  cases hl : lookI s x 0 with
  | some r =>
    rw [hl] at hk hs
    refine s82 (keep := false) rfl ?_
    repeat' ((conv => whnf); first | exact zf | refine zg ?_ | intro _ | refine And.intro rfl ?_ | refine za ?_ | refine zl ?_ | fail)
    refine ⟨_, hs, ?_⟩
    repeat' ((conv => whnf); first | exact zf | refine zg ?_ | intro _ | refine And.intro rfl ?_ | refine za ?_ | refine zl ?_ | fail)
    refine must118 _ _ _ (fun hb => ?_) (fun hb => ?_)
    · replace hb : (r.2.1 == p.1 && (r.2.2 == p.2 && true)) = true := hb
      simp only [hb] at hk
      replace hk : K (.ret (.tu [])) (wB im fn s l) := hk
      repeat' ((conv => whnf); first | exact zf | refine zg ?_ | intro _ | refine And.intro rfl ?_ | refine za ?_ | refine zl ?_ | fail)
      exact hk
    · replace hb : (r.2.1 == p.1 && (r.2.2 == p.2 && true)) = false := hb
      simp only [hb] at hk
      replace hk : K (.pan (flt f 8)) (wB im fn s l) := hk
      repeat' ((conv => whnf); first | exact zf | refine zg ?_ | intro _ | refine And.intro rfl ?_ | refine za ?_ | refine zl ?_ | fail)
      exact hk
  | none =>
    rw [hl] at hk hs
    replace hk : K (.ret (.tu [])) (wB im fn (s ++ [(x, p)]) (ins l x)) := hk
    have h1 := seen_app s x p
    cases hm : memI l x 0 with
    | some j =>
      rw [hm] at ho
      have e : wB im fn (s ++ [(x, p)]) (ins l x) = [.cells [.d (.sl 5 (im.cs.map encV)), .d (.sl 3 (im.fs.map encFn)), .d (.int .i64 fn.args), .d (.int .i64 fn.vars), .d (.sl 2 (fn.code.map encO)), .mp 1, .mp 2],
          .dm (seenM s ++ [(.int .i64 x, true, [.int .i64 p.1, .int .i64 p.2])]), .dm ((openM l).set j (.int .i64 x, false, [.bool true]))] := by
        rw [h1, open_set hm]
        simp only [wB, ins, hm]
      rw [e] at hk
      refine s82 (keep := false) rfl ?_
      repeat' ((conv => whnf); first | exact zf | refine zg ?_ | intro _ | refine And.intro rfl ?_ | refine ⟨_, hs, ?_⟩ | refine (hs).use ?_ | refine ⟨_, ho, ?_⟩ | refine (ho).use ?_ | refine za ?_ | refine zl ?_ | fail)
      exact hk
    | none =>
      rw [hm] at ho
      have e : wB im fn (s ++ [(x, p)]) (ins l x) = [.cells [.d (.sl 5 (im.cs.map encV)), .d (.sl 3 (im.fs.map encFn)), .d (.int .i64 fn.args), .d (.int .i64 fn.vars), .d (.sl 2 (fn.code.map encO)), .mp 1, .mp 2],
          .dm (seenM s ++ [(.int .i64 x, true, [.int .i64 p.1, .int .i64 p.2])]), .dm (openM l ++ [(.int .i64 x, false, [.bool true])])] := by
        rw [h1, open_app]
        simp only [wB, ins, hm]
      rw [e] at hk
      refine s82 (keep := false) rfl ?_
      repeat' ((conv => whnf); first | exact zf | refine zg ?_ | intro _ | refine And.intro rfl ?_ | refine ⟨_, hs, ?_⟩ | refine (hs).use ?_ | refine ⟨_, ho, ?_⟩ | refine (ho).use ?_ | refine za ?_ | refine zl ?_ | fail)
      exact hk
end Go.Proofs.YtoibcfioicdlhaaGreatDoor
