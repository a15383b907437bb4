/- The kit's contracts of the library, laid at this program: numbers alone. Conditions: none. -/
import Derived.Shelf.Strconv.ParseIntPublic10
import Derived.Shelf.Strconv.Itoa4
import Derived.Test.YtjpgfgajkjhonaaGreatDoorChecked
import Derived.KernelRfl
import Derived.Test.YtjpgfgajkjhonaaGreatDoorQTAY
import Derived.Test.YtjpgfgajkjhonaaGreatDoorQTAS
import Derived.BigCall
import Derived.BigGuard
import Derived.Test.YtjpgfgajkjhonaaGreatDoorQTAV
import Derived.Test.YtjpgfgajkjhonaaGreatDoorQTAX
namespace Go.Proofs.YtjpgfgajkjhonaaGreatDoor
open Go.RowKit Go.Shelf Go.Proofs
def parseR : Go.Shelf.Ren := ⟨fun | 174 => 138 | 247 => 208 | 245 => 209 | 287 => 268 | 279 => 269 | 280 => 270 | 281 => 271 | 282 => 272 | 321 => 299 | 322 => 300 | 316 => 301 | 171 => 303 | 205 => 302 | 243 => 328 | 246 => 273 | 283 => 304 | 284 => 305 | 285 => 306 | 286 => 307 | 129 => 207 | 317 => 329 | 318 => 330 | 319 => 331 | 320 => 332 | 337 => 336 | 338 => 337 | n => n, fun | 9 => 9 | 3 => 3 | 2 => 2 | 75 => 262 | 85 => 263 | 4 => 4 | 167 => 339 | 5 => 5 | 53 => 193 | 175 => 340 | 46 => 198 | 168 => 342 | 37 => 188 | 0 => 0 | 210 => 371 | 21 => 21 | 127 => 391 | 145 => 394 | 143 => 392 | 171 => 374 | 173 => 376 | 212 => 396 | 51 => 293 | 20 => 20 | 213 => 397 | 232 => 407 | 233 => 408 | 80 => 324 | n => n, fun | 15 => 2 | 16 => 3 | 17 => 6 | 18 => 7 | 19 => 8 | n => n⟩
theorem parse : LaysC.n174 Tryz.prog parseR where
 mixed := by kernel_rfl
 f129 := Tryz.func207.trans (congrArg some (by kernel_rfl))
 f171 := Tryz.func303.trans (congrArg some (by kernel_rfl))
 f174 := Tryz.func138.trans (congrArg some (by kernel_rfl))
 f205 := Tryz.func302.trans (congrArg some (by kernel_rfl))
 f243 := Tryz.func328.trans (congrArg some (by kernel_rfl))
 f245 := Tryz.func209.trans (congrArg some (by kernel_rfl))
 f246 := Tryz.func273.trans (congrArg some (by kernel_rfl))
 f247 := Tryz.func208.trans (congrArg some (by kernel_rfl))
 f279 := Tryz.func269.trans (congrArg some (by kernel_rfl))
 f280 := Tryz.func270.trans (congrArg some (by kernel_rfl))
 f281 := Tryz.func271.trans (congrArg some (by kernel_rfl))
 f282 := Tryz.func272.trans (congrArg some (by kernel_rfl))
 f283 := Tryz.func304.trans (congrArg some (by kernel_rfl))
 f284 := Tryz.func305.trans (congrArg some (by kernel_rfl))
 f285 := Tryz.func306.trans (congrArg some (by kernel_rfl))
 f286 := Tryz.func307.trans (congrArg some (by kernel_rfl))
 f287 := Tryz.func268.trans (congrArg some (by kernel_rfl))
 f316 := Tryz.func301.trans (congrArg some (by kernel_rfl))
 f317 := Tryz.func329.trans (congrArg some (by kernel_rfl))
 f318 := Tryz.func330.trans (congrArg some (by kernel_rfl))
 f319 := Tryz.func331.trans (congrArg some (by kernel_rfl))
 f320 := Tryz.func332.trans (congrArg some (by kernel_rfl))
 f321 := Tryz.func299.trans (congrArg some (by kernel_rfl))
 f322 := Tryz.func300.trans (congrArg some (by kernel_rfl))
 f337 := Tryz.func336.trans (congrArg some (by kernel_rfl))
 f338 := Tryz.func337.trans (congrArg some (by kernel_rfl))
 t0 := Tryz.underlying0
 a0 := Tryz.isAgg0
 z0 := Tryz.sizeOf0
 v0 := Tryz.zeroValue0
 t2 := Tryz.underlying2
 a2 := Tryz.isAgg2
 z2 := Tryz.sizeOf2
 v2 := Tryz.zeroValue2
 t3 := Tryz.underlying3
 a3 := Tryz.isAgg3
 z3 := Tryz.sizeOf3
 v3 := Tryz.zeroValue3
 t4 := Tryz.underlying4
 a4 := Tryz.isAgg4
 z4 := Tryz.sizeOf4
 v4 := Tryz.zeroValue4
 t5 := Tryz.underlying5
 a5 := Tryz.isAgg5
 z5 := Tryz.sizeOf5
 v5 := Tryz.zeroValue5
 t9 := Tryz.underlying9
 a9 := Tryz.isAgg9
 z9 := Tryz.sizeOf9
 v9 := Tryz.zeroValue9
 t20 := Tryz.underlying20
 a20 := Tryz.isAgg20
 z20 := Tryz.sizeOf20
 v20 := Tryz.zeroValue20
 t21 := Tryz.underlying21
 a21 := Tryz.isAgg21
 z21 := Tryz.sizeOf21
 v21 := Tryz.zeroValue21
 t37 := Tryz.underlying188
 a37 := Tryz.isAgg188
 z37 := Tryz.sizeOf188
 v37 := Tryz.zeroValue188
 t46 := Tryz.underlying198
 a46 := Tryz.isAgg198
 z46 := Tryz.sizeOf198
 v46 := Tryz.zeroValue198
 t51 := Tryz.underlying293
 a51 := Tryz.isAgg293
 z51 := Tryz.sizeOf293
 v51 := Tryz.zeroValue293
 t53 := Tryz.underlying193
 a53 := Tryz.isAgg193
 z53 := Tryz.sizeOf193
 v53 := Tryz.zeroValue193
 t75 := Tryz.underlying262
 a75 := Tryz.isAgg262
 z75 := Tryz.sizeOf262
 v75 := Tryz.zeroValue262
 t85 := Tryz.underlying263
 a85 := Tryz.isAgg263
 z85 := Tryz.sizeOf263
 v85 := Tryz.zeroValue263
 t127 := Tryz.underlying391
 a127 := Tryz.isAgg391
 z127 := Tryz.sizeOf391
 v127 := Tryz.zeroValue391
 t143 := Tryz.underlying392
 a143 := Tryz.isAgg392
 z143 := Tryz.sizeOf392
 v143 := Tryz.zeroValue392
 t145 := Tryz.underlying394
 a145 := Tryz.isAgg394
 z145 := Tryz.sizeOf394
 v145 := Tryz.zeroValue394
 t167 := Tryz.underlying339
 a167 := Tryz.isAgg339
 z167 := Tryz.sizeOf339
 v167 := Tryz.zeroValue339
 t168 := Tryz.underlying342
 a168 := Tryz.isAgg342
 z168 := Tryz.sizeOf342
 v168 := Tryz.zeroValue342
 t171 := Tryz.underlying374
 a171 := Tryz.isAgg374
 z171 := Tryz.sizeOf374
 v171 := Tryz.zeroValue374
 t173 := Tryz.underlying376
 a173 := Tryz.isAgg376
 z173 := Tryz.sizeOf376
 v173 := Tryz.zeroValue376
 t175 := Tryz.underlying340
 a175 := Tryz.isAgg340
 z175 := Tryz.sizeOf340
 v175 := Tryz.zeroValue340
 t210 := Tryz.underlying371
 a210 := Tryz.isAgg371
 z210 := Tryz.sizeOf371
 v210 := Tryz.zeroValue371
 t212 := Tryz.underlying396
 a212 := Tryz.isAgg396
 z212 := Tryz.sizeOf396
 v212 := Tryz.zeroValue396
 t213 := Tryz.underlying397
 a213 := Tryz.isAgg397
 z213 := Tryz.sizeOf397
 t232 := Tryz.underlying407
 a232 := Tryz.isAgg407
 z232 := Tryz.sizeOf407
 v232 := Tryz.zeroValue407
 t233 := Tryz.underlying408
 a233 := Tryz.isAgg408
 z233 := Tryz.sizeOf408
 v233 := Tryz.zeroValue408
 g15 := by kernel_rfl
 g16 := by kernel_rfl
 g17 := by kernel_rfl
 g18 := by kernel_rfl
 g19 := by kernel_rfl
 t80 := Tryz.underlying324
 a80 := Tryz.isAgg324
 z80 := Tryz.sizeOf324
 v80 := Tryz.zeroValue324
 i0 := by kernel_rfl
 i2 := by kernel_rfl
 i3 := by kernel_rfl
 i4 := by kernel_rfl
 i5 := by kernel_rfl
 i9 := by kernel_rfl
 i20 := by kernel_rfl
 i21 := by kernel_rfl
 i37 := by kernel_rfl
 i46 := by kernel_rfl
 i51 := by kernel_rfl
 i53 := by kernel_rfl
 i75 := by kernel_rfl
 i80 := by kernel_rfl
 i85 := by kernel_rfl
 i127 := by kernel_rfl
 i143 := by kernel_rfl
 i145 := by kernel_rfl
 i167 := by kernel_rfl
 i168 := by kernel_rfl
 i171 := by kernel_rfl
 i173 := by kernel_rfl
 i175 := by kernel_rfl
 i210 := by kernel_rfl
 i212 := by kernel_rfl
 i232 := by kernel_rfl
 i233 := by kernel_rfl
 m15 := by kernel_rfl
 m16 := by kernel_rfl
 m17 := by kernel_rfl
 m18 := by kernel_rfl
 m19 := by kernel_rfl
 c0 := by kernel_rfl
 c2 := by kernel_rfl
 c3 := by kernel_rfl
 c4 := by kernel_rfl
 c5 := by kernel_rfl
 c9 := by kernel_rfl
 c20 := by kernel_rfl
 c21 := by kernel_rfl
 c37 := by kernel_rfl
 c46 := by kernel_rfl
 c51 := by kernel_rfl
 c53 := by kernel_rfl
 c75 := by kernel_rfl
 c80 := by kernel_rfl
 c85 := by kernel_rfl
 c127 := by kernel_rfl
 c143 := by kernel_rfl
 c145 := by kernel_rfl
 c167 := by kernel_rfl
 c168 := by kernel_rfl
 c171 := by kernel_rfl
 c173 := by kernel_rfl
 c175 := by kernel_rfl
 c210 := by kernel_rfl
 c212 := by kernel_rfl
 c213 := by kernel_rfl
 c232 := by kernel_rfl
 c233 := by kernel_rfl
def formatR : Go.Shelf.Ren := ⟨fun | 173 => 210 | 246 => 273 | 283 => 304 | 284 => 305 | 285 => 306 | 286 => 307 | 129 => 207 | 317 => 329 | 318 => 330 | 319 => 331 | 320 => 332 | 337 => 336 | 338 => 337 | n => n, fun | 2 => 2 | 3 => 3 | 9 => 9 | 4 => 4 | 171 => 374 | 0 => 0 | 53 => 193 | 37 => 188 | 5 => 5 | 173 => 376 | 212 => 396 | 51 => 293 | 20 => 20 | 213 => 397 | 46 => 198 | 232 => 407 | 233 => 408 | n => n, fun | 17 => 6 | 18 => 7 | 19 => 8 | n => n⟩
theorem format : Lays.n173 Tryz.prog formatR where
 mixed := by kernel_rfl
 f129 := Tryz.func207.trans (congrArg some (by kernel_rfl))
 f173 := Tryz.func210.trans (congrArg some (by kernel_rfl))
 f246 := Tryz.func273.trans (congrArg some (by kernel_rfl))
 f283 := Tryz.func304.trans (congrArg some (by kernel_rfl))
 f284 := Tryz.func305.trans (congrArg some (by kernel_rfl))
 f285 := Tryz.func306.trans (congrArg some (by kernel_rfl))
 f286 := Tryz.func307.trans (congrArg some (by kernel_rfl))
 f317 := Tryz.func329.trans (congrArg some (by kernel_rfl))
 f318 := Tryz.func330.trans (congrArg some (by kernel_rfl))
 f319 := Tryz.func331.trans (congrArg some (by kernel_rfl))
 f320 := Tryz.func332.trans (congrArg some (by kernel_rfl))
 f337 := Tryz.func336.trans (congrArg some (by kernel_rfl))
 f338 := Tryz.func337.trans (congrArg some (by kernel_rfl))
 t0 := Tryz.underlying0
 a0 := Tryz.isAgg0
 z0 := Tryz.sizeOf0
 v0 := Tryz.zeroValue0
 t2 := Tryz.underlying2
 a2 := Tryz.isAgg2
 z2 := Tryz.sizeOf2
 v2 := Tryz.zeroValue2
 t3 := Tryz.underlying3
 a3 := Tryz.isAgg3
 z3 := Tryz.sizeOf3
 v3 := Tryz.zeroValue3
 t4 := Tryz.underlying4
 a4 := Tryz.isAgg4
 z4 := Tryz.sizeOf4
 v4 := Tryz.zeroValue4
 t5 := Tryz.underlying5
 a5 := Tryz.isAgg5
 z5 := Tryz.sizeOf5
 v5 := Tryz.zeroValue5
 t9 := Tryz.underlying9
 a9 := Tryz.isAgg9
 z9 := Tryz.sizeOf9
 v9 := Tryz.zeroValue9
 t20 := Tryz.underlying20
 a20 := Tryz.isAgg20
 z20 := Tryz.sizeOf20
 v20 := Tryz.zeroValue20
 t37 := Tryz.underlying188
 a37 := Tryz.isAgg188
 z37 := Tryz.sizeOf188
 v37 := Tryz.zeroValue188
 t46 := Tryz.underlying198
 a46 := Tryz.isAgg198
 z46 := Tryz.sizeOf198
 v46 := Tryz.zeroValue198
 t51 := Tryz.underlying293
 a51 := Tryz.isAgg293
 z51 := Tryz.sizeOf293
 v51 := Tryz.zeroValue293
 t53 := Tryz.underlying193
 a53 := Tryz.isAgg193
 z53 := Tryz.sizeOf193
 v53 := Tryz.zeroValue193
 t171 := Tryz.underlying374
 a171 := Tryz.isAgg374
 z171 := Tryz.sizeOf374
 v171 := Tryz.zeroValue374
 t173 := Tryz.underlying376
 a173 := Tryz.isAgg376
 z173 := Tryz.sizeOf376
 v173 := Tryz.zeroValue376
 t212 := Tryz.underlying396
 a212 := Tryz.isAgg396
 z212 := Tryz.sizeOf396
 v212 := Tryz.zeroValue396
 t213 := Tryz.underlying397
 a213 := Tryz.isAgg397
 z213 := Tryz.sizeOf397
 t232 := Tryz.underlying407
 a232 := Tryz.isAgg407
 z232 := Tryz.sizeOf407
 v232 := Tryz.zeroValue407
 t233 := Tryz.underlying408
 a233 := Tryz.isAgg408
 z233 := Tryz.sizeOf408
 v233 := Tryz.zeroValue408
 g17 := by kernel_rfl
 g18 := by kernel_rfl
 g19 := by kernel_rfl
end Go.Proofs.YtjpgfgajkjhonaaGreatDoor
namespace Go.Proofs.YtjpgfgajkjhonaaGreatDoor
open Go.Vx
set_option maxRecDepth 100000
open Go.RowKit Go.Shelf Go.Proofs
theorem sat_grw {f : Nat} {vs : List V} {r : V} (hok : callOk Tryz.prog f = true)
  (h : ∀ (G : Nat → Prop) (w : World) (xs : List Value), xs.length = vs.length → (∀ (i : Nat) (x : V), vs[i]? = some x → Rep2 G w [] (xs.getD i undef) x) → Calls Tryz.prog f xs.toArray w fun e w' => (∃ v, e = .returned v ∧ Rep2 G w' [] v r) ∧ Grw w w') :
  Sat Tryz.prog f vs [] fun out h => out = .ret r ∧ h = [] := by
 refine .inl ⟨hok, fun G w ρ xs hR hl hv => ?_⟩
 match ρ, hR.len with
 | [], _ =>
 refine Calls.mono (h G w xs hl hv) ?_
 rintro e w' ⟨⟨v, rfl, h1⟩, h2⟩
 exact ⟨G, [], [], .ret r, (Ok.refl hR).grow h2 (fun _ h => h) (fun _ h => .inl h), ⟨v, rfl, h1⟩, rfl, rfl⟩
theorem Rep2.ofD {G : Nat → Prop} {w : World} {ρ : List Value} {v : Value} {x : D} (h : RepD G w v x) : Rep2 G w ρ v (.d x) := .o (.c (.k (.d h)))
theorem grw_bytes (w : World) (e : TypeId) (s : ByteArray) : Grw w (Lib.bytesWorld w e s) := by
 have h1 : Grw w (w.drew.alloc (.cells (Lib.bytesCells w e s) e)) := (Grw.drew w).trans (Grw.alloc _ _)
 unfold Lib.bytesWorld World.freeze
 split
 ·exact h1
 ·refine ⟨?_, fun k hk => ?_, h1.os, h1.tape, h1.out⟩
  ·exact Nat.le_trans h1.size (by simp)
  ·rw [← h1.old k hk]
   simp only [Array.getElem?_modify]
   rw [if_neg (by omega)]
theorem indexS (s : List UInt8) (c : UInt8) : SatP Tryz.prog 213 [.d (.str s), .d (.str [c])] (.d (.int .i64 (Lib.indexByte s c))) := by
 refine sat_grw (by kernel_rfl) fun G w xs hl hv => ?_
 match xs, hl with
 | [a0, a1], _ =>
 obtain ⟨t, e0, rfl, _⟩ := (hv 0 _ rfl).str
 obtain ⟨u, e1, h1, _⟩ := (hv 1 _ rfl).str
 obtain rfl : a0 = _ := e0
 obtain rfl : a1 = _ := e1
 obtain rfl : u = ⟨#[c]⟩ := by
  cases u with | mk d => cases d with | mk l => cases h1; rfl
 refine Calls.mono (Any.strings_Index_one index t c w) ?_
 rintro e w' ⟨rfl, rfl⟩
 exact ⟨⟨_, rfl, Rep2.ofD (.int _ _)⟩, Grw.refl _⟩
theorem parseS (s : List UInt8) (hs : s.length ≤ 1000) (v : Int) (h : Lib.parseIntB 64 s = .ok v) : SatP Tryz.prog 138 [.d (.str s), .d (.int .i64 10), .d (.int .i64 64)] (.tu [.d (.int .i64 v), .d .ni]) := by
 refine sat_grw (by kernel_rfl) fun G w xs hl hv => ?_
 match xs, hl with
 | [a0, a1, a2], _ =>
 obtain ⟨t, e0, rfl, _⟩ := (hv 0 _ rfl).str
 obtain rfl : a0 = _ := e0
 obtain rfl : a1 = .int .i64 10 := (hv 1 _ rfl).int
 obtain rfl : a2 = .int .i64 64 := (hv 2 _ rfl).int
 have ht : t.size ≤ 1000 := by simpa using hs
 refine Calls.mono (Any.strconv_ParseInt_10_at64_ok parse t (by omega) v h w) ?_
 rintro e w' ⟨rfl, hw⟩
 refine ⟨⟨_, rfl, .tu _ _ rfl fun i x hx => ?_⟩, ?_⟩
 ·match i, hx with
  | 0, hx => cases hx; exact .c (.k (.d (.int _ _)))
  | 1, hx => cases hx; exact .c (.k (.d .ni))
 ·rcases hw with rfl | ⟨t, rfl⟩
  ·exact Grw.refl _
  ·exact grw_bytes _ _ _
theorem decDigits_len {i : Nat} (hi : i < 100) : (Lib.decDigits i).length ≤ 2 := by
 rw [Lib.decDigits]
 split
 ·simp
 ·rw [List.length_append, Lib.decDigits, dif_pos (by omega)]
  simp
theorem formatS (i : Nat) (hi : i < 100) : SatP Tryz.prog 210 [.d (.int .i64 i), .d (.int .i64 10)] (.d (.str (Lib.decDigits i))) := by
 refine sat_grw (by kernel_rfl) fun G w xs hl hv => ?_
 match xs, hl with
 | [a0, a1], _ =>
 obtain rfl : a0 = .int .i64 i := (hv 0 _ rfl).int
 obtain rfl : a1 = .int .i64 10 := (hv 1 _ rfl).int
 refine Calls.mono (Any.strconv_FormatInt_10_small format i hi w) ?_
 rintro e w' ⟨rfl, rfl⟩
 have := decDigits_len hi
 refine ⟨⟨_, rfl, Rep2.ofD ?_⟩, Grw.refl _⟩
 exact .str ⟨(Lib.decDigits i).toArray⟩ (by show (Lib.decDigits i).toArray.size ≤ maxLen; simp [maxLen] <;> omega)
end Go.Proofs.YtjpgfgajkjhonaaGreatDoor
namespace Go.Proofs.YtjpgfgajkjhonaaGreatDoor
open Go.Vx
set_option maxRecDepth 100000
open Go.RowKit Go.Shelf Go.Proofs
theorem hid {p : Prop} (h : p) : Hid p := h
def txtT (l : List Nat) : List UInt8 := l.flatMap fun n => 46 :: Lib.decDigits n
def txt : List Nat → List UInt8
 | [] => []
 | n :: r => Lib.decDigits n ++ txtT r
theorem txt_snoc {l : List Nat} (n : Nat) (h : l ≠ []) : txt (l ++ [n]) = txt l ++ 46 :: Lib.decDigits n := by
 match l, h with
 | m :: r, _ => simp [txt, txtT, List.flatMap_append]
theorem txtT_len {l : List Nat} (h : ∀ n ∈ l, n < 100) : (txtT l).length ≤ 3 * l.length := by
 induction l with
 | nil => simp [txtT]
 | cons n r ih =>
  have h1 := decDigits_len (h n (by simp))
  have h2 := ih fun x hx => h x (by simp [hx])
  simp only [txtT, List.flatMap_cons, List.length_append, List.length_cons] at h2 ⊢
  omega
theorem txt_len {l : List Nat} (h : ∀ n ∈ l, n < 100) : (txt l).length ≤ 3 * l.length := by
 match l, h with
 | [], _ => simp [txt]
 | n :: r, h =>
  have h1 := decDigits_len (h n (by simp))
  have h2 := txtT_len (l := r) fun x hx => h x (by simp [hx])
  simp only [txt, List.length_append, List.length_cons]
  omega
theorem bX (R : Ren) (h72 : R.t 72 = writeStringR.t 72) (h5 : R.t 5 = writeStringR.t 5) : Builder.Extra Tryz.prog R where
 sizeBuilder := by rw [h72]; kernel_rfl
 liesBuilder := by rw [h72]; kernel_rfl
 t5 := by rw [h5]; exact Tryz.underlying5
 a5 := by rw [h5]; exact Tryz.isAgg5
 z5 := by rw [h5]; exact Tryz.sizeOf5
 v5 := by rw [h5]; exact Tryz.zeroValue5
 infoByte := by rw [h5]; kernel_rfl
 cellsByte := by rw [h5]; kernel_rfl
 sizeByte := by rw [h5]; kernel_rfl
 neB5 := by rw [h72, h5]; decide
theorem textC (i : Nat) (hi : i < 100) (w : World) : Calls Tryz.prog 139 #[.int .i64 i] w fun e w' => e = .returned (.string ⟨(Lib.decDigits i).toArray⟩) ∧ w' = w := by
 go_enter Tryz.func139, Tryz.ntmps139
 go_wp2_with fail
 refine (Any.strconv_FormatInt_10_small format i hi _).mono ?_
 rintro e w' ⟨rfl, rfl⟩
 go_wp2
 go_ret
 exact ⟨rfl, rfl⟩
theorem ba_size (l : List UInt8) : (⟨l.toArray⟩ : ByteArray).size = l.length := by simp [ByteArray.size]
set_option maxHeartbeats 4000000 in
set_option maxRecDepth 100000 in
theorem madeC (l : List Nat) (h0 : l ≠ []) (h24 : l.length ≤ 24) (hs : ∀ n ∈ l, n < 100) (bk o c : Nat) (w : World)
  (hcells : ∀ (j : Nat) (n : Nat), l[j]? = some n → w.cell? ⟨bk, o + j, none⟩ = some (.int .i64 n)) (hbk : bk < w.heap.size) :
  Calls Tryz.prog 335 #[.slice (some ⟨bk, o, none⟩) l.length c] w fun e w' => e = .returned (.tuple #[.string ⟨(txt l).toArray⟩, .bool true]) ∧ Below w.heap.size w w' := by
 have hl0 : 0 < l.length := List.length_pos_iff.2 h0
 have HC := hid hcells
 have HS := hid hs
 have X1 := bX writeStringR rfl rfl
 have X2 := bX writeByteR rfl rfl
 have X3 := bX bstringR rfl rfl
 clear hcells hs
 go_enter Tryz.func335, Tryz.ntmps335
 go_wp2_with fail
 go_loopw [17] (fun i wr => ∃ k : Nat, k ≤ l.length ∧ i = .int .i64 k ∧ Hid (Lib.IsBuilder (writeStringR.t 72) (writeStringR.t 5) w.heap.size w.heap.size (Lib.byteCells (txt (l.take k))) wr) ∧ Hid (Below w.heap.size w wr)) (fun i _ => l.length - (intOf i).toNat)
 case atStart =>
  refine ⟨0, Nat.zero_le _, rfl, .inl ⟨Nat.le_refl _, .slice none 0 0, heap_alloc_new w _, World.ownsRow_nil _ _ _ _, by simp [Value.ownBlock]⟩, (Below.refl w.heap.size w).alloc (Nat.le_refl _) _⟩
 case round =>
  obtain ⟨k, hk, rfl, HB, HW⟩ := hrel
  have hBw : w.heap.size ≤ wr.heap.size := HW.out.size
  by_cases hkn : k < l.length
  ·obtain ⟨n, hn⟩ : ∃ n, l[k]? = some n := ⟨l[k], List.getElem?_eq_getElem hkn⟩
   have hc : wr.cell? ⟨bk, o + k, none⟩ = some (.int .i64 n) := by
    rw [HW.out.cell (p := ⟨bk, o + k, none⟩) hbk]
    exact HC.out k n hn
   have hn1 := HS.out n (List.mem_of_getElem? hn)
   have hd := decDigits_len hn1
   have htk : l.take (k + 1) = l.take k ++ [n] := by rw [List.take_add_one, hn]; rfl
   have hlen : (txt (l.take k)).length ≤ 72 := by
    have := txt_len (l := l.take k) fun x hx => HS.out x (List.mem_of_mem_take hx)
    rw [List.length_take] at this
    omega
   have Hd := hid hd
   have Htk := hid htk
   have Hlen := hid hlen
   clear hd htk hlen hn
   by_cases hk0 : k = 0
   ·subst hk0
    rw [Nat.add_zero] at hc
    have hnext : Lib.byteCells (txt (l.take 0)) ++ Lib.strCells ⟨(Lib.decDigits n).toArray⟩ = Lib.byteCells (txt (l.take (0 + 1))) := by
     rw [Htk.out, Lib.strCells_eq, ← Lib.byteCells_append]
     simp [txt, txtT]
    have Hn := hid hnext
    clear hnext
    go_wp2_with fail
    refine (textC n hn1 wr).mono ?_
    rintro e w1 ⟨rfl, rfl⟩
    go_wp2_with fail
    refine (Any.Builder_WriteString writeString X1 w.heap.size w.heap.size _ _ w1 HB.out (by rw [Lib.byteCells_length, ba_size]; have := Hlen.out; have := Hd.out; omega) hBw).mono ?_
    rintro e w2 ⟨rfl, h2, hb2⟩
    rw [Hn.out] at h2
    have H2 := hid (Or.inr h2 : Lib.IsBuilder (writeStringR.t 72) (writeStringR.t 5) w.heap.size w.heap.size _ w2)
    have Hb2 := hid (HW.out.trans hb2)
    clear h2 hb2
    go_wp2
    exact ⟨⟨0 + 1, by omega, by go_num, H2, Hb2⟩, by simp [intOf]; omega⟩
   ·have hnext : (Lib.byteCells (txt (l.take k)) ++ [.int .u8 46]) ++ Lib.strCells ⟨(Lib.decDigits n).toArray⟩ = Lib.byteCells (txt (l.take (k + 1))) := by
     rw [Htk.out, txt_snoc _ (fun h => (List.take_eq_nil_iff.1 h).elim hk0 h0), Lib.strCells_eq, Lib.byteCells_append]
     simp [Lib.byteCells]
    have Hn := hid hnext
    clear hnext
    have hk1 : (1 : Int) ≤ k := by omega
    go_wp2_with fail
    refine (Any.Builder_WriteByte writeByte X2 w.heap.size w.heap.size _ 46 wr HB.out (by rw [Lib.byteCells_length]; have := Hlen.out; omega) hBw).mono ?_
    rintro e w1 ⟨rfl, h1, hb1⟩
    have hBw1 : w.heap.size ≤ w1.heap.size := Nat.le_trans hBw hb1.size
    have H1 := hid h1
    have Hb1 := hid hb1
    clear h1 hb1
    go_wp2_with fail
    refine (textC n hn1 w1).mono ?_
    rintro e w1 ⟨rfl, rfl⟩
    go_wp2_with fail
    refine (Any.Builder_WriteString writeString X1 w.heap.size w.heap.size _ _ w1 (Or.inr H1.out) (by rw [List.length_append, Lib.byteCells_length]; have := Hlen.out; have := Hd.out; rw [ba_size]; simp only [List.length_cons, List.length_nil]; omega) hBw1).mono ?_
    rintro e w2 ⟨rfl, h2, hb2⟩
    rw [Hn.out] at h2
    have H2 := hid (Or.inr h2 : Lib.IsBuilder (writeStringR.t 72) (writeStringR.t 5) w.heap.size w.heap.size _ w2)
    have Hb2 := hid ((HW.out.trans Hb1.out).trans hb2)
    clear h2 hb2
    go_wp2
    exact ⟨⟨k + 1, by omega, by go_num, H2, Hb2⟩, by simp [intOf]; omega⟩
  ·have hke : k = l.length := by omega
   subst hke
   have hB := HB.out
   rw [List.take_of_length_le (Nat.le_refl _)] at hB
   go_wp2_with fail
   refine (Any.Builder_String_any bstring X3 w.heap.size w.heap.size _ wr hB hBw).mono ?_
   rintro e w5 ⟨rfl, hb5⟩
   have Hb5 := hid (HW.out.trans hb5)
   clear hb5 hB
   go_wp2
   go_ret2
   exact ⟨rfl, Hb5.out⟩
end Go.Proofs.YtjpgfgajkjhonaaGreatDoor
namespace Go.Proofs.YtjpgfgajkjhonaaGreatDoor
open Go.Vx
set_option maxRecDepth 100000
theorem dec_two : ∀ n, n < 100 → Lib.decDigits n = if n < 10 then [UInt8.ofNat (48 + n)] else [UInt8.ofNat (48 + n / 10), UInt8.ofNat (48 + n % 10)] := by
 intro n hn
 rw [Lib.decDigits]
 split
 ·rfl
 ·rw [Lib.decDigits, dif_pos (by omega)]
  rfl
theorem dec_parse : ∀ n, n < 100 → Lib.parseIntB 64 (Lib.decDigits n) = .ok (n : Int) := by
 intro n hn
 rw [dec_two n hn]
 revert n
 decide
theorem dec_dot : ∀ n, n < 100 → (46 : UInt8) ∉ Lib.decDigits n := by
 intro n hn
 rw [dec_two n hn]
 revert n
 decide
theorem text139 (n : Nat) (hn : n < 100) : SatP Tryz.prog 139 [.d (.int .i64 n)] (.d (.str (Lib.decDigits n))) := by
 have h := formatS n hn
 refine s139 (keep := false) rfl ?_
 repeat' ((conv => whnf); first | exact zf | refine zg ?_ | intro _ | refine And.intro rfl ?_ | refine ⟨_, h, ?_⟩ | refine (h).use ?_ | refine za ?_ | refine zl ?_ | fail)
theorem parse101 (n : Nat) (hn : n < 100) : SatP Tryz.prog 101 [.d (.str (Lib.decDigits n))] (.tu [.d (.int .i64 n), .d (.bool true)]) := by
 have h0 := decDigits_len hn
 have h1 := parseS (Lib.decDigits n) (by omega) n (dec_parse n hn)
 have h2 := text139 n hn
 refine s101 (keep := false) rfl ?_
 repeat' ((conv => whnf); first | exact zf | refine zg ?_ | intro _ | refine And.intro rfl ?_ | refine ⟨_, h1, ?_⟩ | refine (h1).use ?_ | refine ⟨_, h2, ?_⟩ | refine (h2).use ?_ | refine za ?_ | refine zl ?_ | refine zt ?_ | refine zu ?_ | fail)
def natR (l : List Nat) : List (List D) := l.map fun n : Nat => [D.int .i64 n]
theorem natR_len (l : List Nat) : (natR l).length = l.length := List.length_map _
theorem natR_snoc (l : List Nat) (n : Nat) : natR l ++ [[D.int .i64 n]] = natR (l ++ [n]) := by simp [natR]
theorem take100 {K : Out → H → Prop} (n : Nat) (hn : n < 100) (acc : List Nat) (ha : acc.length < 24) (b : Bool) {word : List UInt8} (hw : word = Lib.decDigits n)
  (hk : K (.ret (.d (.bool true))) [.cells [.os 1], .rows 1 (natR (acc ++ [n])), .cells [.d (.bool true)]]) :
  Sat Tryz.prog 100 [.d (.str word), .p 0 0, .p 2 0] [.cells [.os 1], .rows 1 (natR acc), .cells [.d (.bool b)]] K := by
 subst hw
 have h1 := parse101 n hn
 have hl := natR_len acc
 rw [← natR_snoc] at hk
 refine s100 (keep := false) rfl ?_
 have e : decide (((natR acc).length : Int) < 24) = true := decide_eq_true (by omega)
 have hk2 : K (.ret (.d (.bool (decide (((natR acc).length : Int) < 24))))) [.cells [.os 1], .rows 1 (natR acc ++ [[D.int .i64 n]]), .cells [.d (.bool (decide (((natR acc).length : Int) < 24)))]] := by rw [e]; exact hk
 repeat' ((conv => whnf); first | exact zf | refine zg ?_ | intro _ | refine And.intro rfl ?_ | refine ⟨_, h1, ?_⟩ | refine (h1).use ?_ | refine za ?_ | refine zl ?_ | refine zt ?_ | refine zu ?_ | fail)
 exact hk2
theorem split140 {K : Out → H → Prop} (s t : List UInt8) (hk : K (.ret (.fc 211 [.p 0 0, .p 1 0, .p 2 0])) [.cells [.d (.str t)], .cells [.d (.str s)], .cells [.d (.int .i64 0)]]) :
  Sat Tryz.prog 140 [.d (.str s), .d (.str t), .d (.int .i64 0)] [] K := by
 refine s140 (keep := false) rfl ?_
 repeat' ((conv => whnf); first | exact zf | refine zg ?_ | intro _ | refine And.intro rfl ?_ | refine za ?_ | refine zl ?_ | fail)
 exact hk
theorem seq102 {K : Out → H → Prop} (s t : List UInt8) (hk : K (.ret (.fc 211 [.p 0 0, .p 1 0, .p 2 0])) [.cells [.d (.str t)], .cells [.d (.str s)], .cells [.d (.int .i64 0)]]) :
  Sat Tryz.prog 102 [.d (.str s), .d (.str t)] [] K := by
 refine s102 (keep := false) rfl ?_
 repeat' ((conv => whnf); first | exact zf | refine zg ?_ | intro _ | refine And.intro rfl ?_ | refine (split140 s t ?_) | refine za ?_ | refine zl ?_ | fail)
 exact hk
theorem index_none : ∀ l : List UInt8, (46 : UInt8) ∉ l → Lib.indexByte l 46 = -1
 | [], _ => rfl
 | b :: l, h => by
  have h1 : (b == 46) = false := by simp; intro e; exact h (by simp [e])
  rw [Lib.indexByte, h1, index_none l fun e => h (List.mem_cons_of_mem _ e)]
  rfl
theorem index_at : ∀ (l r : List UInt8), (46 : UInt8) ∉ l → Lib.indexByte (l ++ 46 :: r) 46 = l.length
 | [], r, _ => rfl
 | b :: l, r, h => by
  have h1 : (b == 46) = false := by simp; intro e; exact h (by simp [e])
  rw [List.cons_append, Lib.indexByte, h1, index_at l r fun e => h (List.mem_cons_of_mem _ e)]
  have : ((l.length : Int) == -1) = false := by rw [beq_eq_false_iff_ne]; omega
  simp [this]
theorem txt_two (n m : Nat) (r : List Nat) : txt (n :: m :: r) = Lib.decDigits n ++ 46 :: txt (m :: r) := by simp [txt, txtT]
def spH (acc : List Nat) (s : List UInt8) : H := [.cells [.os 5], .cells [.d (.bool true)], .cells [.d (.str [46])], .cells [.d (.str s)], .cells [.d (.int .i64 0)], .rows 1 (natR acc)]
theorem split211 {K : Out → H → Prop} (l : List Nat) (h0 : l ≠ []) (hl : l.length ≤ 24) (hs : ∀ n ∈ l, n < 100) (hk : ∀ s, K (.ret (.tu [])) (spH l s)) :
  Sat Tryz.prog 211 [.fc 100 [.p 0 0, .p 1 0], .p 2 0, .p 3 0, .p 4 0] (spH [] (txt l)) K := by
 have hl0 : 0 < l.length := List.length_pos_iff.2 h0
 refine s211 (keep := false) rfl ?_
 repeat' ((conv => whnf); first | exact zf | refine zg ?_ | intro _ | refine And.intro rfl ?_ | refine za ?_ | refine zl ?_ | refine zt ?_ | refine zu ?_ | fail)
 conv => whnf
 refine loop_use2 [(0, .fc 100 [.p 0 0, .p 1 0]), (1, .p 2 0), (2, .p 3 0), (3, .p 4 0)] (fun k : Nat => k < l.length) (fun _ => []) (fun k => spH (l.take k) (txt (l.drop k))) (fun k => l.length - k) 0 hl0 ?_ ?_ ?_ (fun k hi => ?_)
 ·exact (by repeat' (first | exact trivial | exact rfl | exact Or.inl rfl | refine And.intro ?_ ?_ | refine Or.inr ?_))
 ·exact (by repeat' (first | exact trivial | exact rfl | exact Or.inl rfl | refine And.intro ?_ ?_ | refine Or.inr ?_))
 ·exact rfl
 obtain ⟨n, r, hr⟩ : ∃ n r, l.drop k = n :: r := by
  cases h : l.drop k with
  | nil => rw [List.drop_eq_nil_iff] at h; omega
  | cons n r => exact ⟨n, r, rfl⟩
 have hn : n < 100 := hs n (List.mem_of_mem_drop (by rw [hr]; simp))
 have hkn : l[k]? = some n := by
  have := congrArg (·[0]?) hr
  simpa [List.getElem?_drop] using this
 have ht : l.take (k + 1) = l.take k ++ [n] := by rw [List.take_add_one, hkn]; rfl
 have hd : l.drop (k + 1) = r := by rw [← List.drop_drop, hr]; rfl
 have ha : (l.take k).length < 24 := by rw [List.length_take]; omega
 rw [hr]
 match r, hr, hd with
 | [], hr, hd =>
  have e1 : txt [n] = Lib.decDigits n := by simp [txt, txtT]
  have hi1 := indexS (Lib.decDigits n) 46
  rw [index_none _ (dec_dot n hn)] at hi1
  rw [e1]
  repeat' ((conv => whnf); first | exact zf | refine zg ?_ | intro _ | refine And.intro rfl ?_ | refine ⟨_, hi1, ?_⟩ | refine (hi1).use ?_ | refine (.inr ?_ : (∃ _, _) ∨ _) | refine (take100 n hn (l.take k) ha true rfl ?_) | refine za ?_ | refine zl ?_ | refine zt ?_ | refine zu ?_ | fail)
  have e2 : l.take k ++ [n] = l := by rw [← ht]; exact List.take_of_length_le (List.drop_eq_nil_iff.1 hd)
  have hk2 := hk (Lib.decDigits n)
  unfold spH at hk2
  rw [← e2] at hk2
  exact hk2
 | m :: r, hr, hd =>
  have hi1 := indexS (Lib.decDigits n ++ 46 :: txt (m :: r)) 46
  rw [index_at _ _ (dec_dot n hn)] at hi1
  rw [txt_two]
  have hdl := decDigits_len hn
  have htl := txt_len (l := m :: r) fun x hx => hs x (List.mem_of_mem_drop (by rw [hr]; exact List.mem_cons_of_mem _ hx))
  have hml : (m :: r).length ≤ 24 := by rw [← hd, List.length_drop]; omega
  have hL : (Lib.decDigits n ++ 46 :: txt (m :: r)).length = (Lib.decDigits n).length + 1 + (txt (m :: r)).length := by simp; omega
  repeat' ((conv => whnf); first | exact zf | refine zg ?_ | intro _ | refine And.intro rfl ?_ | refine ⟨_, hi1, ?_⟩ | refine (hi1).use ?_ | refine (.inr ?_ : (∃ _, _) ∨ _) | refine (take100 n hn (l.take k) ha true (by simp) ?_) | refine (.inl ⟨by unfold inR; omega, ?_⟩) | refine za ?_ | refine zl ?_ | refine zt ?_ | refine zu ?_ | fail)
  have hD : List.drop (((Lib.decDigits n).length : Int) + (([46] : List UInt8).length : Int)).toNat (Lib.decDigits n ++ 46 :: txt (m :: r)) = txt (l.drop (k + 1)) := by
   have : (((Lib.decDigits n).length : Int) + (([46] : List UInt8).length : Int)).toNat = (Lib.decDigits n).length + 1 := by simp only [List.length_cons, List.length_nil]; omega
   rw [this, hd, List.drop_append, List.drop_of_length_le (by omega)]
   simp
  refine ⟨k + 1, ?_, by omega, (by repeat' (first | exact trivial | exact rfl | exact Or.inl rfl | refine And.intro ?_ ?_ | refine Or.inr ?_)), ⟨wkB_of rfl, wkB_of rfl, wkB_of rfl, wkB_of (congrArg (fun x => B.cells [V.d (D.str x)]) hD), wkB_of rfl, wkB_of (by rw [ht]), trivial⟩, rfl⟩
  have := congrArg List.length hd
  rw [List.length_drop] at this
  simp at this
  omega
theorem split211n {K : Out → H → Prop} (l : List Nat) (h0 : l ≠ []) (hl : l.length ≤ 24) (hs : ∀ n ∈ l, n < 100) (hk : ∀ s, K (.ret (.tu [])) (spH l s)) :
  Sat Tryz.prog 211 [.fc 100 [.p 0 0, .p 1 0], .p 2 0, .p 3 0, .p 4 0] [.cells [.nl 1], .cells [.d (.bool true)], .cells [.d (.str [46])], .cells [.d (.str (txt l))], .cells [.d (.int .i64 0)]] K :=
 Sat.own (by decide) 0 0 rfl rfl (split211 l h0 hl hs hk)
theorem read66 (l : List Nat) (h0 : l ≠ []) (hl : l.length ≤ 24) (hs : ∀ n ∈ l, n < 100) : SatP Tryz.prog 66 [.d (.str (txt l))] (.tu [.d (.sl 1 (natR l)), .d (.bool true)]) := by
 have hlen := txt_len hs
 refine s66 (keep := false) rfl ?_
 repeat' ((conv => whnf); first | exact zf | refine zg ?_ | intro _ | refine And.intro rfl ?_ | refine (seq102 (txt l) [46] ?_) | refine (.inr ?_ : (∃ _, _) ∨ _) | refine (split211n l h0 hl hs (fun s => ?_)) | refine za ?_ | refine zl ?_ | refine zt ?_ | refine zu ?_ | fail)
theorem read66o {K : Out → H → Prop} (l : List Nat) (h0 : l ≠ []) (hl : l.length ≤ 24) (hs : ∀ n ∈ l, n < 100) (hk : K (.ret (.tu [.os 0, .d (.bool true)])) [.rows 1 (natR l)]) :
  Sat Tryz.prog 66 [.d (.str (txt l))] [] K := by
 have hlen := txt_len hs
 refine s66 (keep := true) rfl ?_
 repeat' ((conv => whnf); first | exact zf | refine zg ?_ | intro _ | refine And.intro rfl ?_ | refine (seq102 (txt l) [46] ?_) | refine (.inr ?_ : (∃ _, _) ∨ _) | refine (split211n l h0 hl hs (fun s => ?_)) | refine za ?_ | refine zl ?_ | refine zt ?_ | refine zu ?_ | fail)
 exact hk
theorem right43 (l : List Nat) (h0 : l ≠ []) (hl : l.length ≤ 24) (hs : ∀ n ∈ l, n < 100) : SatP Tryz.prog 43 [.d (.str (txt l))] (.d (.bool true)) := by
 have h1 := read66 l h0 hl hs
 refine s43 (keep := false) rfl ?_
 repeat' ((conv => whnf); first | exact zf | refine zg ?_ | intro _ | refine And.intro rfl ?_ | refine ⟨_, h1, ?_⟩ | refine (h1).use ?_ | refine za ?_ | refine zl ?_ | fail)
theorem madeS (l : List Nat) (h0 : l ≠ []) (hl : l.length ≤ 24) (hs : ∀ n ∈ l, n < 100) : SatP Tryz.prog 335 [.d (.sl 1 (natR l))] (.tu [.d (.str (txt l)), .d (.bool true)]) := by
 refine .inl ⟨by kernel_rfl, fun G w ρ vs hR hlv hv => ?_⟩
 match ρ, hR.len with
 | [], _ =>
 match vs, hlv with
 | [a0], _ =>
 have hlen := txt_len hs
 have hne : natR l ≠ [] := fun h => h0 (List.map_eq_nil_iff.1 h)
 obtain ⟨b, o, c, U, e1, h2, hb, h3⟩ : ∃ (b o c : Nat) (U : Nat → Value), a0 = .slice (some ⟨b, o, none⟩) l.length c ∧ l.length ≤ c ∧ G b ∧ ∀ (j n : Nat), l[j]? = some n → w.cell? ⟨b, o + j, none⟩ = some (U j) ∧ RepD G w (U j) (.int .i64 n) := by
  have := (hv 0 _ rfl).toD
  generalize hx : natR l = rs at this hne
  cases this with
  | slz => exact absurd rfl hne
  | sle => exact absurd rfl hne
  | sl b o c _ _ U g1 g2 g3 g4 g5 g6 =>
   subst hx
   refine ⟨b, o, c, fun j => U j 0, by rw [natR_len], by rw [natR_len] at g1; exact g1, g3, fun j n hj => ?_⟩
   have hr : (natR l)[j]? = some [.int .i64 n] := by simp [natR, hj]
   have h5 := g5 j _ 0 _ hr rfl
   rw [show j * 1 + 0 = j by omega] at h5
   exact ⟨h5, g6 j _ 0 _ hr rfl⟩
 subst e1
 refine Calls.mono (madeC l h0 hl hs b o c w (fun j n hj => ?_) (hR.gl b hb)) ?_
 ·obtain ⟨h4, h5⟩ := h3 j n hj
  rw [h4]
  generalize U j = x at h5
  cases h5
  rfl
 ·rintro e w' ⟨rfl, hB⟩
  have hg : Grw w w' := ⟨hB.size, hB.block, hB.os, hB.tape, hB.output⟩
  refine ⟨G, [], _, .ret (.tu [.d (.str (txt l)), .d (.bool true)]), (Ok.refl hR).grow hg (fun _ h => h) (fun _ h => .inl h), ⟨_, rfl, .tu _ _ rfl fun i x hx => ?_⟩, rfl, rfl⟩
  match i, hx with
  | 0, hx => cases hx; exact .c (.k (.d (.str ⟨(txt l).toArray⟩ (by rw [ba_size]; unfold maxLen; omega))))
  | 1, hx => cases hx; exact .c (.k (.d (.bool true)))
theorem child324 (l : List Nat) (n : Nat) (h0 : l ≠ []) (hl : l.length < 24) (hs : ∀ n ∈ l, n < 100) (hn : n < 100) :
  SatP Tryz.prog 324 [.d (.str (txt l)), .d (.int .i64 n)] (.tu [.d (.str (txt (l ++ [n]))), .d (.bool true)]) := by
 have hm := madeS (l ++ [n]) (by simp) (by simp; omega) (fun x hx => (List.mem_append.1 hx).elim (hs x) fun h => by rw [List.mem_singleton.1 h]; exact hn)
 rw [← natR_snoc] at hm
 have hl2 := natR_len l
 refine s324 (keep := false) rfl ?_
 repeat' ((conv => whnf); first | exact zf | refine zg ?_ | intro _ | refine And.intro rfl ?_ | refine (read66o l h0 (by omega) hs ?_) | refine (.inl ⟨_, hm, rfl, ?_⟩) | refine za ?_ | refine zl ?_ | refine zt ?_ | refine zu ?_ | fail)
theorem nf1 {x y : Int} (h : (x != y) = false) : x = y := by simpa using h
theorem take_eq_snoc {a b : List Nat} {i x y : Nat} (hx : a[i]? = some x) (hy : b[i]? = some y) (he : a.take i = b.take i) : a.take (i + 1) = b.take (i + 1) ↔ x = y := by
 rw [List.take_add_one, List.take_add_one, hx, hy, he]
 simp
def cmpI (x y : Int) : Int := if x < y then -1 else if y < x then 1 else 0
theorem nan194 (x : Int) : SatP Tryz.prog 194 [.d (.int .i64 x)] (.d (.bool false)) := by
 refine s194 (keep := false) rfl ?_
 repeat' ((conv => whnf); first | exact zf | refine zg ?_ | intro _ | refine And.intro rfl ?_ | refine za ?_ | refine zl ?_ | fail)
 refine outs_eq ?_
 show V.d (D.bool (x != x)) = _
 simp
theorem cmp130 (x y : Int) : SatP Tryz.prog 130 [.d (.int .i64 x), .d (.int .i64 y)] (.d (.int .i64 (cmpI x y))) := by
 have h1 := nan194 x
 have h2 := nan194 y
 unfold cmpI
 refine s130 (keep := false) rfl ?_
 by_cases h : x < y
 ·rw [if_pos h]
  repeat' ((conv => whnf); first | exact zf | refine zg ?_ | intro _ | refine And.intro rfl ?_ | refine ⟨_, h1, ?_⟩ | refine (h1).use ?_ | refine ⟨_, h2, ?_⟩ | refine (h2).use ?_ | refine za ?_ | refine zl ?_ | refine zt ?_ | refine zu ?_ | fail)
 ·rw [if_neg h]
  by_cases h' : y < x
  ·rw [if_pos h']
   repeat' ((conv => whnf); first | exact zf | refine zg ?_ | intro _ | refine And.intro rfl ?_ | refine ⟨_, h1, ?_⟩ | refine (h1).use ?_ | refine ⟨_, h2, ?_⟩ | refine (h2).use ?_ | refine za ?_ | refine zl ?_ | refine zt ?_ | refine zu ?_ | fail)
  ·rw [if_neg h']
   repeat' ((conv => whnf); first | exact zf | refine zg ?_ | intro _ | refine And.intro rfl ?_ | refine ⟨_, h1, ?_⟩ | refine (h1).use ?_ | refine ⟨_, h2, ?_⟩ | refine (h2).use ?_ | refine za ?_ | refine zl ?_ | refine zt ?_ | refine zu ?_ | fail)
def cmpL : List Nat → List Nat → Int
 | [], [] => 0
 | [], _ :: _ => -1
 | _ :: _, [] => 1
 | x :: a, y :: b => if cmpI x y = 0 then cmpL a b else cmpI x y
theorem cmpI_self (x : Int) : cmpI x x = 0 := by simp [cmpI]
theorem cmpL_drop : ∀ (i : Nat) (a b : List Nat), i ≤ a.length → i ≤ b.length → a.take i = b.take i → cmpL a b = cmpL (a.drop i) (b.drop i)
 | 0, _, _, _, _, _ => rfl
 | i + 1, x :: a, y :: b, h1, h2, h => by
  simp only [List.take_succ_cons, List.cons.injEq] at h
  rw [h.1, cmpL, if_pos (cmpI_self _)]
  exact cmpL_drop i a b (by simpa using h1) (by simpa using h2) h.2
 | i + 1, [], _, h1, _, _ => by simp at h1
 | i + 1, _ :: _, [], _, h2, _ => by simp at h2
theorem cmpL_at {a b : List Nat} {i x y : Nat} (hx : a[i]? = some x) (hy : b[i]? = some y) (he : a.take i = b.take i) (hn : cmpI x y ≠ 0) : cmpL a b = cmpI x y := by
 have h1 := (List.getElem?_eq_some_iff.1 hx).1
 have h2 := (List.getElem?_eq_some_iff.1 hy).1
 rw [cmpL_drop i a b (by omega) (by omega) he, List.drop_eq_getElem_cons h1, List.drop_eq_getElem_cons h2]
 rw [List.getElem?_eq_getElem h1] at hx
 rw [List.getElem?_eq_getElem h2] at hy
 rw [Option.some.inj hx, Option.some.inj hy, cmpL, if_neg hn]
theorem cmpI_eq {x y : Nat} (h : cmpI x y = 0) : x = y := by
 unfold cmpI at h
 split at h
 ·omega
 ·split at h <;> omega
theorem compare86 (a b : List Nat) : SatP Tryz.prog 86 [.d (.sl 1 (natR a)), .d (.sl 1 (natR b))] (.d (.int .i64 (cmpL a b))) := by
 have ha := natR_len a
 have hb := natR_len b
 refine s86 (keep := false) rfl ?_
 repeat' ((conv => whnf); first | exact zf | refine zg ?_ | intro _ | refine And.intro rfl ?_ | refine za ?_ | refine zl ?_ | fail)
 conv => whnf
 refine loop_use2 [(0, .d (.sl 1 (natR a))), (1, .d (.sl 1 (natR b))), (9, .d (.sl 1 (natR a))), (10, .d (.int .i64 (natR a).length))] (fun i : Nat => i ≤ a.length ∧ i ≤ b.length ∧ a.take i = b.take i) (fun i => [(11, .d (.int .i64 i))]) (fun _ => []) (fun i => a.length - i) 0 ⟨Nat.zero_le _, Nat.zero_le _, rfl⟩ ?_ ?_ ?_ (fun i hi => ?_)
 ·exact (by repeat' (first | exact trivial | exact rfl | exact Or.inl rfl | refine And.intro ?_ ?_ | refine Or.inr ?_))
 ·exact (by repeat' (first | exact trivial | exact rfl | exact Or.inl rfl | refine And.intro ?_ ?_ | refine Or.inr ?_))
 ·exact rfl
 repeat' ((conv => whnf); first | exact zf | refine zg ?_ | intro _ | refine And.intro rfl ?_ | refine za ?_ | refine zl ?_ | fail)
 refine sp_intro (fun hlt => ?_) (fun hge => ?_)
 ·have hlt : i < a.length := by rw [← ha]; simpa using hlt
  obtain ⟨x, hx⟩ : ∃ x, a[i]? = some x := ⟨_, List.getElem?_eq_getElem hlt⟩
  repeat' ((conv => whnf); first | exact zf | refine zg ?_ | intro _ | refine And.intro rfl ?_ | refine za ?_ | refine zl ?_ | fail)
  refine ⟨[D.int .i64 x], ⟨by omega, by simp [natR, hx], rfl⟩, ?_⟩
  repeat' ((conv => whnf); first | exact zf | refine zg ?_ | intro _ | refine And.intro rfl ?_ | refine za ?_ | refine zl ?_ | fail)
  refine sp_intro (fun hout => ?_) (fun hin => ?_)
  ·skip
   repeat' ((conv => whnf); first | exact zf | refine zg ?_ | intro _ | refine And.intro rfl ?_ | refine za ?_ | refine zl ?_ | fail)
   have hib : i = b.length := by simp at hout; omega
   refine outs_eq (congrArg (fun x => V.d (.int .i64 x)) ?_)
   rw [cmpL_drop i a b hi.1 hi.2.1 hi.2.2, List.drop_of_length_le (l := b) (by omega), List.drop_eq_getElem_cons hlt]
   rfl
  ·have hib : i < b.length := by simp at hin; omega
   obtain ⟨y, hy⟩ : ∃ y, b[i]? = some y := ⟨_, List.getElem?_eq_getElem hib⟩
   have h1 := cmp130 x y
   repeat' ((conv => whnf); first | exact zf | refine zg ?_ | intro _ | refine And.intro rfl ?_ | refine za ?_ | refine zl ?_ | fail)
   refine ⟨[D.int .i64 y], ⟨by omega, by simp [natR, hy], rfl⟩, ?_⟩
   repeat' ((conv => whnf); first | exact zf | refine zg ?_ | intro _ | refine And.intro rfl ?_ | refine ⟨_, h1, ?_⟩ | refine (h1).use ?_ | refine za ?_ | refine zl ?_ | fail)
   refine sp_intro (fun hno => ?_) (fun hyes => ?_)
   ·skip
    repeat' ((conv => whnf); first | exact zf | refine zg ?_ | intro _ | refine And.intro rfl ?_ | refine za ?_ | refine zl ?_ | fail)
    refine outs_eq (congrArg (fun x => V.d (.int .i64 x)) ?_)
    exact (cmpL_at hx hy hi.2.2 (by simpa using hno)).symm
   ·skip
    repeat' ((conv => whnf); first | exact zf | refine zg ?_ | intro _ | refine And.intro rfl ?_ | refine za ?_ | refine zl ?_ | fail)
    have hxy := cmpI_eq (nf1 hyes)
    exact ⟨i + 1, ⟨hlt, hib, (take_eq_snoc hx hy hi.2.2).2 hxy⟩, Nat.sub_lt_sub_left hlt (Nat.lt_succ_self i), (by repeat' (first | exact trivial | exact rfl | exact Or.inl rfl | refine And.intro ?_ ?_ | refine Or.inr ?_)), (by repeat' (first | exact trivial | exact rfl | exact Or.inl rfl | refine And.intro ?_ ?_ | refine Or.inr ?_)), rfl⟩
 ·have hge : i = a.length := by
   have : ¬ i < a.length := by rw [← ha]; simpa using hge
   omega
  have hc := cmpL_drop i a b hi.1 hi.2.1 hi.2.2
  rw [List.drop_of_length_le (by omega)] at hc
  repeat' ((conv => whnf); first | exact zf | refine zg ?_ | intro _ | refine And.intro rfl ?_ | refine za ?_ | refine zl ?_ | fail)
  refine sp_intro (fun hlt => ?_) (fun hnl => ?_)
  ·have hlt : a.length < b.length := by simp at hlt; omega
   rw [List.drop_eq_getElem_cons (by omega)] at hc
   rw [hc]
   repeat' ((conv => whnf); first | exact zf | refine zg ?_ | intro _ | refine And.intro rfl ?_ | refine za ?_ | refine zl ?_ | fail)
  ·have hnl : ¬ a.length < b.length := by simp at hnl; omega
   rw [List.drop_of_length_le (by omega)] at hc
   rw [hc]
   repeat' ((conv => whnf); first | exact zf | refine zg ?_ | intro _ | refine And.intro rfl ?_ | refine za ?_ | refine zl ?_ | fail)
theorem order47 (a b : List Nat) (ha0 : a ≠ []) (hal : a.length ≤ 24) (has : ∀ n ∈ a, n < 100) (hb0 : b ≠ []) (hbl : b.length ≤ 24) (hbs : ∀ n ∈ b, n < 100) :
  SatP Tryz.prog 47 [.d (.str (txt a)), .d (.str (txt b))] (.d (.int .i64 (cmpL a b))) := by
 have h1 := read66 a ha0 hal has
 have h2 := read66 b hb0 hbl hbs
 have h3 := compare86 a b
 refine s47 (keep := false) rfl ?_
 repeat' ((conv => whnf); first | exact zf | refine zg ?_ | intro _ | refine And.intro rfl ?_ | refine ⟨_, h1, ?_⟩ | refine (h1).use ?_ | refine ⟨_, h2, ?_⟩ | refine (h2).use ?_ | refine ⟨_, h3, ?_⟩ | refine (h3).use ?_ | refine za ?_ | refine zl ?_ | refine zt ?_ | refine zu ?_ | fail)
end Go.Proofs.YtjpgfgajkjhonaaGreatDoor
