/- What a value, a block, a frame stands for in a world; how that is kept when the world goes on. Conditions: none; definitions and lemmas on them. -/
import Derived.Test.YtjpgfgajkjhonaaGreatDoorQTAC
import Derived.Laws.World
import Derived.Laws.Rows
import Derived.Laws.Slices
import Derived.Below
namespace Go.Vx
theorem get?_eq {α : Type} (l : List α) (n : Nat) : get? l n = l[n]? := by
 induction l generalizing n with
 | nil => simp [get?]
 | cons x r ih => cases n <;> simp [get?, ih]
theorem fl_eq {α : Type} (l : List α) (K : List α → Prop) : fl l K = K l := by
 induction l generalizing K with
 | nil => rfl
 | cons x r ih => rw [fl_cons, ih]
theorem fnatL_eq (l : List Nat) (n : Nat) (K : Nat → Prop) : fnatL l n K = K n := by
 induction l with
 | nil => rfl
 | cons k r ih =>
  show (bif Nat.beq n k then K k else fnatL r n K) = K n
  cases hb : Nat.beq n k with
  | true => rw [Nat.eq_of_beq_eq_true hb]; rfl
  | false => exact ih
theorem fnat_eq (n : Nat) (K : Nat → Prop) : fnat n K = K n := fnatL_eq _ n K
theorem fv_eq (v : V) (K : V → Prop) : fv v K = K v := by
 cases v <;> try rfl
 rename_i x; cases x <;> rfl
theorem fvn_eq (v : V) (K : V → Prop) : fvn v K = K v := by
 cases v with
 | p i o => exact fnat_eq i fun i => K (.p i o)
 | os i => exact fnat_eq i fun i => K (.os i)
 | mp i => exact fnat_eq i fun i => K (.mp i)
 | it i r => exact fnat_eq i fun i => K (.it i r)
 | d x => exact fv_eq (.d x) K
 | _ => rfl
theorem flv_eq (l : List V) (K : List V → Prop) : flv l K = K l := by
 induction l generalizing K with
 | nil => rfl
 | cons x r ih =>
  show fvn x (fun x => flv r fun r => K (x :: r)) = _
  rw [fvn_eq]
  exact ih fun r => K (x :: r)
theorem fb_eq (b : B) (K : B → Prop) : fb b K = K b := by
 cases b with
 | cells cs => exact flv_eq cs fun cs => K (.cells cs)
 | rx z rs i row => exact flv_eq row fun row => K (.rx z rs i row)
 | ms z es out it =>
  match out with
  | none => rfl
  | some (i, v) => exact fvn_eq v fun v => K (.ms z es (some (i, v)) it)
 | _ => rfl
theorem flb_eq (l : List B) (K : List B → Prop) : flb l K = K l := by
 induction l generalizing K with
 | nil => rfl
 | cons x r ih =>
  show fb x (fun x => flb r fun r => K (x :: r)) = _
  rw [fb_eq]
  exact ih fun r => K (x :: r)
theorem flt_eq (l : T) (K : T → Prop) : flt l K = K l := by
 induction l generalizing K with
 | nil => rfl
 | cons p r ih =>
  obtain ⟨i, v⟩ := p
  show fvn v (fun v => flt r fun r => K ((i, v) :: r)) = _
  rw [fvn_eq]
  exact ih fun r => K ((i, v) :: r)
theorem fln_eq (l : List Nat) (K : List Nat → Prop) : fln l K = K l := by
 induction l generalizing K with
 | nil => rfl
 | cons x r ih =>
  show fnat x (fun x => fln r fun r => K (x :: r)) = _
  rw [fnat_eq]
  exact ih fun r => K (x :: r)
theorem Put_eq (d : Option Nat) (v : V) (t : T) (K : T → Prop) : Put d v t K = K (match d with | some i => (i, v) :: t | none => t) := by
 cases d <;> simp [Put, fv_eq]
def fcv (F : Nat) (v : Value) (cs : Array Value) : Prop :=
 (F < 1000000 ∧ v = .func (.func F) #[] cs) ∨ (0 < cs.size ∧ ((∃ f, F = f + 1000000 ∧ f < 1000000 ∧ v = .func (.func f) cs #[]) ∨
  (∃ t, F = t + 2000000 ∧ t < 1000000 ∧ v = .iface t (.agg cs)) ∨ (∃ t x, F = t + 3000000 ∧ t < 1000000 ∧ v = .iface t x ∧ x.cells = #[x] ∧ cs = #[x])))
theorem fcv_nil {F : Nat} {v : Value} {cs : Array Value} (h : fcv F v cs) (hc : cs.size = 0) : v = .func (.func F) #[] #[] := by
 rcases h with ⟨_, rfl⟩ | ⟨h, _⟩
 ·rw [Array.eq_empty_of_size_eq_zero hc]
 ·omega
theorem fcv_fn {F : Nat} {v : Value} {cs : Array Value} (h : fcv F v cs) (hF : F < 1000000) : v = .func (.func F) #[] cs := by
 rcases h with ⟨_, rfl⟩ | ⟨_, ⟨f, rfl, _⟩ | ⟨f, rfl, _⟩ | ⟨f, x, rfl, _⟩⟩
 ·rfl
 all_goals omega
theorem fcv_bm {F : Nat} {v : Value} {cs : Array Value} (h : fcv F v cs) (h1 : ¬ F < 1000000) (h2 : F < 2000000) : v = .func (.func (F - 1000000)) cs #[] := by
 rcases h with ⟨h, rfl⟩ | ⟨_, ⟨f, rfl, _, rfl⟩ | ⟨f, rfl, _⟩ | ⟨f, x, rfl, _⟩⟩
 ·omega
 ·simp
 all_goals omega
theorem fcv_cells {F : Nat} {v : Value} {cs : Array Value} (h : fcv F v cs) : v.cells = #[v] := by
 rcases h with ⟨_, rfl⟩ | ⟨_, ⟨f, _, _, rfl⟩ | ⟨f, _, _, rfl⟩ | ⟨f, x, _, _, rfl, _⟩⟩ <;> rfl
inductive RepD (G : Nat → Prop) (w : World) : Value → D → Prop
 | int (k : IntKind) (n : Int) : RepD G w (.int k n) (.int k n)
 | bool (b : Bool) : RepD G w (.bool b) (.bool b)
 | str (s : ByteArray) : s.size ≤ maxLen → RepD G w (.string s) (.str s.data.toList)
 | slz (z : Nat) : RepD G w (.slice none 0 0) (.sl z [])
 | sle (a : Addr) (z : Nat) : RepD G w (.slice (some a) 0 0) (.sl z [])
 | sl (b o cap z : Nat) (rows : List (List D)) (U : Nat → Nat → Value) : rows.length ≤ cap → cap ≤ maxLen → G b →
   (∀ (i : Nat) (row : List D), rows[i]? = some row → row.length = z) →
   (∀ (i : Nat) (row : List D) (j : Nat) (x : D), rows[i]? = some row → row[j]? = some x → w.cell? ⟨b, o + (i * z + j), none⟩ = some (U i j)) →
   (∀ (i : Nat) (row : List D) (j : Nat) (x : D), rows[i]? = some row → row[j]? = some x → RepD G w (U i j) x) →
   RepD G w (.slice (some ⟨b, o, none⟩) rows.length cap) (.sl z rows)
 | np : RepD G w (.pointer none) .np
 | nf : RepD G w .nilFunc .nf
 | ni : RepD G w .nilIface .ni
 | nm : RepD G w (.map none) .nm
 | fn (f : Nat) : RepD G w (.func (.func f) #[] #[]) (.fn f)
 | fc (F : Nat) (v : Value) (cs : Array Value) (caps : List D) : fcv F v cs → cs.size = caps.length → (∀ (i : Nat) (x : D), caps[i]? = some x → RepD G w (cs.getD i undef) x) → RepD G w v (.fc F caps)
 | pt (b o off : Nat) (row : List D) (U : Nat → Value) : G b → (∀ (j : Nat) (x : D), row[j]? = some x → w.cell? ⟨b, o + j, none⟩ = some (U j)) →
   (∀ (j : Nat) (x : D), row[j]? = some x → RepD G w (U j) x) → RepD G w (.pointer (some ⟨b, o + off, none⟩)) (.pt row off)
theorem RepD.mono {G G' : Nat → Prop} {w w' : World} {v : Value} {x : D} (h : RepD G w v x) (hG : ∀ b, G b → G' b) (hw : ∀ b, G b → w'.heap[b]? = w.heap[b]?) :
  RepD G' w' v x := by
 induction h with
 | int k n => exact .int k n
 | bool b => exact .bool b
 | str s hs => exact .str s hs
 | slz z => exact .slz z
 | sle a z => exact .sle a z
 | sl b o cap z rows U h1 h2 h3 h4 h5 _ ih =>
  refine .sl b o cap z rows U h1 h2 (hG b h3) h4 (fun i row j x hr hx => ?_) ih
  rw [← h5 i row j x hr hx]
  exact World.cell?_of_block (w := w) (w' := w') (a := ⟨b, o + (i * z + j), none⟩) (hw b h3)
 | np => exact .np
 | nf => exact .nf
 | ni => exact .ni
 | nm => exact .nm
 | fn f => exact .fn f
 | fc F v cs caps h1 h2 _ ih => exact .fc F v cs caps h1 h2 ih
 | pt b o off row U h1 h2 _ ih =>
  refine .pt b o off row U (hG b h1) (fun j x hx => ?_) ih
  rw [← h2 j x hx]
  exact World.cell?_of_block (w := w) (w' := w') (a := ⟨b, o + j, none⟩) (hw b h1)
theorem RepD.cells {G : Nat → Prop} {w : World} {v : Value} {x : D} (h : RepD G w v x) : v.cells = #[v] := by
 cases h <;> first | rfl | exact fcv_cells ‹_›
inductive RepK (G : Nat → Prop) (w : World) (ρ : List Value) : Value → V → Prop
 | un (v : Value) : RepK G w ρ v .un
 | ud : RepK G w ρ undef .ud
 | d {v : Value} {x : D} : RepD G w v x → RepK G w ρ v (.d x)
 | p (id off b : Nat) : ρ[id]? = some (.pointer (some ⟨b, 0, none⟩)) → RepK G w ρ (.pointer (some ⟨b, off, none⟩)) (.p id off)
 | e (b o off : Nat) (row : List D) (U : Nat → Value) : G b → (∀ (j : Nat) (x : D), row[j]? = some x → w.cell? ⟨b, o + j, none⟩ = some (U j)) →
   (∀ (j : Nat) (x : D), row[j]? = some x → RepD G w (U j) x) → RepK G w ρ (.pointer (some ⟨b, o + off, none⟩)) (.e row off)
 | os (id : Nat) (a : Option Addr) (n c : Nat) : ρ[id]? = some (.slice a n c) → RepK G w ρ (.slice a n c) (.os id)
 | q (id z i off b n c : Nat) : ρ[id]? = some (.slice (some ⟨b, 0, none⟩) n c) → RepK G w ρ (.pointer (some ⟨b, i * z + off, none⟩)) (.q id z i off)
 | cl (a : Option Addr) (n z : Nat) (rows : List (List D)) : RepD G w (.slice a n n) (.sl z rows) → RepK G w ρ (.slice a n n) (.cl z rows)
 | nl (z : Nat) : RepK G w ρ (.slice none 0 0) (.nl z)
 | mp (id r : Nat) : ρ[id]? = some (.map (some r)) → RepK G w ρ (.map (some r)) (.mp id)
 | ov (id z i : Nat) (v : Value) (a : Option Addr) (n c : Nat) : ρ[id]? = some (.slice a n c) → v = sliced a i n c z → RepK G w ρ v (.ov id z i)
 | it (id r m : Nat) : ρ[id]? = some (.map (some m)) → RepK G w ρ (.pointer (some ⟨r, 0, none⟩)) (.it id r)
inductive RepC (G : Nat → Prop) (w : World) (ρ : List Value) : Value → V → Prop
 | k {v : Value} {x : V} : RepK G w ρ v x → RepC G w ρ v x
 | fc (F : Nat) (v : Value) (cs : Array Value) (caps : List V) : fcv F v cs → cs.size = caps.length → (∀ (i : Nat) (x : V), caps[i]? = some x → RepK G w ρ (cs.getD i undef) x) → RepC G w ρ v (.fc F caps)
inductive Rep1 (G : Nat → Prop) (w : World) (ρ : List Value) : Value → V → Prop
 | c {v : Value} {x : V} : RepC G w ρ v x → Rep1 G w ρ v x
 | ag (cs : Array Value) (vs : List V) : cs.size = vs.length → (∀ (i : Nat) (x : V), vs[i]? = some x → RepC G w ρ (cs.getD i undef) x) → Rep1 G w ρ (.agg cs) (.ag vs)
inductive Rep2 (G : Nat → Prop) (w : World) (ρ : List Value) : Value → V → Prop
 | o {v : Value} {x : V} : Rep1 G w ρ v x → Rep2 G w ρ v x
 | tu (cs : Array Value) (vs : List V) : cs.size = vs.length → (∀ (i : Nat) (x : V), vs[i]? = some x → Rep1 G w ρ (cs.getD i undef) x) → Rep2 G w ρ (.tuple cs) (.tu vs)
def ord (arr : Array MapEntry) (clk : Nat) : Prop :=
 (∀ x ∈ arr.toList, x.born < clk) ∧ (arr.toList.map (·.born)).Pairwise (· < ·)
def RepM (G : Nat → Prop) (w : World) (ρ : List Value) (hd : Value) (es : List (V × V)) : Prop :=
 ∃ r arr clk, hd = .map (some r) ∧ w.heap[r]? = some (.map arr clk) ∧ arr.size = es.length ∧ ord arr clk ∧
   ∀ (i : Nat) (e : MapEntry) (x : V × V), arr[i]? = some e → es[i]? = some x → Rep1 G w ρ e.key x.1 ∧ Rep1 G w ρ e.val x.2
theorem toV_id (x : Bool × List D) : id1 (toV x) = [] := by
 match x with
 | (true, ds) => simp [toV, id1, List.flatMap_eq_nil_iff, id0, idc]
 | (false, d :: _) => rfl
 | (false, []) => rfl
theorem mpOf_id (es : List (D × Bool × List D)) : idB (.mp (mpOf es)) = [] := by
 simp only [idB, mpOf, List.flatMap_eq_nil_iff, List.mem_map]
 rintro x ⟨p, _, rfl⟩
 rw [toV_id, List.append_nil]
 rfl
def RepS (G : Nat → Prop) (w : World) (hd : Value) (z : Nat) (rs : List (List D)) : Prop :=
 (hd = .slice none 0 0 ∧ rs = []) ∨ ∃ b cap arr ty, hd = .slice (some ⟨b, 0, none⟩) rs.length cap ∧ w.heap[b]? = some (.cells arr ty (0, 0)) ∧ rs.length ≤ cap ∧ cap ≤ maxLen ∧ arr.size = cap * z ∧
   ∀ (i : Nat) (row : List D), rs[i]? = some row → row.length = z ∧ ∀ (j : Nat) (x : D), row[j]? = some x → RepD G w (arr.getD (i * z + j) undef) x
def blk : Value → Option Nat
 | .pointer (some a) => some a.block
 | .slice (some a) _ _ => some a.block
 | .map (some r) => some r
 | _ => none
def RepIt (w : World) (hd : Value) (r : Nat) (l : It) : Prop :=
 ∃ m arr clk seen, hd = .map (some m) ∧ w.heap[m]? = some (.map arr clk) ∧ m ≠ r ∧ w.heap[r]? = some (.mapIter (some m) clk seen clk) ∧ l.1.Nodup ∧
  (∀ i, i ∈ l.1 ↔ ∃ e, arr[i]? = some e ∧ seen.contains e.born = false) ∧ ∀ i, l.2 = some i → ∃ (e : MapEntry) (s : Array Nat), arr[i]? = some e ∧ seen = s.push e.born
def RepIo (w : World) (hd : Value) (es : List ME) : Option (Nat × It) → Prop
 | none => True
 | some (r, l) => RepIt w hd r l ∧ r ∉ ghE es
def oneE (es : List ME) : Prop := ∀ (i j : Nat) (k k' : List UInt8 × List UInt8) (rs rs' : List (List D)) (b : Nat), es[i]? = some (k, some (some b, rs)) → es[j]? = some (k', some (some b, rs')) → i = j
def RepMs (G : Nat → Prop) (w : World) (ρ : List Value) (hd : Value) (z : Nat) (es : List ME) (out : Option (Nat × V)) : Prop :=
 ∃ r arr clk, hd = .map (some r) ∧ w.heap[r]? = some (.map arr clk) ∧ arr.size = es.length ∧ ord arr clk ∧ (oneE es ∧ r ∉ ghE es) ∧
  (∀ (i : Nat) (e : MapEntry) (x : ME), arr[i]? = some e → es[i]? = some x → Rep1 G w [] e.key (kag x.1) ∧ ∀ b rs, x.2 = some (b, rs) → blk e.val = b ∧ RepS G w e.val z rs) ∧ (∀ (i : Nat) (v : V), out = some (i, v) → i < es.length) ∧
  ∀ (i : Nat) (v : V) (e : MapEntry), out = some (i, v) → arr[i]? = some e → RepC G w ρ e.val v
def RepB (G : Nat → Prop) (w : World) (ρ : List Value) (hd : Value) : B → Prop
 | .no => True
 | .nw => hd = undef
 | .mp es => RepM G w ρ hd es
 | .dm es => RepM G w ρ hd (mpOf es)
 | .di es r l => RepM G w ρ hd (mpOf es) ∧ RepIt w hd r l
 | .ms z es out it => RepMs G w ρ hd z es out ∧ RepIo w hd es it
 | .cells cs => ∃ b arr ty, hd = .pointer (some ⟨b, 0, none⟩) ∧ w.heap[b]? = some (.cells arr ty (0, 0)) ∧ arr.size = cs.length ∧ ∀ (i : Nat) (x : V), cs[i]? = some x → RepC G w ρ (arr.getD i undef) x
 | .rows z rs => (hd = .slice none 0 0 ∧ rs = []) ∨ ∃ b cap arr ty, hd = .slice (some ⟨b, 0, none⟩) rs.length cap ∧ w.heap[b]? = some (.cells arr ty (0, 0)) ∧ rs.length ≤ cap ∧ cap ≤ maxLen ∧ arr.size = cap * z ∧
   ∀ (i : Nat) (row : List D), rs[i]? = some row → row.length = z ∧ ∀ (j : Nat) (x : D), row[j]? = some x → RepD G w (arr.getD (i * z + j) undef) x
 | .rx z rs k r => ∃ b cap arr ty, hd = .slice (some ⟨b, 0, none⟩) rs.length cap ∧ w.heap[b]? = some (.cells arr ty (0, 0)) ∧ rs.length ≤ cap ∧ cap ≤ maxLen ∧ arr.size = cap * z ∧ (k < rs.length ∧ r.length = z) ∧
   (∀ (i : Nat) (row : List D), rs[i]? = some row → i ≠ k → row.length = z ∧ ∀ (j : Nat) (x : D), row[j]? = some x → RepD G w (arr.getD (i * z + j) undef) x) ∧
   ∀ (j : Nat) (x : V), r[j]? = some x → RepC G w ρ (arr.getD (k * z + j) undef) x
def bks (v : Value) (x : B) : List Nat := (blk v).toList ++ gh x
theorem mem_bks {v : Value} {x : B} {b : Nat} : b ∈ bks v x ↔ blk v = some b ∨ b ∈ gh x := by
 simp only [bks, List.mem_append, Option.mem_toList]
theorem mem_bk0 {v : Value} {x : B} {b : Nat} (hg : gh x = [] := by rfl) : b ∈ bks v x ↔ blk v = some b := by
 rw [mem_bks, hg]; simp
theorem mem_ghE {es : List ME} {b : Nat} : b ∈ ghE es ↔ ∃ (i : Nat) (k : List UInt8 × List UInt8) (rs : List (List D)), es[i]? = some (k, some (some b, rs)) := by
 simp only [ghE, List.mem_filterMap]
 constructor
 ·rintro ⟨⟨k, x⟩, h1, h2⟩
  obtain ⟨i, hi⟩ := List.mem_iff_getElem?.1 h1
  match x, h2 with
  | some (some c, rs), h2 => cases h2; exact ⟨i, k, rs, hi⟩
 ·rintro ⟨i, k, rs, h⟩
  exact ⟨_, List.mem_of_getElem? h, rfl⟩
def isSl : Value → Bool
 | .slice _ _ _ => true
 | _ => false
def own (ρ : List Value) (h : H) (b : Nat) : Prop := ∃ (id : Nat) (v : Value) (x : B), ρ[id]? = some v ∧ h[id]? = some x ∧ x ≠ B.no ∧ b ∈ bks v x
def Glb (G : Nat → Prop) (w : World) : Prop :=
 ∀ (g : Nat) (row : List D), tget glL g = some row → G g ∧ ∃ U : Nat → Value, (∀ (j : Nat) (x : D), row[j]? = some x → w.cell? ⟨g, 0 + j, none⟩ = some (U j)) ∧ ∀ (j : Nat) (x : D), row[j]? = some x → RepD G w (U j) x
theorem Glb.mono {G G' : Nat → Prop} {w w' : World} (h : Glb G w) (hG : ∀ b, G b → G' b) (hw : ∀ b, G b → w'.heap[b]? = w.heap[b]?) : Glb G' w' := by
 intro g row hg
 obtain ⟨h1, U, h2, h3⟩ := h g row hg
 refine ⟨hG g h1, U, fun j x hx => ?_, fun j x hx => (h3 j x hx).mono hG hw⟩
 rw [← h2 j x hx]
 exact World.cell?_of_block (w := w) (w' := w') (a := ⟨g, 0 + j, none⟩) (hw g h1)
structure HR (G : Nat → Prop) (w : World) (ρ : List Value) (h : H) : Prop where
 len : ρ.length = h.length
 rep : ∀ (id : Nat) (v : Value) (x : B), ρ[id]? = some v → h[id]? = some x → RepB G w ρ v x
 dis : ∀ (id id' : Nat) (v v' : Value) (x x' : B) (b : Nat), ρ[id]? = some v → h[id]? = some x → x ≠ B.no → ρ[id']? = some v' → h[id']? = some x' → x' ≠ B.no → b ∈ bks v x → b ∈ bks v' x' → id = id'
 gl : ∀ b, G b → b < w.heap.size
 gd : ∀ b, G b → ¬ own ρ h b
 glb : Glb G w
theorem RepMs.drop {G : Nat → Prop} {w : World} {ρ : List Value} {hd : Value} {z : Nat} {es : List ME} {out : Option (Nat × V)} (h : RepMs G w ρ hd z es out) : RepMs G w ρ hd z es none := by
 obtain ⟨r, arr, clk, h0, h1, h2, h3, h4, h5, _⟩ := h
 exact ⟨r, arr, clk, h0, h1, h2, h3, h4, h5, fun i v h => (by cases h), fun i v e h => by cases h⟩
theorem RepB.obj {G : Nat → Prop} {w : World} {ρ : List Value} {hd : Value} {x : B} {r : Nat} (hb : RepB G w ρ hd x) (hn : x ≠ .no) (hr : r ∈ bks hd x) :
  (∃ arr ty, w.heap[r]? = some (.cells arr ty (0, 0))) ∨ (∃ arr clk, w.heap[r]? = some (.map arr clk)) ∨ ∃ m since seen last, w.heap[r]? = some (.mapIter m since seen last) := by
 have map : ∀ es, RepM G w ρ hd es → blk hd = some r → (∃ arr clk, w.heap[r]? = some (.map arr clk)) := by
  rintro es ⟨r', arr, clk, rfl, h1, _⟩ hr
  simp only [blk, Option.some.injEq] at hr
  subst hr
  exact ⟨_, _, h1⟩
 have itr : ∀ r l, RepIt w hd r l → ∃ m since seen last, w.heap[r]? = some (.mapIter m since seen last) := by
  rintro r l ⟨m, arr, clk, seen, _, _, _, h, _⟩
  exact ⟨_, _, _, _, h⟩
 cases x with
 | no => exact absurd rfl hn
 | nw =>
  have : hd = undef := hb
  subst this
  simp [bks, blk, gh, undef] at hr
 | mp es => exact .inr (.inl (map _ hb ((mem_bk0).1 hr)))
 | dm es => exact .inr (.inl (map _ hb ((mem_bk0).1 hr)))
 | di es q l =>
  rcases mem_bks.1 hr with hr | hr
  ·exact .inr (.inl (map _ hb.1 hr))
  ·simp only [gh, List.mem_singleton] at hr
   subst hr
   exact .inr (.inr (itr _ _ hb.2))
 | ms z es out it =>
  obtain ⟨⟨m, arr, clk, rfl, h1, h2, h3, h4, h5, h6⟩, hb2⟩ := hb
  rcases mem_bks.1 hr with hr | hr
  ·simp only [blk, Option.some.injEq] at hr
   subst hr
   exact .inr (.inl ⟨_, _, h1⟩)
  ·simp only [gh, List.mem_append] at hr
   rcases hr with hr | hr
   ·obtain ⟨i, k, rs, hi⟩ := mem_ghE.1 hr
    have hil : i < arr.size := by rw [h2]; exact (List.getElem?_eq_some_iff.1 hi).1
    obtain ⟨e1, e2⟩ := (h5 i _ _ (Array.getElem?_eq_getElem hil) hi).2 _ _ rfl
    rcases e2 with ⟨e3, _⟩ | ⟨b, cap, ar, ty, e3, e4, _⟩
    ·rw [e3] at e1; cases e1
    ·rw [e3] at e1; cases e1
     exact .inl ⟨_, _, e4⟩
   ·match it, hr, hb2 with
    | some (q, l), hr, hb2 =>
     simp only [ghI, List.mem_singleton] at hr
     subst hr
     exact .inr (.inr (itr _ _ hb2.1))
 | cells cs =>
  obtain ⟨b, arr, ty, rfl, h1, _⟩ := hb
  have hr := (mem_bk0).1 hr
  simp only [blk, Option.some.injEq] at hr
  subst hr
  exact .inl ⟨_, _, h1⟩
 | rows z rs =>
  have hr := (mem_bk0).1 hr
  rcases hb with ⟨rfl, _⟩ | ⟨b, cap, arr, ty, rfl, h1, _⟩
  ·cases hr
  ·simp only [blk, Option.some.injEq] at hr
   subst hr
   exact .inl ⟨_, _, h1⟩
 | rx z rs k q =>
  obtain ⟨b, cap, arr, ty, rfl, h1, _⟩ := hb
  have hr := (mem_bk0).1 hr
  simp only [blk, Option.some.injEq] at hr
  subst hr
  exact .inl ⟨_, _, h1⟩
theorem RepB.ndef {G : Nat → Prop} {w : World} {ρ : List Value} {hd : Value} {x : B} {r : Nat} {ds : Option (List Deferred)} (hb : RepB G w ρ hd x) (hn : x ≠ .no) (hr : r ∈ bks hd x) (h : w.heap[r]? = some (.deferred ds)) : False := by
 rcases hb.obj hn hr with ⟨_, _, h1⟩ | ⟨_, _, h1⟩ | ⟨_, _, _, _, h1⟩ <;> (rw [h] at h1; cases h1)
structure Ent where
 w : World
 G : Nat → Prop
 ρ : List Value
 h : H
 ds : List Deferred := []
 ms : List Nat := []
def clb (w : World) (b : Nat) : Prop := ∃ arr ty m, w.heap[b]? = some (.cells arr ty m)
theorem clb.same {w w' : World} {b : Nat} (h : clb w b) (e : w'.heap[b]? = w.heap[b]?) : clb w' b := by
 obtain ⟨x, y, z, h⟩ := h
 exact ⟨x, y, z, e.trans h⟩
structure Ok (E : Ent) (G : Nat → Prop) (w : World) (ρ : List Value) (h : H) : Prop where
 hr : HR G w ρ h
 gm : ∀ b, E.G b → G b
 go : ∀ b, G b → E.G b ∨ (clb w b ∧ (E.w.heap.size ≤ b ∨ own E.ρ E.h b))
 oo : ∀ b, own ρ h b → E.w.heap.size ≤ b ∨ own E.ρ E.h b
 frame : ∀ b, b < E.w.heap.size → ¬ own E.ρ E.h b → w.heap[b]? = E.w.heap[b]?
 size : E.w.heap.size ≤ w.heap.size
 os : w.os = E.w.os
 tape : w.tape = E.w.tape
 out : w.output = E.w.output
 hand : ∀ (id : Nat) (v : Value), E.ρ[id]? = some v → isSl v = false → ρ[id]? = some v
 hl : E.h.length ≤ h.length
 mks : ∀ r ∈ E.ms, w.heap[r]? = some (.deferred (some [])) ∧ ¬ G r ∧ ¬ own ρ h r
structure Conc (E : Ent) (n : Nat) (G : Nat → Prop) (ρ : List Value) (t : T) (h : H) (a : Act) (w : World) : Prop where
 ok : Ok E G w ρ h
 df : a.defers = E.ds
 sz : a.tmps.size = n
 tm : ∀ i, Rep2 G w ρ (a.tmps.getD i undef) (gs t i)
section mono
variable {G G' : Nat → Prop} {w w' : World} {ρ ρ' : List Value}
theorem RepK.mono {v : Value} {x : V} (h : RepK G w ρ v x) (hG : ∀ b, G b → G' b) (hw : ∀ b, G b → w'.heap[b]? = w.heap[b]?) (hρ : ∀ i ∈ idc x, ρ'[i]? = ρ[i]?) : RepK G' w' ρ' v x := by
 cases h with
 | un => exact .un _
 | ud => exact .ud
 | d h => exact .d (h.mono hG hw)
 | p id off b h => exact .p id off b ((hρ id (by simp [idc])).trans h)
 | e b o off row U h1 h2 h3 =>
  refine .e b o off row U (hG b h1) (fun j x hx => ?_) (fun j x hx => (h3 j x hx).mono hG hw)
  rw [← h2 j x hx]
  exact World.cell?_of_block (w := w) (w' := w') (a := ⟨b, o + j, none⟩) (hw b h1)
 | os id a n c h => exact .os id a n c ((hρ id (by simp [idc])).trans h)
 | q id z i off b n c h => exact .q id z i off b n c ((hρ id (by simp [idc])).trans h)
 | cl a n z rows h => exact .cl a n z rows (h.mono hG hw)
 | nl z => exact .nl z
 | mp id r h => exact .mp id r ((hρ id (by simp [idc])).trans h)
 | ov id z i _ a n c h hv => exact .ov id z i _ a n c ((hρ id (by simp [idc])).trans h) hv
 | it id r m h => exact .it id r m ((hρ id (by simp [idc])).trans h)
theorem RepC.mono {v : Value} {x : V} (h : RepC G w ρ v x) (hG : ∀ b, G b → G' b) (hw : ∀ b, G b → w'.heap[b]? = w.heap[b]?) (hρ : ∀ i ∈ id0 x, ρ'[i]? = ρ[i]?) : RepC G' w' ρ' v x := by
 cases h with
 | k h => exact .k (h.mono hG hw (fun i hi => hρ i (by cases h <;> simpa [id0] using hi)))
 | fc f u cs caps h0 h1 h2 =>
  refine .fc f _ cs caps h0 h1 (fun i x hx => (h2 i x hx).mono hG hw (fun j hj => hρ j ?_))
  simp only [id0, List.mem_flatMap]
  exact ⟨x, List.mem_of_getElem? hx, hj⟩
theorem Rep1.mono {v : Value} {x : V} (h : Rep1 G w ρ v x) (hG : ∀ b, G b → G' b) (hw : ∀ b, G b → w'.heap[b]? = w.heap[b]?) (hρ : ∀ i ∈ id1 x, ρ'[i]? = ρ[i]?) : Rep1 G' w' ρ' v x := by
 cases h with
 | c h =>
  refine .c (h.mono hG hw (fun i hi => hρ i ?_))
  cases h with
  | k h => cases h <;> simpa [id1] using hi
  | fc => simpa [id1] using hi
 | ag cs vs h1 h2 =>
  refine .ag cs vs h1 (fun i x hx => (h2 i x hx).mono hG hw (fun j hj => hρ j ?_))
  simp only [id1, List.mem_flatMap]
  exact ⟨x, List.mem_of_getElem? hx, hj⟩
theorem Rep2.mono {v : Value} {x : V} (h : Rep2 G w ρ v x) (hG : ∀ b, G b → G' b) (hw : ∀ b, G b → w'.heap[b]? = w.heap[b]?) (hρ : ∀ i ∈ id2 x, ρ'[i]? = ρ[i]?) : Rep2 G' w' ρ' v x := by
 cases h with
 | o h =>
  refine .o (h.mono hG hw (fun i hi => hρ i ?_))
  cases h with
  | c h => cases h with
   | k h => cases h <;> simpa [id2] using hi
   | fc => simpa [id2] using hi
  | ag cs vs h1 h2 => simpa [id2] using hi
 | tu cs vs h1 h2 =>
  refine .tu cs vs h1 (fun i x hx => (h2 i x hx).mono hG hw (fun j hj => hρ j ?_))
  simp only [id2, List.mem_flatMap]
  exact ⟨x, List.mem_of_getElem? hx, hj⟩
theorem RepM.mono {hd : Value} {es : List (V × V)} (h : RepM G w ρ hd es) (hG : ∀ b, G b → G' b) (hw : ∀ b, G b → w'.heap[b]? = w.heap[b]?) (hb : ∀ b, blk hd = some b → w'.heap[b]? = w.heap[b]?)
  (hρ : ∀ i ∈ idB (.mp es), ρ'[i]? = ρ[i]?) : RepM G' w' ρ' hd es := by
 obtain ⟨r, arr, clk, rfl, h1, h2, h3, h4⟩ := h
 refine ⟨r, arr, clk, rfl, (hb r rfl).trans h1, h2, h3, fun i e x he hx => ⟨(h4 i e x he hx).1.mono hG hw (fun j hj => hρ j ?_), (h4 i e x he hx).2.mono hG hw (fun j hj => hρ j ?_)⟩⟩
 ·simp only [idB, List.mem_flatMap]
  exact ⟨x, List.mem_of_getElem? hx, List.mem_append_left _ hj⟩
 ·simp only [idB, List.mem_flatMap]
  exact ⟨x, List.mem_of_getElem? hx, List.mem_append_right _ hj⟩
theorem RepS.mono {hd : Value} {z : Nat} {rs : List (List D)} (h : RepS G w hd z rs) (hG : ∀ b, G b → G' b) (hw : ∀ b, G b → w'.heap[b]? = w.heap[b]?) (hb : ∀ b, blk hd = some b → w'.heap[b]? = w.heap[b]?) : RepS G' w' hd z rs := by
 rcases h with h | ⟨b, cap, arr, ty, rfl, h1, h2, h3, h4, h5⟩
 ·exact .inl h
 ·exact .inr ⟨b, cap, arr, ty, rfl, (hb b rfl).trans h1, h2, h3, h4, fun i row hr => ⟨(h5 i row hr).1, fun j x hx => ((h5 i row hr).2 j x hx).mono hG hw⟩⟩
theorem RepIt.mono {hd : Value} {r : Nat} {l : It} (h : RepIt w hd r l) (hb : ∀ b, blk hd = some b → w'.heap[b]? = w.heap[b]?) (hr : w'.heap[r]? = w.heap[r]?) : RepIt w' hd r l := by
 obtain ⟨m, arr, clk, seen, rfl, h1, h2, h3, h4⟩ := h
 exact ⟨m, arr, clk, seen, rfl, (hb m rfl).trans h1, h2, hr.trans h3, h4⟩
theorem kag_id (k : List UInt8 × List UInt8) : id1 (kag k) = [] := by
 simp [kag, id1, id0, idc]
theorem RepMs.mono {hd : Value} {z : Nat} {es : List ME} {out : Option (Nat × V)} (h : RepMs G w ρ hd z es out) (hG : ∀ b, G b → G' b) (hw : ∀ b, G b → w'.heap[b]? = w.heap[b]?) (hb : ∀ b, blk hd = some b → w'.heap[b]? = w.heap[b]?)
  (hb2 : ∀ b ∈ ghE es, w'.heap[b]? = w.heap[b]?) (hρ : ∀ i v, out = some (i, v) → ∀ j ∈ id0 v, ρ'[j]? = ρ[j]?) : RepMs G' w' ρ' hd z es out := by
 obtain ⟨r, arr, clk, rfl, h1, h2, h3, h4, h5, h5', h6⟩ := h
 refine ⟨r, arr, clk, rfl, (hb r rfl).trans h1, h2, h3, h4, fun i e x he hx => ⟨(h5 i e x he hx).1.mono hG hw (fun _ _ => rfl), fun b rs hv => ?_⟩, h5', fun i v e hv he => (h6 i v e hv he).mono hG hw (hρ i v hv)⟩
 obtain ⟨e1, e2⟩ := (h5 i e x he hx).2 b rs hv
 refine ⟨e1, e2.mono hG hw fun c hc => hb2 c (mem_ghE.2 ⟨i, x.1, rs, ?_⟩)⟩
 rw [hx, ← hc, e1, ← hv]
theorem RepB.mono {hd : Value} {x : B} (h : RepB G w ρ hd x) (hG : ∀ b, G b → G' b) (hw : ∀ b, G b → w'.heap[b]? = w.heap[b]?) (hb' : ∀ b ∈ bks hd x, w'.heap[b]? = w.heap[b]?)
  (hρ : ∀ i ∈ idB x, ρ'[i]? = ρ[i]?) : RepB G' w' ρ' hd x := by
 have hb : ∀ b, blk hd = some b → w'.heap[b]? = w.heap[b]? := fun b h => hb' b (mem_bks.2 (.inl h))
 cases x with
 | no => trivial
 | nw => exact h
 | mp es => exact RepM.mono h hG hw hb hρ
 | dm es => exact RepM.mono h hG hw hb (fun i hi => by rw [mpOf_id] at hi; cases hi)
 | di es r l => exact ⟨RepM.mono h.1 hG hw hb (fun i hi => by rw [mpOf_id] at hi; cases hi), h.2.mono hb (hb' r (mem_bks.2 (.inr (List.mem_singleton.2 rfl))))⟩
 | ms z es out it =>
  refine ⟨RepMs.mono h.1 hG hw hb (fun b hb2 => hb' b (mem_bks.2 (.inr (List.mem_append_left _ hb2)))) (fun i v ho j hj => hρ j (by subst ho; exact hj)), ?_⟩
  match it, h.2, hb' with
  | none, _, _ => trivial
  | some (r, l), h2, hb' => exact ⟨h2.1.mono hb (hb' r (mem_bks.2 (.inr (List.mem_append_right _ (List.mem_singleton.2 rfl))))), h2.2⟩
 | cells cs =>
  obtain ⟨b, arr, ty, rfl, h1, h2, h3⟩ := h
  refine ⟨b, arr, ty, rfl, (hb b rfl).trans h1, h2, fun i x hx => (h3 i x hx).mono hG hw (fun j hj => hρ j ?_)⟩
  simp only [idB, List.mem_flatMap]
  exact ⟨x, List.mem_of_getElem? hx, hj⟩
 | rows z rs =>
  rcases h with h | ⟨b, cap, arr, ty, rfl, h1, h2, h3, h4, h5⟩
  ·exact .inl h
  ·exact .inr ⟨b, cap, arr, ty, rfl, (hb b rfl).trans h1, h2, h3, h4, fun i row hr => ⟨(h5 i row hr).1, fun j x hx => ((h5 i row hr).2 j x hx).mono hG hw⟩⟩
 | rx z rs k r =>
  obtain ⟨b, cap, arr, ty, rfl, h1, h2, h3, h4, h0, h5, h6⟩ := h
  refine ⟨b, cap, arr, ty, rfl, (hb b rfl).trans h1, h2, h3, h4, h0, fun i row hr hk => ⟨(h5 i row hr hk).1, fun j x hx => ((h5 i row hr hk).2 j x hx).mono hG hw⟩, fun i x hx => (h6 i x hx).mono hG hw (fun j hj => hρ j ?_)⟩
  simp only [idB, List.mem_flatMap]
  exact ⟨x, List.mem_of_getElem? hx, hj⟩
theorem RepK.lt {v : Value} {x : V} (h : RepK G w ρ v x) : ∀ i ∈ idc x, i < ρ.length := by
 cases h <;> simp [idc] <;> first | (rename_i h; exact (List.getElem?_eq_some_iff.1 h).1) | (rename_i h _; exact (List.getElem?_eq_some_iff.1 h).1)
theorem RepC.lt {v : Value} {x : V} (h : RepC G w ρ v x) : ∀ i ∈ id0 x, i < ρ.length := by
 cases h with
 | k h => intro i hi; exact h.lt i (by cases h <;> simpa [id0] using hi)
 | fc f u cs caps h0 h1 h2 =>
  intro i hi
  simp only [id0, List.mem_flatMap] at hi
  obtain ⟨x, hx, hi⟩ := hi
  obtain ⟨j, hxj⟩ := List.mem_iff_getElem?.1 hx
  exact (h2 j x hxj).lt i hi
theorem Rep1.lt {v : Value} {x : V} (h : Rep1 G w ρ v x) : ∀ i ∈ id1 x, i < ρ.length := by
 cases h with
 | c h =>
  intro i hi
  refine h.lt i ?_
  cases h with
  | k h => cases h <;> simpa [id1] using hi
  | fc => simpa [id1] using hi
 | ag cs vs h1 h2 =>
  intro i hi
  simp only [id1, List.mem_flatMap] at hi
  obtain ⟨x, hx, hi⟩ := hi
  obtain ⟨j, hxj⟩ := List.mem_iff_getElem?.1 hx
  exact (h2 j x hxj).lt i hi
theorem Rep2.lt {v : Value} {x : V} (h : Rep2 G w ρ v x) : ∀ i ∈ id2 x, i < ρ.length := by
 cases h with
 | o h =>
  intro i hi
  refine h.lt i ?_
  cases h with
  | c h => cases h with
   | k h => cases h <;> simpa [id2] using hi
   | fc => simpa [id2] using hi
  | ag cs vs h1 h2 => simpa [id2] using hi
 | tu cs vs h1 h2 =>
  intro i hi
  simp only [id2, List.mem_flatMap] at hi
  obtain ⟨x, hx, hi⟩ := hi
  obtain ⟨j, hxj⟩ := List.mem_iff_getElem?.1 hx
  exact (h2 j x hxj).lt i hi
theorem RepB.lt {hd : Value} {x : B} (h : RepB G w ρ hd x) : ∀ i ∈ idB x, i < ρ.length := by
 cases x with
 | no => simp [idB]
 | nw => simp [idB]
 | mp es =>
  obtain ⟨r, arr, clk, rfl, h1, h2, h3, h4⟩ := h
  intro i hi
  simp only [idB, List.mem_flatMap] at hi
  obtain ⟨x, hx, hi⟩ := hi
  obtain ⟨j, hxj⟩ := List.mem_iff_getElem?.1 hx
  have hj : j < arr.size := by rw [h2]; exact (List.getElem?_eq_some_iff.1 hxj).1
  rcases List.mem_append.1 hi with hi | hi
  ·exact (h4 j _ x (Array.getElem?_eq_getElem hj) hxj).1.lt i hi
  ·exact (h4 j _ x (Array.getElem?_eq_getElem hj) hxj).2.lt i hi
 | dm es => simp [idB]
 | di es r l => simp [idB]
 | ms z es out it =>
  obtain ⟨⟨r, arr, clk, rfl, h1, h2, h3, h4, h5, h6, h7⟩, _⟩ := h
  intro i hi
  match out, hi, h6, h7 with
  | some (j, v), hi, h6, h7 =>
   have hj : j < arr.size := by rw [h2]; exact h6 j v rfl
   exact (h7 j v _ rfl (Array.getElem?_eq_getElem hj)).lt i hi
 | cells cs =>
  obtain ⟨b, arr, ty, rfl, h1, h2, h3⟩ := h
  intro i hi
  simp only [idB, List.mem_flatMap] at hi
  obtain ⟨x, hx, hi⟩ := hi
  obtain ⟨j, hxj⟩ := List.mem_iff_getElem?.1 hx
  exact (h3 j x hxj).lt i hi
 | rows z rs => simp [idB]
 | rx z rs k r =>
  obtain ⟨b, cap, arr, ty, rfl, h1, h2, h3, h4, h0, h5, h6⟩ := h
  intro i hi
  simp only [idB, List.mem_flatMap] at hi
  obtain ⟨x, hx, hi⟩ := hi
  obtain ⟨j, hxj⟩ := List.mem_iff_getElem?.1 hx
  exact (h6 j x hxj).lt i hi
end mono
end Go.Vx
namespace Go.Vx
structure Grw (w w' : World) : Prop where
 size : w.heap.size ≤ w'.heap.size
 old : ∀ b, b < w.heap.size → w'.heap[b]? = w.heap[b]?
 os : w'.os = w.os
 tape : w'.tape = w.tape
 out : w'.output = w.output
theorem Grw.refl (w : World) : Grw w w := ⟨Nat.le_refl _, fun _ _ => rfl, rfl, rfl, rfl⟩
theorem Grw.trans {a b c : World} (h : Grw a b) (k : Grw b c) : Grw a c :=
 ⟨Nat.le_trans h.size k.size, fun i hi => (k.old i (Nat.lt_of_lt_of_le hi h.size)).trans (h.old i hi), k.os.trans h.os, k.tape.trans h.tape, k.out.trans h.out⟩
theorem Grw.alloc (w : World) (o : Obj) : Grw w (w.alloc o) :=
 ⟨by simp, fun b hb => by show (w.heap.push o)[b]? = _; rw [Array.getElem?_push, if_neg (by omega)], rfl, rfl, rfl⟩
theorem Grw.drew (w : World) : Grw w w.drew := ⟨Nat.le_refl _, fun _ _ => rfl, rfl, rfl, rfl⟩
theorem Grw.draw (w : World) (n : Nat) : Grw w { w with drawn := n } := ⟨Nat.le_refl _, fun _ _ => rfl, rfl, rfl, rfl⟩
section
variable {E : Ent} {G G' : Nat → Prop} {w w' : World} {ρ : List Value} {h : H}
theorem HR.lt (hr : HR G w ρ h) {id : Nat} {v : Value} {x : B} {b : Nat} (hv : ρ[id]? = some v) (hx : h[id]? = some x) (hn : x ≠ .no) (hb : b ∈ bks v x) : b < w.heap.size := by
 rcases (hr.rep id v x hv hx).obj hn hb with ⟨_, _, h1⟩ | ⟨_, _, h1⟩ | ⟨_, _, _, _, h1⟩ <;> exact (Array.getElem?_eq_some_iff.1 h1).1
theorem HR.ownlt (hr : HR G w ρ h) {b : Nat} (ho : own ρ h b) : b < w.heap.size := by
 obtain ⟨id, v, x, h1, h2, h3, h4⟩ := ho
 exact hr.lt h1 h2 h3 h4
theorem Ok.grow (hO : Ok E G w ρ h) (hg : Grw w w') (hG : ∀ b, G b → G' b) (hG' : ∀ b, G' b → G b ∨ (w.heap.size ≤ b ∧ b < w'.heap.size ∧ clb w' b)) : Ok E G' w' ρ h := by
 have hw : ∀ b, G b → w'.heap[b]? = w.heap[b]? := fun b hb => hg.old b (hO.hr.gl b hb)
 refine ⟨⟨hO.hr.len, fun id v x hv hx => ?_, hO.hr.dis, fun b hb => ?_, fun b hb ho => ?_, hO.hr.glb.mono hG hw⟩, fun b hb => hG b (hO.gm b hb), fun b hb => ?_, hO.oo, fun b hb hn => ?_, Nat.le_trans hO.size hg.size,
  hg.os.trans hO.os, hg.tape.trans hO.tape, hg.out.trans hO.out, hO.hand, hO.hl, fun r hr => ?_⟩
 ·cases x with
  | no => trivial
  | _ => exact (hO.hr.rep id v _ hv hx).mono hG hw (fun b hb => hg.old b (hO.hr.lt hv hx (by simp) hb)) (fun _ _ => rfl)
 ·rcases hG' b hb with h1 | h1
  ·exact Nat.lt_of_lt_of_le (hO.hr.gl b h1) hg.size
  ·exact h1.2.1
 ·rcases hG' b hb with h1 | h1
  ·exact hO.hr.gd b h1 ho
  ·have := hO.hr.ownlt ho; omega
 ·rcases hG' b hb with h1 | h1
  ·exact (hO.go b h1).imp (fun h => h) fun h2 => ⟨h2.1.same (hw b h1), h2.2⟩
  ·exact .inr ⟨h1.2.2, .inl (Nat.le_trans hO.size h1.1)⟩
 ·exact (hg.old b (Nat.lt_of_lt_of_le hb hO.size)).trans (hO.frame b hb hn)
 ·obtain ⟨h1, h2, h3⟩ := hO.mks r hr
  have hlt := (Array.getElem?_eq_some_iff.1 h1).1
  refine ⟨(hg.old r hlt).trans h1, fun h4 => ?_, h3⟩
  rcases hG' r h4 with h5 | h5
  ·exact h2 h5
  ·omega
theorem own_append {ρ : List Value} {h : H} {hd : Value} {x : B} {b : Nat} (hl : ρ.length = h.length) (ho : own (ρ ++ [hd]) (h ++ [x]) b) : own ρ h b ∨ (x ≠ .no ∧ b ∈ bks hd x) := by
 obtain ⟨id, v, y, h1, h2, h3, h4⟩ := ho
 by_cases hi : id < ρ.length
 ·rw [List.getElem?_append_left hi] at h1
  rw [List.getElem?_append_left (hl ▸ hi)] at h2
  exact .inl ⟨id, v, y, h1, h2, h3, h4⟩
 ·have hid : id = ρ.length := by
   have := (List.getElem?_eq_some_iff.1 h1).1
   simp at this
   omega
  subst hid
  simp at h1
  rw [hl] at h2
  simp at h2
  subst h1 h2
  exact .inr ⟨h3, h4⟩
theorem Ok.pushg (hO : Ok E G w ρ h) (hg : Grw w w') (hd : Value) (x : B) (hbk : ∀ b ∈ bks hd x, w.heap.size ≤ b) (hx : RepB G w' (ρ ++ [hd]) hd x) : Ok E G w' (ρ ++ [hd]) (h ++ [x]) := by
 have hw : ∀ b, G b → w'.heap[b]? = w.heap[b]? := fun b hb => hg.old b (hO.hr.gl b hb)
 have hl := hO.hr.len
 have get : ∀ (id : Nat) (v : Value) (y : B), (ρ ++ [hd])[id]? = some v → (h ++ [x])[id]? = some y → (ρ[id]? = some v ∧ h[id]? = some y) ∨ (id = ρ.length ∧ v = hd ∧ y = x) := by
  intro id v y h1 h2
  by_cases hi : id < ρ.length
  ·rw [List.getElem?_append_left hi] at h1
   rw [List.getElem?_append_left (hl ▸ hi)] at h2
   exact .inl ⟨h1, h2⟩
  ·have hid : id = ρ.length := by
    have := (List.getElem?_eq_some_iff.1 h1).1
    simp at this
    omega
   subst hid
   simp at h1
   rw [hl] at h2
   simp at h2
   exact .inr ⟨rfl, h1.symm, h2.symm⟩
 have hpre : ∀ i, i < ρ.length → (ρ ++ [hd])[i]? = ρ[i]? := fun i hi => List.getElem?_append_left hi
 refine ⟨⟨by simp [hl], fun id v y hv hy => ?_, fun id id' v v' y y' b h1 h2 h3 h4 h5 h6 h7 h8 => ?_, fun b hb => Nat.lt_of_lt_of_le (hO.hr.gl b hb) hg.size, fun b hb ho => ?_, hO.hr.glb.mono (fun _ h => h) hw⟩, hO.gm, fun b hb => (hO.go b hb).imp (fun h => h) fun h2 => ⟨h2.1.same (hw b hb), h2.2⟩, fun b hb => ?_,
  fun b hb hn => (hg.old b (Nat.lt_of_lt_of_le hb hO.size)).trans (hO.frame b hb hn), Nat.le_trans hO.size hg.size, hg.os.trans hO.os, hg.tape.trans hO.tape, hg.out.trans hO.out, fun id v hv hs => ?_, by simpa using Nat.le_succ_of_le hO.hl, fun r hr => (by
   obtain ⟨h1, h2, h3⟩ := hO.mks r hr
   have hlt := (Array.getElem?_eq_some_iff.1 h1).1
   refine ⟨(hg.old r hlt).trans h1, h2, fun h4 => ?_⟩
   rcases own_append hl h4 with h5 | h5
   ·exact h3 h5
   ·have := hbk r h5.2
    omega)⟩
 ·rcases get id v y hv hy with ⟨h1, h2⟩ | ⟨rfl, rfl, rfl⟩
  ·have hr := hO.hr.rep id v y h1 h2
   cases y with
   | no => trivial
   | _ => exact hr.mono (fun _ h => h) hw (fun b hb => hg.old b (hO.hr.lt h1 h2 (by simp) hb)) (fun i hi => hpre i (hr.lt i hi))
  ·exact hx
 ·rcases get id v y h1 h2 with ⟨g1, g2⟩ | ⟨rfl, rfl, rfl⟩ <;> rcases get id' v' y' h4 h5 with ⟨k1, k2⟩ | ⟨rfl, rfl, rfl⟩
  ·exact hO.hr.dis id id' v v' y y' b g1 g2 h3 k1 k2 h6 h7 h8
  ·have := hO.hr.lt g1 g2 h3 h7; have := hbk b h8; omega
  ·have := hO.hr.lt k1 k2 h6 h8; have := hbk b h7; omega
  ·rfl
 ·rcases own_append hl ho with h1 | ⟨h1, h2⟩
  ·exact hO.hr.gd b hb h1
  ·have := hO.hr.gl b hb; have := hbk b h2; omega
 ·rcases own_append hl hb with h1 | ⟨h1, h2⟩
  ·exact hO.oo b h1
  ·exact .inl (Nat.le_trans hO.size (hbk b h2))
 ·have := hO.hand id v hv hs
  rw [hpre id (List.getElem?_eq_some_iff.1 this).1]
  exact this
theorem Ok.push (hO : Ok E G w ρ h) (hg : Grw w w') (hd : Value) (x : B) (hbk : ∀ b, blk hd = some b → w.heap.size ≤ b) (hx : RepB G w' (ρ ++ [hd]) hd x) (hgh : gh x = [] := by rfl) : Ok E G w' (ρ ++ [hd]) (h ++ [x]) :=
 hO.pushg hg hd x (fun b hb => hbk b ((mem_bk0 hgh).1 hb)) hx
theorem own_set {ρ : List Value} {h : H} {id : Nat} {v1 : Value} {x1 : B} {b : Nat} (ho : own (ρ.set id v1) (h.set id x1) b) : (∃ (j : Nat) (v : Value) (y : B), j ≠ id ∧ ρ[j]? = some v ∧ h[j]? = some y ∧ y ≠ .no ∧ b ∈ bks v y) ∨ (x1 ≠ .no ∧ b ∈ bks v1 x1) := by
 obtain ⟨j, v, y, h1, h2, h3, h4⟩ := ho
 rw [List.getElem?_set] at h1 h2
 split at h1
 ·rename_i hj
  subst hj
  rw [if_pos rfl] at h2
  split at h1
  ·split at h2
   ·cases h1; cases h2
    exact .inr ⟨h3, h4⟩
   ·cases h2
  ·cases h1
 ·rename_i hj
  rw [if_neg hj] at h2
  exact .inl ⟨j, v, y, fun e => hj e.symm, h1, h2, h3, h4⟩
theorem Ok.updg (hO : Ok E G w ρ h) {id : Nat} {v0 v1 : Value} {x0 x1 : B} (hv : ρ[id]? = some v0) (hx : h[id]? = some x0) (hn : x0 ≠ .no) (hs : w.heap.size ≤ w'.heap.size)
  (same : ∀ b, b < w.heap.size → b ∉ bks v0 x0 → w'.heap[b]? = w.heap[b]?) (ho : w'.os = w.os) (ht : w'.tape = w.tape) (hou : w'.output = w.output)
  (new : RepB G w' (ρ.set id v1) v1 x1) (hb1 : ∀ b ∈ bks v1 x1, b ∈ bks v0 x0 ∨ w.heap.size ≤ b) (hs1 : isSl v0 = false → v1 = v0)
  (h' : H) (hh : h'.length = h.length) (hh' : ∀ (j : Nat) (y : B), h'[j]? = some y → j ≠ id → ∃ y0, h[j]? = some y0 ∧ (y0 = .no ↔ y = .no) ∧ gh y = gh y0 ∧ (∀ v, ρ[j]? = some v → RepB G w ρ v y0 → RepB G w (ρ.set id v1) v y)) :
  Ok E G w' (ρ.set id v1) (h'.set id x1) := by
 have hgb : ∀ b, G b → b ∉ bks v0 x0 := fun b hb e => hO.hr.gd b hb ⟨id, v0, x0, hv, hx, hn, e⟩
 have hw : ∀ b, G b → w'.heap[b]? = w.heap[b]? := fun b hb => same b (hO.hr.gl b hb) (hgb b hb)
 have hil : id < ρ.length := (List.getElem?_eq_some_iff.1 hv).1
 have hihl : id < h'.length := by rw [hh]; exact (List.getElem?_eq_some_iff.1 hx).1
 have get : ∀ (j : Nat) (v : Value) (y : B), (ρ.set id v1)[j]? = some v → (h'.set id x1)[j]? = some y → (j ≠ id ∧ ρ[j]? = some v ∧ h'[j]? = some y) ∨ (j = id ∧ v = v1 ∧ y = x1) := by
  intro j v y h1 h2
  rw [List.getElem?_set] at h1 h2
  split at h1
  ·rename_i hj
   subst hj
   rw [if_pos rfl, if_pos hihl] at h2
   cases h1; cases h2
   exact .inr ⟨rfl, rfl, rfl⟩
  ·rename_i hj
   rw [if_neg hj] at h2
   exact .inl ⟨fun e => hj e.symm, h1, h2⟩
 have old : ∀ (j : Nat) (v : Value) (y : B) (b : Nat), j ≠ id → ρ[j]? = some v → h'[j]? = some y → y ≠ .no → b ∈ bks v y → b < w.heap.size ∧ b ∉ bks v0 x0 ∧ own ρ h b ∧ w'.heap[b]? = w.heap[b]? := by
  intro j v y b hj h1 h2 h3 h4
  obtain ⟨y0, g1, g2, g3, _⟩ := hh' j y h2 hj
  have h4 : b ∈ bks v y0 := by rw [bks, ← g3]; exact h4
  have hy0 : y0 ≠ .no := fun e => h3 (g2.1 e)
  have hlt := hO.hr.lt h1 g1 hy0 h4
  have hne : b ∉ bks v0 x0 := fun e => hj (hO.hr.dis j id v v0 y0 x0 b h1 g1 hy0 hv hx hn h4 e)
  exact ⟨hlt, hne, ⟨j, v, y0, h1, g1, hy0, h4⟩, same b hlt hne⟩
 have hown : ∀ b, own (ρ.set id v1) (h'.set id x1) b → own ρ h b ∨ w.heap.size ≤ b := by
  intro b hb
  rcases own_set hb with ⟨j, v, y, h0, h1, h2, h3, h4⟩ | ⟨h1, h2⟩
  ·exact .inl (old j v y b h0 h1 h2 h3 h4).2.2.1
  ·rcases hb1 b h2 with h3 | h3
   ·exact .inl ⟨id, v0, x0, hv, hx, hn, h3⟩
   ·exact .inr h3
 refine ⟨⟨by simp [hO.hr.len, hh], fun j v y h1 h2 => ?_, fun j j' v v' y y' b h1 h2 h3 h4 h5 h6 h7 h8 => ?_, fun b hb => Nat.lt_of_lt_of_le (hO.hr.gl b hb) hs, fun b hb hob => ?_, hO.hr.glb.mono (fun _ h => h) hw⟩, hO.gm, fun b hb => (hO.go b hb).imp (fun h => h) fun h2 => ⟨h2.1.same (hw b hb), h2.2⟩, fun b hb => ?_,
  fun b hb hnb => ?_, Nat.le_trans hO.size hs, ho.trans hO.os, ht.trans hO.tape, hou.trans hO.out, fun j v hv' hsl => ?_, by simpa [hh] using hO.hl, fun r hr => (by
   obtain ⟨h1, h2, h3⟩ := hO.mks r hr
   have hlt := (Array.getElem?_eq_some_iff.1 h1).1
   refine ⟨(same r hlt fun e => h3 ⟨id, v0, x0, hv, hx, hn, e⟩).trans h1, h2, fun h4 => ?_⟩
   rcases hown r h4 with h5 | h5
   ·exact h3 h5
   ·omega)⟩
 ·rcases get j v y h1 h2 with ⟨hj, g1, g2⟩ | ⟨rfl, rfl, rfl⟩
  ·obtain ⟨y0, k1, k2, _, k3⟩ := hh' j y g2 hj
   have hr := k3 v g1 (hO.hr.rep j v y0 g1 k1)
   by_cases hy : y = .no
   ·subst hy; trivial
   ·exact hr.mono (fun _ h => h) hw (fun b hb => (old j v y b hj g1 g2 hy hb).2.2.2) (fun _ _ => rfl)
  ·exact new
 ·rcases get j v y h1 h2 with ⟨hj, g1, g2⟩ | ⟨rfl, rfl, rfl⟩ <;> rcases get j' v' y' h4 h5 with ⟨hj', k1, k2⟩ | ⟨rfl, rfl, rfl⟩
  ·obtain ⟨y0, e1, e2, e3, _⟩ := hh' j y g2 hj
   obtain ⟨y0', f1, f2, f3, _⟩ := hh' j' y' k2 hj'
   rw [bks, e3] at h7
   rw [bks, f3] at h8
   exact hO.hr.dis j j' v v' y0 y0' b g1 e1 (fun e => h3 (e2.1 e)) k1 f1 (fun e => h6 (f2.1 e)) h7 h8
  ·have := old j v y b hj g1 g2 h3 h7
   rcases hb1 b h8 with h9 | h9
   ·exact absurd h9 this.2.1
   ·omega
  ·have := old j' v' y' b hj' k1 k2 h6 h8
   rcases hb1 b h7 with h9 | h9
   ·exact absurd h9 this.2.1
   ·omega
  ·rfl
 ·rcases hown b hob with h1 | h1
  ·exact hO.hr.gd b hb h1
  ·have := hO.hr.gl b hb; omega
 ·rcases hown b hb with h1 | h1
  ·exact hO.oo b h1
  ·exact .inl (Nat.le_trans hO.size h1)
 ·by_cases hbl : b ∈ bks v0 x0
  ·rcases hO.oo b ⟨id, v0, x0, hv, hx, hn, hbl⟩ with h1 | h1
   ·omega
   ·exact absurd h1 hnb
  ·exact (same b (Nat.lt_of_lt_of_le hb hO.size) hbl).trans (hO.frame b hb hnb)
 ·have h0 := hO.hand j v hv' hsl
  rw [List.getElem?_set]
  split
  ·rename_i hj
   subst hj
   rw [hv] at h0
   cases h0
   rw [hs1 hsl]
  ·exact h0
theorem Ok.upd (hO : Ok E G w ρ h) {id : Nat} {v0 v1 : Value} {x0 x1 : B} (hv : ρ[id]? = some v0) (hx : h[id]? = some x0) (hn : x0 ≠ .no) (hs : w.heap.size ≤ w'.heap.size)
  (same : ∀ b, b < w.heap.size → blk v0 ≠ some b → w'.heap[b]? = w.heap[b]?) (ho : w'.os = w.os) (ht : w'.tape = w.tape) (hou : w'.output = w.output)
  (new : RepB G w' (ρ.set id v1) v1 x1) (hb1 : ∀ b, blk v1 = some b → blk v0 = some b ∨ w.heap.size ≤ b) (hs1 : isSl v0 = false → v1 = v0)
  (h' : H) (hh : h'.length = h.length) (hh' : ∀ (j : Nat) (y : B), h'[j]? = some y → j ≠ id → ∃ y0, h[j]? = some y0 ∧ (y0 = .no ↔ y = .no) ∧ gh y = gh y0 ∧ (∀ v, ρ[j]? = some v → RepB G w ρ v y0 → RepB G w (ρ.set id v1) v y))
  (hg1 : ∀ b ∈ gh x1, b ∈ gh x0) :
  Ok E G w' (ρ.set id v1) (h'.set id x1) :=
 hO.updg hv hx hn hs (fun b h1 h2 => same b h1 fun e => h2 (mem_bks.2 (.inl e))) ho ht hou new (fun b hb => (mem_bks.1 hb).elim (fun h => (hb1 b h).imp (fun h => mem_bks.2 (.inl h)) fun h => h) fun h => .inl (mem_bks.2 (.inr (hg1 b h)))) hs1 h' hh hh'
end
end Go.Vx
