/- The abstract side of the walks: data, values, blocks, the small operations, and what is to be shown of a piece of code (`wx`). Conditions: none; definitions alone. -/
import Derived.Test.YtjpgfgajkjhonaaGreatDoorQTAB
import Derived.Calls
import Derived.Orders
import Derived.KernelRfl
namespace Go.Vx
inductive V where
 | un
 | ud
 | d (x : D)
 | ag (cs : List V)
 | tu (vs : List V)
 | p (id off : Nat)
 | e (row : List D) (off : Nat)
 | os (id : Nat)
 | q (id z i off : Nat)
 | cl (z : Nat) (rows : List (List D))
 | nl (z : Nat)
 | fc (f : Nat) (caps : List V)
 | mp (id : Nat)
 | ov (id z i : Nat)
 | it (id r : Nat)
 deriving Inhabited
abbrev ME := (List UInt8 × List UInt8) × Option (Option Nat × List (List D))
abbrev It := List Nat × Option Nat
inductive B where
 | no
 | cells (cs : List V)
 | rows (z : Nat) (rs : List (List D))
 | rx (z : Nat) (rs : List (List D)) (i : Nat) (row : List V)
 | nw
 | mp (es : List (V × V))
 | dm (es : List (D × Bool × List D))
 | di (es : List (D × Bool × List D)) (r : Nat) (left : It)
 | ms (z : Nat) (es : List ME) (out : Option (Nat × V)) (it : Option (Nat × It))
 deriving Inhabited
inductive O where
 | s (t : Nat)
 | k (v : V)
 | g (i : Nat)
 deriving Inhabited
inductive PU where
 | mi (F : Nat)
 | mia (F : Nat)
 | ta (ty : Nat) (ag : Bool) (zero : V) (ok : Bool)
 | iq (ne : Bool)
 | pq (ne : Bool)
 | fd (off : Nat) (n : Option Nat)
 deriving Inhabited
inductive X where
 | mv (x : O)
 | nil (z : Nat)
 | pk (c a b : O)
 | bx (x : O)
 | al (cs : List V)
 | bd (zero : List V) (parts : List (Nat × Nat × O))
 | bs (z : Nat) (zero : List V) (n : Nat) (parts : List (Nat × O))
 | ld (x : O) (n : Option Nat)
 | st (x v : O) (n : Nat)
 | fa (x : O) (off : Nat)
 | ia (x i : O) (z : Nat)
 | bin (op : BinOp) (x y : O)
 | eq (ne st : Bool) (ks : List Nat) (x y : O)
 | un (op : UnOp) (x : O)
 | cv (k : IntKind) (x : O)
 | ln (x : O)
 | ls (x : O)
 | mn (x y : O)
 | mx (x y : O)
 | s3 (x : O) (lo hi m : Option O) (z : Nat)
 | ss (x : O) (lo hi : Option O)
 | ap (x y : O) (z bytes : Nat)
 | cf (f : Nat) (args : List O)
 | cc (x : O) (args : List O)
 | mf (f : Nat) (caps : List O)
 | ex (x : O) (i : Nat)
 | nc (x : O)
 | nq (ne : Bool) (x : O)
 | ns (z : Nat)
 | clr (x : O) (zs : List D) (z : Nat)
 | ix (x i : O)
 | ja (x i : O) (z n : Nat)
 | mm (k : Nat)
 | ml (x k : O) (ks : List Nat) (zero : V) (ok : Bool)
 | mu (x k v : O) (ks : List Nat)
 | md (x k : O) (ks : List Nat)
 | lm (x : O)
 | pu (f : PU) (x : O)
 | pn (x : O)
 | mk (zs : List D) (z b : Nat) (l c : O)
 | aa (d : D) (m : Nat)
 | la (x : O) (m : Nat)
 | jq (x i : O) (m : Nat)
 | ai (x i : O) (m : Nat)
 | sb (x : O)
 | rg (x : O)
 | nx (x : O)
 | en (x : O)
 | bad
 deriving Inhabited
structure I where
 d : Option Nat
 o : X
 g : Option (Nat × Bool)
 deriving Inhabited
inductive C where
 | skip
 | reg (l : List I)
 | rgd (q : List (I × List Nat)) (s : List I)
 | seq (a b : C)
 | cond (c : O) (a b : C)
 | block (id : Nat) (c : C)
 | loop (c : C)
 | exit (id : Nat)
 | ret
 | bad
 | rf (g : O) (ps : List Nat) (ca cb : C)
 deriving Inhabited
abbrev T := List (Nat × V)
abbrev H := List B
inductive Ex where
 | nrm
 | ext (id : Nat)
 | ret
 | pan (v : V)
inductive Out where
 | ret (v : V)
 | pan (v : V)
noncomputable def gs (t : T) (i : Nat) : V := List.rec (motive := fun _ => V) .un (fun p _ ih => bif Nat.beq p.1 i then p.2 else ih) t
theorem gs_nil (i : Nat) : gs [] i = .un := rfl
theorem gs_cons (p : Nat × V) (r : T) (i : Nat) : gs (p :: r) i = bif Nat.beq p.1 i then p.2 else gs r i := rfl
def tget : List (Nat × List D) → Nat → Option (List D)
 | [], _ => none
 | p :: r, g => bif Nat.beq p.1 g then some p.2 else tget r g
def ptE : D → V
 | .pt row off => .e row off
 | x => .d x
def fcD : V → V
 | .d (.fc f caps) => .fc f (caps.map ptE)
 | x => x
noncomputable def gv (t : T) : O → V
 | .g i => (match tget glL i with
  | some row => .e row 0
  | none => .un)
 | .s i => gs t i
 | .k (.nl z) => .d (.sl z [])
 | .k v => v
noncomputable def nlv (t : T) : O → V
 | .k (.nl z) => .nl z
 | x => gv t x
@[irreducible] def apn (p q : Prop) : Prop := p ∨ q
theorem apn_data {p q : Prop} (h : q) : apn p q := by unfold apn; exact .inr h
@[irreducible] def bsn (p q : Prop) : Prop := p ∨ q
theorem bsn_own {p q : Prop} (h : p) : bsn p q := by unfold bsn; exact .inl h
theorem bsn_data {p q : Prop} (h : q) : bsn p q := by unfold bsn; exact .inr h
theorem bsn_or {p q : Prop} (h : bsn p q) : p ∨ q := by unfold bsn at h; exact h
@[irreducible] def rxn (p q : Prop) : Prop := p ∨ q
theorem rxn_or {p q : Prop} (h : rxn p q) : p ∨ q := by unfold rxn at h; exact h
@[irreducible] def lnt (p q : Prop) : Prop := p ∨ q
theorem lnt_old {p q : Prop} (h : p) : lnt p q := by unfold lnt; exact .inl h
theorem lnt_new {p q : Prop} (h : q) : lnt p q := by unfold lnt; exact .inr h
theorem lnt_or {p q : Prop} (h : lnt p q) : p ∨ q := by unfold lnt at h; exact h
@[irreducible] def fro (K : List Nat × Nat → Prop) : Prop := ∃ o, K o
theorem fro_nil {K : List Nat × Nat → Prop} (h : K ([], 0)) : fro K := by unfold fro; exact ⟨_, h⟩
theorem fro_use (ids : List Nat) {K : List Nat × Nat → Prop} (h : K (ids, 0)) : fro K := by unfold fro; exact ⟨_, h⟩
theorem fro_more (n : Nat) {K : List Nat × Nat → Prop} (h : K ([], n)) : fro K := by unfold fro; exact ⟨_, h⟩
theorem fro_some {K : List Nat × Nat → Prop} (h : fro K) : ∃ o, K o := by unfold fro at h; exact h
@[irreducible] def cuo (p q : Prop) : Prop := p ∨ q
theorem cuo_old {p q : Prop} (h : p) : cuo p q := by unfold cuo; exact .inl h
theorem cuo_new {p q : Prop} (h : q) : cuo p q := by unfold cuo; exact .inr h
theorem cuo_or {p q : Prop} (h : cuo p q) : p ∨ q := by unfold cuo at h; exact h
@[irreducible] def cfo (p q : Prop) : Prop := p ∨ q
theorem cfo_old {p q : Prop} (h : p) : cfo p q := by unfold cfo; exact .inl h
theorem cfo_new {p q : Prop} (h : q) : cfo p q := by unfold cfo; exact .inr h
theorem cfo_or {p q : Prop} (h : cfo p q) : p ∨ q := by unfold cfo at h; exact h
def dv : V → V
 | .nl z => .d (.sl z [])
 | v => v
def V.cs : V → List V
 | .ag cs => cs
 | v => [v]
def kn : IntKind → Nat
 | .i8 => 0 | .i16 => 1 | .i32 => 2 | .i64 => 3 | .u8 => 4 | .u16 => 5 | .u32 => 6 | .u64 => 7
def stor : V → Bool
 | .un | .ud | .ag _ | .tu _ => false
 | _ => true
def V.isag : V → Bool
 | .ag _ => true
 | _ => false
def eq1 : Nat → V → V → Option Bool
 | 0, .d (.int k a), .d (.int k' b) => bif Nat.beq (kn k) (kn k') then some (a == b) else none
 | 1, .d (.bool a), .d (.bool b) => some (a == b)
 | 2, .d (.str a), .d (.str b) => some (a == b)
 | _, _, _ => none
def eqb : List Nat → List V → List V → Option Bool
 | [], [], [] => some true
 | k :: ks, x :: r, y :: s => match eq1 k x y with
  | some b => (match eqb ks r s with
   | some e => some (b && e)
   | none => none)
  | none => none
 | _, _, _ => none
def eqx (ks : List Nat) (x y : List V) (K : Bool → Prop) : Prop :=
 match eqb ks x y with
 | some e => K e
 | none => False
def keyb : List Nat → V → Bool
 | [0, j], .d (.int k _) => Nat.beq (kn k) j
 | [1], .d (.bool _) => true
 | [2], .d (.str _) => true
 | _, _ => false
def fnd (ks : List Nat) (k : List V) : List (V × V) → Nat → Option (Option (Nat × V))
 | [], _ => some none
 | e :: r, i => bif keyb ks e.1 then (match eqb (ks.take 1) k e.1.cs with
  | some b => bif b then some (some (i, e.2)) else fnd ks k r (i + 1)
  | none => none) else none
def stom : V → Bool
 | .un | .ud | .tu _ => false
 | .ag c => c.all stor
 | _ => true
def capb : V → Bool
 | .fc _ _ | .ag _ | .tu _ => false
 | _ => true
def pu : PU → V → Option V
 | .mia F, .ag cs => bif !cs.isEmpty && (cs.all stor && cs.all capb) then some (.fc F cs) else none
 | .mi F, x => bif stor x && capb x then some (.fc F [x]) else none
 | .ta ty ag z ok, .fc F caps => bif Nat.beq F (bif ag then ty + 2000000 else ty + 3000000) then
   (match ag, caps with
    | true, _ => some (bif ok then .tu [.ag caps, .d (.bool true)] else .ag caps)
    | false, x :: _ => some (bif ok then .tu [x, .d (.bool true)] else x)
    | false, [] => none)
   else bif ok && (Nat.ble 2000000 F && (!(Nat.beq F (ty + 2000000)) && !(Nat.beq F (ty + 3000000)))) then some (.tu [z, .d (.bool false)]) else none
 | .ta _ _ z ok, .d .ni => bif ok then some (.tu [z, .d (.bool false)]) else none
 | .iq ne, .fc F _ => bif Nat.ble 2000000 F then some (.d (.bool ne)) else none
 | .iq ne, .d .ni => some (.d (.bool (!ne)))
 | .pq ne, .p _ _ => some (.d (.bool ne))
 | .pq ne, .e _ _ => some (.d (.bool ne))
 | .pq ne, .q _ _ _ _ => some (.d (.bool ne))
 | .pq ne, .d .np => some (.d (.bool (!ne)))
 | .fd off none, .ag cs => cs[off]?
 | .fd off (some n), .ag cs => bif Nat.beq ((cs.drop off).take n).length n then some (.ag ((cs.drop off).take n)) else none
 | _, _ => none
def toV : Bool × List D → V
 | (true, ds) => .ag (ds.map .d)
 | (false, d :: _) => .d d
 | (false, []) => .un
def mpOf (es : List (D × Bool × List D)) : List (V × V) := es.map fun p => (.d p.1, toV p.2)
def mmB : Nat → B
 | 0 => .mp []
 | 1 => .dm []
 | z + 2 => .ms z [] none none
def ghE (es : List ME) : List Nat := es.filterMap fun e => e.2.bind (·.1)
def ghI : Option (Nat × It) → List Nat
 | some (r, _) => [r]
 | none => []
def gh : B → List Nat
 | .di _ r _ => [r]
 | .ms _ es _ it => ghE es ++ ghI it
 | _ => []
def kst : V → Option (List UInt8 × List UInt8)
 | .ag [.d (.str a), .d (.str b)] => some (a, b)
 | _ => none
def kag (k : List UInt8 × List UInt8) : V := .ag [.d (.str k.1), .d (.str k.2)]
def mfi (k : List UInt8 × List UInt8) (es : List ME) : Option Nat := es.findIdx? fun e => e.1 == k
def mput (i : Nat) (x : Option (Option Nat × List (List D))) (es : List ME) : List ME := es.modify i fun e => (e.1, x)
def chunk {α : Type} (z : Nat) : Nat → List α → List (List α)
 | 0, _ => []
 | n + 1, l => l.take z :: chunk z n (l.drop z)
def sp : Bool → Prop → Prop → Prop
 | true, p, _ => p
 | false, _, q => q
def fv (v : V) (K : V → Prop) : Prop :=
 match v with
 | .un => K .un
 | .ud => K .ud
 | .d (.int k n) => K (.d (.int k n))
 | .d (.bool b) => K (.d (.bool b))
 | .d (.str b) => K (.d (.str b))
 | .d (.sl z b) => K (.d (.sl z b))
 | .d (.fn f) => K (.d (.fn f))
 | .d x => K (.d x)
 | .ag cs => K (.ag cs)
 | .tu cs => K (.tu cs)
 | .p i o => K (.p i o)
 | .e r o => K (.e r o)
 | .os i => K (.os i)
 | .q i z j o => K (.q i z j o)
 | .cl z r => K (.cl z r)
 | .nl z => K (.nl z)
 | .fc f c => K (.fc f c)
 | .mp i => K (.mp i)
 | .ov i z j => K (.ov i z j)
 | .it i r => K (.it i r)
def Put (d : Option Nat) (v : V) (t : T) (K : T → Prop) : Prop :=
 match d with
 | some i => fv v fun v => K ((i, v) :: t)
 | none => K t
def fl {α : Type} (l : List α) : (List α → Prop) → Prop :=
 List.rec (motive := fun _ => (List α → Prop) → Prop) (fun K => K []) (fun x _ ih K => ih fun r => K (x :: r)) l
theorem fl_cons {α : Type} (x : α) (r : List α) (K : List α → Prop) : fl (x :: r) K = fl r fun r => K (x :: r) := rfl
def fnatL (l : List Nat) : Nat → (Nat → Prop) → Prop :=
 List.rec (motive := fun _ => Nat → (Nat → Prop) → Prop) (fun n K => K n) (fun k _ ih n K => bif Nat.beq n k then K k else ih n K) l
def fnat (n : Nat) (K : Nat → Prop) : Prop := fnatL [0, 1, 2, 3, 4, 5, 6, 7, 8, 9, 10, 11, 12, 13, 14, 15, 16, 17, 18, 19, 20, 21, 22, 23, 24, 25, 26, 27, 28, 29, 30, 31] n K
def fvn (v : V) (K : V → Prop) : Prop :=
 match v with
 | .p i o => fnat i fun i => K (.p i o)
 | .os i => fnat i fun i => K (.os i)
 | .mp i => fnat i fun i => K (.mp i)
 | .it i r => fnat i fun i => K (.it i r)
 | v => fv v K
def flv (l : List V) : (List V → Prop) → Prop :=
 List.rec (motive := fun _ => (List V → Prop) → Prop) (fun K => K []) (fun x _ ih K => fvn x fun x => ih fun r => K (x :: r)) l
def fb (b : B) (K : B → Prop) : Prop :=
 match b with
 | .cells cs => flv cs fun cs => K (.cells cs)
 | .no => K .no
 | .nw => K .nw
 | .rows z rs => K (.rows z rs)
 | .rx z rs i row => flv row fun row => K (.rx z rs i row)
 | .mp es => K (.mp es)
 | .dm es => K (.dm es)
 | .di es r l => K (.di es r l)
 | .ms z es none it => K (.ms z es none it)
 | .ms z es (some (i, v)) it => fvn v fun v => K (.ms z es (some (i, v)) it)
def flb (l : List B) : (List B → Prop) → Prop :=
 List.rec (motive := fun _ => (List B → Prop) → Prop) (fun K => K []) (fun b _ ih K => fb b fun b => ih fun r => K (b :: r)) l
def flt (l : T) : (T → Prop) → Prop :=
 List.rec (motive := fun _ => (T → Prop) → Prop) (fun K => K []) (fun p _ ih K => match p with | (i, v) => fvn v fun v => ih fun r => K ((i, v) :: r)) l
def fln (l : List Nat) : (List Nat → Prop) → Prop :=
 List.rec (motive := fun _ => (List Nat → Prop) → Prop) (fun K => K []) (fun i _ ih K => fnat i fun i => ih fun r => K (i :: r)) l
def get? {α : Type} : List α → Nat → Option α
 | [], _ => none
 | x :: _, 0 => some x
 | _ :: r, n + 1 => get? r n
def isNl : V → Bool
 | .nl _ => true
 | _ => false
def isMs (h : H) : V → Bool
 | .mp id => (match get? h id with
  | some (.ms _ _ _ _) => true
  | _ => false)
 | _ => false
def ptO (x : V) (j o : Nat) : V :=
 match x with
 | .d (.pt row off) => bif Nat.beq off 0 then .e row o else .p j o
 | _ => .p j o
def sub0 (id : Nat) (x : V) : V → V
 | .os j => bif Nat.beq j id then x else .os j
 | .p j o => bif Nat.beq j id then ptO x j o else .p j o
 | v => v
def subC (id : Nat) (x : V) : V → V
 | .fc f c => .fc f (c.map (sub0 id x))
 | v => sub0 id x v
def sub1 (id : Nat) (x : V) : V → V
 | .ag cs => .ag (cs.map (subC id x))
 | v => subC id x v
def sub2 (id : Nat) (x : V) : V → V
 | .tu vs => .tu (vs.map (sub1 id x))
 | v => sub1 id x v
def subT (id : Nat) (x : V) (t : T) : T := t.map fun p => match p with | (i, v) => (i, sub2 id x v)
def dOf : V → Option D
 | .d x => some x
 | _ => none
def allD : List V → Option (List D)
 | [] => some []
 | x :: r => match dOf x, allD r with
  | some a, some b => some (a :: b)
  | _, _ => none
def unx (z : Nat) (rs : List (List D)) (i : Nat) (row : List V) : B :=
 match allD row with
 | some ds => .rows z (rs.set i ds)
 | none => .rx z rs i row
def subB (id : Nat) (x : V) : B → B
 | .rx z rs i row => unx z rs i (row.map (subC id x))
 | .cells cs => .cells (cs.map (subC id x))
 | .mp es => .mp (es.map fun p => (sub1 id x p.1, sub1 id x p.2))
 | .ms z es out it => .ms z es (out.map fun p => (p.1, subC id x p.2)) it
 | b => b
def subH (id : Nat) (x : V) (h : H) : H := (h.map (subB id x)).set id .no
def kil0 (id : Nat) : V → V
 | .os j => bif Nat.beq j id then .un else .os j
 | .q j z i o => bif Nat.beq j id then .un else .q j z i o
 | .ov j z i => bif Nat.beq j id then .un else .ov j z i
 | v => v
def kilC (id : Nat) : V → V
 | .fc f c => .fc f (c.map (kil0 id))
 | v => kil0 id v
def kil1 (id : Nat) : V → V
 | .ag cs => .ag (cs.map (kilC id))
 | v => kilC id v
def kil2 (id : Nat) : V → V
 | .tu vs => .tu (vs.map (kil1 id))
 | v => kil1 id v
def kilT (id : Nat) (t : T) : T := t.map fun p => match p with | (i, v) => (i, kil2 id v)
def kilB (id : Nat) : B → B
 | .rx z rs i row => .rx z rs i (row.map (kilC id))
 | .cells cs => .cells (cs.map (kilC id))
 | .mp es => .mp (es.map fun p => (kil1 id p.1, kil1 id p.2))
 | .ms z es out it => .ms z es (out.map fun p => (p.1, kilC id p.2)) it
 | b => b
def stl (id : Nat) (t : T) (h : H) (K : T → H → Prop) : Prop :=
 match get? h id with
 | some (.ms z es (some (i, v)) it) => (match v with
  | .os n => (match get? h n with
   | some (.rows z' rs) => Nat.beq z z' = true ∧ ∀ b, flt (kilT n t) fun t => flb (((h.map (kilB n)).set n .no).set id (.ms z (mput i (some (b, rs)) es) none it)) fun h => K t h
   | _ => False)
  | _ => flb (h.set id (.ms z es none it)) fun h => K t h)
 | _ => K t h
def stls (l : List Nat) : T → H → (T → H → Prop) → Prop :=
 List.rec (motive := fun _ => T → H → (T → H → Prop) → Prop) (fun t h K => K t h) (fun i _ ih t h K => stl i t h fun t h => ih t h K) l
theorem stls_cons (i : Nat) (r : List Nat) (t : T) (h : H) (K : T → H → Prop) : stls (i :: r) t h K = stl i t h fun t h => stls r t h K := rfl
def isOut : B → Bool
 | .ms _ _ (some _) _ => true
 | _ => false
def msO (h : H) : List Nat := (h.zipIdx.filter fun p => isOut p.1).map (·.2)
def drI : B → B
 | .di es _ _ => .dm es
 | .ms z es out _ => .ms z es out none
 | b => b
def capD : V → Option D
 | .d x => some x
 | .e row off => some (.pt row off)
 | _ => none
def capsD : List V → Option (List D)
 | [] => some []
 | x :: r => match capD x, capsD r with
  | some a, some b => some (a :: b)
  | _, _ => none
def frz1 (x : V) (ih : T → H → (List D → T → H → Prop) → Prop) (t : T) (h : H) (K : List D → T → H → Prop) : Prop :=
 match x with
 | .d x => ih t h fun xs t h => K (x :: xs) t h
 | .cl z rs => ih t h fun xs t h => K (.sl z rs :: xs) t h
 | .fc f [] => ih t h fun xs t h => K (.fn f :: xs) t h
 | .fc f (c :: r) => match capsD (c :: r) with
  | some ds => ih t h fun xs t h => K (.fc f ds :: xs) t h
  | none => False
 | .os id =>
  match get? h id with
  | some (.rows z rs) => flt (subT id (.d (.sl z rs)) t) fun t => flb (subH id (.d (.sl z rs)) h) fun h => ih t h fun xs t h => K (.sl z rs :: xs) t h
  | _ => False
 | _ => False
def frz (l : List V) : T → H → (List D → T → H → Prop) → Prop :=
 List.rec (motive := fun _ => T → H → (List D → T → H → Prop) → Prop) (fun t h K => K [] t h) (fun x _ ih t h K => frz1 x ih t h K) l
theorem frz_cons (x : V) (r : List V) (t : T) (h : H) (K : List D → T → H → Prop) : frz (x :: r) t h K = frz1 x (frz r) t h K := rfl
def lay {α : Type} : List α → Nat → List α → List α
 | cs, 0, [] => cs
 | _ :: r, 0, v :: vs => v :: lay r 0 vs
 | [], _, _ => []
 | c :: r, n + 1, vs => c :: lay r n vs
def stq (id z i off n : Nat) (vs : List V) (t : T) (h : H) (K : T → H → Prop) : Prop :=
 frz vs t h fun ds t h => (match get? h id with
  | some (.rows z' rs) => ∃ row, rs[i]? = some row ∧ (Nat.beq z z' = true ∧ Nat.beq ds.length n = true ∧ Nat.ble (off + n) z = true) ∧ fl (h.set id (.rows z' (rs.set i (lay row off ds)))) fun h' => K t h'
  | _ => False)
def stx (id z i off n j : Nat) (h : H) (K : H → Prop) : Prop :=
 match get? h id with
 | some (.rows z' rs) => ∃ row, rs[i]? = some row ∧ (Nat.beq z z' = true ∧ Nat.beq 1 n = true ∧ Nat.ble (off + 1) z = true) ∧ flv (lay (row.map .d) off [V.os j]) fun row' => fl (h.set id (.rx z' rs i row')) fun h' => K h'
 | _ => False
def inR : IntKind → Int → Prop
 | .i8, n => -128 ≤ n ∧ n ≤ 127
 | .i16, n => -32768 ≤ n ∧ n ≤ 32767
 | .i32, n => -2147483648 ≤ n ∧ n ≤ 2147483647
 | .i64, n => -9223372036854775808 ≤ n ∧ n ≤ 9223372036854775807
 | .u8, n => 0 ≤ n ∧ n ≤ 255
 | .u16, n => 0 ≤ n ∧ n ≤ 65535
 | .u32, n => 0 ≤ n ∧ n ≤ 4294967295
 | .u64, n => 0 ≤ n ∧ n ≤ 18446744073709551615
def ari (k : IntKind) (n : Int) (K : Int → Prop) : Prop := (inR k n ∧ K n) ∨ K (k.wrap n)
def shf : BinOp → Bool
 | .shl | .shr => true
 | _ => false
def shv (op : BinOp) (k : IntKind) (a b : Int) : Int :=
 match op with
 | .shl => k.wrap (a * 2 ^ min b.toNat k.bits)
 | _ => a.fdiv (2 ^ min b.toNat k.bits)
def bitv (op : BinOp) (k : IntKind) (a b : Int) : Int :=
 match op with
 | .and => k.wrap (BitVec.ofInt k.bits a &&& BitVec.ofInt k.bits b).toNat
 | .or => k.wrap (BitVec.ofInt k.bits a ||| BitVec.ofInt k.bits b).toNat
 | .xor => k.wrap (BitVec.ofInt k.bits a ^^^ BitVec.ofInt k.bits b).toNat
 | _ => k.wrap (BitVec.ofInt k.bits a &&& ~~~BitVec.ofInt k.bits b).toNat
def idc : V → List Nat
 | .p i _ => [i]
 | .q i _ _ _ => [i]
 | .mp i => [i]
 | .os i => [i]
 | .ov i _ _ => [i]
 | .it i _ => [i]
 | _ => []
def id0 : V → List Nat
 | .fc _ c => c.flatMap idc
 | v => idc v
def id1 : V → List Nat
 | .ag c => c.flatMap id0
 | v => id0 v
def id2 : V → List Nat
 | .tu c => c.flatMap id1
 | v => id1 v
def idB : B → List Nat
 | .rx _ _ _ row => row.flatMap id0
 | .cells c => c.flatMap id0
 | .mp es => es.flatMap fun p => id1 p.1 ++ id1 p.2
 | .ms _ _ (some (_, v)) _ => id0 v
 | _ => []
def has (l : List Nat) (i : Nat) : Bool := l.any (Nat.beq i)
def reach (h : H) : Nat → List Nat → List Nat → List Nat
 | 0, _, acc => acc
 | _, [], acc => acc
 | n + 1, i :: r, acc => bif has acc i then reach h n r acc else reach h n (idB ((get? h i).getD .no) ++ r) (acc ++ [i])
def pos (ids : List Nat) (i : Nat) : Nat := ids.findIdx (Nat.beq i)
def rnc (f : Nat → Nat) : V → V
 | .p i o => .p (f i) o
 | .q i z j o => .q (f i) z j o
 | .mp i => .mp (f i)
 | .os i => .os (f i)
 | .ov i z j => .ov (f i) z j
 | .it i r => .it (f i) r
 | v => v
def rn0 (f : Nat → Nat) : V → V
 | .fc g c => .fc g (c.map (rnc f))
 | v => rnc f v
def rn1 (f : Nat → Nat) : V → V
 | .ag c => .ag (c.map (rn0 f))
 | v => rn0 f v
def rn2 (f : Nat → Nat) : V → V
 | .tu c => .tu (c.map (rn1 f))
 | v => rn1 f v
def rnB (f : Nat → Nat) : B → B
 | .rx z rs i row => .rx z rs i (row.map (rn0 f))
 | .cells c => .cells (c.map (rn0 f))
 | .mp es => .mp (es.map fun p => (rn1 f p.1, rn1 f p.2))
 | .ms z es out it => .ms z es (out.map fun p => (p.1, rn0 f p.2)) it
 | b => b
def back (ids : List Nat) (g : Nat → Nat) (h h' : H) : H :=
 (h.zipIdx.map fun p => bif has ids p.2 then rnB g ((get? h' (pos ids p.2)).getD .no) else p.1) ++ (h'.drop ids.length).map (rnB g)
def kils (l : List Nat) : T → (T → Prop) → Prop :=
 List.rec (motive := fun _ => T → (T → Prop) → Prop) (fun t K => K t) (fun i _ ih t K => flt (kilT i t) fun t => ih t K) l
theorem kils_cons (i : Nat) (r : List Nat) (t : T) (K : T → Prop) : kils (i :: r) t K = flt (kilT i t) fun t => kils r t K := rfl
def kilH : List Nat → H → H
 | [], h => h
 | i :: r, h => kilH r (h.map (kilB i))
def isRows : B → Bool
 | .rows _ _ => true
 | .rx _ _ _ _ => true
 | _ => false
def isNo : B → Bool
 | .no => true
 | _ => false
def rowsOf (h : H) (ids : List Nat) : List Nat := ids.filter fun i => isRows ((get? h i).getD .no)
def nodupb : List Nat → Bool
 | [] => true
 | i :: r => !(has r i) && nodupb r
def chk (h : H) (ids vids : List Nat) : Bool :=
 nodupb ids && (ids.all fun i => Nat.blt i h.length && !(isNo ((get? h i).getD .no)) && (idB ((get? h i).getD .no)).all (has ids)) && vids.all (has ids)
def home (n : Nat) (ids : List Nat) (i : Nat) : Nat := (get? ids i).getD (n + i - ids.length)
def clean : V → V
 | .cl z r => .d (.sl z r)
 | .fc f [] => .d (.fn f)
 | .nl z => .d (.sl z [])
 | v => v
def clean1 : V → V
 | .ag c => .ag (c.map clean)
 | v => clean v
def give1 (id : Nat) (ih : T → H → List V → (T → H → List V → Prop) → Prop) (t : T) (h : H) (vs : List V) (K : T → H → List V → Prop) : Prop :=
 match get? h id with
 | some (.rows z rs) => flt (subT id (.d (.sl z rs)) t) fun t => flb (subH id (.d (.sl z rs)) h) fun h => flv (vs.map (sub2 id (.d (.sl z rs)))) fun vs => ih t h vs K
 | some (.cells cs) => (match allD cs with
  | some ds => flt (subT id (.d (.pt ds 0)) t) fun t => flb (subH id (.d (.pt ds 0)) h) fun h => flv (vs.map (sub2 id (.d (.pt ds 0)))) fun vs => ih t h vs K
  | none => False)
 | _ => False
def give (l : List Nat) : T → H → List V → (T → H → List V → Prop) → Prop :=
 List.rec (motive := fun _ => T → H → List V → (T → H → List V → Prop) → Prop) (fun t h vs K => K t h vs) (fun i _ ih t h vs K => give1 i ih t h vs K) l
theorem give_cons (i : Nat) (r : List Nat) (t : T) (h : H) (vs : List V) (K : T → H → List V → Prop) : give (i :: r) t h vs K = give1 i (give r) t h vs K := rfl
def osc : V → List Nat
 | .os i => [i]
 | _ => []
def os1 : V → List Nat
 | .ag c => c.flatMap osc
 | v => osc v
def os2 : V → List Nat
 | .tu c => c.flatMap os1
 | v => os1 v
def borD : V → Option D
 | .d x => some x
 | .cl z r => some (.sl z r)
 | .nl z => some (.sl z [])
 | .fc f [] => some (.fn f)
 | _ => none
def borc (h : H) : V → V
 | .os i => (match get? h i with
  | some (.rows z rs) => .d (.sl z rs)
  | _ => .un)
 | .p i o => (match get? h i with
  | some (.cells cs) => (match cs.mapM borD with
   | some ds => .e ds o
   | none => .un)
  | _ => .un)
 | .q _ _ _ _ | .mp _ | .ov _ _ _ | .it _ _ => .un
 | v => v
def bor0 (h : H) : V → V
 | .fc f c => .fc f (c.map (borc h))
 | v => borc h v
def bor1 (h : H) : V → V
 | .ag c => .ag (c.map (bor0 h))
 | v => bor0 h v
def bor2 (h : H) : V → V
 | .tu _ => .un
 | v => bor1 h v
def scd : D → Bool
 | .sl _ _ | .fc _ _ | .pt _ _ => false
 | _ => true
def scl : V → Bool
 | .d x => scd x
 | _ => false
def scl2 : V → Bool
 | .tu c => c.all scl
 | v => scl v
def sclB : B → Bool
 | .rows _ rs => rs.all fun r => r.all scd
 | _ => false
def scl1 : V → Bool
 | .os _ => true
 | v => scl v
def sclo : V → Bool
 | .tu c => c.all scl1
 | v => scl1 v
def isRow : B → Bool
 | .rows _ _ => true
 | _ => false
def cst (P : Program) (t : TypeId) : Value → Option V
 | .int k n => some (.d (.int k n))
 | .bool b => some (.d (.bool b))
 | .string s => if s.size ≤ 1000000 then some (.d (.str s.data.toList)) else none
 | .slice none 0 0 => some (.nl (match P.underlying t with | some (.slice e) => P.cellsOf e | _ => 0))
 | .pointer none => some (.d .np)
 | .nilFunc => some (.d .nf)
 | .nilIface => some (.d .ni)
 | .map none => some (.d .nm)
 | _ => none
def opd (P : Program) (t : TypeId) : Operand → Option O
 | .tmp i => some (.s i)
 | .const v => (cst P t v).map .k
 | .func f => some (.k (.d (.fn f)))
 | .global g => some (.g g)
def isAg (P : Program) (t : TypeId) : Option Bool :=
 (P.underlying t).map fun | .struct _ | .array _ _ => true | _ => false
def ctys (P : Program) : Nat → TypeId → List TypeId
 | 0, _ => []
 | n + 1, t => match P.underlying t with
  | some (.struct fs) => fs.toList.flatMap fun f => ctys P n f.type
  | some (.array k e) => (List.replicate k (ctys P n e)).flatten
  | _ => [t]
def zer (P : Program) (t : TypeId) : Option (List V) := do
 let i ← P.info? t
 let z ← i.zero
 let ts := ctys P 20 t
 if ts.length = z.cells.size then (z.cells.toList.zip ts).mapM fun p => cst P p.2 p.1 else none
def ldn (P : Program) (t : TypeId) : Option (Option Nat) := do
 let i ← P.info? t
 if ← isAg P t then some (some i.size) else some none
def args (P : Program) : List Operand → List TypeId → Option (List O)
 | [], _ => some []
 | x :: r, t :: ts => do some ((← opd P t x) :: (← args P r ts))
 | x :: r, [] => do some ((← opd P 0 x) :: (← args P r []))
def flatFs (f : TypeId → Option (List Nat)) : Nat → List Field → Option (List Nat)
 | _, [] => some []
 | off, fd :: r => if fd.name = "_" || fd.offset != off then none else do
  let a ← f fd.type
  let b ← flatFs f (off + a.length) r
  some (a ++ b)
def flat (P : Program) : Nat → TypeId → Option (List Nat)
 | 0, _ => none
 | n + 1, t => match P.underlying t with
  | some (.int _) => some [0]
  | some .bool => some [1]
  | some .string => some [2]
  | some (.struct fs) => if P.stoodInHeld t then none else do
   let a ← flatFs (flat P n) 0 fs.toList
   if a.length = P.cellsOf t then some a else none
  | _ => none
def zval (P : Program) (t : TypeId) : Option V := do
 let zs ← zer P t
 let i ← P.info? t
 let z ← i.zero
 match z, zs with
 | .agg _, zs => some (.ag zs)
 | _, [x] => some x
 | _, _ => none
def isStr (P : Program) (t : TypeId) : Bool := match P.underlying t with
 | some .string => true
 | _ => false
def kys (P : Program) (t : TypeId) : Option (List Nat) :=
 match P.underlying t with
 | some (.int k) => some [0, kn k]
 | some .bool => some [1]
 | some .string => some [2]
 | some (.struct fs) => match fs.toList with
  | [f, g] => if (f.name != "_" && g.name != "_" && f.offset == 0 && g.offset == 1 && isStr P f.type && isStr P g.type && flat P 100 t == some [2, 2]) = true then some [9] else none
  | _ => none
 | _ => none
def dty (P : Program) : Nat → TypeId → Bool
 | 0, _ => false
 | n + 1, t => match P.underlying t with
  | some (.int _) | some .bool | some .string => true
  | some (.slice e) => dty P n e
  | some (.struct fs) => fs.toList.all fun f => dty P n f.type
  | _ => false
def isd : D → V → Bool
 | .bool a, .d (.bool b) => a == b
 | .int k a, .d (.int k' b) => Nat.beq (kn k) (kn k') && a == b
 | _, _ => false
def dof : V → Option D
 | .d x => some x
 | .nl z => some (.sl z [])
 | _ => none
def compO (P : Program) (ty : TypeId) : Op → Option X
 | .move x | .assign x => match x with
  | .const (.slice none 0 0) => some (.nil (match P.underlying ty with | some (.slice e) => P.cellsOf e | _ => 0))
  | x => (opd P ty x).map .mv
 | .pick c a b => do some (.pk (← opd P ty c) (← opd P ty a) (← opd P ty b))
 | .box t x => (opd P t x).map .bx
 | .alloc t => match P.underlying t with
  | some (.array m _) => if 64 ≤ m && m ≤ 1000000 then (do
    let zs ← zer P t
    match zs with
    | .d d :: _ => if zs.length = m && zs.all (isd d) then some (.aa d m) else none
    | _ => none) else (zer P t).map .al
  | _ => (zer P t).map .al
 | .build t ps => match P.underlying t with
  | some (.struct fs) => do
   let pl ← fs.toList.mapM fun f => (P.info? f.type).map fun i => (f.offset, i.size)
   let qs ← ps.toList.mapM fun (i, x) => do
    let f ← fs[i]?
    let q ← pl[i]?
    some (q.1, q.2, ← opd P f.type x)
   some (.bd (← zer P t) qs)
  | _ => none
 | .buildSlice t n ps => match P.underlying t with
  | some (.slice e) => do
   let qs ← ps.toList.mapM fun (i, x) => do some (i, ← opd P e x)
   let zs ← zer P e
   if n = 0 && qs.isEmpty && P.cellsOf e != 0 && zs.length = P.cellsOf e then some (.ns (P.cellsOf e)) else
   if P.cellsOf e = 0 || n * P.cellsOf e > 16777216 || n = 0 || zs.length != P.cellsOf e then none else some (.bs (P.cellsOf e) zs n qs)
  | _ => none
 | .load t x => match P.underlying t with
  | some (.array m e) => if 64 ≤ m then (if P.cellsOf e = 1 then (do
    let k ← ldn P t
    let ox ← opd P t x
    if k = some m then some (.la ox m) else none) else none) else do some (.ld (← opd P t x) (← ldn P t))
  | _ => do some (.ld (← opd P t x) (← ldn P t))
 | .store t x v => do some (.st (← opd P t x) (← opd P t v) (← (P.info? t).map (·.size)))
 | .fieldAddr t x f => match P.underlying t with
  | some (.struct fs) => do
   let f ← fs[f]?
   if P.cellsOf f.type = 0 then none else some (.fa (← opd P t x) f.offset)
  | _ => none
 | .indexAddr t x i => match P.underlying t with
  | some (.slice e) => if P.cellsOf e = 0 then none else do some (.ia (← opd P t x) (← opd P 0 i) (P.cellsOf e))
  | some (.array m e) => if P.cellsOf e = 0 then none else if 64 ≤ m then (if P.cellsOf e = 1 then (do some (.jq (← opd P t x) (← opd P 0 i) m)) else none) else do some (.ja (← opd P t x) (← opd P 0 i) (P.cellsOf e) m)
  | _ => none
 | .makeMap t none => match P.underlying t with
  | some (.map kt e) => match kys P kt with
   | some [9] => match P.underlying e with
    | some (.slice x) => if P.cellsOf x = 0 then none else some (.mm (P.cellsOf x + 2))
    | _ => none
   | _ => some (.mm (if dty P 20 e then 1 else 0))
  | _ => none
 | .range t x => match P.underlying t with
  | some (.map _ _) => (opd P t x).map .rg
  | _ => none
 | .next x false => (opd P 0 x).map .nx
 | .entry x => (opd P 0 x).map .en
 | .lookup t x k ok => match P.underlying t with
  | some (.map kt e) => do some (.ml (← opd P t x) (← opd P kt k) (← kys P kt) (← zval P e) ok)
  | _ => none
 | .mapUpdate t x k v | .insert t x k v => match P.underlying t with
  | some (.map kt e) => do some (.mu (← opd P t x) (← opd P kt k) (← opd P e v) (← kys P kt))
  | _ => none
 | .binOp op t x y u => match P.underlying t with
  | some (.int _) => do some (.bin op (← opd P t x) (← opd P u y))
  | some (.slice _) => match op, y with
   | .eql, .const (.slice none 0 0) => (opd P t x).map (.nq false)
   | .neq, .const (.slice none 0 0) => (opd P t x).map (.nq true)
   | _, _ => none
  | some (.interface _) => match op, y with
   | .eql, .const .nilIface => (opd P t x).map (.pu (.iq false))
   | .neq, .const .nilIface => (opd P t x).map (.pu (.iq true))
   | _, _ => none
  | some (.pointer _) => match op, y with
   | .eql, .const (.pointer none) => (opd P t x).map (.pu (.pq false))
   | .neq, .const (.pointer none) => (opd P t x).map (.pu (.pq true))
   | _, _ => none
  | uu => match op with
   | .add => match uu with
    | some .string => do some (.bin op (← opd P t x) (← opd P u y))
    | _ => none
   | .eql => if P.eqGuardType P.depth t then none else do
    let ks ← flat P 100 t
    some (.eq false (← isAg P t) ks (← opd P t x) (← opd P t y))
   | .neq => if P.eqGuardType P.depth t then none else do
    let ks ← flat P 100 t
    some (.eq true (← isAg P t) ks (← opd P t x) (← opd P t y))
   | _ => none
 | .unOp op t x => do some (.un op (← opd P t x))
 | .convert a b x => match P.underlying a, P.underlying b with
  | some (.int _), some (.int k) => (opd P a x).map (.cv k)
  | some (.slice e), some .string => match P.underlying e with
   | some (.int .u8) => (opd P a x).map .sb
   | _ => none
  | _, _ => none
 | .slice t x lo hi m => do
  let o (x : Option Operand) : Option (Option O) := match x with | none => some none | some x => (opd P 0 x).map some
  match P.underlying t with
  | some (.slice e) => if P.cellsOf e = 0 then none else some (.s3 (← opd P t x) (← o lo) (← o hi) (← o m) (P.cellsOf e))
  | some .string => match m with
   | none => some (.ss (← opd P t x) (← o lo) (← o hi))
   | some _ => none
  | _ => none
 | .nilCheck x => (opd P 0 x).map .nc
 | .index t x i => match P.underlying t with
  | some .string => do some (.ix (← opd P t x) (← opd P 0 i))
  | some (.array m e) => if isAg P e = some false && P.cellsOf e = 1 then (do some (.ai (← opd P t x) (← opd P 0 i) m)) else none
  | _ => none
 | .extract x i => do some (.ex (← opd P 0 x) i)
 | .makeInterface t x => match P.underlying t with
  | some (.interface _) => none
  | some _ => do
   let ag ← isAg P t
   if t < 1000000 then some (.pu (if ag then .mia (t + 2000000) else .mi (t + 3000000)) (← opd P t x)) else none
  | none => none
 | .typeAssert x _ t ok => match P.underlying t with
  | some (.interface _) => none
  | some _ => do
   let ag ← isAg P t
   if t < 1000000 then some (.pu (.ta t ag (← zval P t) ok) (← opd P t x)) else none
  | none => none
 | .field t x f => match P.underlying t with
  | some (.struct fs) => do
   let f ← fs[f]?
   some (.pu (.fd f.offset (← ldn P f.type)) (← opd P t x))
  | _ => none
 | .panic x => (opd P 0 x).map .pn
 | .makeSlice t l c => match P.underlying t with
  | some (.slice e) => do
   let zs ← zer P e
   let ds ← zs.mapM dof
   let i ← P.info? e
   if zs.length ≠ P.cellsOf e || P.cellsOf e = 0 then none else some (.mk ds (P.cellsOf e) i.bytes (← opd P 0 l) (← opd P 0 c))
  | _ => none
 | .makeFunc (.func f) first caps => if f < 1000000 then (if first.size = 0 then (args P caps.toList []).map (.mf f) else if caps.size = 0 then (args P first.toList []).map (.mf (f + 1000000)) else none) else none
 | .call c => match c.callee with
  | .value (.func f) => if f < 5000000 then (args P c.args.toList c.argTypes.toList).map (.cf f) else none
  | .value x => do some (.cc (← opd P 0 x) (← args P c.args.toList c.argTypes.toList))
  | .builtin .len => match c.args.toList, c.argTypes.toList with
   | [x], [u] => match P.underlying u with
    | some (.slice _) => (opd P u x).map .ln
    | some (.map _ _) => (opd P u x).map .lm
    | some .string => (opd P u x).map .ls
    | _ => none
   | _, _ => none
  | .builtin .clear => match c.args.toList, c.argTypes.toList with
   | [x], [t] => match P.underlying t with
    | some (.slice e) => do
     let zs ← zer P e
     let ds ← zs.mapM dof
     if zs.length ≠ P.cellsOf e || P.cellsOf e = 0 then none else some (.clr (← opd P t x) ds (P.cellsOf e))
    | _ => none
   | _, _ => none
  | .builtin .delete => match c.args.toList, c.argTypes.toList with
   | [x, k], [t, _] => match P.underlying t with
    | some (.map kt _) => do some (.md (← opd P t x) (← opd P kt k) (← kys P kt))
    | _ => none
   | _, _ => none
  | .builtin .min => match c.args.toList with
   | [x, y] => do some (.mn (← opd P 0 x) (← opd P 0 y))
   | _ => none
  | .builtin .max => match c.args.toList with
   | [x, y] => do some (.mx (← opd P 0 x) (← opd P 0 y))
   | _ => none
  | .builtin .append => match c.args.toList, c.argTypes.toList with
   | [x, y], [t, u] => match P.underlying t, P.underlying u with
    | some (.slice e), some (.slice _) => do
     let zs ← zer P e
     if zs.length ≠ P.cellsOf e || P.cellsOf e = 0 then none else some (.ap (← opd P t x) (← opd P u y) (P.cellsOf e) (← (P.info? e).map (·.bytes)))
    | _, _ => none
   | _, _ => none
  | _ => none
 | _ => none
def compI (P : Program) (n : Nat) (ops : Array Oper) (o : Oper) : Option I := do
 let x := (compO P o.type o.op).getD .bad
 if !((o.dst.getD 0).blt n) then none else
 match o.guard with
 | none => some ⟨o.dst, x, none⟩
 | some (j, w) => some ⟨o.dst, x, some (← (ops[j]?).bind (·.dst), w)⟩
def deps (o : Oper) : List Nat := (o.after.toList.filter fun e => Region.binds .any e).map (·.on)
def dd : List Nat → List Nat
 | [] => []
 | i :: l => bif has l i then dd l else i :: dd l
def befs (ds : List (List Nat)) : List (List Nat) :=
 ds.foldl (fun acc d => acc ++ [dd (d ++ d.flatMap fun i => (acc[i]?).getD [])]) []
def fullFrom : Nat → List (List Nat) → Bool
 | _, [] => true
 | k, b :: bs => (List.range k).all (has b) && fullFrom (k + 1) bs
def cutAt (bs : List (List Nat)) : Nat := ((List.range bs.length).find? fun m => fullFrom m (bs.drop m)).getD bs.length
def okS (m : Nat) (bs : List (List Nat)) : Bool := fullFrom m bs
def okB : Nat → List (List Nat) → Bool
 | _, [] => true
 | k, b :: bs => b.all (fun i => Nat.blt i k) && okB (k + 1) bs
def slo : O → List Nat
 | .s t => [t]
 | _ => []
def soo : Option O → List Nat
 | none => []
 | some o => slo o
def slots : X → List Nat
 | .mv x | .bx x | .ld x _ | .fa x _ | .un _ x | .cv _ x | .ln x | .ls x | .ex x _ | .nc x | .nq _ x | .clr x _ _ => slo x
 | .nil _ | .al _ | .ns _ | .mm _ | .bad => []
 | .lm x | .pu _ x | .pn x | .la x _ | .sb x | .rg x | .nx x | .en x => slo x
 | .aa _ _ => []
 | .jq x i _ | .ai x i _ => slo x ++ slo i
 | .mk _ _ _ x y => slo x ++ slo y
 | .ml x k _ _ _ | .md x k _ => slo x ++ slo k
 | .mu x k v _ => slo x ++ slo k ++ slo v
 | .pk a b c => slo a ++ slo b ++ slo c
 | .bd _ ps => ps.flatMap fun p => slo p.2.2
 | .bs _ _ _ ps => ps.flatMap fun p => slo p.2
 | .st x y _ | .ia x y _ | .ja x y _ _ | .bin _ x y | .eq _ _ _ x y | .mn x y | .mx x y | .ap x y _ _ | .ix x y => slo x ++ slo y
 | .s3 x a b c _ => slo x ++ soo a ++ soo b ++ soo c
 | .ss x a b => slo x ++ soo a ++ soo b
 | .cf _ xs | .mf _ xs => xs.flatMap slo
 | .cc x xs => slo x ++ xs.flatMap slo
def gslot : Option (Nat × Bool) → List Nat
 | none => []
 | some p => [p.1]
def okD (q : List (I × List Nat)) : Bool :=
  let z := q.zipIdx
  z.all fun a => z.all fun b => Nat.beq a.2 b.2 ||
    ((match a.1.1.d, b.1.1.d with | some x, some y => !(Nat.beq x y) | _, _ => true) &&
     (match b.1.1.d with | some y => !(has (slots a.1.1.o ++ gslot a.1.1.g) y) || has a.1.2 b.2 || has b.1.2 a.2 | none => true))
def noSel (o : Oper) : Bool := match o.op with
 | .select _ _ => false
 | _ => true
def apA (ops : Array Oper) (bs : List (List Nat)) (m : Nat) : Bool :=
 ops.toList.all noSel && (List.range m).all fun k => (List.range k).all fun i => has ((bs[k]?).getD []) i || (match ops[i]?, ops[k]? with
  | some x, some y => x.apart ops y
  | _, _ => false)
def nod (o : Oper) : Bool := match o.op with
 | .defer _ => false
 | _ => true
def comp (P : Program) (n : Nat) : Code → Option C
 | .skip => some .skip
 | .region _ ops false => bif ops.toList.all nod then (ops.toList.mapM (compI P n ops)).map .reg else some .bad
 | .region _ ops true => bif !ops.toList.all nod then some .bad else do
  let is ← ops.toList.mapM (compI P n ops)
  let bs := befs (ops.toList.map deps)
  let m := cutAt bs
  let q := (is.zip bs).take m
  if okB 0 bs && okD q && okS m (bs.drop m) && apA ops bs m then some (.rgd q (is.drop m)) else some .bad
 | .seq a b => do some (.seq (← comp P n a) (← comp P n b))
 | .cond c a b => do some (.cond (← opd P 0 c) (← comp P n a) (← comp P n b))
 | .block id c => do some (.block id (← comp P n c))
 | .loop c => do some (.loop (← comp P n c))
 | .exit id => some (.exit id)
 | .ret => some .ret
 | .rangeFunc g ps a b => bif Nat.ble P.funcs.size 5000000 && ps.toList.all (fun p => Nat.blt p n) then (match opd P 0 g with
  | some g => do some (.rf g ps.toList (← comp P n a) (← comp P n b))
  | none => some .bad) else some .bad
 | _ => some .bad
section
variable (S : Nat → List V → H → (Out → H → Prop) → Prop)   -- what a call comes to
variable (own : Nat → Bool)                                  -- functions that take what is owned
def callx (f : Nat) (vs : List V) (t : T) (h : H) (K : V → T → H → Prop) (KP : V → T → H → Prop) : Prop :=
 match vs.flatMap id2 with
 | [] => S f vs [] fun out h' => match h' with
  | [] => (match out with
   | .ret r => K r t h
   | .pan r => KP r t h)
  | b :: h' => flb (h ++ (b :: h').map (rnB fun i => h.length + i)) fun h1 => match out with
   | .ret r => K (rn2 (fun i => h.length + i) r) t h1
   | .pan r => KP (rn2 (fun i => h.length + i) r) t h1
 | i :: is => fln (reach h 100 (i :: is) []) fun ids => chk h ids (i :: is) = true ∧
   S f (vs.map (rn2 (pos ids))) (ids.map fun i => rnB (pos ids) ((get? h i).getD .no)) fun out h' =>
    fl (rowsOf h ids) fun os => kils os t fun t => flb (back ids (home h.length ids) (kilH os h) h') fun h1 => match out with
     | .ret r => K (rn2 (home h.length ids) r) t h1
     | .pan r => KP (rn2 (home h.length ids) r) t h1
def gcall (f : Nat) (vs : List V) (t : T) (h : H) (K : V → T → H → Prop) (KP : V → T → H → Prop) : Prop :=
 match vs.flatMap id2 with
 | [] => callx S f vs t h K KP
 | _ :: _ => (∃ r, S f (vs.map (bor2 h)) [] (fun out h => out = .ret r ∧ h = []) ∧ scl2 r = true ∧ K r t h) ∨
   lnt (fl (vs.flatMap os2) fun ids => give ids t h vs fun t h vs => callx S f vs t h K KP)
    (∃ r ns, (S f (vs.map (bor2 h)) [] fun out h' => out = .ret r ∧ h' = ns) ∧ (ns.all sclB && sclo r) = true ∧ fl (h ++ ns) fun h' => K (rn2 (fun k => h.length + k) r) t h')
def opx : X → T → H → (V → T → H → Prop) → (V → T → H → Prop) → Prop
  | .mv x, t, h, K, _ => K (gv t x) t h
  | .nil z, t, h, K, _ => fl (h ++ [.rows z []]) fun h' => fnat h.length fun n => K (.os n) t h'
  | .pk c a b, t, h, K, _ => match gv t c with
    | .d (.bool x) => sp x (K (gv t a) t h) (K (gv t b) t h)
    | _ => False
  | .bx x, t, h, K, _ => (gv t x).cs.all stor = true ∧ fl (gv t x).cs fun cs => fl (h ++ [.cells cs]) fun h' => fnat h.length fun n => K (.p n 0) t h'
  | .al cs, t, h, K, _ => fl (h ++ [.cells cs]) fun h' => fnat h.length fun n => K (.p n 0) t h'
  | .bd zero parts, t, h, K, _ => fl (parts.foldl (fun cs p => lay cs p.1 (gv t p.2.2).cs) zero) fun cs =>
      (parts.all fun p => Nat.beq (gv t p.2.2).cs.length p.2.1 && Nat.ble (p.1 + p.2.1) zero.length && (gv t p.2.2).cs.all stor) = true ∧ K (.ag cs) t h
  | .bs z zero n parts, t, h, K, _ => fl (parts.foldl (fun cs p => lay cs (p.1 * z) (gv t p.2).cs) (List.replicate n zero).flatten) fun cs =>
      (parts.all fun p => Nat.beq (gv t p.2).cs.length z && Nat.ble (p.1 * z + z) (n * z) && (gv t p.2).cs.all stor) = true ∧
        frz cs t h fun ds t h => fl (chunk z n ds) fun rows => bsn (fl (h ++ [.rows z rows]) fun h' => fnat h.length fun id => K (.os id) t h') (K (.d (.sl z rows)) t h)
  | .ld x n, t, h, K, _ => match gv t x with
    | .p id off => (match get? h id with
      | some (.cells cs) => (match n with
        | none => (match get? cs off with | some v => K v t h | none => False)
        | some n => fl ((cs.drop off).take n) fun cs => Nat.beq cs.length n = true ∧ K (.ag cs) t h)
      | _ => False)
    | .e row off => (match n with
      | none => (match get? row off with | some v => K (.d v) t h | none => False)
      | some n => fl (((row.drop off).take n).map .d) fun cs => Nat.beq cs.length n = true ∧ K (.ag cs) t h)
    | .q id z i off => (match get? h id with
      | some (.rows z' rs) => Nat.beq z z' = true ∧ ∃ row, rs[i]? = some row ∧ (match n with
        | none => (match get? row off with | some v => K (.d v) t h | none => False)
        | some n => fl (((row.drop off).take n).map .d) fun cs => Nat.beq cs.length n = true ∧ K (.ag cs) t h)
      | some (.rx z' _ i' row) => (Nat.beq z z' = true ∧ i = i') ∧ (match n with
        | none => (match get? row off with | some v => K v t h | none => False)
        | some _ => False)
      | _ => False)
    | _ => False
  | .st x v n, t, h, K, _ => match gv t x with
    | .p id off => (match get? h id with
      | some (.cells cs) => fl (lay cs off (gv t v).cs) fun cs' => fl (h.set id (.cells cs')) fun h' =>
          (Nat.beq (gv t v).cs.length n = true ∧ Nat.ble (off + n) cs.length = true ∧ (gv t v).cs.all stor = true) ∧ K .ud t h'
      | _ => False)
    | .q id z i off => (match gv t v with
      | .os j => rxn (stx id z i off n j h fun h => K .ud t h) (stq id z i off n [.os j] t h fun t h => K .ud t h)
      | v => stq id z i off n v.cs t h fun t h => K .ud t h)
    | _ => False
  | .fa x off, t, h, K, _ => match gv t x with
    | .p id o => fnat (o + off) fun o => K (.p id o) t h
    | .e row o => fnat (o + off) fun o => K (.e row o) t h
    | .q id z i o => fnat (o + off) fun o => K (.q id z i o) t h
    | _ => False
  | .ia x i z, t, h, K, _ => match gv t i with
    | .d (.int _ n) => (match gv t x with
      | .d (.sl z' rows) | .cl z' rows => ∃ row, (0 ≤ n ∧ rows[n.toNat]? = some row ∧ Nat.beq z' z = true) ∧ K (.e row 0) t h
      | .os id => (match get? h id with
        | some (.rows z' rs) => (0 ≤ n ∧ n < rs.length ∧ Nat.beq z' z = true) ∧ K (.q id z n.toNat 0) t h
        | _ => False)
      | _ => False)
    | _ => False
  | .bin op x y, t, h, K, _ => match gv t x, gv t y with
    | .d (.str a), .d (.str b) => (match op with
      | .add => a.length + b.length ≤ 9223372036854775807 ∧ K (.d (.str (a ++ b))) t h
      | _ => False)
    | .d (.int k a), .d (.int k' b) => bif shf op then (0 ≤ b ∧ K (.d (.int k (shv op k a b))) t h) else bif Nat.beq (kn k) (kn k') then (match op with
      | .add => ari k (a + b) fun n => K (.d (.int k n)) t h
      | .sub => ari k (a - b) fun n => K (.d (.int k n)) t h
      | .mul => ari k (a * b) fun n => K (.d (.int k n)) t h
      | .quo => b ≠ 0 ∧ ari k (a.tdiv b) fun n => K (.d (.int k n)) t h
      | .rem => b ≠ 0 ∧ K (.d (.int k (a.tmod b))) t h
      | .and => K (.d (.int k (bitv .and k a b))) t h
      | .or => K (.d (.int k (bitv .or k a b))) t h
      | .xor => K (.d (.int k (bitv .xor k a b))) t h
      | .andNot => K (.d (.int k (bitv .andNot k a b))) t h
      | .eql => K (.d (.bool (a == b))) t h
      | .neq => K (.d (.bool (a != b))) t h
      | .lss => K (.d (.bool (decide (a < b)))) t h
      | .leq => K (.d (.bool (decide (a ≤ b)))) t h
      | .gtr => K (.d (.bool (decide (b < a)))) t h
      | .geq => K (.d (.bool (decide (b ≤ a)))) t h
      | _ => False) else False
    | _, _ => False
  | .eq ne st ks x y, t, h, K, _ => ((gv t x).isag = st ∧ (gv t y).isag = st) ∧ eqx ks (gv t x).cs (gv t y).cs fun e => K (.d (.bool (bif ne then !e else e))) t h
  | .un op x, t, h, K, _ => match gv t x, op with
    | .d (.bool b), .not => K (.d (.bool (!b))) t h
    | .d (.int k a), .neg => ari k (-a) fun n => K (.d (.int k n)) t h
    | _, _ => False
  | .cv k x, t, h, K, _ => match gv t x with
    | .d (.int _ a) => ari k a fun n => K (.d (.int k n)) t h
    | _ => False
  | .ln x, t, h, K, _ => match dv (gv t x) with
    | .d (.sl _ r) | .cl _ r => r.length ≤ 9223372036854775807 → K (.d (.int .i64 r.length)) t h
    | .os id => (match get? h id with
      | some (.rows _ r) => r.length ≤ 9223372036854775807 → K (.d (.int .i64 r.length)) t h
      | _ => False)
    | _ => False
  | .ls x, t, h, K, _ => match gv t x with
    | .d (.str s) => s.length ≤ 9223372036854775807 → K (.d (.int .i64 s.length)) t h
    | _ => False
  | .mn x y, t, h, K, _ => match gv t x, gv t y with
    | .d (.int k a), .d (.int _ b) => K (.d (.int k (min a b))) t h
    | _, _ => False
  | .mx x y, t, h, K, _ => match gv t x, gv t y with
    | .d (.int k a), .d (.int _ b) => K (.d (.int k (max a b))) t h
    | _, _ => False
  | .s3 x lo hi m z, t, h, K, _ =>
    match (match lo with | some lo => gv t lo | none => .d (.int .i64 0)), hi, m with
    | .d (.int _ l), none, none => (match dv (gv t x) with
      | .d (.sl z' r) | .cl z' r => (0 ≤ l ∧ l ≤ r.length ∧ Nat.beq z' z = true) ∧ K (.d (.sl z (r.drop l.toNat))) t h
      | .os id => (match get? h id with
        | some (.rows z' r) => (0 ≤ l ∧ l ≤ r.length ∧ Nat.beq z' z = true) ∧ K (.ov id z l.toNat) t h
        | _ => False)
      | _ => False)
    | .d (.int _ l), some hi, none => (match gv t hi with
      | .d (.int _ u) => (match dv (gv t x) with
        | .d (.sl z' r) | .cl z' r => (0 ≤ l ∧ l ≤ u ∧ u ≤ r.length ∧ Nat.beq z' z = true) ∧ K (.d (.sl z ((r.take u.toNat).drop l.toNat))) t h
        | .os id => (match get? h id with
          | some (.rows z' r) => (0 ≤ l ∧ l ≤ u ∧ u ≤ r.length ∧ Nat.beq z' z = true) ∧ flt (subT id (.d (.sl z r)) t) fun t => flb (subH id (.d (.sl z r)) h) fun h => K (.d (.sl z ((r.take u.toNat).drop l.toNat))) t h
          | _ => False)
        | _ => False)
      | _ => False)
    | .d (.int _ l), some hi, some m => (match gv t hi, gv t m with
      | .d (.int _ u), .d (.int _ v) => (match dv (gv t x) with
        | .d (.sl z' r) | .cl z' r => (0 ≤ l ∧ l ≤ u ∧ u = v ∧ u ≤ r.length ∧ Nat.beq z' z = true) ∧ K (.cl z ((r.take u.toNat).drop l.toNat)) t h
        | _ => False)
      | _, _ => False)
    | _, _, _ => False
  | .ss x lo hi, t, h, K, _ =>
    match (match lo with | some lo => gv t lo | none => .d (.int .i64 0)), hi with
    | .d (.int _ l), none => (match gv t x with
      | .d (.str r) => (0 ≤ l ∧ l ≤ r.length) ∧ K (.d (.str (r.drop l.toNat))) t h
      | _ => False)
    | .d (.int _ l), some hi => (match gv t hi with
      | .d (.int _ u) => (match gv t x with
        | .d (.str r) => (0 ≤ l ∧ l ≤ u ∧ u ≤ r.length) ∧ K (.d (.str ((r.take u.toNat).drop l.toNat))) t h
        | _ => False)
      | _ => False)
    | _, _ => False
  | .ap x y z bytes, t, h, K, _ => match dv (gv t y) with
    | .d (.sl z' ys) | .cl z' ys => (match nlv t x with
      | .os id => (match get? h id with
        | some (.rows z'' rs) => (Nat.beq z z'' = true ∧ Nat.beq z z' = true ∧ rs.length + ys.length ≤ 9223372036854775807 ∧ (rs.length + ys.length) * bytes ≤ 140737488355328) ∧
            flt (kilT id t) fun t => flb ((h.map (kilB id)).set id (.rows z (rs ++ ys))) fun h => K (.os id) t h
        | _ => False)
      | .nl _ => (Nat.beq z z' = true ∧ ys.length ≤ 9223372036854775807 ∧ ys.length * bytes ≤ 140737488355328) ∧ apn (fl (h ++ [.rows z ys]) fun h' => fnat h.length fun n => K (.os n) t h') (K (.d (.sl z ys)) t h)
      | .cl z'' rs => (Nat.beq z z'' = true ∧ Nat.beq z z' = true ∧ rs.length + ys.length ≤ 9223372036854775807 ∧ (rs.length + ys.length) * bytes ≤ 140737488355328) ∧ K (.d (.sl z (rs ++ ys))) t h
      | _ => False)
    | _ => False
  | .cf f args, t, h, K, KP =>
    fl (args.map fun a => clean1 (gv t a)) fun vs => bif own f then callx S f vs t h K KP else gcall S f vs t h K KP
  | .cc x args, t, h, K, KP => match fcD (gv t x) with
    | .fc f caps => bif Nat.blt f 1000000 then fl ((args.map fun a => clean1 (gv t a)) ++ caps) fun vs => gcall S f vs t h K KP
        else bif Nat.blt f 2000000 then fl (caps ++ args.map fun a => clean1 (gv t a)) fun vs => gcall S (f - 1000000) vs t h K KP else False
    | .d (.fn f) => bif Nat.blt f 5000000 then fl (args.map fun a => clean1 (gv t a)) fun vs => gcall S f vs t h K KP else False
    | _ => False
  | .mf f caps, t, h, K, _ => ((Nat.blt f 1000000 || !caps.isEmpty) && caps.all fun x => capb (gv t x)) = true ∧ fl (caps.map (gv t)) fun cs => K (.fc f cs) t h
  | .ex x i, t, h, K, _ => match gv t x with
    | .tu vs => (match get? vs i with | some v => K v t h | none => False)
    | _ => False
  | .nc x, t, h, K, _ => match gv t x with
    | .p i o => K (.p i o) t h
    | .e r o => K (.e r o) t h
    | .q i z j o => K (.q i z j o) t h
    | .fc f c => bif Nat.blt f 2000000 then K (.fc f c) t h else False
    | .d (.fn f) => K (.d (.fn f)) t h
    | .d (.pt row off) => K (.e row off) t h
    | _ => False
  | .nq ne x, t, h, K, _ => match gv t x with
    | .d (.sl _ r) | .cl _ r => (match r with
      | [] => K (.d (.bool true)) t h ∧ K (.d (.bool false)) t h
      | _ :: _ => K (.d (.bool ne)) t h)
    | .os id => (match get? h id with
      | some (.rows _ r) => (match r with
        | [] => K (.d (.bool true)) t h ∧ K (.d (.bool false)) t h
        | _ :: _ => K (.d (.bool ne)) t h)
      | _ => False)
    | _ => False
  | .ns z, t, h, K, _ => fl (h ++ [.rows z []]) fun h' => fnat h.length fun n => K (.os n) t h'
  | .clr x zs z, t, h, K, _ => match gv t x with
    | .ov id z' i => (match get? h id with
      | some (.rows z'' r) => (Nat.beq z' z = true ∧ Nat.beq z'' z = true ∧ Nat.ble i r.length = true) ∧ fl (h.set id (.rows z (r.take i ++ List.replicate (r.length - i) zs))) fun h => K (.tu []) t h
      | _ => False)
    | _ => False
  | .ix x i, t, h, K, _ => match gv t x, gv t i with
    | .d (.str s), .d (.int _ n) => ∃ b, (0 ≤ n ∧ s[n.toNat]? = some b) ∧ K (.d (.int .u8 b.toNat)) t h
    | _, _ => False
  | .ja x i z m, t, h, K, _ => match gv t i with
    | .d (.int _ n) => (match gv t x with
      | .e row off => ∃ sub, (0 ≤ n ∧ (chunk z m (row.drop off))[n.toNat]? = some sub ∧ Nat.ble (off + m * z) row.length = true) ∧ K (.e sub 0) t h
      | .p id off => (0 ≤ n ∧ n < m) ∧ fnat (off + n.toNat * z) fun o => K (.p id o) t h
      | _ => False)
    | _ => False
  | .mm pl, t, h, K, _ => fl (h ++ [mmB pl]) fun h' => fnat h.length fun n => K (.mp n) t h'
  | .ml x k ks zero ok, t, h, K, _ => match gv t x with
    | .mp id => (match get? h id with
      | some (.mp es) => keyb ks (gv t k) = true ∧ ∃ r, fnd ks (gv t k).cs es 0 = some r ∧ (match r with
        | some (_, v) => (stom v = true) ∧ K (bif ok then .tu [v, .d (.bool true)] else v) t h
        | none => K (bif ok then .tu [zero, .d (.bool false)] else zero) t h)
      | some (.dm es) => keyb ks (gv t k) = true ∧ ∃ r, fnd ks (gv t k).cs (mpOf es) 0 = some r ∧ (match r with
        | some (_, v) => (stom v = true) ∧ K (bif ok then .tu [v, .d (.bool true)] else v) t h
        | none => K (bif ok then .tu [zero, .d (.bool false)] else zero) t h)
      | some (.di es _ _) => keyb ks (gv t k) = true ∧ ∃ r, fnd ks (gv t k).cs (mpOf es) 0 = some r ∧ (match r with
        | some (_, v) => (stom v = true) ∧ K (bif ok then .tu [v, .d (.bool true)] else v) t h
        | none => K (bif ok then .tu [zero, .d (.bool false)] else zero) t h)
      | some (.ms _ _ _ _) => ok = false ∧ stl id t h fun t h => (match get? h id, kst (gv t k) with
        | some (.ms z es none it), some key => Nat.beq (ks.headD 0) 9 = true ∧
          ((∃ i b rs, (mfi key es = some i ∧ (es[i]?).map (·.2) = some (some (b, rs))) ∧ fl (h.set id (.ms z (mput i none es) (some (i, .os h.length)) it) ++ [.rows z rs]) fun h' => fnat h.length fun n => K (.os n) t h') ∨
           ((mfi key es = none ∧ isNl zero = true) ∧ fl (h ++ [.rows z []]) fun h' => fnat h.length fun n => K (.os n) t h'))
        | _, _ => False)
      | _ => False)
    | .d .nm => keyb ks (gv t k) = true ∧ K (bif ok then .tu [zero, .d (.bool false)] else zero) t h
    | _ => False
  | .mu x k v ks, t, h, K, _ => match gv t x with
    | .mp id => (match get? h id with
      | some (.mp es) => (stom (gv t v) = true ∧ keyb ks (gv t k) = true) ∧ ∃ r, fnd ks (gv t k).cs es 0 = some r ∧ (match r with
        | some (i, _) => fl (h.set id (.mp (es.set i (gv t k, gv t v)))) fun h => K .ud t h
        | none => fl (h.set id (.mp (es ++ [(gv t k, gv t v)]))) fun h => K .ud t h)
      | some (.dm _) => (match gv t k with
        | .d kd => (((gv t v).cs.all stor && ((gv t v).isag || capb (gv t v))) = true ∧ keyb ks (.d kd) = true) ∧ frz (gv t v).cs t h fun ds t' h' => (match get? h' id with
          | some (.dm es) => ∃ r, fnd ks [.d kd] (mpOf es) 0 = some r ∧ (match r with
            | some (i, _) => fl (h'.set id (.dm (es.set i (kd, (gv t v).isag, ds)))) fun h => K .ud t' h
            | none => fl (h'.set id (.dm (es ++ [(kd, (gv t v).isag, ds)]))) fun h => K .ud t' h)
          | _ => False)
        | _ => False)
      | some (.ms z es out it) => (match kst (gv t k), nlv t v with
        | some key, .os m => (match get? h m with
          | some (.rows z' rs) => (Nat.beq z z' = true ∧ Nat.beq (ks.headD 0) 9 = true) ∧
            ((∃ i, (mfi key es = some i ∧ ∀ j v, out = some (j, v) → j = i) ∧ ∀ b, flt (kilT m t) fun t => flb (((h.map (kilB m)).set m .no).set id (.ms z (mput i (some (b, rs)) es) none it)) fun h => K .ud t h) ∨
             ((mfi key es = none ∧ out = none ∧ it = none) ∧ ∀ b, flt (kilT m t) fun t => flb (((h.map (kilB m)).set m .no).set id (.ms z (es ++ [(key, some (b, rs))]) none none)) fun h => K .ud t h))
          | _ => False)
        | some key, .nl z' => (Nat.beq z z' = true ∧ Nat.beq (ks.headD 0) 9 = true) ∧
            ((∃ i, (mfi key es = some i ∧ ∀ j v, out = some (j, v) → j = i) ∧ fl (h.set id (.ms z (mput i (some (none, [])) es) none it)) fun h => K .ud t h) ∨
             ((mfi key es = none ∧ out = none ∧ it = none) ∧ fl (h.set id (.ms z (es ++ [(key, some (none, []))]) none none)) fun h => K .ud t h))
        | _, _ => False)
      | _ => False)
    | _ => False
  | .md x k ks, t, h, K, _ => match gv t x with
    | .mp id => (match get? h id with
      | some (.mp es) => keyb ks (gv t k) = true ∧ ∃ r, fnd ks (gv t k).cs es 0 = some r ∧ (match r with
        | some (i, _) => fl (h.set id (.mp (es.eraseIdx i))) fun h => K (.tu []) t h
        | none => K (.tu []) t h)
      | some (.dm es) => keyb ks (gv t k) = true ∧ ∃ r, fnd ks (gv t k).cs (mpOf es) 0 = some r ∧ (match r with
        | some (i, _) => fl (h.set id (.dm (es.eraseIdx i))) fun h => K (.tu []) t h
        | none => K (.tu []) t h)
      | some (.ms z es none none) => (match kst (gv t k) with
        | some key => Nat.beq (ks.headD 0) 9 = true ∧ ∃ r, mfi key es = r ∧ (match r with
          | some i => fl (h.set id (.ms z (es.eraseIdx i) none none)) fun h => K (.tu []) t h
          | none => K (.tu []) t h)
        | none => False)
      | _ => False)
    | _ => False
  | .lm x, t, h, K, _ => match gv t x with
    | .mp id => (match get? h id with
      | some (.mp es) => K (.d (.int .i64 es.length)) t h
      | some (.dm es) => K (.d (.int .i64 es.length)) t h
      | some (.di es _ _) => K (.d (.int .i64 es.length)) t h
      | some (.ms _ es _ _) => K (.d (.int .i64 es.length)) t h
      | _ => False)
    | .d .nm => K (.d (.int .i64 0)) t h
    | _ => False
  | .rg x, t, h, K, _ => match gv t x with
    | .mp id => (match get? h id with
      | some (.dm es) => ∀ r, fl (h.set id (.di es r (List.range es.length, none))) fun h => fnat id fun id => K (.it id r) t h
      | some (.ms _ _ _ none) => stl id t h fun t h => (match get? h id with
        | some (.ms z es none none) => ∀ r, fl (h.set id (.ms z es none (some (r, List.range es.length, none)))) fun h => fnat id fun id => K (.it id r) t h
        | _ => False)
      | _ => False)
    | _ => False
  | .nx x, t, h, K, _ => match gv t x with
    | .it id r => (match get? h id with
      | some (.di es r' (left, _)) => r = r' ∧ (left = [] → fl (h.set id (.dm es)) fun h => K (.tu [.d (.bool false)]) t h) ∧
          ∀ i, i ∈ left → fl (h.set id (.di es r' (left.erase i, some i))) fun h => K (.tu [.d (.bool true), .un, .un]) t h
      | some (.ms _ _ _ _) => stl id t h fun t h => (match get? h id with
        | some (.ms z es none (some (r', left, _))) => r = r' ∧ (left = [] → fl (h.set id (.ms z es none none)) fun h => K (.tu [.d (.bool false)]) t h) ∧
          ∀ i, i ∈ left → fl (h.set id (.ms z es none (some (r', left.erase i, some i)))) fun h => K (.tu [.d (.bool true), .un, .un]) t h
        | _ => False)
      | _ => False)
    | _ => False
  | .en x, t, h, K, _ => match gv t x with
    | .it id r => (match get? h id with
      | some (.di es r' (_, some i)) => ∃ e, (r = r' ∧ es[i]? = some e) ∧ K (.tu [.d e.1, toV e.2]) t h
      | some (.ms z es none (some (r', left, some i))) => ∃ k b rs, (r = r' ∧ es[i]? = some (k, some (b, rs))) ∧ fl (h.set id (.ms z (mput i none es) (some (i, .os h.length)) (some (r', left, some i))) ++ [.rows z rs]) fun h' => fnat h.length fun n => K (.tu [kag k, .os n]) t h'
      | _ => False)
    | _ => False
  | .pu f x, t, h, K, _ => match pu f (gv t x) with
    | some v => K v t h
    | none => False
  | .pn x, t, h, _, KP => match gv t x with
    | .fc F cs => bif Nat.ble 2000000 F then KP (.fc F cs) t h else False
    | _ => False
  | .mk zs z b l c, t, h, K, _ => match gv t l, gv t c with
    | .d (.int _ l), .d (.int _ c) => (0 ≤ l ∧ l ≤ c ∧ c * b ≤ 140737488355328 ∧ c ≤ 9223372036854775807) ∧ fl (h ++ [.rows z (List.replicate l.toNat zs)]) fun h' => fnat h.length fun n => K (.os n) t h'
    | _, _ => False
  | .aa d m, t, h, K, _ => fl (h ++ [.rows 1 (List.replicate m [d])]) fun h' => fnat h.length fun n => K (.q n 1 0 0) t h'
  | .la x m, t, h, K, _ => match gv t x with
    | .q id z i off => (match get? h id with
      | some (.rows z' rs) => (Nat.beq z 1 && Nat.beq z' 1 && Nat.beq i 0 && Nat.beq off 0) = true ∧ ∃ ds : List D, (rs = (ds.map fun d => [d]) ∧ ds.length = m) ∧ K (.ag (ds.map .d)) t h
      | _ => False)
    | _ => False
  | .jq x i m, t, h, K, _ => match gv t x, gv t i with
    | .q id z j off, .d (.int _ n) => (Nat.beq z 1 && Nat.beq j 0 && Nat.beq off 0) = true ∧ (0 ≤ n ∧ n < m) ∧ K (.q id 1 n.toNat 0) t h
    | _, _ => False
  | .ai x i m, t, h, K, _ => match gv t x, gv t i with
    | .ag cs, .d (.int _ n) => ∃ v : D, (0 ≤ n ∧ n < m ∧ cs[n.toNat]? = some (.d v)) ∧ K (.d v) t h
    | _, _ => False
  | .sb x, t, h, K, _ => match dv (gv t x) with
    | .d (.sl _ r) | .cl _ r => ∃ s : List UInt8, (r = s.map fun b => [D.int .u8 b.toNat]) ∧ K (.d (.str s)) t h
    | .os id => (match get? h id with
      | some (.rows _ r) => ∃ s : List UInt8, (r = s.map fun b => [D.int .u8 b.toNat]) ∧ K (.d (.str s)) t h
      | _ => False)
    | _ => False
  | .bad, _, _, _, _ => False
def qx : X → T → H → (V → Prop) → Prop
 | .ln x, t, h, K => match dv (gv t x) with
  | .d (.sl _ r) | .cl _ r => K (.d (.int .i64 r.length))
  | .os id => (match get? h id with
   | some (.rows _ r) => K (.d (.int .i64 r.length))
   | _ => False)
  | _ => False
 | .ls x, t, _, K => match gv t x with
  | .d (.str s) => K (.d (.int .i64 s.length))
  | _ => False
 | .cf f args, t, _, K => fl (args.map fun a => clean1 (gv t a)) fun vs =>
   ((vs.flatMap id2).isEmpty = true) ∧ ∃ r, (S f vs [] fun out h => out = .ret r ∧ h = []) ∧ K r
 | .bs z zero n parts, t, _, K => fl (parts.foldl (fun cs p => lay cs (p.1 * z) (gv t p.2).cs) (List.replicate n zero).flatten) fun cs =>
   (parts.all fun p => Nat.beq (gv t p.2).cs.length z && Nat.ble (p.1 * z + z) (n * z) && (gv t p.2).cs.all stor) = true ∧
    frz cs [] [] fun ds _ _ => fl (chunk z n ds) fun rows => K (.d (.sl z rows))
 | .ap x y z b, t, h, K => match nlv t x with
  | .cl z' r => opx S own (.ap (.k (.cl z' r)) y z b) t h (fun v _ _ => K v) fun _ _ _ => False
  | .nl _ => (match dv (gv t y) with
   | .d (.sl z' ys) | .cl z' ys => (Nat.beq z z' = true ∧ ys.length ≤ 9223372036854775807 ∧ ys.length * b ≤ 140737488355328) ∧ K (.d (.sl z ys))
   | _ => False)
  | _ => False
 | .s3 x lo hi m z, t, h, K => match gv t x with
  | .os _ => False
  | _ => opx S own (.s3 x lo hi m z) t h (fun v _ _ => K v) fun _ _ _ => False
 | .nil _, _, _, _ | .ns _, _, _, _ | .bx _, _, _, _ | .al _, _, _, _ | .st _ _ _, _, _, _ | .cc _ _, _, _, _ | .nq _ _, _, _, _ | .clr _ _ _, _, _, _ | .mm _, _, _, _ | .mu _ _ _ _, _, _, _ | .md _ _ _, _, _, _ | .pn _, _, _, _ | .mk _ _ _ _ _, _, _, _ | .rg _, _, _, _ | .nx _, _, _, _ | .en _, _, _, _ | .aa _ _, _, _, _ | .la _ _, _, _, _ | .jq _ _ _, _, _, _ | .ai _ _ _, _, _, _ | .sb _, _, _, _ => False
 | .ml x k ks zero ok, t, h, K => bif isMs h (gv t x) then False else opx S own (.ml x k ks zero ok) t h (fun v _ _ => K v) fun _ _ _ => False
 | x, t, h, K => opx S own x t h (fun v _ _ => K v) fun _ _ _ => False
def cal : List (I × List Nat) → Nat
 | [] => 0
 | i :: r => match i.1.o with
  | .al _ => cal r + 1
  | .mm _ => cal r + 1
  | _ => cal r
structure Lg where
 lr : List (Nat × Nat)
 lw : List (Nat × Nat)
 lk : List (Nat × Nat)
 fr : List Nat
 p : Nat
 ct : List (Nat × B)
def Lg.put (g : Lg) (rd : List Nat) (ws : List (Nat × B)) (kl fr : List Nat) : Lg :=
 ⟨rd.map (fun i => (i, g.p)) ++ g.lr, ws.map (fun w => (w.1, g.p)) ++ g.lw, kl.map (fun i => (i, g.p)) ++ g.lk, fr, g.p + 1, ws ++ g.ct⟩
def okL (l : List (Nat × Nat)) (bef ids : List Nat) : Bool := l.all fun e => has bef e.2 || !(has ids e.1)
def okW (g : Lg) (bef wr : List Nat) : Bool := okL g.lw bef wr && okL g.lr bef wr
noncomputable def rds : X → T → List Nat
 | .ld x _, t | .ml x _ _ _ _, t | .lm x, t => idc (gv t x)
 | .ia x _ _, t | .ln x, t => osc (gv t x)
 | _, _ => []
def keepH (rd : List Nat) (a : H) : H := a.zipIdx.map fun p => bif has rd p.2 then p.1 else .no
def gm (ids nf : List Nat) (k : Nat) : Nat := (get? ids k).getD ((get? nf (k - ids.length)).getD 0)
def gt (k : Nat) (nf : List Nat) (i : Nat) : Nat := (get? nf (i - k)).getD 0
def isNw : B → Bool
 | .nw => true
 | _ => false
def free (kl l : List Nat) : Bool := l.all fun i => !(has kl i)
def tcl (t : T) (kl : List Nat) : Bool := kl.isEmpty || t.all fun p => free kl (id2 p.2)
def hcl (h : H) (ids kl : List Nat) : Bool := kl.isEmpty || h.zipIdx.all fun p => has ids p.2 || free kl (idB p.1)
def ccl (l : List (Nat × B)) (ids kl : List Nat) : Bool := kl.isEmpty || l.all fun w => has ids w.1 || free kl (idB w.2)
def rqq (x : X) (i : I × List Nat) (ih : T → H → Lg → (T → H → Prop) → Prop) (t : T) (a : H) (g : Lg) (K : T → H → Prop) : Prop :=
 fl (rds x t) fun rd => okL g.lw i.2 rd = true ∧ qx S own x t (keepH rd a) fun v => okL g.lk i.2 (id2 v) = true ∧ Put i.1.d v t fun t => ih t a (g.put rd [] [] g.fr) K
def rqg (x : X) (i : I × List Nat) (ih : T → H → Lg → (T → H → Prop) → Prop) (t : T) (a : H) (g : Lg) (K : T → H → Prop) : Prop :=
 match i.1.g with
   | none => rqq S own x i ih t a g K
   | some (j, w) => (match gs t j with
    | .d (.bool b) => sp b
      (bif w then rqq S own x i ih ((j, .d (.bool true)) :: t) a g K
       else Put i.1.d .ud ((j, .d (.bool true)) :: t) fun t => ih t a (g.put [] [] [] g.fr) K)
      (bif w then Put i.1.d .ud ((j, .d (.bool false)) :: t) fun t => ih t a (g.put [] [] [] g.fr) K
       else rqq S own x i ih ((j, .d (.bool false)) :: t) a g K)
    | .ud => Put i.1.d .ud t fun t => ih t a (g.put [] [] [] g.fr) K
    | _ => False)
def rqc (lo : Nat) (h0 : H) (f : Nat) (args : List O) (i : I × List Nat) (ih : T → H → Lg → (T → H → Prop) → Prop) (t : T) (a : H) (g : Lg) (K : T → H → Prop) : Prop :=
 match i.1.g with
 | none => own f = false ∧ fl (args.map fun x => clean1 (gv t x)) fun vs => fl (reach a 100 (vs.flatMap id2) []) fun ids => (chk a ids (vs.flatMap id2) && (vs.flatMap os2).isEmpty) = true ∧
   fl (ids.map fun i => rnB (pos ids) ((get? a i).getD .no)) fun bl => ∃ (r : V) (ns : List B), (S f (vs.map (rn2 (pos ids))) bl fun out h' => out = .ret r ∧ h' = bl ++ ns) ∧
    fl (g.fr.take ns.length) fun nf => fl (rowsOf a ids) fun kl => fl (nf.zip (ns.map (rnB (gm ids nf)))) fun ws =>
     ((Nat.beq nf.length ns.length && (!(ids.isEmpty && ns.isEmpty)) && nf.all (fun i => Nat.ble lo i && isNw ((get? a i).getD .no)) && nodupb nf) = true ∧ (okL g.lw i.2 ids && okW g i.2 nf && okL g.lk i.2 (id2 (rn2 (gm ids nf) r) ++ ws.flatMap fun w => idB w.2)) = true ∧
      (tcl t kl && hcl h0 ids kl && ccl g.ct ids kl) = true) ∧
     fl (ws.foldl (fun a w => a.set w.1 w.2) a) fun a => Put i.1.d (rn2 (gm ids nf) r) t fun t => ih t a (g.put ids ws kl (g.fr.drop ns.length)) K
 | some _ => False
def rql (lo : Nat) (f : Nat) (args : List O) (i : I × List Nat) (ih : T → H → Lg → (T → H → Prop) → Prop) (t : T) (a : H) (g : Lg) (K : T → H → Prop) : Prop :=
 match i.1.g with
 | none => fl (args.map fun x => clean1 (gv t x)) fun vs => fl (vs.flatMap id2) fun rd => (own f = false ∧ vs.flatMap id2 ≠ []) ∧ ∃ (r : V) (ns : List B), (S f (vs.map (bor2 a)) [] fun out h' => out = .ret r ∧ h' = ns) ∧
   fl (g.fr.take ns.length) fun nf => fl (nf.zip ns) fun ws =>
    ((Nat.beq nf.length ns.length && nf.all (fun i => Nat.ble lo i && isNw ((get? a i).getD .no)) && nodupb nf && ns.all sclB && sclo r) = true ∧ (okL g.lw i.2 rd && okW g i.2 nf && okL g.lk i.2 (id2 (rn2 (fun k => (get? nf k).getD 0) r))) = true) ∧
    fl (ws.foldl (fun a w => a.set w.1 w.2) a) fun a => Put i.1.d (rn2 (fun k => (get? nf k).getD 0) r) t fun t => ih t a (g.put rd ws [] (g.fr.drop ns.length)) K
 | some _ => False
def rqo (lo : Nat) (f : Nat) (args : List O) (i : I × List Nat) (ih : T → H → Lg → (T → H → Prop) → Prop) (t : T) (a : H) (g : Lg) (K : T → H → Prop) : Prop :=
 match i.1.g with
 | none => fl (args.map fun x => clean1 (gv t x)) fun vs => fl (vs.flatMap id2) fun ids => ∃ (r : V) (ns : List B), (S f (vs.map (rn2 (pos ids))) (ids.map fun i => rnB (pos ids) ((get? a i).getD .no)) fun out h' => out = .ret r ∧ h' = List.replicate ids.length .no ++ ns) ∧
   fl (g.fr.take ns.length) fun nf => fl ((ids.map fun i => (i, B.no)) ++ nf.zip (ns.map (rnB (gt ids.length nf)))) fun ws =>
    ((nodupb ids && ids.all (fun i => isRow ((get? a i).getD .no)) && Nat.beq nf.length ns.length && nf.all (fun i => Nat.ble lo i && isNw ((get? a i).getD .no)) && nodupb nf && (ns.flatMap idB ++ id2 r).all (fun k => Nat.ble ids.length k)) = true ∧
     (okL g.lw i.2 ids && okW g i.2 (ids ++ nf) && okL g.lk i.2 (id2 (rn2 (gt ids.length nf) r) ++ ws.flatMap fun w => idB w.2)) = true) ∧
    fl (ws.foldl (fun a w => a.set w.1 w.2) a) fun a => Put i.1.d (rn2 (gt ids.length nf) r) t fun t => ih t a (g.put ids ws [] (g.fr.drop ns.length)) K
 | some _ => False
def rq1 (lo : Nat) (h0 : H) (i : I × List Nat) (ih : T → H → Lg → (T → H → Prop) → Prop) (t : T) (a : H) (g : Lg) (K : T → H → Prop) : Prop :=
 match i.1.o with
  | .al cs => (match i.1.g, i.1.d, g.fr with
   | none, some d, id :: fr => (match get? a id with
    | some .nw => (Nat.ble lo id && okW g i.2 [id] && okL g.lk i.2 (id :: idB (.cells cs))) = true ∧ fl (a.set id (.cells cs)) fun a => ih ((d, .p id 0) :: t) a (g.put [] [(id, .cells cs)] [] fr) K
    | _ => False)
   | _, _, _ => False)
  | .mm pl => (match i.1.g, i.1.d, g.fr with
   | none, some d, id :: fr => (match get? a id with
    | some .nw => (Nat.ble lo id && okW g i.2 [id] && okL g.lk i.2 [id]) = true ∧ fl (a.set id (mmB pl)) fun a => ih ((d, .mp id) :: t) a (g.put [] [(id, mmB pl)] [] fr) K
    | _ => False)
   | _, _, _ => False)
  | .st x v n => (match i.1.g, i.1.d, gv t x with
   | none, none, .p id off => (match get? a id with
    | some (.cells cs) => fl (lay cs off (gv t v).cs) fun cs' => ((Nat.beq (gv t v).cs.length n = true ∧ Nat.ble (off + n) cs.length = true ∧ (gv t v).cs.all stor = true) ∧ (okW g i.2 [id] && okL g.lk i.2 (idB (.cells cs'))) = true) ∧
      fl (a.set id (.cells cs')) fun a => ih t a (g.put [] [(id, .cells cs')] [] g.fr) K
    | _ => False)
   | _, _, _ => False)
  | .bs z zero n parts => bsn (match i.1.g, i.1.d, g.fr with
   | none, some d, id :: fr => (match get? a id with
    | some .nw => fl (parts.foldl (fun cs p => lay cs (p.1 * z) (gv t p.2).cs) (List.replicate n zero).flatten) fun cs =>
      (parts.all fun p => Nat.beq (gv t p.2).cs.length z && Nat.ble (p.1 * z + z) (n * z) && (gv t p.2).cs.all stor) = true ∧
       frz cs [] [] fun ds _ _ => fl (chunk z n ds) fun rows => (Nat.ble lo id && okW g i.2 [id] && okL g.lk i.2 [id]) = true ∧ fl (a.set id (.rows z rows)) fun a => ih ((d, .os id) :: t) a (g.put [] [(id, .rows z rows)] [] fr) K
    | _ => False)
   | _, _, _ => False) (rqg S own (.bs z zero n parts) i ih t a g K)
  | .cf f args => cfo (rqg S own (.cf f args) i ih t a g K) (cfo (rqc S own lo h0 f args i ih t a g K) (rql S own lo f args i ih t a g K ∨ rqo S lo f args i ih t a g K))
  | x => rqg S own x i ih t a g K
def rq (lo : Nat) (h0 : H) (l : List (I × List Nat)) : T → H → Lg → (T → H → Prop) → Prop :=
 List.rec (motive := fun _ => T → H → Lg → (T → H → Prop) → Prop) (fun t a _ K => K t a) (fun i _ ih t a g K => rq1 S own lo h0 i ih t a g K) l
theorem rq_cons (lo : Nat) (h0 : H) (i : I × List Nat) (r : List (I × List Nat)) (t : T) (a : H) (g : Lg) (K : T → H → Prop) : rq S own lo h0 (i :: r) t a g K = rq1 S own lo h0 i (rq S own lo h0 r) t a g K := rfl
def rx1 (i : I) (ih : T → H → (Ex → T → H → Prop) → Prop) (t : T) (h : H) (K : Ex → T → H → Prop) : Prop :=
 match i.g with
  | none => opx S own i.o t h (fun v t h => Put i.d v t fun t => ih t h K) fun v t h => K (.pan v) t h
  | some (j, w) => match gs t j with
   | .d (.bool b) => sp b
     (bif w then opx S own i.o ((j, .d (.bool true)) :: t) h (fun v t h => Put i.d v t fun t => ih t h K) fun v t h => K (.pan v) t h
      else Put i.d .ud ((j, .d (.bool true)) :: t) fun t => ih t h K)
     (bif w then Put i.d .ud ((j, .d (.bool false)) :: t) fun t => ih t h K
      else opx S own i.o ((j, .d (.bool false)) :: t) h (fun v t h => Put i.d v t fun t => ih t h K) fun v t h => K (.pan v) t h)
   | .ud => Put i.d .ud t fun t => ih t h K
   | _ => False
def rx (l : List I) : T → H → (Ex → T → H → Prop) → Prop :=
 List.rec (motive := fun _ => T → H → (Ex → T → H → Prop) → Prop) (fun t h K => K .nrm t h) (fun i _ ih t h K => rx1 S own i ih t h K) l
theorem rx_cons (i : I) (r : List I) (t : T) (h : H) (K : Ex → T → H → Prop) : rx S own (i :: r) t h K = rx1 S own i (rx S own r) t h K := rfl
def andl (l : List Nat) (f : Nat → Prop) : Prop :=
 List.rec (motive := fun _ => Prop) True (fun j r ih => List.rec (motive := fun _ => Prop) (f j) (fun _ _ _ => f j ∧ ih) r) l
theorem andl_mem {f : Nat → Prop} : ∀ {l : List Nat}, andl l f → ∀ j ∈ l, f j
 | [], _, j, hj => by cases hj
 | [i], h, j, hj => by rw [List.mem_singleton.1 hj]; exact h
 | i :: k :: r, h, j, hj => by
  rcases List.mem_cons.1 hj with rfl | hj
  ·exact h.1
  ·exact andl_mem (l := k :: r) h.2 j hj
def redy (q : List (I × List Nat)) (done : List Nat) : List Nat :=
 (List.range q.length).filter fun j => !(has done j) && (match get? q j with
  | some x => x.2.all (has done)
  | none => false)
noncomputable def anx (q : List (I × List Nat)) (s : List I) (n : Nat) : List Nat → T → H → (Ex → T → H → Prop) → Prop :=
 Nat.rec (motive := fun _ => List Nat → T → H → (Ex → T → H → Prop) → Prop) (fun _ t h K => rx S own s t h K)
  (fun _ ih done t h K => andl (redy q done) fun j => match get? q j with
   | some x => rx1 S own x.1 (fun t h K => ih (j :: done) t h K) t h K
   | none => False) n
theorem anx_succ (q : List (I × List Nat)) (s : List I) (n : Nat) (done : List Nat) (t : T) (h : H) (K : Ex → T → H → Prop) : anx S own q s (n + 1) done t h K = andl (redy q done) fun j => match get? q j with
      | some x => rx1 S own x.1 (fun t h K => anx S own q s n (j :: done) t h K) t h K
      | none => False := rfl
def pureX : X → Bool
 | .mv _ | .nc _ | .fa _ _ | .ex _ _ => true
 | _ => false
def ldX : X → Bool
 | .ld _ _ => true
 | _ => false
def softX : X → Bool
 | .mv _ | .ex _ _ | .ld _ _ | .al _ => true
 | _ => false
def firstOk (q : List (I × List Nat)) (done : List Nat) (j : Nat) : Bool := match get? q j with
 | some x => (match x.1.g with | none => true | some _ => false) && (pureX x.1.o || (ldX x.1.o && (List.range q.length).all fun k => has done k || (Nat.beq k j || (match get? q k with
  | some y => has y.2 j || softX y.1.o
  | none => false))))
 | none => false
def firstJ (q : List (I × List Nat)) (done : List Nat) : Option Nat := (redy q done).find? (firstOk q done)
noncomputable def amx (q : List (I × List Nat)) (s : List I) (n : Nat) : List Nat → T → H → (Ex → T → H → Prop) → Prop :=
 Nat.rec (motive := fun _ => List Nat → T → H → (Ex → T → H → Prop) → Prop) (fun _ t h K => rx S own s t h K)
  (fun _ ih done t h K => match firstJ q done with
   | some j => (match get? q j with
    | some x => rx1 S own x.1 (fun t h K => ih (j :: done) t h K) t h K
    | none => False)
   | none => andl (redy q done) fun j => match get? q j with
    | some x => rx1 S own x.1 (fun t h K => ih (j :: done) t h K) t h K
    | none => False) n
theorem amx_succ (q : List (I × List Nat)) (s : List I) (n : Nat) (done : List Nat) (t : T) (h : H) (K : Ex → T → H → Prop) : amx S own q s (n + 1) done t h K = (match firstJ q done with
      | some j => (match get? q j with
        | some x => rx1 S own x.1 (fun t h K => amx S own q s n (j :: done) t h K) t h K
        | none => False)
      | none => andl (redy q done) fun j => match get? q j with
        | some x => rx1 S own x.1 (fun t h K => amx S own q s n (j :: done) t h K) t h K
        | none => False) := rfl
def nop (K : Ex → T → H → Prop) (e : Ex) (t : T) (h : H) : Prop := match e with
 | .pan _ => False
 | e => K e t h
def wkb : V → V → Prop
 | .nl z, .d (.sl z' []) => z = z'
 | v, v' => v = v'
def wkL : List V → List V → Prop
 | [], [] => True
 | a :: r, b :: s => wkb a b ∧ wkL r s
 | _, _ => False
def wkB : B → B → Prop
 | .cells cs, .cells cs' => cs = cs' ∨ wkL cs cs'
 | b, b' => b = b'
def subs (t : T) : T → Prop
 | [] => True
 | (i, v) :: r => wkb (gs t i) v ∧ subs t r
def subh : H → H → Prop
 | _, [] => True
 | [], _ :: _ => False
 | _ :: h, .no :: h' => subh h h'
 | b :: h, b' :: h' => wkB b b' ∧ subh h h'
def lts (n0 : Nat) (t : T) (h : H) : Bool :=
 Nat.ble n0 h.length && (t.all fun p => (id2 p.2).all fun i => Nat.blt i h.length) && h.all fun b => (idB b).all fun i => Nat.blt i h.length
@[irreducible] def lx (n0 : Nat) (ih : T → H → (Ex → T → H → Prop) → Prop) (t : T) (h : H) (K : Ex → T → H → Prop) : Prop :=
 ∃ (A : Type) (I : A → Prop) (S1 : A → T) (S2 : A → H) (m : A → Nat) (x : A),
   (I x ∧ subs t (S1 x) ∧ subh h (S2 x) ∧ lts n0 (S1 x) (S2 x) = true) ∧ ∀ x, I x → ih (S1 x) (S2 x) fun e t h => match e with
    | .nrm => fl (msO h) fun l => stls l t h fun t h => ∃ y, I y ∧ m y < m x ∧ subs t (S1 y) ∧ subh h (S2 y) ∧ lts n0 (S1 y) (S2 y) = true
    | .ext i => K (.ext i) t h
    | .ret => K .ret t h
    | .pan v => K (.pan v) t h
def slc : V → Bool
 | .os _ | .q _ _ _ _ | .ov _ _ _ => true
 | _ => false
def sl0 : V → Bool
 | .fc _ c => c.any slc
 | v => slc v
def sl1 : V → Bool
 | .ag c => c.any sl0
 | v => sl0 v
def sl2 : V → Bool
 | .tu c => c.any sl1
 | v => sl1 v
def plc : B → Bool
 | .cells cs => cs.all fun x => !(sl0 x)
 | _ => false
def rwd : D → Prop
 | .int _ _ | .bool _ => True
 | .str s => s.length ≤ 9223372036854775807
 | _ => False
def lys : List Nat → List D → T → T
 | p :: ps, d :: ds, t => lys ps ds ((p, .d d) :: t)
 | _, _, t => t
@[irreducible] def rfx (n0 : Nat) (iha ihb : Nat → T → H → (Ex → T → H → Prop) → Prop) (g : O) (ps : List Nat) (t : T) (h : H) (K : Ex → T → H → Prop) : Prop :=
 ∃ (f : Nat) (caps : List V) (ids : List Nat) (T0 : T) (A : Type) (I : Nat → A → Prop) (Hs : A → H) (x0 : A) (n1 z : Nat) (xs : List (List D)),
  (gv t g = .fc f caps ∧ Nat.blt f 1000000 = true ∧ (chk h ids (caps.flatMap idc) = true ∧ (caps.all fun x => !(slc x)) = true ∧ (ids.all fun i => plc ((get? h i).getD .no)) = true)) ∧
  (S (5000000 + f) (caps.map (rnc (pos ids))) (ids.map fun i => rnB (pos ids) ((get? h i).getD .no)) fun o h' => o = .ret (.d (.sl z xs)) ∧ h' = []) ∧
  (Nat.beq z ps.length = true ∧ ∀ r ∈ xs, r.length = z ∧ ∀ d ∈ r, rwd d) ∧
  (subs t T0 ∧ (I 0 x0 ∧ subh h (Hs x0)) ∧ (T0.all fun p => !(sl2 p.2)) = true) ∧
  (∀ x, (Hs x).length = n1 ∧ lts n0 T0 (Hs x) = true ∧ (ids.map fun j => get? (Hs x) j) = ids.map fun j => get? h j) ∧
  (∀ (i : Nat) (r : List D) (x : A), xs[i]? = some r → I i x → iha n1 (lys ps r T0) (Hs x) fun e t h => match e with
   | .nrm => ihb h.length t h fun e _ h => (match e with
    | .nrm => ∃ y, I (i + 1) y ∧ subh h (Hs y)
    | .ext j => K (.ext j) T0 h
    | .ret => K .ret T0 h
    | .pan _ => False)
   | _ => False) ∧
  ∀ x, I xs.length x → K .nrm T0 (Hs x)
def wx (n0 : Nat) (c : C) : T → H → (Ex → T → H → Prop) → Prop :=
 C.rec (motive := fun _ => Nat → T → H → (Ex → T → H → Prop) → Prop)
  (fun _ t h K => K .nrm t h)
  (fun l _ t h K => rx S own l t h K)
  (fun q s _ t h K => cuo (fro fun o => give o.1 t h [] fun t h _ => fl (h ++ List.replicate (cal q + o.2) .nw) fun h1 => rq S own h.length h1 q t h1 ⟨[], [], [], List.range' h.length (cal q + o.2), 0, []⟩ fun t h => rx S own s t h K) (cuo (anx S own q s q.length [] t h K) (fro fun o => give o.1 t h [] fun t h _ => amx S own q s q.length [] t h (nop K))))
  (fun _ _ iha ihb n0 t h K => iha n0 t h fun e t h => match e with
   | .nrm => ihb n0 t h K
   | .ext i => K (.ext i) t h
   | .ret => K .ret t h
   | .pan v => K (.pan v) t h)
  (fun c _ _ iha ihb n0 t h K => match gv t c with
   | .d (.bool x) => sp x (iha n0 t h K) (ihb n0 t h K)
   | _ => False)
  (fun id _ ih n0 t h K => ih n0 t h fun e t h => match e with
   | .nrm => K .nrm t h
   | .ext i => bif Nat.beq i id then K .nrm t h else K (.ext i) t h
   | .ret => K .ret t h
   | .pan v => K (.pan v) t h)
  (fun _ ih n0 t h K => lx n0 (ih n0) t h K)
  (fun id _ t h K => K (.ext id) t h)
  (fun _ t h K => K .ret t h)
  (fun _ _ _ _ => False)
  (fun g ps _ _ iha ihb n0 t h K => rfx S n0 iha ihb g ps t h K) c n0
variable (n0 : Nat)
theorem wx_rf (g : O) (ps : List Nat) (ca cb : C) (t : T) (h : H) (K : Ex → T → H → Prop) : wx S own n0 (.rf g ps ca cb) t h K = rfx S n0 (fun n => wx S own n ca) (fun n => wx S own n cb) g ps t h K := rfl
theorem wx_rgd (q : List (I × List Nat)) (s : List I) (t : T) (h : H) (K : Ex → T → H → Prop) : wx S own n0 (.rgd q s) t h K = cuo (fro fun o => give o.1 t h [] fun t h _ => fl (h ++ List.replicate (cal q + o.2) .nw) fun h1 => rq S own h.length h1 q t h1 ⟨[], [], [], List.range' h.length (cal q + o.2), 0, []⟩ fun t h => rx S own s t h K) (cuo (anx S own q s q.length [] t h K) (fro fun o => give o.1 t h [] fun t h _ => amx S own q s q.length [] t h (nop K))) := rfl
theorem wx_seq (a b : C) (t : T) (h : H) (K : Ex → T → H → Prop) : wx S own n0 (.seq a b) t h K = wx S own n0 a t h fun e t h => match e with
  | .nrm => wx S own n0 b t h K
  | .ext i => K (.ext i) t h
  | .ret => K .ret t h
  | .pan v => K (.pan v) t h := rfl
theorem wx_cond (c : O) (a b : C) (t : T) (h : H) (K : Ex → T → H → Prop) : wx S own n0 (.cond c a b) t h K = match gv t c with
  | .d (.bool x) => sp x (wx S own n0 a t h K) (wx S own n0 b t h K)
  | _ => False := rfl
theorem wx_block (id : Nat) (c : C) (t : T) (h : H) (K : Ex → T → H → Prop) : wx S own n0 (.block id c) t h K = wx S own n0 c t h fun e t h => match e with
  | .nrm => K .nrm t h
  | .ext i => bif Nat.beq i id then K .nrm t h else K (.ext i) t h
  | .ret => K .ret t h
  | .pan v => K (.pan v) t h := rfl
theorem wx_loop (c : C) (t : T) (h : H) (K : Ex → T → H → Prop) : wx S own n0 (.loop c) t h K = lx n0 (wx S own n0 c) t h K := rfl
end
inductive RV where
 | s (t : Nat)
 | c (t : Nat) (n : Option Nat)
 deriving Inhabited
def resP (P : Program) (fn : Func) : Option (List RV) :=
 fn.results.toList.mapM fun
  | .tmp t => some (.s t)
  | .cell a t => (ldn P t).map (.c a)
def rvx : RV → T → H → (V → Prop) → Prop
 | .s i, t, _, K => K (gs t i)
 | .c i n, t, h, K => match gs t i with
  | .p id off => (match get? h id with
   | some (.cells cs) => (match n with
    | none => (match get? cs off with | some v => K v | none => False)
    | some n => fl ((cs.drop off).take n) fun cs => Nat.beq cs.length n = true ∧ K (.ag cs))
   | _ => False)
  | _ => False
def rvs (l : List RV) : T → H → (List V → Prop) → Prop :=
 List.rec (motive := fun _ => T → H → (List V → Prop) → Prop) (fun _ _ K => K []) (fun r _ ih t h K => rvx r t h fun v => ih t h fun vs => K (v :: vs)) l
theorem rvs_cons (r : RV) (rs : List RV) (t : T) (h : H) (K : List V → Prop) : rvs (r :: rs) t h K = rvx r t h fun v => rvs rs t h fun vs => K (v :: vs) := rfl
def nlc : V → V
 | .nl z => .d (.sl z [])
 | v => v
def nl1 : V → V
 | .ag c => .ag (c.map clean)
 | v => nlc v
def ntu : V → Bool
 | .tu _ => false
 | _ => true
def outs : List V → Out
 | [v] => .ret v
 | vs => .ret (.tu vs)
def osX : B → List Nat
 | .rx _ _ _ row => row.flatMap osc
 | _ => []
def fin (keep : Bool) (n0 : Nat) (vs : List V) (t : T) (h : H) (K : Out → H → Prop) : Prop :=
 vs.all ntu = true ∧ fl (h.flatMap osX ++ (bif keep then [] else vs.flatMap os2)) fun os => give os t h (vs.map nl1) fun t h vs => fl (msO h) fun l => stls l t h fun _ h => fl (h.map drI) fun h =>
  match n0, vs.flatMap id2 with
  | 0, [] => K (outs vs) []
  | _, l => fln (reach h 100 ((List.range n0).flatMap (fun i => idB ((get? h i).getD .no)) ++ l) (List.range n0)) fun ids =>
    (nodupb ids && (ids.all fun i => Nat.blt i h.length && (idB ((get? h i).getD .no)).all (has ids)) && l.all (has ids)) = true ∧ ids.take n0 = List.range n0 ∧
     flb (ids.map fun i => rnB (pos ids) ((get? h i).getD .no)) fun h' => K (outs (vs.map (rn2 (pos ids)))) h'
def ini : Nat → List V → T
 | _, [] => []
 | n, v :: vs => (n, v) :: ini (n + 1) vs
def fx (S : Nat → List V → H → (Out → H → Prop) → Prop) (own : Nat → Bool) (keep : Bool) (c : C) (rs : List RV) (vs : List V) (h : H) (K : Out → H → Prop) : Prop :=
 wx S own h.length c (ini 0 vs) h fun e t h1 => match e with
  | .nrm | .ret => rvs rs t h1 fun vs => fin keep h.length vs t h1 K
  | .ext _ => False
  | .pan v => fin keep h.length [v] t h1 fun o h => match o with
   | .ret v => K (.pan v) h
   | .pan _ => False
end Go.Vx
