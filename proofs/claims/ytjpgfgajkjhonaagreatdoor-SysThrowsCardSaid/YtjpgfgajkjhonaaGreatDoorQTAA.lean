/- What cells hold that nobody writes. Conditions: none; a definition alone. -/
import Derived.Calls
namespace Go.Vx
inductive D where
 | int (k : IntKind) (n : Int)
 | bool (b : Bool)
 | str (s : List UInt8)
 | sl (z : Nat) (rows : List (List D))
 | np | nf | ni | nm
 | fn (f : Nat)
 | fc (F : Nat) (caps : List D)
 | pt (row : List D) (off : Nat)
 deriving Inhabited
end Go.Vx
