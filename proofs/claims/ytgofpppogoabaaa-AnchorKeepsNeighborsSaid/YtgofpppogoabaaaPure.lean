/-
  Plain mathematics of anchors: the offset and side of an anchor behind an edit.
-/
import Derived.WalkKit
namespace Go.Proofs.Ytgofpppogoabaaa
open Go.RowKit

/-- offset behind an edit -/
def mvO (o : Int) (r : Bool) (a d : Int) (n : Nat) : Int :=
  if o < a then o else if wrap64 (a + d) < o then wrap64 (o + wrap64 (n - d)) else if r = true then wrap64 (a + n) else a
/-- the side does not turn -/
abbrev anc (o : Int) (r : Bool) : Value := .agg #[.int .i64 o, .bool r]
abbrev edt (a d : Int) (s : ByteArray) : Value := .agg #[.int .i64 a, .int .i64 d, .string s]
def smallB (o a d : Int) (n : Nat) : Bool := decide (0 ≤ o) && decide (o ≤ 1000) && decide (0 ≤ a) && decide (a ≤ 1000) && decide (0 ≤ d) && decide (d ≤ 1000) && decide ((n : Int) ≤ 1000)
def fitsB (a d n : Int) : Bool := decide (0 ≤ a) && decide (0 ≤ d) && decide (a ≤ n) && decide (d ≤ wrap64 (n - a))

end Go.Proofs.Ytgofpppogoabaaa
