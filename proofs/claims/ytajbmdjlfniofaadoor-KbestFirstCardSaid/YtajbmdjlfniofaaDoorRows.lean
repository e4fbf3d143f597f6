/-
  NARROWER THAN 'FOR EVERY INPUT', by the rows' own cells (each row's printed sentence says how): KbestFirst: laid · KbestIterate: laid · KbestOrder: laid · KbestComplete: loops, laid · KbestBest: laid · KbestPrefix: laid · KbestEdges: laid.
  DERIVED. THE GIVEN ROWS OF THIS SEAT. 7 by the template 'for every input the law returns true; each argument reads behind the call as it read before'; 0 by the template 'total and deterministic' (their statements: YtajbmdjlfniofaaDoorTotals.lean).
  GIVEN WITH THE SEED: the statements are not yours to turn. If you find one false, say at which input.
  Laid BY PROGRAM, IN A SANDBOX (cutbox-rows.mjs): the forced cells as the released guide's own fill.sh prints them over the translation 61e06affa2935ab3… (all of the seat's roots in one cut). By AI agents, Wed Nov 11 2026. No macro, syntax, notation, axiom, sorry.
-/
import Derived.Test.YtajbmdjlfniofaaDoorChecked
import GoSem.Claim
import GoSem.ClaimJoined
import GoSem.ClaimMapViews
import Derived.JoinedTies
import Derived.KernelRfl
namespace Go.Proofs.YtajbmdjlfniofaaDoor
/- THE CELL 'sum', in the pinned program and in every row, IS THE sha256 OF THE DUMP (.gsa) THAT YtajbmdjlfniofaaDoorProg.lean LOADS. Nothing in Lean hashes anything: it is a label: what it is worth is what the hold of that sum in a sandbox is worth. -/
noncomputable def Tryd.pinned : Pinned := { name := "ytajbmdjlfniofaadoor", sum := "61e06affa2935ab3cac2779fd541bbb22fc267bacb07ddc43c8c142bd6919d2b", checked := Tryd.checked }
namespace Rows
def none {H : Type} : Left H := { results := [], args := [] }

/- WHAT THE LISTED PACKAGE-LEVEL VARIABLES READ AS WHEN THE CALL BEGINS. Each datum BY PROGRAM (the guide's laid-datum.mjs) off the statement by which the dump's own 'gosem.cut.vars' lays the variable. In a bare row this is a premise. The card (YtajbmdjlfniofaaDoorCards.lean) ties it to the program's text. -/
def laid_math_bits_deBruijn32tab {H : Type} : DataW H := .agg [.lit (.int .u8 0), .lit (.int .u8 1), .lit (.int .u8 28), .lit (.int .u8 2), .lit (.int .u8 29), .lit (.int .u8 14), .lit (.int .u8 24), .lit (.int .u8 3), .lit (.int .u8 30), .lit (.int .u8 22), .lit (.int .u8 20), .lit (.int .u8 15), .lit (.int .u8 25), .lit (.int .u8 17), .lit (.int .u8 4), .lit (.int .u8 8), .lit (.int .u8 31), .lit (.int .u8 27), .lit (.int .u8 13), .lit (.int .u8 23), .lit (.int .u8 21), .lit (.int .u8 19), .lit (.int .u8 16), .lit (.int .u8 7), .lit (.int .u8 26), .lit (.int .u8 12), .lit (.int .u8 18), .lit (.int .u8 6), .lit (.int .u8 11), .lit (.int .u8 5), .lit (.int .u8 10), .lit (.int .u8 9)]
def laid_math_bits_deBruijn64tab {H : Type} : DataW H := .agg [.lit (.int .u8 0), .lit (.int .u8 1), .lit (.int .u8 56), .lit (.int .u8 2), .lit (.int .u8 57), .lit (.int .u8 49), .lit (.int .u8 28), .lit (.int .u8 3), .lit (.int .u8 61), .lit (.int .u8 58), .lit (.int .u8 42), .lit (.int .u8 50), .lit (.int .u8 38), .lit (.int .u8 29), .lit (.int .u8 17), .lit (.int .u8 4), .lit (.int .u8 62), .lit (.int .u8 47), .lit (.int .u8 59), .lit (.int .u8 36), .lit (.int .u8 45), .lit (.int .u8 43), .lit (.int .u8 51), .lit (.int .u8 22), .lit (.int .u8 53), .lit (.int .u8 39), .lit (.int .u8 33), .lit (.int .u8 30), .lit (.int .u8 24), .lit (.int .u8 18), .lit (.int .u8 12), .lit (.int .u8 5), .lit (.int .u8 63), .lit (.int .u8 55), .lit (.int .u8 48), .lit (.int .u8 27), .lit (.int .u8 60), .lit (.int .u8 41), .lit (.int .u8 37), .lit (.int .u8 16), .lit (.int .u8 46), .lit (.int .u8 35), .lit (.int .u8 44), .lit (.int .u8 21), .lit (.int .u8 52), .lit (.int .u8 32), .lit (.int .u8 23), .lit (.int .u8 11), .lit (.int .u8 54), .lit (.int .u8 26), .lit (.int .u8 40), .lit (.int .u8 15), .lit (.int .u8 34), .lit (.int .u8 20), .lit (.int .u8 31), .lit (.int .u8 10), .lit (.int .u8 25), .lit (.int .u8 14), .lit (.int .u8 19), .lit (.int .u8 9), .lit (.int .u8 13), .lit (.int .u8 8), .lit (.int .u8 7), .lit (.int .u8 6)]
def laid_internal_strconv_uint64pow10 {H : Type} : DataW H := .agg [.lit (.int .u64 1), .lit (.int .u64 10), .lit (.int .u64 100), .lit (.int .u64 1000), .lit (.int .u64 10000), .lit (.int .u64 100000), .lit (.int .u64 1000000), .lit (.int .u64 10000000), .lit (.int .u64 100000000), .lit (.int .u64 1000000000), .lit (.int .u64 10000000000), .lit (.int .u64 100000000000), .lit (.int .u64 1000000000000), .lit (.int .u64 10000000000000), .lit (.int .u64 100000000000000), .lit (.int .u64 1000000000000000), .lit (.int .u64 10000000000000000), .lit (.int .u64 100000000000000000), .lit (.int .u64 1000000000000000000), .lit (.int .u64 10000000000000000000)]

/-- 'emendatelaw31.KbestFirst': WHATEVER THE INPUT: true; the input reads as it did. -/
def kbestFirstSpec : ChangeSpec := { name := "kbestFirst", fn := fun _ => fun
  | [d1, d2, d3] => { results := [.lit (.bool true)], args := [d1, d2, d3] }
  | _ => none }
def kbestFirstRow : OpenClaim := { program := "ytajbmdjlfniofaadoor", sum := "61e06affa2935ab3cac2779fd541bbb22fc267bacb07ddc43c8c142bd6919d2b", func := "emendate/emendatelaw31.KbestFirst", spec := "kbestFirst", unfollowed := true, recurses := true, named := ["internal/strconv.uint64pow10", "math/bits.deBruijn32tab", "math/bits.deBruijn64tab"], apart := false, laid := [("math/bits.deBruijn32tab", laid_math_bits_deBruijn32tab), ("math/bits.deBruijn64tab", laid_math_bits_deBruijn64tab), ("internal/strconv.uint64pow10", laid_internal_strconv_uint64pow10)] }
def KbestFirstSaid : Prop := kbestFirstRow.holds Tryd.pinned (OpenSpec.ofChange kbestFirstSpec)

/-- ITS FALSE NEIGHBOUR: 'it returns false'. Refute it at one input. -/
def kbestFirstWrong : ChangeSpec := { name := "kbestFirst", fn := fun _ => fun
  | [d1, d2, d3] => { results := [.lit (.bool false)], args := [d1, d2, d3] }
  | _ => none }
def KbestFirstWrongFalsely : Prop := kbestFirstRow.holds Tryd.pinned (OpenSpec.ofChange kbestFirstWrong)

/-- 'emendatelaw31.KbestIterate': WHATEVER THE INPUT: true; the input reads as it did. -/
def kbestIterateSpec : ChangeSpec := { name := "kbestIterate", fn := fun _ => fun
  | [d1, d2, d3] => { results := [.lit (.bool true)], args := [d1, d2, d3] }
  | _ => none }
def kbestIterateRow : OpenClaim := { program := "ytajbmdjlfniofaadoor", sum := "61e06affa2935ab3cac2779fd541bbb22fc267bacb07ddc43c8c142bd6919d2b", func := "emendate/emendatelaw31.KbestIterate", spec := "kbestIterate", unfollowed := true, recurses := true, named := ["internal/strconv.uint64pow10", "math/bits.deBruijn32tab", "math/bits.deBruijn64tab"], apart := false, laid := [("math/bits.deBruijn32tab", laid_math_bits_deBruijn32tab), ("math/bits.deBruijn64tab", laid_math_bits_deBruijn64tab), ("internal/strconv.uint64pow10", laid_internal_strconv_uint64pow10)] }
def KbestIterateSaid : Prop := kbestIterateRow.holds Tryd.pinned (OpenSpec.ofChange kbestIterateSpec)

/-- ITS FALSE NEIGHBOUR: 'it returns false'. Refute it at one input. -/
def kbestIterateWrong : ChangeSpec := { name := "kbestIterate", fn := fun _ => fun
  | [d1, d2, d3] => { results := [.lit (.bool false)], args := [d1, d2, d3] }
  | _ => none }
def KbestIterateWrongFalsely : Prop := kbestIterateRow.holds Tryd.pinned (OpenSpec.ofChange kbestIterateWrong)

/-- 'emendatelaw31.KbestOrder': WHATEVER THE INPUT: true; the input reads as it did. -/
def kbestOrderSpec : ChangeSpec := { name := "kbestOrder", fn := fun _ => fun
  | [d1, d2] => { results := [.lit (.bool true)], args := [d1, d2] }
  | _ => none }
def kbestOrderRow : OpenClaim := { program := "ytajbmdjlfniofaadoor", sum := "61e06affa2935ab3cac2779fd541bbb22fc267bacb07ddc43c8c142bd6919d2b", func := "emendate/emendatelaw31.KbestOrder", spec := "kbestOrder", unfollowed := true, recurses := true, named := ["internal/strconv.uint64pow10", "math/bits.deBruijn32tab", "math/bits.deBruijn64tab"], apart := false, laid := [("math/bits.deBruijn32tab", laid_math_bits_deBruijn32tab), ("math/bits.deBruijn64tab", laid_math_bits_deBruijn64tab), ("internal/strconv.uint64pow10", laid_internal_strconv_uint64pow10)] }
def KbestOrderSaid : Prop := kbestOrderRow.holds Tryd.pinned (OpenSpec.ofChange kbestOrderSpec)

/-- ITS FALSE NEIGHBOUR: 'it returns false'. Refute it at one input. -/
def kbestOrderWrong : ChangeSpec := { name := "kbestOrder", fn := fun _ => fun
  | [d1, d2] => { results := [.lit (.bool false)], args := [d1, d2] }
  | _ => none }
def KbestOrderWrongFalsely : Prop := kbestOrderRow.holds Tryd.pinned (OpenSpec.ofChange kbestOrderWrong)

/-- 'emendatelaw31.KbestComplete': WHATEVER THE INPUT: true; the input reads as it did. -/
def kbestCompleteSpec : ChangeSpec := { name := "kbestComplete", fn := fun _ => fun
  | [d1, d2, d3] => { results := [.lit (.bool true)], args := [d1, d2, d3] }
  | _ => none }
def kbestCompleteRow : OpenClaim := { program := "ytajbmdjlfniofaadoor", sum := "61e06affa2935ab3cac2779fd541bbb22fc267bacb07ddc43c8c142bd6919d2b", func := "emendate/emendatelaw31.KbestComplete", spec := "kbestComplete", unfollowed := true, recurses := true, named := ["internal/strconv.uint64pow10", "math/bits.deBruijn32tab", "math/bits.deBruijn64tab"], loops := true, apart := false, laid := [("math/bits.deBruijn32tab", laid_math_bits_deBruijn32tab), ("math/bits.deBruijn64tab", laid_math_bits_deBruijn64tab), ("internal/strconv.uint64pow10", laid_internal_strconv_uint64pow10)] }
def KbestCompleteSaid : Prop := kbestCompleteRow.holds Tryd.pinned (OpenSpec.ofChange kbestCompleteSpec)

/-- ITS FALSE NEIGHBOUR: 'it returns false'. Refute it at one input. -/
def kbestCompleteWrong : ChangeSpec := { name := "kbestComplete", fn := fun _ => fun
  | [d1, d2, d3] => { results := [.lit (.bool false)], args := [d1, d2, d3] }
  | _ => none }
def KbestCompleteWrongFalsely : Prop := kbestCompleteRow.holds Tryd.pinned (OpenSpec.ofChange kbestCompleteWrong)

/-- 'emendatelaw31.KbestBest': WHATEVER THE INPUT: true; the input reads as it did. -/
def kbestBestSpec : ChangeSpec := { name := "kbestBest", fn := fun _ => fun
  | [d1, d2] => { results := [.lit (.bool true)], args := [d1, d2] }
  | _ => none }
def kbestBestRow : OpenClaim := { program := "ytajbmdjlfniofaadoor", sum := "61e06affa2935ab3cac2779fd541bbb22fc267bacb07ddc43c8c142bd6919d2b", func := "emendate/emendatelaw31.KbestBest", spec := "kbestBest", unfollowed := true, recurses := true, named := ["internal/strconv.uint64pow10", "math/bits.deBruijn32tab", "math/bits.deBruijn64tab"], apart := false, laid := [("math/bits.deBruijn32tab", laid_math_bits_deBruijn32tab), ("math/bits.deBruijn64tab", laid_math_bits_deBruijn64tab), ("internal/strconv.uint64pow10", laid_internal_strconv_uint64pow10)] }
def KbestBestSaid : Prop := kbestBestRow.holds Tryd.pinned (OpenSpec.ofChange kbestBestSpec)

/-- ITS FALSE NEIGHBOUR: 'it returns false'. Refute it at one input. -/
def kbestBestWrong : ChangeSpec := { name := "kbestBest", fn := fun _ => fun
  | [d1, d2] => { results := [.lit (.bool false)], args := [d1, d2] }
  | _ => none }
def KbestBestWrongFalsely : Prop := kbestBestRow.holds Tryd.pinned (OpenSpec.ofChange kbestBestWrong)

/-- 'emendatelaw31.KbestPrefix': WHATEVER THE INPUT: true; the input reads as it did. -/
def kbestPrefixSpec : ChangeSpec := { name := "kbestPrefix", fn := fun _ => fun
  | [d1, d2, d3] => { results := [.lit (.bool true)], args := [d1, d2, d3] }
  | _ => none }
def kbestPrefixRow : OpenClaim := { program := "ytajbmdjlfniofaadoor", sum := "61e06affa2935ab3cac2779fd541bbb22fc267bacb07ddc43c8c142bd6919d2b", func := "emendate/emendatelaw31.KbestPrefix", spec := "kbestPrefix", unfollowed := true, recurses := true, named := ["internal/strconv.uint64pow10", "math/bits.deBruijn32tab", "math/bits.deBruijn64tab"], apart := false, laid := [("math/bits.deBruijn32tab", laid_math_bits_deBruijn32tab), ("math/bits.deBruijn64tab", laid_math_bits_deBruijn64tab), ("internal/strconv.uint64pow10", laid_internal_strconv_uint64pow10)] }
def KbestPrefixSaid : Prop := kbestPrefixRow.holds Tryd.pinned (OpenSpec.ofChange kbestPrefixSpec)

/-- ITS FALSE NEIGHBOUR: 'it returns false'. Refute it at one input. -/
def kbestPrefixWrong : ChangeSpec := { name := "kbestPrefix", fn := fun _ => fun
  | [d1, d2, d3] => { results := [.lit (.bool false)], args := [d1, d2, d3] }
  | _ => none }
def KbestPrefixWrongFalsely : Prop := kbestPrefixRow.holds Tryd.pinned (OpenSpec.ofChange kbestPrefixWrong)

/-- 'emendatelaw31.KbestEdges': WHATEVER THE INPUT: true; the input reads as it did. -/
def kbestEdgesSpec : ChangeSpec := { name := "kbestEdges", fn := fun _ => fun
  | [d1, d2] => { results := [.lit (.bool true)], args := [d1, d2] }
  | _ => none }
def kbestEdgesRow : OpenClaim := { program := "ytajbmdjlfniofaadoor", sum := "61e06affa2935ab3cac2779fd541bbb22fc267bacb07ddc43c8c142bd6919d2b", func := "emendate/emendatelaw31.KbestEdges", spec := "kbestEdges", unfollowed := true, recurses := true, named := ["internal/strconv.uint64pow10", "math/bits.deBruijn32tab", "math/bits.deBruijn64tab"], apart := false, laid := [("math/bits.deBruijn32tab", laid_math_bits_deBruijn32tab), ("math/bits.deBruijn64tab", laid_math_bits_deBruijn64tab), ("internal/strconv.uint64pow10", laid_internal_strconv_uint64pow10)] }
def KbestEdgesSaid : Prop := kbestEdgesRow.holds Tryd.pinned (OpenSpec.ofChange kbestEdgesSpec)

/-- ITS FALSE NEIGHBOUR: 'it returns false'. Refute it at one input. -/
def kbestEdgesWrong : ChangeSpec := { name := "kbestEdges", fn := fun _ => fun
  | [d1, d2] => { results := [.lit (.bool false)], args := [d1, d2] }
  | _ => none }
def KbestEdgesWrongFalsely : Prop := kbestEdgesRow.holds Tryd.pinned (OpenSpec.ofChange kbestEdgesWrong)

/- THE SECOND FORM. 'bulk': how many values and letters a reading holds, each counted each time it is reached (what is shared counts as often as it is met; a slice's spare places count too). A statement '..UptoSaid' is the law's where the arguments, and the package variables that the reading takes, are together of bulk at most 1048576: NARROWER than '..Said'. Prove '..Said' where nothing that the law and all that it calls make is longer than what came in: it says more and counts as full. Else prove '..UptoSaid'. A law counts once. -/
mutual
def uptoBulk {H : Type} : DataW H → Nat
  | .lit (.string bytes) => bytes.length + 1
  | .lit _ => 1
  | .nil => 1
  | .ptr d => uptoBulk d + 1
  | .slice elems spare => uptoBulkAll elems + uptoBulkAll spare + 1
  | .agg parts => uptoBulkAll parts + 1
  | .iface _ d => uptoBulk d + 1
  | .map entries => uptoBulkEntries entries + 1
  | .held _ => 1
def uptoBulkAll {H : Type} : List (DataW H) → Nat
  | [] => 0
  | d :: r => uptoBulk d + uptoBulkAll r
def uptoBulkEntries {H : Type} : List (Lit × DataW H) → Nat
  | [] => 0
  | x :: r => uptoBulkEntry x + uptoBulkEntries r
def uptoBulkEntry {H : Type} : Lit × DataW H → Nat
  | (.string bytes, d) => bytes.length + uptoBulk d + 1
  | (_, d) => uptoBulk d + 1
 end
def uptoSmall : (H : Type) → List (DataW H) → Bool := fun _ ds => decide (uptoBulkAll ds ≤ 1048576)
def OpenSpec.upto (s : _root_.Go.ChangeSpec) : _root_.Go.OpenSpec := { _root_.Go.OpenSpec.ofChange s with cond := some uptoSmall }

/-- 'emendatelaw31.KbestFirst', WHERE WHAT IT READS IS OF BULK AT MOST 1048576: true; the input reads as it did. -/
def kbestFirstUptoRow : OpenClaim := { program := "ytajbmdjlfniofaadoor", sum := "61e06affa2935ab3cac2779fd541bbb22fc267bacb07ddc43c8c142bd6919d2b", func := "emendate/emendatelaw31.KbestFirst", spec := "kbestFirst", unfollowed := true, recurses := true, named := ["internal/strconv.uint64pow10", "math/bits.deBruijn32tab", "math/bits.deBruijn64tab"], apart := false, laid := [("math/bits.deBruijn32tab", laid_math_bits_deBruijn32tab), ("math/bits.deBruijn64tab", laid_math_bits_deBruijn64tab), ("internal/strconv.uint64pow10", laid_internal_strconv_uint64pow10)], narrowed := true }
def KbestFirstUptoSaid : Prop := kbestFirstUptoRow.holds Tryd.pinned (OpenSpec.upto kbestFirstSpec)

/-- 'emendatelaw31.KbestIterate', WHERE WHAT IT READS IS OF BULK AT MOST 1048576: true; the input reads as it did. -/
def kbestIterateUptoRow : OpenClaim := { program := "ytajbmdjlfniofaadoor", sum := "61e06affa2935ab3cac2779fd541bbb22fc267bacb07ddc43c8c142bd6919d2b", func := "emendate/emendatelaw31.KbestIterate", spec := "kbestIterate", unfollowed := true, recurses := true, named := ["internal/strconv.uint64pow10", "math/bits.deBruijn32tab", "math/bits.deBruijn64tab"], apart := false, laid := [("math/bits.deBruijn32tab", laid_math_bits_deBruijn32tab), ("math/bits.deBruijn64tab", laid_math_bits_deBruijn64tab), ("internal/strconv.uint64pow10", laid_internal_strconv_uint64pow10)], narrowed := true }
def KbestIterateUptoSaid : Prop := kbestIterateUptoRow.holds Tryd.pinned (OpenSpec.upto kbestIterateSpec)

/-- 'emendatelaw31.KbestOrder', WHERE WHAT IT READS IS OF BULK AT MOST 1048576: true; the input reads as it did. -/
def kbestOrderUptoRow : OpenClaim := { program := "ytajbmdjlfniofaadoor", sum := "61e06affa2935ab3cac2779fd541bbb22fc267bacb07ddc43c8c142bd6919d2b", func := "emendate/emendatelaw31.KbestOrder", spec := "kbestOrder", unfollowed := true, recurses := true, named := ["internal/strconv.uint64pow10", "math/bits.deBruijn32tab", "math/bits.deBruijn64tab"], apart := false, laid := [("math/bits.deBruijn32tab", laid_math_bits_deBruijn32tab), ("math/bits.deBruijn64tab", laid_math_bits_deBruijn64tab), ("internal/strconv.uint64pow10", laid_internal_strconv_uint64pow10)], narrowed := true }
def KbestOrderUptoSaid : Prop := kbestOrderUptoRow.holds Tryd.pinned (OpenSpec.upto kbestOrderSpec)

/-- 'emendatelaw31.KbestComplete', WHERE WHAT IT READS IS OF BULK AT MOST 1048576: true; the input reads as it did. -/
def kbestCompleteUptoRow : OpenClaim := { program := "ytajbmdjlfniofaadoor", sum := "61e06affa2935ab3cac2779fd541bbb22fc267bacb07ddc43c8c142bd6919d2b", func := "emendate/emendatelaw31.KbestComplete", spec := "kbestComplete", unfollowed := true, recurses := true, named := ["internal/strconv.uint64pow10", "math/bits.deBruijn32tab", "math/bits.deBruijn64tab"], loops := true, apart := false, laid := [("math/bits.deBruijn32tab", laid_math_bits_deBruijn32tab), ("math/bits.deBruijn64tab", laid_math_bits_deBruijn64tab), ("internal/strconv.uint64pow10", laid_internal_strconv_uint64pow10)], narrowed := true }
def KbestCompleteUptoSaid : Prop := kbestCompleteUptoRow.holds Tryd.pinned (OpenSpec.upto kbestCompleteSpec)

/-- 'emendatelaw31.KbestBest', WHERE WHAT IT READS IS OF BULK AT MOST 1048576: true; the input reads as it did. -/
def kbestBestUptoRow : OpenClaim := { program := "ytajbmdjlfniofaadoor", sum := "61e06affa2935ab3cac2779fd541bbb22fc267bacb07ddc43c8c142bd6919d2b", func := "emendate/emendatelaw31.KbestBest", spec := "kbestBest", unfollowed := true, recurses := true, named := ["internal/strconv.uint64pow10", "math/bits.deBruijn32tab", "math/bits.deBruijn64tab"], apart := false, laid := [("math/bits.deBruijn32tab", laid_math_bits_deBruijn32tab), ("math/bits.deBruijn64tab", laid_math_bits_deBruijn64tab), ("internal/strconv.uint64pow10", laid_internal_strconv_uint64pow10)], narrowed := true }
def KbestBestUptoSaid : Prop := kbestBestUptoRow.holds Tryd.pinned (OpenSpec.upto kbestBestSpec)

/-- 'emendatelaw31.KbestPrefix', WHERE WHAT IT READS IS OF BULK AT MOST 1048576: true; the input reads as it did. -/
def kbestPrefixUptoRow : OpenClaim := { program := "ytajbmdjlfniofaadoor", sum := "61e06affa2935ab3cac2779fd541bbb22fc267bacb07ddc43c8c142bd6919d2b", func := "emendate/emendatelaw31.KbestPrefix", spec := "kbestPrefix", unfollowed := true, recurses := true, named := ["internal/strconv.uint64pow10", "math/bits.deBruijn32tab", "math/bits.deBruijn64tab"], apart := false, laid := [("math/bits.deBruijn32tab", laid_math_bits_deBruijn32tab), ("math/bits.deBruijn64tab", laid_math_bits_deBruijn64tab), ("internal/strconv.uint64pow10", laid_internal_strconv_uint64pow10)], narrowed := true }
def KbestPrefixUptoSaid : Prop := kbestPrefixUptoRow.holds Tryd.pinned (OpenSpec.upto kbestPrefixSpec)

/-- 'emendatelaw31.KbestEdges', WHERE WHAT IT READS IS OF BULK AT MOST 1048576: true; the input reads as it did. -/
def kbestEdgesUptoRow : OpenClaim := { program := "ytajbmdjlfniofaadoor", sum := "61e06affa2935ab3cac2779fd541bbb22fc267bacb07ddc43c8c142bd6919d2b", func := "emendate/emendatelaw31.KbestEdges", spec := "kbestEdges", unfollowed := true, recurses := true, named := ["internal/strconv.uint64pow10", "math/bits.deBruijn32tab", "math/bits.deBruijn64tab"], apart := false, laid := [("math/bits.deBruijn32tab", laid_math_bits_deBruijn32tab), ("math/bits.deBruijn64tab", laid_math_bits_deBruijn64tab), ("internal/strconv.uint64pow10", laid_internal_strconv_uint64pow10)], narrowed := true }
def KbestEdgesUptoSaid : Prop := kbestEdgesUptoRow.holds Tryd.pinned (OpenSpec.upto kbestEdgesSpec)

end Rows
end Go.Proofs.YtajbmdjlfniofaaDoor
