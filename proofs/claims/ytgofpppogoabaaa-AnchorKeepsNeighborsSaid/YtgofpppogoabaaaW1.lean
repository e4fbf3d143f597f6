import Derived.Test.YtgofpppogoabaaaRows
import Derived.Test.YtgofpppogoabaaaPure
import Derived.WalkKit
import Derived.WalkSpells
import Derived.WalkLawsBesides
import Derived.BigQuiet
import Derived.Outline
import Derived.Handy
namespace Go.Proofs.Ytgofpppogoabaaa
open Go.RowKit
set_option maxHeartbeats 400000 in
theorem move_any (o : Int) (r : Bool) (a d : Int) (s : ByteArray) (w : World) :
    Calls Try.prog 10 #[anc o r, edt a d s] w fun e w' => e = .returned (anc (mvO o r a d s.size) r) ∧ Below w.heap.size w w' := by
  go_enter Try.func10, Try.ntmps10
  go_wp2
  all_goals
    go_returns
    refine ⟨?_, by go_grown⟩
    simp_all [mvO, Int.not_lt]
    try omega
set_option maxHeartbeats 400000 in
theorem refMove_any (o : Int) (r : Bool) (a d : Int) (s : ByteArray) (w : World) (h1 : 0 ≤ o) (h2 : o ≤ 1000) (h3 : 0 ≤ a) (h4 : a ≤ 1000) (h5 : 0 ≤ d) (h6 : d ≤ 1000) (h7 : s.size ≤ 1000) :
    Calls Try.prog 11 #[anc o r, edt a d s] w fun e w' => e = .returned (anc (mvO o r a d s.size) r) ∧ Below w.heap.size w w' := by
  go_enter Try.func11, Try.ntmps11
  go_wp2
  all_goals
    go_returns
    refine ⟨?_, by go_grown⟩
    simp_all [mvO, Int.not_lt]
    try go_arith
set_option maxHeartbeats 400000 in
theorem small_any (o : Int) (r : Bool) (a d : Int) (s : ByteArray) (w : World) :
    Calls Try.prog 8 #[anc o r, edt a d s] w fun e w' => e = .returned (.bool (smallB o a d s.size)) ∧ Below w.heap.size w w' := by
  go_enter Try.func8, Try.ntmps8
  go_wp2
  all_goals
    go_returns
    refine ⟨?_, by go_grown⟩
    simp_all [smallB, Int.not_lt]
    try omega
set_option maxHeartbeats 400000 in
theorem fits_any (n : Int) (a d : Int) (s : ByteArray) (w : World) :
    Calls Try.prog 12 #[edt a d s, .int .i64 n] w fun e w' => e = .returned (.bool (fitsB a d n)) ∧ Below w.heap.size w w' := by
  go_enter Try.func12, Try.ntmps12
  go_wp2
  all_goals
    go_returns
    refine ⟨?_, by go_grown⟩
    simp_all [fitsB, Int.not_lt]
    try omega
theorem at_any (n : Int) (w : World) :
    Calls Try.prog 14 #[.int .i64 n] w fun e w' => e = .returned (anc n false) ∧ Below w.heap.size w w' := by
  go_enter Try.func14, Try.ntmps14
  go_wp2
  go_returns
  exact ⟨rfl, by go_grown⟩
theorem right_any (n : Int) (w : World) :
    Calls Try.prog 15 #[.int .i64 n] w fun e w' => e = .returned (anc n true) ∧ Below w.heap.size w w' := by
  go_enter Try.func15, Try.ntmps15
  go_wp2
  go_returns
  exact ⟨rfl, by go_grown⟩
end Go.Proofs.Ytgofpppogoabaaa
