/-
  Plain laws of columns: parts of a token sequence.
-/
import Derived.Test.YtagmpbgidooibaaCp
import Derived.Test.YtagmpbgidooibaaC15
namespace Go.Proofs.Ytagmpbgidooibaa
open Go.RowKit
theorem gi_take {l : List Int} {k i : Nat} (h : i < k) : gi (l.take k) i = gi l i := by
  unfold gi
  rw [List.getD_eq_getElem?_getD, List.getD_eq_getElem?_getD, List.getElem?_take_of_lt h]
theorem gi_drop {l : List Int} {k i : Nat} : gi (l.drop k) i = gi l (k + i) := by
  unfold gi
  rw [List.getD_eq_getElem?_getD, List.getD_eq_getElem?_getD, List.getElem?_drop]
theorem cf_take {l : List XX} {k i : Nat} (h : i < k) : cf (l.take k) i = cf l i := by
  unfold cf
  rw [List.getElem?_take_of_lt h]
theorem cf_drop {l : List XX} {k i : Nat} : cf (l.drop k) i = cf l (k + i) := by
  unfold cf
  rw [List.getElem?_drop]
section
variable {ks : List Int} {cs : List XX} {ins del : List Int} {rep : List RR} {s u : Int}
theorem of_take (h : ofE ks cs ins del rep s u = 0) (hl : cs.length = ks.length) (k : Nat) : ofE (ks.take k) (cs.take k) ins del rep s u = 0 := by
  obtain ⟨hp, _, hok, h60⟩ := ofE_zero h
  rw [ofE_good hp (.inr (by simp [hl])) (fun i hi => ?_), if_neg (by rw [List.length_take]; omega)]
  rw [List.length_take] at hi
  rw [gi_take (by omega), cf_take (by omega)]
  exact hok i (by omega)
theorem of_drop (h : ofE ks cs ins del rep s u = 0) (hl : cs.length = ks.length) (k : Nat) : ofE (ks.drop k) (cs.drop k) ins del rep s u = 0 := by
  obtain ⟨hp, _, hok, h60⟩ := ofE_zero h
  rw [ofE_good hp (.inr (by simp [hl])) (fun i hi => ?_), if_neg (by rw [List.length_drop]; omega)]
  rw [List.length_drop] at hi
  rw [gi_drop, cf_drop]
  exact hok (k + i) (by omega)
theorem ofK_split (T k : Nat) (hk : k ≤ ks.length) : ofK ks cs del rep u T = ofK (ks.take k) (cs.take k) del rep u T ++ ofK (ks.drop k) (cs.drop k) del rep u T := by
  unfold ofK
  have e1 : (ks.take k).length = k := by rw [List.length_take]; omega
  have e2 : (ks.drop k).length = ks.length - k := List.length_drop
  rw [e1, e2]
  have e3 : List.range ks.length = List.range k ++ (List.range (ks.length - k)).map (k + ·) := by
    rw [← List.range_add]
    congr 1
    omega
  rw [e3, List.map_append, List.map_map]
  congr 1
  · refine List.map_congr_left fun i hi => ?_
    have := List.mem_range.1 hi
    rw [gi_take this, cf_take this]
  · refine List.map_congr_left fun i hi => ?_
    simp only [Function.comp, gi_drop, cf_drop]
end
/-- the address that a cut from below gives -/
def cutA (A : Option Addr) (c k sz : Nat) : Option Addr := if c = k then A else Option.map (fun x => x.add (k * sz)) A
theorem Rd1.cutTop {w : World} {A : Option Addr} {l : List Int} (h : Rd1 w A (.int .i64 ·) l) (k : Nat) : Rd1 w A (.int .i64 ·) (l.take k) := by
  intro i a hi
  have hl := (List.getElem?_eq_some_iff.1 hi).1
  rw [List.length_take] at hl
  rw [List.getElem?_take_of_lt (by omega)] at hi
  exact h i a hi
theorem Rd1.cutLow {w : World} {A : Option Addr} {l : List Int} {c : Nat} (h : Rd1 w A (.int .i64 ·) l) (hc : l.length ≤ c) (k : Nat) : Rd1 w (cutA A c k 1) (.int .i64 ·) (l.drop k) := by
  intro i a hi
  rw [List.getElem?_drop] at hi
  have hl := (List.getElem?_eq_some_iff.1 hi).1
  obtain ⟨b, o, rfl, hcell⟩ := h _ _ hi
  refine ⟨b, o + k, ?_, by rw [show o + k + i = o + (k + i) by omega]; exact hcell⟩
  unfold cutA
  rw [if_neg (by omega)]
  simp [Addr.add]
theorem RdX.cutTop {w : World} {A : Option Addr} {l : List XX} (h : RdX w A l) (k : Nat) : RdX w A (l.take k) := by
  refine ⟨fun i a hi => ?_, fun x hx => h.2 x (List.mem_of_mem_take hx)⟩
  have hl := (List.getElem?_eq_some_iff.1 hi).1
  rw [List.length_take] at hl
  rw [List.getElem?_take_of_lt (by omega)] at hi
  exact h.1 i a hi
theorem RdX.cutLow {w : World} {A : Option Addr} {l : List XX} {c : Nat} (h : RdX w A l) (hc : l.length ≤ c) (k : Nat) : RdX w (cutA A c k 1) (l.drop k) := by
  refine ⟨fun i a hi => ?_, fun x hx => h.2 x (List.mem_of_mem_drop hx)⟩
  rw [List.getElem?_drop] at hi
  have hl := (List.getElem?_eq_some_iff.1 hi).1
  obtain ⟨b, o, rfl, hcell⟩ := h.1 _ _ hi
  refine ⟨b, o + k, ?_, fun j u hj hu => by rw [show o + k + i * 1 + j = o + (k + i) * 1 + j by omega]; exact hcell j u hj hu⟩
  unfold cutA
  rw [if_neg (by omega)]
  simp [Addr.add]
end Go.Proofs.Ytagmpbgidooibaa
