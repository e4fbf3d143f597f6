import Derived.Test.YtgofpppogoabaaaW1
import Derived.Deep.RegionHeld3
import Derived.Deep.LoopGhost
import Derived.Lib.Hide
import Derived.Test.YtgofpppogoabaaaOrders
import Derived.Test.YtgofpppogoabaaaWords
import Derived.Test.YtgofpppogoabaaaMem
import Derived.Maps.AppendAt
namespace Go.Proofs.Ytgofpppogoabaaa
open Go.RowKit
attribute [local go_sem] Oper.lit
theorem info23 : (Try.prog.info? 23).map (fun i => (i.zero, i.size, i.bytes)) = some (some (.agg #[.int .i64 0, .bool false]), 2, 16) := by kernel_rfl
/-- the first i anchors moved -/
def stepF (e : Int × Int × ByteArray) (i : Nat) (F : Nat → Int × Bool) : Nat → Int × Bool := fun j => if j < i then (mvO (F j).1 (F j).2 e.1 e.2.1 e.2.2.size, (F j).2) else F j
def allF (E : Nat → Int × Int × ByteArray) (n : Nat) (F : Nat → Int × Bool) : Nat → (Nat → Int × Bool)
  | 0 => F
  | k + 1 => stepF (E k) n (allF E n F k)
/-- block g holds the anchors F -/
def Ancs (w : World) (g cap n : Nat) (F : Nat → Int × Bool) : Prop :=
  ∃ cur, w.heap[g]? = some (.cells cur 23 (0, 0)) ∧ cur.size = cap * 2 ∧ ∀ i, i < n → cur[i * 2]? = some (.int .i64 (F i).1) ∧ cur[i * 2 + 1]? = some (.bool (F i).2)
def Edts (w : World) (b o m : Nat) (E : Nat → Int × Int × ByteArray) : Prop :=
  ∀ k, k < m → w.cell? ⟨b, o + k * 3, none⟩ = some (.int .i64 (E k).1) ∧ w.cell? ⟨b, o + k * 3 + 1, none⟩ = some (.int .i64 (E k).2.1) ∧ w.cell? ⟨b, o + k * 3 + 2, none⟩ = some (.string (E k).2.2)

theorem Ancs.lt {w : World} {g cap n : Nat} {F : Nat → Int × Bool} (h : Ancs w g cap n F) : g < w.heap.size := by
  obtain ⟨cur, hb, _⟩ := h
  exact (Array.getElem?_eq_some_iff.1 hb).1
theorem Ancs.cell {w : World} {g cap n : Nat} {F : Nat → Int × Bool} (h : Ancs w g cap n F) {i : Nat} (hi : i < n) :
    w.cell? ⟨g, i * 2, none⟩ = some (.int .i64 (F i).1) ∧ w.cell? ⟨g, i * 2 + 1, none⟩ = some (.bool (F i).2) := by
  obtain ⟨cur, hb, _, hc⟩ := h
  obtain ⟨h1, h2⟩ := hc i hi
  exact ⟨by rw [cell_of_row w g _ cur 23 (0, 0) hb]; exact h1, by rw [cell_of_row w g _ cur 23 (0, 0) hb]; exact h2⟩
theorem Ancs.frozen {w : World} {g cap n : Nat} {F : Nat → Int × Bool} (h : Ancs w g cap n F) (i : Nat) : w.frozen? ⟨g, i, none⟩ = false := by
  obtain ⟨cur, hb, _⟩ := h
  simp [World.frozen?, hb]
theorem Ancs.of_block {w w' : World} {g cap n : Nat} {F : Nat → Int × Bool} (h : Ancs w g cap n F) (e : w'.heap[g]? = w.heap[g]?) : Ancs w' g cap n F := by
  obtain ⟨cur, hb, r⟩ := h
  exact ⟨cur, e.trans hb, r⟩
theorem Ancs.congr {w : World} {g cap n : Nat} {F G : Nat → Int × Bool} (h : Ancs w g cap n F) (e : ∀ i, i < n → F i = G i) : Ancs w g cap n G := by
  obtain ⟨cur, hb, hs, hc⟩ := h
  exact ⟨cur, hb, hs, fun i hi => by rw [← e i hi]; exact hc i hi⟩
theorem Ancs.set {w : World} {g cap n : Nat} {F : Nat → Int × Bool} (h : Ancs w g cap n F) (i : Nat) (x : Int) (y : Bool) :
    Ancs ((w.setCell ⟨g, i * 2, none⟩ (.int .i64 x)).setCell ⟨g, i * 2 + 1, none⟩ (.bool y)) g cap n (fun j => if j = i then (x, y) else F j) := by
  obtain ⟨cur, hb, hs, hc⟩ := h
  refine ⟨(cur.setIfInBounds (i * 2) (.int .i64 x)).setIfInBounds (i * 2 + 1) (.bool y), ?_, by simpa using hs, fun k hk => ?_⟩
  · simp [World.setCell, Array.getElem?_modify, hb]
  · obtain ⟨h1, h2⟩ := hc k hk
    have l1 := (Array.getElem?_eq_some_iff.1 h1).1
    have l2 := (Array.getElem?_eq_some_iff.1 h2).1
    simp only [Array.getElem?_setIfInBounds, Array.size_setIfInBounds]
    by_cases e : k = i
    · subst e
      simp [l1, l2]
    · have e1 : ¬ i * 2 + 1 = k * 2 := by omega
      have e2 : ¬ i * 2 = k * 2 := by omega
      have e3 : ¬ i * 2 + 1 = k * 2 + 1 := by omega
      have e4 : ¬ i * 2 = k * 2 + 1 := by omega
      simp only [if_neg e1, if_neg e2, if_neg e3, if_neg e4, if_neg e]
      exact ⟨h1, h2⟩
theorem stepF_next (e : Int × Int × ByteArray) (j : Nat) (F : Nat → Int × Bool) : ∀ i, (if i = j then (mvO (stepF e j F j).1 (stepF e j F j).2 e.1 e.2.1 e.2.2.size, (stepF e j F j).2) else stepF e j F i) = stepF e (j + 1) F i := by
  intro i
  unfold stepF
  by_cases h : i = j
  · subst h; simp
  · simp only [if_neg h]
    by_cases h2 : i < j
    · rw [if_pos h2, if_pos (by omega)]
    · rw [if_neg h2, if_neg (by omega)]
def encA (p : Int × Bool) : List Value := [.int .i64 p.1, .bool p.2]
theorem encA_len (p : Int × Bool) : (encA p).length = 2 := rfl
theorem encA_one (l : List (Int × Bool)) : ∀ u ∈ l.flatMap encA, u.oneCell' = true := by
  intro u hu
  obtain ⟨p, _, hu⟩ := List.mem_flatMap.1 hu
  simp only [encA, List.mem_cons, List.not_mem_nil, or_false] at hu
  rcases hu with rfl | rfl <;> rfl
set_option maxHeartbeats 400000 in
theorem clone_any (ba oa : Nat) (n c : Nat) (F : Nat → Int × Bool) (w : World) (hn0 : 0 < n) (hn : n ≤ 1000)
    (hF : ∀ i, i < n → w.cell? ⟨ba, oa + i * 2, none⟩ = some (.int .i64 (F i).1) ∧ w.cell? ⟨ba, oa + i * 2 + 1, none⟩ = some (.bool (F i).2)) :
    Calls Try.prog 16 #[.slice (some ⟨ba, oa, none⟩) n c] w fun e w' => ∃ g cap, e = .returned (.slice (some ⟨g, 0, none⟩) n cap) ∧ w.heap.size ≤ g ∧ Ancs w' g cap n F ∧ Below w.heap.size w w' := by
  obtain ⟨i0, hi, hz0, hz1, hz2⟩ := info_parts info23
  have hR : RdS w (some ⟨ba, oa, none⟩) 2 encA ((List.range n).map F) := by
    intro i a hia
    rw [List.getElem?_map] at hia
    obtain ⟨k, hk, rfl⟩ := Option.map_eq_some_iff.1 hia
    obtain ⟨hlt, rfl⟩ := List.getElem?_eq_some_iff.1 hk
    simp only [List.length_range, List.getElem_range] at hlt ⊢
    refine ⟨ba, oa, rfl, fun j u hj hu => ?_⟩
    obtain ⟨h1, h2⟩ := hF i hlt
    match j, hj with
    | 0, _ => simp only [encA, List.getElem?_cons_zero, Option.some.injEq] at hu; subst hu; exact h1
    | 1, _ => simp only [encA, List.getElem?_cons_succ, List.getElem?_cons_zero, Option.some.injEq] at hu; subst hu; exact h2
  have hlen : (((List.range n).map F).flatMap encA).length = n * 2 := by rw [flat_len encA 2 encA_len]; simp
  have hone := encA_one ((List.range n).map F)
  generalize hxs : ((List.range n).map F).flatMap encA = xs at *
  have HX := Lib.hid hxs
  have hnews := RdS.news encA_len (hR.fut (Fut.refl w |>.alloc (.cells #[] 23)))
  rw [HX.out] at hnews
  have HN := Lib.hid hnews
  have HL := Lib.hid hlen
  have HF := Lib.hid hF
  have HO := Lib.hid hone
  clear hF hR hxs hnews hlen hone
  have hown := World.ownsRow_lit (base := w.heap.size) (e := 23) (size := 2) w #[] 0 (Nat.le_refl _) (by simp [maxLen]) rfl
  have HW := Lib.hid hown
  clear hown
  have hnil := fun w => @Lib.run_eql_slice_nil Try.prog w 33
  have hn00 : ((n : Int) == 0) = false := by simp; omega
  have hn01 : (0 : Int) < n := by omega
  go_enter Try.func16, Try.ntmps16
  go_wp2_with (at_builtin; refine wpList_append_own _ rfl (.tmp 5) (.tmp 6) 33 rfl w.heap.size 23 i0 (.agg #[.int .i64 0, .bool false]) 2 16 Try.underlying33 hi hz0 hz1 hz2 rfl (by decide) _ 0 [] rfl HW.out ⟨ba, oa, none⟩ n c xs rfl HL.out HN.out HO.out (by simp [maxLen]; omega) (by omega) (by simp) ?_; intro v1 w1 hown1 hg1 _)
  go_ret
  have hform := hown1.form (by omega)
  simp only [Nat.zero_add, List.nil_append] at hown1 hform
  obtain ⟨g, cap, rfl, hgw, hgl⟩ := hform
  refine ⟨g, cap, rfl, hgw, ?_, ?_⟩
  · rcases hown1.2 with ⟨h, _⟩ | ⟨g', cap', cur, hv, _, hh, _, _, hs, ht⟩
    · cases h
    · injection hv with h1 h2 h3
      injection h1 with h1
      injection h1 with h1
      subst h1 h3
      refine ⟨cur, hh, hs, fun i hi => ?_⟩
      have hx : ((List.range n).map F)[i]? = some (F i) := by simp [hi]
      have k0 := flat_get encA 2 encA_len _ i (F i) 0 hx (by decide)
      have k1 := flat_get encA 2 encA_len _ i (F i) 1 hx (by decide)
      rw [HX.out, ← ht, List.getElem?_take, if_pos (by omega)] at k0 k1
      simp only [Array.getElem?_toList] at k0 k1
      exact ⟨k0, k1⟩
  · refine (Below.refl _ _).trans ?_
    have h1 : Below w.heap.size w (w.alloc (.cells #[] 23)) := (Below.refl _ _).alloc (Nat.le_refl _) _
    exact h1.grown hg1 (by simp) (fun k hk => by
      have h2 : some w.heap.size = some k := hk
      injection h2 with h2
      omega)
set_option maxHeartbeats 400000 in
theorem moveAll_any (ba oa be oe : Nat) (n c m ce : Nat) (F : Nat → Int × Bool) (E : Nat → Int × Int × ByteArray) (w : World) (hn0 : 0 < n) (hn : n ≤ 1000) (hm : m ≤ 1000) (hE : Edts w be oe m E) (hbe : be < w.heap.size)
    (hF : ∀ i, i < n → w.cell? ⟨ba, oa + i * 2, none⟩ = some (.int .i64 (F i).1) ∧ w.cell? ⟨ba, oa + i * 2 + 1, none⟩ = some (.bool (F i).2)) :
    Calls Try.prog 13 #[.slice (some ⟨ba, oa, none⟩) n c, .slice (some ⟨be, oe, none⟩) m ce] w fun e w' => ∃ g cap, e = .returned (.slice (some ⟨g, 0, none⟩) n cap) ∧ Ancs w' g cap n (allF E n F m) ∧ Below w.heap.size w w' := by
  have HF := Lib.hid hF
  clear hF
  go_enter Try.func13, Try.ntmps13
  go_wp2_with fail
  refine (clone_any ba oa n c F w hn0 hn HF.out).mono ?_
  rintro e w1 ⟨g, cap, rfl, hg, hA, hb⟩
  go_wp2_with fail
  go_loopw [13] (fun i wr => ∃ k : Nat, k ≤ m ∧ i = .int .i64 k ∧ Ancs wr g cap n (allF E n F k) ∧ Below w.heap.size w wr) (fun i _ => m - (intOf i).toNat)
  case atStart => exact ⟨0, Nat.zero_le _, rfl, hA, hb⟩
  case round =>
    obtain ⟨k, hk, rfl, hAk, hbk⟩ := hrel
    obtain ⟨wo, rfl⟩ : ∃ wo : World, wo = wr := ⟨_, rfl⟩
    by_cases hlt : k < m
    · obtain ⟨e0, e1, e2⟩ := hE k hlt
      have c0 := (hbk.cell (p := ⟨be, oe + k * 3, none⟩) hbe).trans e0
      have c1 := (hbk.cell (p := ⟨be, oe + k * 3 + 1, none⟩) hbe).trans e1
      have c2 := (hbk.cell (p := ⟨be, oe + k * 3 + 2, none⟩) hbe).trans e2
      generalize hEk : E k = ek at *
      have HEk := Lib.hid hEk
      clear hEk
      obtain ⟨x0, x1, x2⟩ := ek
      simp only at c0 c1 c2
      go_wp2_with fail
      have hbox := Blk.new wo 25 #[.int .i64 x0, .int .i64 x1, .string x2]
      have hA2 : Ancs (wo.alloc (.cells #[.int .i64 x0, .int .i64 x1, .string x2] 25)) g cap n (stepF (x0, x1, x2) 0 (allF E n F k)) :=
        (hAk.of_block (Below.heap_alloc _ _ _ hAk.lt)).congr (fun i _ => by simp [stepF])
      have hb2 : Below w.heap.size w (wo.alloc (.cells #[.int .i64 x0, .int .i64 x1, .string x2] 25)) := hbk.alloc hbk.size _
      have hgl : g < wo.heap.size := hAk.lt
      clear hAk c0 c1 c2
      generalize hG : allF E n F k = G at *
      have HG := Lib.hid hG
      clear hG
      generalize hbx : wo.heap.size = bx at *
      generalize wo.alloc (.cells #[.int .i64 x0, .int .i64 x1, .string x2] 25) = wi at *
      clear hbx
      go_loopw [19] (fun i wj => ∃ j : Nat, j ≤ n ∧ i = .int .i64 j ∧ Ancs wj g cap n (stepF (x0, x1, x2) j G) ∧ Below w.heap.size w wj ∧ Blk wj bx 25 #[.int .i64 x0, .int .i64 x1, .string x2]) (fun i _ => n - (intOf i).toNat)
      case atStart => exact ⟨0, Nat.zero_le _, rfl, hA2, hb2, hbox⟩
      case round =>
        obtain ⟨j, hj, rfl, hAj, hbj, hboxj⟩ := hrel
        by_cases hlj : j < n
        · have c0 := cell_fut (v := .int .i64 x0) ((hboxj.cell 0).trans rfl)
          have c1 := cell_fut (v := .int .i64 x1) ((hboxj.cell 1).trans rfl)
          have c2 := cell_fut (v := .string x2) ((hboxj.cell 2).trans rfl)
          obtain ⟨hd0, hd1⟩ := hAj.cell hlj
          have d0 := cell_fut hd0
          have d1 := cell_fut hd1
          clear hd0 hd1
          go_wp2_with fail
          refine wp_region_F o_anchor_MoveAll_8 (by kernel_rfl) (by kernel_rfl) (by intro c a d v w h; cases d <;> exact h) ?_
          unfold o_anchor_MoveAll_8
          repeat (refine wpF_hoist rfl (fun K hK => ?_); go_simp; refine hK _ _ ?_; clear hK K)
          refine wpF_heavy rfl (fun K hK => ?_)
          go_simp
          refine (move_any _ _ _ _ _ _).mono ?_
          rintro e w2 ⟨rfl, hb2⟩
          have hf2 : Fut wr w2 := (Fut.refl wr).drew.trans hb2
          refine hK _ _ (.inr hb2) ?_; clear hK K
          repeat (refine wpF_hoist rfl (fun K hK => ?_); go_simp; refine hK _ _ ?_; clear hK K)
          refine wpF_heavy rfl (fun K hK => ?_)
          have hA3 := hAj.of_block (hb2.block g hAj.lt)
          obtain ⟨d0', d1'⟩ := hA3.cell hlj
          have d2' := hA3.frozen (j * 2)
          have d3' := hA3.frozen (j * 2 + 1)
          go_simp
          refine hK _ _ (.inl (by kernel_rfl)) ?_; clear hK K
          refine wpF_nil ?_
          go_wp2_with fail
          refine ⟨⟨j + 1, by omega, by go_num, ?_, ?_, ?_⟩, by simp [intOf]; omega⟩
          · exact (hA3.set j _ _).congr (fun i _ => stepF_next (x0, x1, x2) j G i)
          · refine Below.setCell (Below.setCell (hbj.trans (hf2.below.mono hbj.size)) ?_ _) ?_ _ <;> exact hg
          · exact ((hboxj.below hf2.below hboxj.lt).far (by simp; omega) _).far (by simp; omega) _
        · have e : j = n := by omega
          have HJ := Lib.hid e
          clear e
          go_wp2_with fail
          refine ⟨⟨k + 1, by omega, by go_num, ?_, hbj⟩, by simp [intOf]; omega⟩
          rw [HJ.out] at hAj
          simp only [allF, HEk.out, HG.out]
          exact hAj
    · have e : k = m := by omega
      have HK := Lib.hid e
      clear e
      go_wp2_with fail
      go_ret
      rw [HK.out] at hAk
      exact ⟨g, cap, rfl, hAk, hbk⟩
end Go.Proofs.Ytgofpppogoabaaa
