/-
  Hypergraphs: how one lies in memory; its validity as plain mathematics; whether two lists are the same.
-/
import Derived.Test.YtjoejkfchnooaaaOrders
import Derived.Test.YtjoejkfchnooaaaMem
import Derived.Test.YtjoejkfchnooaaaProg
import Derived.Handy
import Derived.Deep.RegionHeld
import Derived.LoopTactic
import Derived.WalkKit
import Derived.WalkSpells
import Derived.WalkLawsBesides
import Derived.BigQuiet
namespace Go.Proofs.Ytjoejkfchnooaaa
open Go.RowKit
attribute [local go_sem] Oper.lit fut_fut fut_drew World.cell?_alloc_some
/-- a hyperedge, and where its tails lie -/
structure EI where
  h : Int
  t : List Int
  c : Int
  l0 : Int
  l1 : Int
  A : Option Addr
  k : Nat
def encE (e : EI) : List Value := [.int .i64 e.h, .slice e.A e.t.length e.k, .int .i64 e.c, .int .i64 e.l0, .int .i64 e.l1]
def RdE (w : World) (A : Option Addr) (es : List EI) : Prop := RdS w A 5 encE es ∧ ∀ e ∈ es, Rd1 w e.A (.int .i64 ·) e.t ∧ e.t.length ≤ maxLen
theorem RdE.fut {w w' : World} {A : Option Addr} {es : List EI} (h : RdE w A es) (hf : Fut w w') : RdE w' A es :=
  ⟨h.1.fut hf, fun e he => ⟨(h.2 e he).1.fut hf, (h.2 e he).2⟩⟩
abbrev hv (N : Int) (A : Option Addr) (n c : Nat) : Value := .agg #[.int .i64 N, .slice A n c]
def inB' (N x : Int) : Bool := decide (0 ≤ x) && decide (x < N)
def okE (N : Int) (e : EI) : Bool := inB' N e.h && decide (0 ≤ e.c) && decide (e.c ≤ 1099511627776) && e.t.all (inB' N)
def validB (N : Int) (es : List EI) : Bool := decide (1 ≤ N) && decide (N ≤ 1048576) && es.all (okE N)
def smallB (N : Int) (es : List EI) : Bool := decide (N ≤ 30) && decide (es.length ≤ 60) && es.all (fun e => decide (e.t.length ≤ 4)) && validB N es

theorem take_all {α : Type} {p : α → Bool} {l : List α} {k : Nat} {x : α} (h : (l.take k).all p = true) (hx : l[k]? = some x) (hp : p x = true) : (l.take (k + 1)).all p = true := by
  rw [List.take_add_one, hx, List.all_append, h]; simp [hp]
theorem all_not {α : Type} {p : α → Bool} {l : List α} {k : Nat} {x : α} (hx : l[k]? = some x) (hp : p x = false) : l.all p = false :=
  List.all_eq_false.2 ⟨x, List.mem_of_getElem? hx, by simp [hp]⟩
theorem all_take {α : Type} {p : α → Bool} {l : List α} {k : Nat} (h : (l.take k).all p = true) (hk : l.length ≤ k) : l.all p = true := by
  rwa [List.take_of_length_le hk] at h
theorem get_lt {α : Type} {l : List α} {k n : Nat} (hl : l.length = n) (hk : k < n) : ∃ x, l[k]? = some x := ⟨_, List.getElem?_eq_getElem (by omega)⟩

set_option maxHeartbeats 1600000 in
theorem sameInts_any (A B : Option Addr) (n c m d : Nat) (l k : List Int) (w : World) (hl : l.length = n) (hk : k.length = m) (hn : n ≤ maxLen) (hm : m ≤ maxLen) (hR : Rd1 w A (.int .i64 ·) l) (hS : Rd1 w B (.int .i64 ·) k) :
    Calls Try.prog 22 #[.slice A n c, .slice B m d] w fun e w' => e = .returned (.bool (decide (l = k))) ∧ Below w.heap.size w w' := by
  have hn' : n ≤ 9223372036854775807 := hn
  have hm' : m ≤ 9223372036854775807 := hm
  have HR := Lib.hid hR
  have HS := Lib.hid hS
  have HL := Lib.hid hl
  have HK := Lib.hid hk
  clear hR hS hl hk hn hm
  by_cases hnm : n = m
  · subst hnm
    go_enter Try.func22, Try.ntmps22
    go_wp2_with fail
    go_loopw [5] (fun i wr => ∃ j : Nat, j ≤ n ∧ i = .int .i64 j ∧ Hid (l.take j = k.take j) ∧ Fut w wr) (fun i _ => n - (intOf i).toNat)
    case atStart => exact ⟨0, Nat.zero_le _, rfl, Lib.hid (by simp), Fut.refl _⟩
    case round =>
      obtain ⟨j, hj, rfl, hpre, hF⟩ := hrel
      by_cases hlt : j < n
      · obtain ⟨x, hx⟩ := get_lt HL.out hlt
        obtain ⟨y, hy⟩ := get_lt HK.out hlt
        obtain ⟨b, o, rfl, hc1⟩ := HR.out j x hx
        obtain ⟨b2, o2, rfl, hc2⟩ := HS.out j y hy
        have f1 := cell_fut (hF.cell hc1)
        have f2 := cell_fut (hF.cell hc2)
        have HX := Lib.hid hx
        have HY := Lib.hid hy
        have HFF := Lib.hid hF
        clear hx hy hc1 hc2 hF
        by_cases hxy : x = y
        · have he : (x == y) = true := by simp [hxy]
          go_wp2_with fail
          refine wp_region_M o_emendateref27_SameInts_6 (by kernel_rfl) (by kernel_rfl) (by intro c a d v w h; cases d <;> exact h) ?_; unfold o_emendateref27_SameInts_6
          repeat (refine wpF_h rfl rfl (fun K hK => ?_); go_simp; refine hK _ _ ?_; clear hK K)
          refine wpF_nil ?_
          go_wp2_with fail
          refine ⟨⟨j + 1, by omega, by go_num, Lib.hid ?_, HFF.out.drew⟩, by simp [intOf]; omega⟩
          rw [List.take_add_one, List.take_add_one, HX.out, HY.out, hpre.out, hxy]
        · have he : (x == y) = false := by simp [hxy]
          go_wp2_with fail
          refine wp_region_M o_emendateref27_SameInts_6 (by kernel_rfl) (by kernel_rfl) (by intro c a d v w h; cases d <;> exact h) ?_; unfold o_emendateref27_SameInts_6
          repeat (refine wpF_h rfl rfl (fun K hK => ?_); go_simp; refine hK _ _ ?_; clear hK K)
          refine wpF_nil ?_
          go_wp2_with fail
          go_ret
          refine ⟨?_, HFF.out.drew⟩
          have : ¬ l = k := fun e => by
            subst e
            have h1 := HX.out
            rw [HY.out] at h1
            exact hxy (Option.some.inj h1).symm
          simp only [this, decide_false]; rfl
      · have hjn : j = n := by omega
        have he : l = k := by
          have h1 := hpre.out
          rwa [List.take_of_length_le (by rw [HL.out]; omega), List.take_of_length_le (by rw [HK.out]; omega)] at h1
        have HE := Lib.hid he
        clear he hjn
        go_wp2_with fail
        go_ret
        exact ⟨by rw [show decide (l = k) = true from by simp [HE.out]]; rfl, hF⟩
  · have hne : ¬ l = k := fun e => hnm (by rw [← HL.out, ← HK.out, e])
    have hb : ((n : Int) == (m : Int)) = false := by simp; omega
    have HN := Lib.hid hne
    clear hne
    go_enter Try.func22, Try.ntmps22
    go_wp2_with fail
    go_ret
    exact ⟨by rw [show decide (l = k) = false from by simp [HN.out]]; rfl, Fut.refl _⟩
set_option maxHeartbeats 1600000 in
theorem sameBools_any (A B : Option Addr) (n c m d : Nat) (l k : List Bool) (w : World) (hl : l.length = n) (hk : k.length = m) (hn : n ≤ maxLen) (hm : m ≤ maxLen) (hR : Rd1 w A (Value.bool ·) l) (hS : Rd1 w B (Value.bool ·) k) :
    Calls Try.prog 15 #[.slice A n c, .slice B m d] w fun e w' => e = .returned (.bool (decide (l = k))) ∧ Below w.heap.size w w' := by
  have hn' : n ≤ 9223372036854775807 := hn
  have hm' : m ≤ 9223372036854775807 := hm
  have HR := Lib.hid hR
  have HS := Lib.hid hS
  have HL := Lib.hid hl
  have HK := Lib.hid hk
  clear hR hS hl hk hn hm
  by_cases hnm : n = m
  · subst hnm
    go_enter Try.func15, Try.ntmps15
    go_wp2_with fail
    go_loopw [5] (fun i wr => ∃ j : Nat, j ≤ n ∧ i = .int .i64 j ∧ Hid (l.take j = k.take j) ∧ Fut w wr) (fun i _ => n - (intOf i).toNat)
    case atStart => exact ⟨0, Nat.zero_le _, rfl, Lib.hid (by simp), Fut.refl _⟩
    case round =>
      obtain ⟨j, hj, rfl, hpre, hF⟩ := hrel
      by_cases hlt : j < n
      · obtain ⟨x, hx⟩ := get_lt HL.out hlt
        obtain ⟨y, hy⟩ := get_lt HK.out hlt
        obtain ⟨b, o, rfl, hc1⟩ := HR.out j x hx
        obtain ⟨b2, o2, rfl, hc2⟩ := HS.out j y hy
        have f1 := cell_fut (hF.cell hc1)
        have f2 := cell_fut (hF.cell hc2)
        have HX := Lib.hid hx
        have HY := Lib.hid hy
        have HFF := Lib.hid hF
        clear hx hy hc1 hc2 hF
        by_cases hxy : x = y
        · have he : (x == y) = true := by simp [hxy]
          go_wp2_with fail
          refine wp_region_M o_emendateref27_SameBools_6 (by kernel_rfl) (by kernel_rfl) (by intro c a d v w h; cases d <;> exact h) ?_; unfold o_emendateref27_SameBools_6
          repeat (refine wpF_h rfl rfl (fun K hK => ?_); go_simp; refine hK _ _ ?_; clear hK K)
          refine wpF_nil ?_
          go_wp2_with fail
          refine ⟨⟨j + 1, by omega, by go_num, Lib.hid ?_, HFF.out.drew⟩, by simp [intOf]; omega⟩
          rw [List.take_add_one, List.take_add_one, HX.out, HY.out, hpre.out, hxy]
        · have he : (x == y) = false := by simp [hxy]
          go_wp2_with fail
          refine wp_region_M o_emendateref27_SameBools_6 (by kernel_rfl) (by kernel_rfl) (by intro c a d v w h; cases d <;> exact h) ?_; unfold o_emendateref27_SameBools_6
          repeat (refine wpF_h rfl rfl (fun K hK => ?_); go_simp; refine hK _ _ ?_; clear hK K)
          refine wpF_nil ?_
          go_wp2_with fail
          go_ret
          refine ⟨?_, HFF.out.drew⟩
          have : ¬ l = k := fun e => by
            subst e
            have h1 := HX.out
            rw [HY.out] at h1
            exact hxy (Option.some.inj h1).symm
          simp only [this, decide_false]; rfl
      · have hjn : j = n := by omega
        have he : l = k := by
          have h1 := hpre.out
          rwa [List.take_of_length_le (by rw [HL.out]; omega), List.take_of_length_le (by rw [HK.out]; omega)] at h1
        have HE := Lib.hid he
        clear he hjn
        go_wp2_with fail
        go_ret
        exact ⟨by rw [show decide (l = k) = true from by simp [HE.out]]; rfl, hF⟩
  · have hne : ¬ l = k := fun e => hnm (by rw [← HL.out, ← HK.out, e])
    have hb : ((n : Int) == (m : Int)) = false := by simp; omega
    have HN := Lib.hid hne
    clear hne
    go_enter Try.func15, Try.ntmps15
    go_wp2_with fail
    go_ret
    exact ⟨by rw [show decide (l = k) = false from by simp [HN.out]]; rfl, Fut.refl _⟩
end Go.Proofs.Ytjoejkfchnooaaa
