/-
  Texts joined: Regions that draw their order, in a round's frame; All pairs of offsets: the iterator; A range over all pairs of offsets; The table of distances: its cells, a reading.
-/
import Derived.Test.YtlgpacpebjechaaGreatDoorFast
import Derived.Test.YtlgpacpebjechaaGreatDoorLx1
import Derived.OrdersIn
import Derived.RangeFuncCalls
import Derived.RangeFuncSeq
import Derived.RangeFuncLeaves
import Derived.TacticsIn
import Derived.BigFrameIn
/-
  Regions that draw their order, in a round's frame.
-/
namespace Go.Proofs.YtlgpacpebjechaaGreatDoor
open Go.RowKit
theorem any_region_G {P : Program} {Q : Exit → Act → World → Prop} {R : World → World → Prop} (hrel : RelW R) {os : List Oper} (l : Sched) {a : Act} {w : World} (_hm : P.follows .mixedOrders = true)
    (hB : canonB os.toArray l = true) (hQ : ∀ c a d v w, Q (.panic c) (a.put d v) w → Q (.panic c) a w)
    (h : wpG R P os.toArray Q l w a w.drew) : wpAny P .any os.toArray Q os.toArray.size (Array.replicate os.toArray.size false) a w.drew := by
  simp only [canonB, Bool.and_eq_true] at hB
  exact wpAny_of_F _ _ _ _ (wpAnyF_of_wpF hrel hB.1 hQ _ l w (Array.replicate os.toArray.size false) a w.drew (closed_start _) hB.2 (hrel.of_fut (Fut.refl w).drew) h)
theorem any_region_MG {P : Program} {Q : Exit → Act → World → Prop} {R : World → World → Prop} (hrel : RelW R) {os : List Oper} (l : Sched) {a : Act} {w : World} (hm : P.follows .mixedOrders = true)
    (hB : fastB os.toArray l = true) (hQ : ∀ c a d v w, Q (.panic c) (a.put d v) w → Q (.panic c) a w)
    (h : wpG R P os.toArray Q l w a w.drew) : wpAny P .any os.toArray Q os.toArray.size (Array.replicate os.toArray.size false) a w.drew := by
  simp only [fastB, Bool.and_eq_true] at hB
  obtain ⟨⟨h1, h2⟩, h3⟩ := hB
  refine any_region_G hrel l hm ?_ hQ h
  simp only [canonB, Bool.and_eq_true]
  refine ⟨h1, order_of_M (fun o ho e he hb => ?_) _ _ _ 0 ⟨by simp, fun k hk => ?_⟩ h3⟩
  · have h4 := List.all_eq_true.1 h2 o (by simpa using ho)
    have h5 := List.all_eq_true.1 h4 e (by simpa using he)
    simpa [hb] using h5
  · simp only [List.size_toArray] at hk
    simp [hk]
theorem upon_in {P : Program} {o : Oper} {a : Act} {K : Act → World → Prop} {Q : Exit → Act → World → Prop} {r : Result Next} (l n : Nat) (h : o.upon P a K Q r) : o.uponIn (Fence.wide.inRound l) n P a K Q r := by
  cases r with
  | ok x w' =>
    cases x with
    | value v => exact h
    | skip => exact h
    | defer d => exact h
    | enter f args => exact ⟨fun h => (by cases h), CallsIn.inRound l (callsIn_wide.2 h)⟩
    | row row args => exact ⟨fun h => (by cases h), fun c cs _ => let ⟨v, w', r, s⟩ := h c cs; ⟨v, w', r, (stepsIn_wide (P := P)).2 s⟩⟩
    | _ => exact h.elim
  | halt x w' =>
    cases x with
    | panic v => exact h
    | _ => exact h.elim
theorem wpAnyIn_of_any {P : Program} {md : Region.Mode} {ops : Array Oper} {Q : Exit → Act → World → Prop} (l n : Nat) (hnd : ∀ (i : Nat) (o : Oper) c, ops[i]? = some o → o.op ≠ .defer c) (hno : ¬ LetsOut Q) : ∀ (fuel : Nat) (listed : Array Bool) (a : Act) (w : World), wpAny P md ops Q fuel listed a w → wpAnyIn (Fence.wide.inRound l) n P md ops Q fuel listed a w
  | 0, _, _, _, h => h
  | fuel + 1, listed, a, w, h => ⟨h.1, fun i hi => by
    have h1 := h.2 i hi
    have ih := wpAnyIn_of_any (P := P) (md := md) l n hnd hno fuel (listed.setIfInBounds i true)
    unfold wpOp at h1
    unfold wpOpIn
    cases ho : ops[i]? with
    | none =>
      simp only [ho] at h1 ⊢
      exact ih a w h1
    | some o =>
      simp only [ho] at h1 ⊢
      split
      · rename_i hw
        simp only [hw, if_true] at h1
        rcases h1 with h1 | h1
        · refine Oper.wpIn_mono (fun a w h => ih a w h) ⟨fun _ _ => trivial, ?_⟩
          rw [Oper.semAt_eq _ _ _ (fun c => hnd i o c ho)]
          exact upon_in l n h1
        · exact absurd h1.2 hno
      · rename_i hw
        simp only [hw, if_false, Bool.false_eq_true] at h1
        exact ⟨fun _ _ => trivial, ih _ _ h1⟩⟩
def noDefer (os : List Oper) : Bool := os.all (fun o => match o.op with | .defer _ => false | _ => true)
theorem wpIn_region_MG {P : Program} {Q : Exit → Act → World → Prop} {R : World → World → Prop} (hrel : RelW R) {id : Nat} {os : List Oper} (s : Sched) {a : Act} {w : World} (l n : Nat) (hm : P.follows .mixedOrders = true)
    (hB : fastB os.toArray s = true) (hd : noDefer os = true) (hQ : ∀ c a d v w, Q (.panic c) (a.put d v) w → Q (.panic c) a w) (hno : ¬ LetsOut Q)
    (h : wpG R P os.toArray Q s w a w.drew) : (Code.region id os.toArray true).wpIn (Fence.wide.inRound l) n P Q a w := by
  refine wpIn_region_any hm (wpAnyIn_of_any l n (fun i o c ho e => ?_) hno _ _ _ _ (any_region_MG hrel s hm hB hQ h))
  have h1 := List.all_eq_true.1 hd o (by
    have := Array.mem_of_getElem? ho
    simpa using this)
  rw [e] at h1
  cases h1
end Go.Proofs.YtlgpacpebjechaaGreatDoor
/-
  All pairs of offsets: the iterator.
-/
namespace Go.Proofs.YtlgpacpebjechaaGreatDoor
open Go.RowKit Go.Deep
attribute [local go_sem] Oper.lit Oper.litS fut_fut fut_drew World.cell?_alloc_some
attribute [local go_sem] World.frozen?_setCell
/-- a round, as its caller meets it -/
def RoundP (J : World → Prop) (l n m : Nat) : Prop :=
  ∀ (i j : Nat) (w : World), i ≤ n → j ≤ m → J w → YieldAt Fence.wide 0 Tryz.prog l #[.int .i64 i, .int .i64 j] w fun e w' => e = .returned (.bool true) ∧ J w'
set_option maxHeartbeats 6400000 in
set_option maxRecDepth 4000 in
theorem pairs1_any (n m bn bm l : Nat) (hn : n ≤ 1000) (hm : m ≤ 1000) (J : World → Prop) (hJF : ∀ w w', J w → Fut w w' → J w') (hJn : ∀ w, J w → Blk w bn 3 #[.int .i64 n]) (hJm : ∀ w, J w → Blk w bm 3 #[.int .i64 m]) (hRK : RoundP J l n m) (w : World) (h0 : J w) :
    Calls Tryz.prog 73 #[.func (.yield l) #[] #[], .pointer (some ⟨bn, 0, none⟩), .pointer (some ⟨bm, 0, none⟩)] w fun e w' => (∃ v, e = .returned v) ∧ J w' := by
  have HJF := Lib.hid hJF
  have HJN := Lib.hid hJn
  have HJM := Lib.hid hJm
  have HRK := Lib.hid hRK
  have H0 := Lib.hid h0
  have q0 := (hJn w h0).cell (i := 0) rfl
  clear hJF hJn hJm hRK h0
  go_enter Tryz.func73, Tryz.ntmps73
  go_wp2_with fail
  clear q0
  go_loopw [4] (fun i wr => ∃ i' : Nat, i = .int .i64 ((i' : Int) - 1) ∧ i' ≤ n + 1 ∧ Hid (J wr)) (fun i _ => (intOf i + 1).toNat)
  case atStart => exact ⟨n + 1, by go_num, Nat.le_refl _, H0⟩
  case round =>
    obtain ⟨i', rfl, hi, HI⟩ := hrel
    rcases i' with _ | i'
    · have hi1 : (0 ≤ ((0 : Nat) : Int) - 1) = False := eq_false (by omega)
      go_wp2_with fail
      go_returns
      exact ⟨⟨_, rfl⟩, HI.out⟩
    · have hi0 : (((i' + 1 : Nat) : Int) - 1) = (i' : Int) := by omega
      have hi1 : (0 ≤ (i' : Int)) = True := eq_true (by omega)
      rw [hi0]
      have q0 := (HJM.out _ HI.out).cell (i := 0) rfl
      go_wp2_with fail
      clear q0
      go_loopw [5] (fun j wr => ∃ j' : Nat, j = .int .i64 ((j' : Int) - 1) ∧ j' ≤ m + 1 ∧ Hid (J wr)) (fun j _ => (intOf j + 1).toNat)
      case atStart => exact ⟨m + 1, by go_num, Nat.le_refl _, HI⟩
      case round =>
        obtain ⟨j', rfl, hj, HI2⟩ := hrel
        rcases j' with _ | j'
        · have hj1 : (0 ≤ ((0 : Nat) : Int) - 1) = False := eq_false (by omega)
          go_wp2_with fail
          exact ⟨⟨i', by go_num, by omega, HI2⟩, by simp [intOf]⟩
        · have hj0 : (((j' + 1 : Nat) : Int) - 1) = (j' : Int) := by omega
          have hj1 : (0 ≤ (j' : Int)) = True := eq_true (by omega)
          rw [hj0]
          refine (wpIn_wide (n := 0)).1 ?_
          obtain ⟨fn, tmps, assign, body, hy, hround⟩ := HRK.out i' j' _ (by omega) (by omega) HI2.out
          have HRD := Lib.hid hround
          clear hround
          gi_wp2_with fail
          refine ⟨rfl, HRD.out.mono ?_⟩
          rintro e w4 ⟨rfl, h3⟩
          have H3 := Lib.hid h3
          clear h3 hy
          gi_wp2_with fail
          exact ⟨⟨j', by go_num, by omega, H3⟩, by simp [intOf]⟩
end Go.Proofs.YtlgpacpebjechaaGreatDoor
/-
  A range over all pairs of offsets.
-/
namespace Go.Proofs.YtlgpacpebjechaaGreatDoor
open Go.RowKit Go.Deep
attribute [local go_sem] Oper.lit Oper.litS fut_fut fut_drew World.cell?_alloc_some
attribute [local go_sem] World.frozen?_setCell
/-- a round's end, as the caller shows it -/
def BPP (O : World → Prop) (n0 : Nat) (w : World) : Exit → Act → World → Prop
  | .normal, _, w' => O w' ∧ w.heap.size ≤ w'.heap.size ∧ ∀ k, n0 ≤ k → k < w.heap.size → w'.heap[k]? = w.heap[k]?
  | _, _, _ => False
set_option maxHeartbeats 6400000 in
theorem range_pairs (n m bn bm : Nat) (hn : n ≤ 1000) (hm : m ≤ 1000) {g : Operand} {ps : Array Tmp} {assign body : Code} {Q : Exit → Act → World → Prop} {a : Act} {w : World} (mm : Nat)
    (hg : a.eval g = .func (.func 73) #[] #[.pointer (some ⟨bn, 0, none⟩), .pointer (some ⟨bm, 0, none⟩)]) (hps : ps.size = 2)
    (O : World → Prop) (hOF : ∀ w w', O w → Fut w w' → O w') (hOp : ∀ W l o, O W → w.heap.size ≤ l → O (W.putObj l o)) (hOn : ∀ w, O w → Blk w bn 3 #[.int .i64 n]) (hOm : ∀ w, O w → Blk w bm 3 #[.int .i64 m]) (h0 : O w)
    (hwalk : ∀ (l i j : Nat) (W : World), i ≤ n → j ≤ m → O W → w.heap.size ≤ l → l < W.heap.size →
      assign.wpIn (Fence.wide.inRound l) 0 Tryz.prog (Exit.then (fun a1 w1 => Fut W w1 ∧ ∀ w2, O w2 → body.wpIn (Fence.wide.inRound l) 0 Tryz.prog (BPP O w.heap.size w2) a1 w2) (fun _ _ _ => False)) { tmps := (ps.zip #[.int .i64 i, .int .i64 j]).foldl (fun tmps (t, a) => tmps.setIfInBounds t a) a.tmps, defers := [] } W)
    (hdone : ∀ (D : Nat) (W : World), O W → w.heap.size ≤ D → W.heap[D]? = some (.deferred (some [])) → Q .normal { a with defers := { target := .collected D, args := #[] } :: a.defers } W) :
    (Code.rangeFunc g ps assign body).wpIn Fence.wide mm Tryz.prog Q a w := by
  refine wpIn_rangeFunc ?_
  intro fn _
  obtain ⟨rec, hrec⟩ : ∃ rec : LoopState → Option Code → Loop, rec = fun st pe => { state := st, pending := pe, fn, tmps := a.tmps, params := ps, assign, body, defers := w.heap.size } := ⟨_, rfl⟩
  obtain ⟨W1, hW1⟩ : ∃ W1, (w.alloc (.deferred (some []))).alloc (.loop (rec .ready none)) = W1 := ⟨_, rfl⟩
  have hL1 : W1.heap[w.heap.size + 1]? = some (.loop (rec .ready none)) := by
    rw [← hW1]; have := World.alloc_heap_new (w.alloc (.deferred (some []))) (.loop (rec .ready none)); rwa [World.size_alloc] at this
  have hK1 : W1.heap[w.heap.size]? = some (.deferred (some [])) := by
    rw [← hW1]; exact (Below.heap_alloc _ _ _ (by simp)).trans (World.alloc_heap_new w _)
  have hf1 : Fut w W1 := by rw [← hW1]; exact ((Fut.refl w).alloc _).alloc _
  have hO1 : O W1 := hOF _ _ h0 hf1
  obtain ⟨J, hJ⟩ : ∃ J : World → Prop, J = fun W => O W ∧ W.heap[w.heap.size + 1]? = some (.loop (rec .ready none)) ∧ W.heap[w.heap.size]? = some (.deferred (some [])) := ⟨_, rfl⟩
  have hJ1 : J W1 := by rw [hJ]; exact ⟨hO1, hL1, hK1⟩
  have hRK : RoundP J (w.heap.size + 1) n m := by
    intro i j W hi hj hJW
    rw [hJ] at hJW
    obtain ⟨o1, k1, k2⟩ := hJW
    have hlt : w.heap.size + 1 < W.heap.size := (Array.getElem?_eq_some_iff.1 k1).1
    have hy := run_yield (P := Tryz.prog) (args := #[.int .i64 (i : Int), .int .i64 (j : Int)]) k1 (by rw [hrec]; exact hps.symm)
    rw [hrec] at hy
    refine ⟨fn, _, assign, body, hy, roundIn_of_wpIn trivial (wpIn_mono (hwalk (w.heap.size + 1) i j W hi hj o1 (by omega) hlt) ?_)⟩
    rintro e a1 w1 hp
    cases e with
    | normal =>
      obtain ⟨f1, hbody⟩ := hp
      have k1' : w1.heap[w.heap.size + 1]? = some (.loop (rec .ready none)) := (f1.block _ hlt).trans k1
      have k2' : w1.heap[w.heap.size]? = some (.deferred (some [])) := (f1.block _ (by omega)).trans k2
      have hl1 : w.heap.size + 1 < w1.heap.size := (Array.getElem?_eq_some_iff.1 k1').1
      refine ⟨_, run_beginRound k1' (by rw [hrec]), wpIn_mono (hbody _ (hOp _ _ _ (hOF _ _ o1 f1) (by omega))) ?_⟩
      have b1 : (w1.putObj (w.heap.size + 1) (.loop { rec .ready none with state := .busy })).heap[w.heap.size + 1]? = some (.loop { rec .ready none with state := .busy }) := World.putObj_heap_same hl1
      have b2 : (w1.putObj (w.heap.size + 1) (.loop { rec .ready none with state := .busy })).heap[w.heap.size]? = some (.deferred (some [])) := (World.putObj_heap_other (by omega)).trans k2'
      generalize w1.putObj (w.heap.size + 1) (.loop { rec .ready none with state := .busy }) = w2 at *
      rintro e a3 w3 hp
      cases e with
      | normal =>
        obtain ⟨o3, hz3, hk3⟩ := hp
        have hl2 : w.heap.size + 1 < w2.heap.size := (Array.getElem?_eq_some_iff.1 b1).1
        have b1' := (hk3 (w.heap.size + 1) (by omega) hl2).trans b1
        have b2' := (hk3 w.heap.size (by omega) (by omega)).trans b2
        have hl3 : w.heap.size + 1 < w3.heap.size := (Array.getElem?_eq_some_iff.1 b1').1
        have hr := run_endRound (P := Tryz.prog) none b1'
        rw [hrec] at hr
        refine ⟨_, _, hr, rfl, ?_⟩
        rw [hJ]
        refine ⟨hOp _ _ _ o3 (by omega), ?_, (World.putObj_heap_other (by omega)).trans b2'⟩
        rw [hrec]
        exact World.putObj_heap_same hl3
      | ret => exact hp.elim
      | exit id => exact hp.elim
      | goto t => exact hp.elim
      | panic ch => exact hp.elim
      | outgrown => exact hp.elim
    | ret => exact hp.elim
    | exit id => exact hp.elim
    | goto t => exact hp.elim
    | panic ch => exact hp.elim
    | outgrown => exact hp.elim
  have hit := pairs1_any n m bn bm (w.heap.size + 1) hn hm J (fun w1 w2 h hf => by
    rw [hJ] at h ⊢
    exact ⟨hOF _ _ h.1 hf, (hf.block _ (Array.getElem?_eq_some_iff.1 h.2.1).1).trans h.2.1, (hf.block _ (Array.getElem?_eq_some_iff.1 h.2.2).1).trans h.2.2⟩) (fun w h => by rw [hJ] at h; exact hOn w h.1) (fun w h => by rw [hJ] at h; exact hOm w h.1) hRK W1 hJ1
  refine ⟨w.heap.size + 1, [{ target := .collected w.heap.size, args := #[] }], W1, { target := .fn (.func 73) #[.pointer (some ⟨bn, 0, none⟩), .pointer (some ⟨bm, 0, none⟩)], args := #[.func (.yield (w.heap.size + 1)) #[] #[]] }, W1, 73,
    #[.func (.yield (w.heap.size + 1)) #[] #[]] ++ #[.pointer (some ⟨bn, 0, none⟩), .pointer (some ⟨bm, 0, none⟩)], W1, ?_, ?_, ?_, ?_, fun h => by (cases h), ?_⟩
  · rw [← hW1, hrec]; exact run_enterLoop_outer _ _ _ _ _
  · simp only [resolve, hg]
    simp [go_sem]
  · intro f' _; trivial
  · simp [invoke, go_sem]
  · refine (callsIn_wide.2 hit).mono ?_
    rintro e W2 ⟨⟨v, rfl⟩, hj⟩
    rw [hJ] at hj
    obtain ⟨o1, k1, k2⟩ := hj
    have hr := run_endLoop (P := Tryz.prog) k1 (by rw [hrec]; simp)
    rw [hrec] at hr
    exact ⟨none, _, hr, hdone _ _ (hOp _ _ _ o1 (by omega)) (Nat.le_refl _) ((World.putObj_heap_other (by omega)).trans k2)⟩
end Go.Proofs.YtlgpacpebjechaaGreatDoor
/-
  The table of distances: its cells, a reading.
-/
namespace Go.Proofs.YtlgpacpebjechaaGreatDoor
open Go.RowKit Go.Deep
attribute [local go_sem] Oper.lit Oper.litS fut_fut fut_drew World.cell?_alloc_some
/-- the table's cells: numbers that are small -/
def RowT (w : World) (g n m : Nat) : Prop := ∀ i j, i ≤ n → j ≤ m → ∃ x : Nat, w.cell? ⟨g, i * (m + 1) + j, none⟩ = some (.int .i64 x) ∧ x ≤ n + m - i - j
theorem RowT.fut {w w' : World} {g n m : Nat} (h : RowT w g n m) (hf : Fut w w') : RowT w' g n m := fun i j hi hj => by
  obtain ⟨x, h1, h2⟩ := h i j hi hj
  exact ⟨x, hf.cell h1, h2⟩
theorem idx_lt {n m i j : Nat} (hi : i ≤ n) (hj : j ≤ m) : i * (m + 1) + j < (n + 1) * (m + 1) := by
  have := Nat.mul_le_mul_right (m + 1) hi
  rw [Nat.succ_mul]
  omega
theorem idx_inj {m i j i' j' : Nat} (hj : j ≤ m) (hj' : j' ≤ m) (h : i * (m + 1) + j = i' * (m + 1) + j') : i = i' ∧ j = j' := by
  have h1 : i = i' := by
    rcases Nat.lt_trichotomy i i' with h2 | h2 | h2
    · have := Nat.mul_le_mul_right (m + 1) h2; rw [Nat.succ_mul] at this; omega
    · exact h2
    · have := Nat.mul_le_mul_right (m + 1) h2; rw [Nat.succ_mul] at this; omega
  subst h1
  exact ⟨rfl, by omega⟩
theorem wrap_nat {x : Nat} (h : x ≤ 100000000) : IntKind.i64.wrap (x : Int) = x := by rw [IntKind.wrap_i64]; omega
set_option maxHeartbeats 6400000 in
theorem at_any (a b : ByteArray) (n m bt g i j : Nat) (hm : b.size = m) (hn1 : n ≤ 1000) (hm1 : m ≤ 1000) (hi : i ≤ n) (hj : j ≤ m) (w : World) (hB : Blk w bt 103 #[.string a, .string b, .slice (some ⟨g, 0, none⟩) ((n + 1) * (m + 1)) ((n + 1) * (m + 1))]) (hR : RowT w g n m) :
    Calls Tryz.prog 25 #[.pointer (some ⟨bt, 0, none⟩), .int .i64 i, .int .i64 j] w fun e w' => ∃ x : Nat, e = .returned (.int .i64 x) ∧ x ≤ n + m - i - j ∧ Fut w w' := by
  obtain ⟨x, hx, hxl⟩ := hR i j hi hj
  have hlt := idx_lt hi hj
  obtain ⟨N, hN⟩ : ∃ N, (n + 1) * (m + 1) = N := ⟨_, rfl⟩
  obtain ⟨q, hq⟩ : ∃ q, i * (m + 1) = q := ⟨_, rfl⟩
  have hN2 : N ≤ 1001 * 1001 := by rw [← hN]; exact Nat.mul_le_mul (by omega) (by omega)
  rw [hN] at hB hlt
  rw [hq] at hx hlt
  have hmul : (i : Int) * ((m : Int) + 1) = (q : Int) := by rw [← hq]; push_cast; rfl
  have hw1 : IntKind.i64.wrap ((m : Int) + 1) = (m : Int) + 1 := by rw [IntKind.wrap_i64]; omega
  have hw2 : IntKind.i64.wrap (q : Int) = q := wrap_nat (by omega)
  have hw3 : IntKind.i64.wrap ((q : Int) + j) = (q : Int) + j := by rw [IntKind.wrap_i64]; omega
  have hg1 : (0 ≤ (q : Int) + j) = True := eq_true (by omega)
  have hg2 : ((q : Int) + j < N) = True := eq_true (by omega)
  have hg3 : ((q : Int) + j).toNat = q + j := by omega
  have d0 : ∀ dd os, (fut w dd os).cell? ⟨bt, 1, none⟩ = some (.string b) := cell_fut (hB.cell (i := 1) rfl)
  have d1 : ∀ dd os, (fut w dd os).cell? ⟨bt, 2, none⟩ = some (.slice (some ⟨g, 0, none⟩) N N) := cell_fut (hB.cell (i := 2) rfl)
  have d2 : ∀ dd os, (fut w dd os).cell? ⟨g, q + j, none⟩ = some (.int .i64 x) := cell_fut hx
  clear hB hR hx
  go_enter Tryz.func25, Tryz.ntmps25
  go_wp2_with fail
  refine wp_region_M o_textdiff_table_at_1 (by kernel_rfl) (by kernel_rfl) (by intro c a d v w h; cases d <;> exact h) ?_; unfold o_textdiff_table_at_1
  iterate 17 (refine wpF_h rfl rfl (fun K hK => ?_); go_simp; refine hK _ _ ?_; clear hK K)
  refine wpF_nil ?_
  go_wp2_with fail
  go_ret
  exact ⟨x, rfl, hxl, (Fut.refl w).drew⟩
set_option maxHeartbeats 6400000 in
theorem pairs_any (n m : Nat) (w : World) :
    Calls Tryz.prog 46 #[.int .i64 n, .int .i64 m] w fun e w' => e = .returned (.func (.func 73) #[] #[.pointer (some ⟨w.heap.size, 0, none⟩), .pointer (some ⟨w.heap.size + 1, 0, none⟩)]) ∧ Blk w' w.heap.size 3 #[.int .i64 n] ∧ Blk w' (w.heap.size + 1) 3 #[.int .i64 m] ∧ Fut w w' ∧ w.heap.size + 2 ≤ w'.heap.size := by
  go_enter Tryz.func46, Tryz.ntmps46
  go_wp2_with fail
  go_ret
  exact ⟨rfl, by (repeat (first | exact heap_new' _ _ _ (by first | rfl | (simp only [World.size_alloc])) | refine (blk_alloc_lt _ _ _ (by first | omega | (simp only [World.size_alloc]; omega))).trans ?_)), by (repeat (first | exact heap_new' _ _ _ (by first | rfl | (simp only [World.size_alloc])) | refine (blk_alloc_lt _ _ _ (by first | omega | (simp only [World.size_alloc]; omega))).trans ?_)), ((Fut.refl w).alloc _).alloc _, by simp only [World.size_alloc]; omega⟩
end Go.Proofs.YtlgpacpebjechaaGreatDoor
