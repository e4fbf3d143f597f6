/-
  Texts joined: Rows of the call's own: a row whose cells are slices of numbers, each with a row of its own; Hypergraphs: how one lies in memory; its validity as plain mathematics; whether two lists are the same; The edges of each head; Reaching nodes, as plain mathematics; Deriving nodes, as plain mathematics; The order of a hypergraph, as plain mathematics; An order is topological, as plain mathematics; Derivable, walked; Derivable, walked: its two loops; Order, walked: its first loop; Valid, as the program and as the reference have it; Small; Reachable, walked; Inside values, as plain mathematics; Valid of the reference, Small; Small hypergraphs; The semirings: what each method computes; Inside, walked, for numbers; Derivable of the reference, walked; Order of the reference, walked.
-/
import Derived.Test.YtoiffhoiklafhaaBE
import Derived.Test.YtoiffhoiklafhaaBA
import Derived.Test.YtoiffhoiklafhaaProg
import Derived.Test.YtoiffhoiklafhaaBC
import Derived.Deep.AppendLies
import Derived.Deep.OwnRows
import Derived.Handy
import Derived.Deep.RegionHeld
import Derived.LoopTactic
import Derived.WalkKit
import Derived.WalkSpells
import Derived.WalkLawsBesides
import Derived.BigQuiet
import Derived.Lib.SmallJoins
/-
  Rows of the call's own: a row whose cells are slices of numbers, each with a row of its own.
-/
namespace Go.Proofs.Ytoiffhoiklafhaa
open Go.RowKit PK
/-- the slice value v owns a row of numbers, xs, among the blocks from B on -/
theorem Own.nil (w : World) (B : Nat) : Own w B (.slice none 0 0) [] := World.ownsRow_nil _ _ _ _
theorem Own.kept {w w' : World} {B : Nat} {v : Value} {xs : List Nat} {row : Option Nat} (h : Own w B v xs) (hg : w.grownBy w' row) (hne : v.ownBlock = none ∨ v.ownBlock ≠ row) : Own w' B v xs := World.ownsRow.kept h hg hne
theorem Own.alloc {w : World} {B : Nat} {v : Value} {xs : List Nat} (h : Own w B v xs) (o : Obj) : Own (w.alloc o) B v xs := World.ownsRow.alloc h o
theorem Own.drew {w : World} {B : Nat} {v : Value} {xs : List Nat} (h : Own w B v xs) : Own w.drew B v xs := h
theorem Own.lt {w : World} {B : Nat} {v : Value} {xs : List Nat} (h : Own w B v xs) : ∀ k, v.ownBlock = some k → B ≤ k ∧ k < w.heap.size := World.ownsRow.lt h
theorem Own.setOther {w : World} {B : Nat} {v : Value} {xs : List Nat} (h : Own w B v xs) {a : Addr} (ha : a.block < B) (u : Value) : Own (w.setCell a u) B v xs :=
  h.kept (grown_set w a u) (by
    cases hv : v.ownBlock with
    | none => exact .inl rfl
    | some k =>
      right
      have := (h.lt k hv).1
      intro e
      have := Option.some.inj e
      omega)
theorem Own.rd {w : World} {B : Nat} {A : Option Addr} {n c : Nat} {xs : List Nat} (h : Own w B (.slice A n c) xs) : n = xs.length ∧ Rd1 w A nv xs := by
  have h0 := h
  unfold Own World.ownsRow at h
  obtain ⟨_, h | ⟨g, cap, cur, hv, _⟩⟩ := h
  · obtain ⟨hv, hn⟩ := h
    injection hv with h1 h2 h3
    cases xs with
    | nil => exact ⟨by simp [h2], Rd1.nil⟩
    | cons x xs => simp at hn
  · injection hv with h1 h2 h3
    subst h2
    exact ⟨rfl, Rd1.of_own (f := nv) (l := xs) h0⟩
/-- what a slice that owns looks like -/
theorem Own.form {w : World} {B : Nat} {v : Value} {xs : List Nat} (h : Own w B v xs) : ∃ A c, v = .slice A xs.length c ∧ (A = none ∧ xs = [] ∨ ∃ g, A = some ⟨g, 0, none⟩) := by
  unfold Own World.ownsRow at h
  obtain ⟨_, h | ⟨g, cap, cur, hv, _⟩⟩ := h
  · obtain ⟨hv, hn⟩ := h
    cases xs with
    | nil => exact ⟨none, 0, hv, .inl ⟨rfl, rfl⟩⟩
    | cons x xs => simp at hn
  · exact ⟨_, _, hv, .inr ⟨g, rfl⟩⟩


/-- block u: a row of n slices, the i-th of which owns L i -/
theorem Uses.kept {w w' : World} {B u n : Nat} {V : Nat → Value} {L : Nat → List Nat} {row : Option Nat} (h : Uses w B u n V L) (hg : w.grownBy w' row) (hu : row ≠ some u) (hne : ∀ i, i < n → (V i).ownBlock = none ∨ (V i).ownBlock ≠ row) : Uses w' B u n V L :=
  ⟨h.row.of_block (hg.block u h.row.lt (fun e => hu e.symm)), h.lt, fun i hi => (h.own i hi).kept hg (hne i hi), h.sep⟩
theorem Uses.alloc {w : World} {B u n : Nat} {V : Nat → Value} {L : Nat → List Nat} (h : Uses w B u n V L) (o : Obj) : Uses (w.alloc o) B u n V L :=
  ⟨h.row.alloc o, h.lt, fun i hi => (h.own i hi).alloc o, h.sep⟩
theorem Uses.drew {w : World} {B u n : Nat} {V : Nat → Value} {L : Nat → List Nat} (h : Uses w B u n V L) : Uses w.drew B u n V L := ⟨h.row, h.lt, h.own, h.sep⟩
/-- a store below B, elsewhere than in the row -/
theorem Uses.setOther {w : World} {B u n : Nat} {V : Nat → Value} {L : Nat → List Nat} (h : Uses w B u n V L) {a : Addr} (ha : a.block < B) (hu : a.block ≠ u) (x : Value) : Uses (w.setCell a x) B u n V L :=
  ⟨h.row.setOther (Ne.symm hu) x, h.lt, fun i hi => (h.own i hi).setOther ha x, h.sep⟩
/-- the row t has been appended to, and the slice that came of it is stored -/
theorem Uses.push {w w1 : World} {B u n t g c : Nat} {V : Nat → Value} {L : Nat → List Nat} {x : Nat} (h : Uses w B u n V L) (_hB : B ≤ w.heap.size) (ht : t < n)
    (ho : w1.ownsRow B 3 1 (.slice (some ⟨g, 0, none⟩) ((L t).length + 1) c) ((L t).length + 1) ((L t).map nv ++ [nv x])) (hg : w.grownBy w1 (V t).ownBlock) (hw : (V t).ownBlock = some g ∨ g = w.heap.size) :
    Uses (w1.setCell ⟨u, t, none⟩ (.slice (some ⟨g, 0, none⟩) ((L t).length + 1) c)) B u n (upd V t (.slice (some ⟨g, 0, none⟩) ((L t).length + 1) c)) (upd L t (L t ++ [x])) := by
  have hu : (V t).ownBlock ≠ some u := fun e => by
    have := ((h.own t ht).lt _ e).1
    have := h.lt
    omega
  have hrow : w1.rowIs u 27 n V := h.row.of_block (hg.block u h.row.lt (fun e => hu e.symm))
  have hother : ∀ i, i < n → i ≠ t → ∀ k, (V i).ownBlock = some k → k ≠ g := by
    intro i hi hne k hk
    rcases hw with hw | hw
    · intro e; subst e; exact hne (h.sep i t k hi ht hk hw)
    · have := ((h.own i hi).lt k hk).2
      omega
  refine ⟨?_, h.lt, fun i hi => ?_, fun i j k hi hj h1 h2 => ?_⟩
  · refine (hrow.set t _).congr (fun i hi => ?_)
    simp only [upd]
  · by_cases e : i = t
    · subst e
      rw [upd_same, upd_same]
      have : Own w1 B (.slice (some ⟨g, 0, none⟩) ((L i).length + 1) c) (L i ++ [x]) := by unfold Own; simpa using ho
      exact this.setOther h.lt _
    · rw [upd_other _ _ _ _ e, upd_other _ _ _ _ e]
      refine ((h.own i hi).kept hg ?_).setOther h.lt _
      cases hv : (V i).ownBlock with
      | none => exact .inl rfl
      | some k =>
        right
        intro e2
        exact e (h.sep i t k hi ht hv e2.symm)
  · by_cases ei : i = t <;> by_cases ej : j = t
    · rw [ei, ej]
    · subst ei
      rw [upd_same] at h1
      rw [upd_other _ _ _ _ ej] at h2
      simp only [Value.ownBlock, Option.some.injEq] at h1
      exact absurd h1.symm (hother j hj ej k h2)
    · subst ej
      rw [upd_same] at h2
      rw [upd_other _ _ _ _ ei] at h1
      simp only [Value.ownBlock, Option.some.injEq] at h2
      exact absurd h2.symm (hother i hi ei k h1)
    · rw [upd_other _ _ _ _ ei] at h1
      rw [upd_other _ _ _ _ ej] at h2
      exact h.sep i j k hi hj h1 h2
/-! ### what a world leaves as it was -/
/-- behind a slice of slices lie the lists L, all in blocks from lo on -/
def RdL (w : World) (lo u n : Nat) (L : Nat → List Nat) : Prop := lo ≤ u ∧ ∀ i, i < n → ∃ A c, w.cell? ⟨u, i, none⟩ = some (.slice A (L i).length c) ∧ Rd1 w A nv (L i) ∧ ∀ g o, A = some ⟨g, o, none⟩ → lo ≤ g
theorem Uses.rd {w : World} {B u n lo : Nat} {V : Nat → Value} {L : Nat → List Nat} (h : Uses w B u n V L) (hu : lo ≤ u) : RdL w lo u n L := by
  refine ⟨hu, fun i hi => ?_⟩
  obtain ⟨A, c, hv, hA⟩ := (h.own i hi).form
  refine ⟨A, c, by rw [← hv]; exact h.row.cell hi, ?_, ?_⟩
  · have h1 := h.own i hi
    rw [hv] at h1
    exact h1.rd.2
  · intro g o e
    subst e
    have h1 := (h.own i hi).lt g (by rw [hv]; rfl)
    have := h.lt
    omega
theorem RdL.futS {w w' : World} {lo u n : Nat} {L : Nat → List Nat} {S : Nat → Bool} (h : RdL w lo u n L) (hf : FutS S w w') (hS : ∀ k, lo ≤ k → S k = false) : RdL w' lo u n L :=
  ⟨h.1, fun i hi => by
    obtain ⟨A, c, h1, h2, h3⟩ := h.2 i hi
    refine ⟨A, c, hf.cell h1 (hS _ h.1), fun j x hj => ?_, h3⟩
    obtain ⟨b, o, e, hc⟩ := h2 j x hj
    exact ⟨b, o, e, hf.cell hc (hS _ (h3 b o e))⟩⟩
theorem Own.cap {w : World} {B g n c : Nat} {T : List Nat} (h : Own w B (.slice (some ⟨g, 0, none⟩) n c) T) : n ≤ c := by
  unfold Own World.ownsRow at h
  obtain ⟨_, h | ⟨g', cap, cur, hv, h1, h2, h3, h4, h5, h6⟩⟩ := h
  · obtain ⟨hv, hn⟩ := h; simp at hv
  · injection hv with e1 e2 e3
    omega
theorem Own.cut {w : World} {B g m c v : Nat} {T : List Nat} (h : Own w B (.slice (some ⟨g, 0, none⟩) (m + 1) c) (T ++ [v])) : Own w B (.slice (some ⟨g, 0, none⟩) m c) T ∧ T.length = m := by
  unfold Own World.ownsRow at h
  obtain ⟨_, h | ⟨g', cap, cur, hv, h1, h2, h3, h4, h5, h6⟩⟩ := h
  · obtain ⟨hv, hn⟩ := h; simp at hn
  · injection hv with e1 e2 e3
    injection e1 with e1
    injection e1 with e1 _ _
    subst e1 e3
    simp only [List.length_append, List.length_cons, List.length_nil] at e2 h3 h6
    have hm : T.length = m := by omega
    refine ⟨⟨by simp, .inr ⟨g, c, cur, by rw [hm], h1, h2, by omega, h4, h5, ?_⟩⟩, hm⟩
    have := congrArg (List.take T.length) h6
    rw [List.take_take, List.map_append, List.take_left' (by simp)] at this
    rw [← this]
    congr 1
    omega
section
variable {w : World} {ops : Array Oper} {rest : List Oper} {o : Oper} {a : Act} {Q : Exit → Act → World → Prop}
/-- one number is appended to a slice of the call's own -/
theorem wpList_pushI (hgd : o.guard = none) (s x : Operand) (ho : o.op = .call { callee := .builtin .append, args := #[s, x], argTypes := #[27, 27] })
    (B : Nat) (v : Value) (T : List Nat) (hs : a.eval s = v) (hown : Own w B v T) (b t : Nat) (hx : a.eval x = .slice (some ⟨b, 0, none⟩) 1 1) (hb : w.heap[b]? = some (.cells #[nv t] 3 (0, 0)))
    (hlen : T.length ≤ 17000000000000) (hB : B ≤ w.heap.size)
    (h : ∀ g cap w', Own w' B (.slice (some ⟨g, 0, none⟩) (T.length + 1) cap) (T ++ [t]) → w.grownBy w' v.ownBlock → (v.ownBlock = some g ∨ g = w.heap.size) → wpList Try.prog ops Q rest (a.put o.dst (.slice (some ⟨g, 0, none⟩) (T.length + 1) cap)) w') :
    wpList Try.prog ops Q (o :: rest) a w := by
  obtain ⟨i1, ki, kz0, kz1, kz2⟩ := info_parts info_int
  refine wpList_append_lies _ hgd s x 27 ho B 3 i1 (.int .i64 0) 1 8 Try.underlying27 ki kz0 kz1 kz2 rfl (by decide) v T.length (T.map nv) hs hown ⟨b, 0, none⟩ 1 1 [nv t] hx rfl ?_ ?_ (by decide) ?_ ?_ hB w.heap.size rfl ?_
  · exact World.news_of_block (cs := #[nv t]) hb
  · intro u hu; simp only [List.mem_singleton] at hu; subst hu; rfl
  · unfold maxLen; omega
  · omega
  · intro g cap w' h1 h2 h3 _
    refine h g cap w' ?_ h2 h3
    unfold Own
    simpa using h1
end
end Go.Proofs.Ytoiffhoiklafhaa
/-
  Hypergraphs: how one lies in memory; its validity as plain mathematics; whether two lists are the same.
-/
namespace Go.Proofs.Ytoiffhoiklafhaa
open Go.RowKit PK
attribute [local go_sem] Oper.lit fut_fut fut_drew World.cell?_alloc_some
set_option maxRecDepth 4000 in
set_option maxHeartbeats 1600000 in
theorem sameInts_any (A B : Option Addr) (n c m d : Nat) (l k : List Int) (w : World) (hl : l.length = n) (hk : k.length = m) (hn : n ≤ maxLen) (hm : m ≤ maxLen) (hR : Rd1 w A (.int .i64 ·) l) (hS : Rd1 w B (.int .i64 ·) k) :
    Calls Try.prog 17 #[.slice A n c, .slice B m d] w fun e w' => e = .returned (.bool (decide (l = k))) ∧ Below w.heap.size w w' := by
  have hn' : n ≤ 9223372036854775807 := hn
  have hm' : m ≤ 9223372036854775807 := hm
  have HR := Lib.hid hR
  have HS := Lib.hid hS
  have HL := Lib.hid hl
  have HK := Lib.hid hk
  clear hR hS hl hk hn hm
  by_cases hnm : n = m
  · subst hnm
    go_enter Try.func17, Try.ntmps17
    go_wp2_with fail
    go_loopw [5] (fun i wr => ∃ j : Nat, j ≤ n ∧ i = .int .i64 j ∧ Hid (l.take j = k.take j) ∧ Fut w wr) (fun i _ => n - (intOf i).toNat)
    case atStart => exact ⟨0, Nat.zero_le _, rfl, Lib.hid (by simp), Fut.refl _⟩
    case round =>
      obtain ⟨j, hj, rfl, hpre, hF⟩ := hrel
      by_cases hlt : j < n
      · obtain ⟨x, hx⟩ := get_lt HL.out hlt
        obtain ⟨y, hy⟩ := get_lt HK.out hlt
        obtain ⟨b, o, rfl, hc1⟩ := HR.out j x hx
        obtain ⟨b2, o2, rfl, hc2⟩ := HS.out j y hy
        have f1 := cell_fut (hF.cell hc1)
        have f2 := cell_fut (hF.cell hc2)
        have HX := Lib.hid hx
        have HY := Lib.hid hy
        have HFF := Lib.hid hF
        clear hx hy hc1 hc2 hF
        by_cases hxy : x = y
        · have he : (x == y) = true := by simp [hxy]
          go_wp2_with fail
          refine wp_region_M o_emendateref27_SameInts_6 (by kernel_rfl) (by kernel_rfl) (by intro c a d v w h; cases d <;> exact h) ?_; unfold o_emendateref27_SameInts_6
          repeat (refine wpF_h rfl rfl (fun K hK => ?_); go_simp; refine hK _ _ ?_; clear hK K)
          refine wpF_nil ?_
          go_wp2_with fail
          refine ⟨⟨j + 1, by omega, by go_num, Lib.hid ?_, HFF.out.drew⟩, by simp [intOf]; omega⟩
          rw [List.take_add_one, List.take_add_one, HX.out, HY.out, hpre.out, hxy]
        · have he : (x == y) = false := by simp [hxy]
          go_wp2_with fail
          refine wp_region_M o_emendateref27_SameInts_6 (by kernel_rfl) (by kernel_rfl) (by intro c a d v w h; cases d <;> exact h) ?_; unfold o_emendateref27_SameInts_6
          repeat (refine wpF_h rfl rfl (fun K hK => ?_); go_simp; refine hK _ _ ?_; clear hK K)
          refine wpF_nil ?_
          go_wp2_with fail
          go_ret
          refine ⟨?_, HFF.out.drew⟩
          have : ¬ l = k := fun e => by
            subst e
            have h1 := HX.out
            rw [HY.out] at h1
            exact hxy (Option.some.inj h1).symm
          simp only [this, decide_false]; rfl
      · have hjn : j = n := by omega
        have he : l = k := by
          have h1 := hpre.out
          rwa [List.take_of_length_le (by rw [HL.out]; omega), List.take_of_length_le (by rw [HK.out]; omega)] at h1
        have HE := Lib.hid he
        clear he hjn
        go_wp2_with fail
        go_ret
        exact ⟨by rw [show decide (l = k) = true from by simp [HE.out]]; rfl, hF⟩
  · have hne : ¬ l = k := fun e => hnm (by rw [← HL.out, ← HK.out, e])
    have hb : ((n : Int) == (m : Int)) = false := by simp; omega
    have HN := Lib.hid hne
    clear hne
    go_enter Try.func17, Try.ntmps17
    go_wp2_with fail
    go_ret
    exact ⟨by rw [show decide (l = k) = false from by simp [HN.out]]; rfl, Fut.refl _⟩
end Go.Proofs.Ytoiffhoiklafhaa
/-
  The edges of each head.
-/
namespace Go.Proofs.Ytoiffhoiklafhaa
open Go.RowKit PK
attribute [local go_sem] Oper.lit Oper.litS fut_fut fut_drew World.cell?_alloc_some
/-- a hyperedge as numbers -/
structure PE where
  h : Nat
  t : List Nat
def pe (e : EI) : PE := ⟨e.h.toNat, e.t.map Int.toNat⟩
def headAt (es : List EI) (i : Nat) : Nat := match es[i]? with | some e => e.h.toNat | none => 0
/-- of the first k edges those with head v -/
def eof (es : List EI) (k v : Nat) : List Nat := (List.range k).filter (fun i => headAt es i == v)
theorem eof_succ (es : List EI) (k v : Nat) : eof es (k + 1) v = if headAt es k = v then eof es k v ++ [k] else eof es k v := by
  unfold eof
  rw [List.range_succ, List.filter_append]
  by_cases h : headAt es k = v <;> simp [h]
theorem eof_upd (es : List EI) (k t : Nat) (ht : headAt es k = t) : eof es (k + 1) = upd (eof es k) t (eof es k t ++ [k]) := by
  funext v
  rw [eof_succ]
  by_cases h : v = t
  · subst h; rw [upd_same, if_pos ht]
  · rw [upd_other _ _ _ _ h, if_neg (by rw [ht]; exact fun e => h e.symm)]
theorem eof_len (es : List EI) (k v : Nat) : (eof es k v).length ≤ k := by
  have := List.length_filter_le (fun i => headAt es i == v) (List.range k)
  simpa [eof] using this
set_option maxRecDepth 4000 in
set_option maxHeartbeats 3200000 in
theorem edges_any (N : Nat) (A : Option Addr) (n c : Nat) (es : List EI) (w : World) (hl : es.length = n) (hn : n ≤ 1000) (hN : N ≤ 1048576) (hhd : ∀ e ∈ es, 0 ≤ e.h ∧ e.h < N) (hR : RdE w A es) :
    Calls Try.prog 48 #[hv N A n c] w fun e w' => ∃ u, e = .returned (.slice (some ⟨u, 0, none⟩) N N) ∧ RdL w' (w.heap.size + 1) u N (eof es n) ∧ Below w.heap.size w w' := by
  have HR := Lib.hid hR
  have HL := Lib.hid hl
  have HV := Lib.hid hhd
  clear hR hl hhd
  obtain ⟨i0, hi, hz0, hz1, hz2⟩ := info_parts info_sl
  obtain ⟨i1, ki, kz0, kz1, kz2⟩ := info_parts info_int
  have q0 : ∀ dd os, (fut (w.alloc (.cells #[.int .i64 N, .slice A n c] 24)) dd os).cell? ⟨w.heap.size, 0, none⟩ = some (.int .i64 N) := cell_fut (by (repeat (first | exact (cell_al_new _ _ _ _ _ _ (by first | rfl | (simp only [World.size_alloc]))).trans rfl | refine (cell_al_old _ _ _ (by first | omega | (simp only [World.size_alloc]; omega))).trans ?_)))
  have q1 : ∀ dd os, (fut (w.alloc (.cells #[.int .i64 N, .slice A n c] 24)) dd os).cell? ⟨w.heap.size, 1, none⟩ = some (.slice A n c) := cell_fut (by (repeat (first | exact (cell_al_new _ _ _ _ _ _ (by first | rfl | (simp only [World.size_alloc]))).trans rfl | refine (cell_al_old _ _ _ (by first | omega | (simp only [World.size_alloc]; omega))).trans ?_)))
  go_enter Try.func48, Try.ntmps48
  go_wp2_with (refine wpList_make_row _ rfl _ _ 77 rfl 27 i0 (.slice none 0 0) Try.underlying77 hi hz0 hz1 rfl .i64 .i64 N rfl rfl (by rw [hz2]; omega) (by omega) ?_)
  have HU0 := Lib.hid (show Uses ((w.alloc (.cells #[.int .i64 N, .slice A n c] 24)).alloc (.cells (madeCells #[.slice none 0 0] N) 27)) (w.heap.size + 2) (w.heap.size + 1) N (fun _ => .slice none 0 0) (eof es 0) from
    ⟨by have := World.rowIs_made (w.alloc (.cells #[.int .i64 N, .slice A n c] 24)) (.slice none 0 0) N 27; simpa only [World.size_alloc] using this, by omega, fun i _ => Own.nil _ _, fun i j g _ _ h => by simp [Value.ownBlock] at h⟩)
  have HF0 := Lib.hid (((Fut.refl w).alloc (.cells #[.int .i64 N, .slice A n c] 24)).alloc (.cells (madeCells #[.slice none 0 0] N) 27))
  clear q0 q1
  go_loopw [12] (fun i wr => ∃ (j : Nat) (V : Nat → Value), j ≤ n ∧ i = .int .i64 j ∧ Hid (Uses wr (w.heap.size + 2) (w.heap.size + 1) N V (eof es j)) ∧ w.heap.size + 2 ≤ wr.heap.size ∧ Fut w wr) (fun i _ => n - (intOf i).toNat)
  case atStart => exact ⟨0, _, Nat.zero_le _, rfl, HU0, by simp only [World.size_alloc]; omega, HF0.out⟩
  case round =>
    obtain ⟨j, V, hj, rfl, hU, hsz, hF⟩ := hrel
    by_cases hlt : j < n
    · obtain ⟨x, hx⟩ := get_lt HL.out hlt
      obtain ⟨b, o, rfl, hc⟩ := HR.out.1 j x hx
      have hh := HV.out x (List.mem_of_getElem? hx)
      have hat : headAt es j = x.h.toNat := by unfold headAt; rw [hx]
      obtain ⟨xh, xt, xc, xl0, xl1, xA, xk⟩ := x
      obtain ⟨hd, rfl⟩ : ∃ m : Nat, xh = m := Int.eq_ofNat_of_zero_le hh.1
      have hdN : hd < N := by have := hh.2; simp only at this; omega
      have HAT := Lib.hid (show headAt es j = hd from hat)
      have c0 := hF.cell (hc 0 _ (by decide) rfl)
      have c1 := hF.cell (hc 1 _ (by decide) rfl)
      have c2 := hF.cell (hc 2 _ (by decide) rfl)
      have c3 := hF.cell (hc 3 _ (by decide) rfl)
      have c4 := hF.cell (hc 4 _ (by decide) rfl)
      simp only [Nat.add_zero] at c0
      clear hx hc hat hh
      have HFF := Lib.hid hF
      clear hF
      go_wp2_with fail
      have HU1 := Lib.hid ((hU.out.alloc (.cells #[.int .i64 hd, .slice xA xt.length xk, .int .i64 xc, .int .i64 xl0, .int .i64 xl1] 49)))
      have hsz2 : w.heap.size + 2 ≤ (wr.alloc (.cells #[.int .i64 hd, .slice xA xt.length xk, .int .i64 xc, .int .i64 xl0, .int .i64 xl1] 49)).heap.size := by simp only [World.size_alloc]; omega
      have hW0 : (wr.alloc (.cells #[.int .i64 hd, .slice xA xt.length xk, .int .i64 xc, .int .i64 xl0, .int .i64 xl1] 49)).cell? ⟨wr.heap.size, 0, none⟩ = some (.int .i64 hd) := by (repeat (first | exact (cell_al_new _ _ _ _ _ _ (by first | rfl | (simp only [World.size_alloc]))).trans rfl | refine (cell_al_old _ _ _ (by first | omega | (simp only [World.size_alloc]; omega))).trans ?_))
      have hwl : wr.heap.size < (wr.alloc (.cells #[.int .i64 hd, .slice xA xt.length xk, .int .i64 xc, .int .i64 xl0, .int .i64 xl1] 49)).heap.size := by simp only [World.size_alloc]; omega
      have hown0 := fun k hk => (hU.out.own hd hdN).lt k hk
      have HFA := Lib.hid (HFF.out.alloc (.cells #[.int .i64 hd, .slice xA xt.length xk, .int .i64 xc, .int .i64 xl0, .int .i64 xl1] 49))
      clear c0 c1 c2 c3 c4 HFF hU
      generalize wr.alloc (.cells #[.int .i64 hd, .slice xA xt.length xk, .int .i64 xc, .int .i64 xl0, .int .i64 xl1] 49) = wi at *
      obtain ⟨S, hS⟩ : ∃ S : Nat → Bool, S = fun k => (V hd).ownBlock == some k := ⟨_, rfl⟩
      have HS := Lib.hid hS
      have s0 : S wr.heap.size = false := by
        rw [hS]; simp only [beq_eq_false_iff_ne]
        intro e
        have := (hown0 _ e).2
        omega
      have s1 : S (w.heap.size + 1) = false := by
        rw [hS]; simp only [beq_eq_false_iff_ne]
        intro e
        have := (hown0 _ e).1
        omega
      clear hS
      have r0 : ∀ f dd os, (futS wi S f dd os).cell? ⟨wr.heap.size, 0, none⟩ = some (.int .i64 hd) := cell_futS hW0 s0
      have r1 : ∀ f dd os, (futS wi S f dd os).cell? ⟨w.heap.size + 1, hd, none⟩ = some (V hd) := cell_futS (HU1.out.row.cell hdN) s1
      clear hW0
      refine wp_region_MG (relS S) o_hypergraph_edges_5 (by kernel_rfl) (by kernel_rfl) (by intro c a d v w h; cases d <;> exact h) ?_; unfold o_hypergraph_edges_5
      iterate 9 (refine wpS_h rfl rfl (fun K hK => ?_); go_simp; refine hK _ _ ?_; clear hK K)
      refine wpG_o rfl rfl (fun K hK => ?_)
      go_simp
      go_at_K
      refine hK _ _ (.inr ((relS S).of_fut ((Fut.refl _).alloc _))) ?_
      clear hK K
      refine wpG_o rfl rfl (fun K hK => ?_)
      refine wp_append_lies _ (.tmp 24) (.tmp 26) 27 rfl (w.heap.size + 2) 3 i1 (.int .i64 0) 1 8 Try.underlying27 ki kz0 kz1 kz2 rfl (by decide) (V hd) (eof es j hd).length ((eof es j hd).map nv) rfl (((HU1.out.own hd hdN).drew).alloc _) ⟨wi.heap.size, 0, none⟩ 1 1 [nv j] rfl rfl ?c1 ?c2 (by decide) ?c3 ?c4 ?c5 (wi.heap.size + 1) ?c6 ?_
      case c1 => exact World.news_of_block (cs := #[nv j]) (heap_alloc_new _ _)
      case c2 => intro u hu; simp only [List.mem_singleton] at hu; subst hu; rfl
      case c3 => have := eof_len es j hd; unfold maxLen; omega
      case c4 => have := eof_len es j hd; omega
      case c5 => show _ ≤ (wi.alloc _).heap.size; rw [World.size_alloc]; omega
      case c6 => show (wi.alloc _).heap.size = _; rw [World.size_alloc]
      intro g cap w2 hown2 hgr hg2 hlt2
      have hUa : Uses (wi.alloc (.cells #[nv j] 3)).drew (w.heap.size + 2) (w.heap.size + 1) N V (eof es j) := (HU1.out.alloc _).drew
      have hfs : FutS S (wi.alloc (.cells #[nv j] 3)).drew w2 := ⟨hgr.os, hgr.tape, hgr.output, hgr.size, fun k hk hs => hgr.block k hk (fun e => by rw [HS.out] at hs; simp [← e] at hs)⟩
      refine hK _ _ (.inr hfs) ?_
      clear hK K
      have hune : (V hd).ownBlock ≠ some (w.heap.size + 1) := fun e => by have := (hown0 _ e).1; omega
      have hrow2 : w2.rowIs (w.heap.size + 1) 27 N V := hUa.row.of_block (hgr.block _ hUa.row.lt (fun e => hune e.symm))
      have hcu : w2.cell? ⟨w.heap.size + 1, hd, none⟩ = some (V hd) := hrow2.cell hdN
      have hfu : w2.frozen? ⟨w.heap.size + 1, hd, none⟩ = false := hrow2.frozen hd
      have HUP := Lib.hid (hUa.push (x := j) (by show _ ≤ (wi.alloc _).heap.size; rw [World.size_alloc]; omega) hdN hown2 hgr (by rcases hg2 with h | h; exact .inl h; right; show _ = (wi.alloc _).heap.size; rw [World.size_alloc]; exact h))
      have hFw2 : Fut w w2 := Below.grown ((HFA.out.alloc (.cells #[nv j] 3)).drew) hgr (by show _ ≤ (wi.alloc _).heap.size; rw [World.size_alloc]; omega) (fun k hk => by have := (hown0 k hk).1; omega)
      have HFW := Lib.hid (hFw2.setCell (p := ⟨w.heap.size + 1, hd, none⟩) (Nat.le_succ _) (.slice (some ⟨g, 0, none⟩) ((eof es j hd).length + 1) cap))
      have hsz3 : w.heap.size + 2 ≤ w2.heap.size := by have h1 : (wi.alloc (.cells #[nv j] 3)).drew.heap.size ≤ w2.heap.size := hgr.size; have e : (wi.alloc (.cells #[nv j] 3)).drew.heap.size = wi.heap.size + 1 := by show (wi.alloc _).heap.size = _; rw [World.size_alloc]
                                                       omega
      clear hown2 hgr hg2 hlt2 hUa hfs hrow2 hFw2 hsz2 hwl
      (refine wpS_h rfl rfl (fun K hK => ?_); go_simp; refine hK _ _ ?_; clear hK K)
      refine wpG_o rfl rfl (fun K hK => ?_)
      go_simp
      refine hK _ _ (.inl (by kernel_rfl)) ?_
      clear hK K
      refine wpG_nil ?_
      go_wp2_with fail
      refine ⟨⟨j + 1, upd V hd (.slice (some ⟨g, 0, none⟩) ((eof es j hd).length + 1) cap), by omega, by go_num, Lib.hid ?_, ?_, HFW.out⟩, by simp [intOf]; omega⟩
      · rw [eof_upd es j hd HAT.out]; exact HUP.out
      · simp only [World.size_setCell]; omega
    · have hjn : j = n := by omega
      subst hjn
      go_wp2_with fail
      go_ret
      exact ⟨_, rfl, hU.out.rd (Nat.le_refl _), hF⟩
end Go.Proofs.Ytoiffhoiklafhaa
/-
  Reaching nodes, as plain mathematics.
-/
namespace Go.Proofs.Ytoiffhoiklafhaa
open PK
/-- how many of the first N are not yet in -/
def nF (N : Nat) (O : Nat → Bool) : Nat := ((List.range N).filter (fun i => !O i)).length
theorem nF_succ (N : Nat) (O : Nat → Bool) : nF (N + 1) O = nF N O + (if O N = true then 0 else 1) := by
  unfold nF
  rw [List.range_succ, List.filter_append, List.length_append]
  cases h : O N <;> simp [h]
theorem nF_upd_ge (N t : Nat) (O : Nat → Bool) (h : N ≤ t) (b : Bool) : nF N (upd O t b) = nF N O := by
  induction N with
  | zero => rfl
  | succ N ih =>
    rw [nF_succ, nF_succ, ih (by omega), upd_other _ _ _ _ (by omega)]
theorem nF_upd (N t : Nat) (O : Nat → Bool) (ht : t < N) (ho : O t = false) : nF N (upd O t true) + 1 = nF N O := by
  induction N with
  | zero => omega
  | succ N ih =>
    rw [nF_succ, nF_succ]
    by_cases e : t = N
    · subst e
      rw [upd_same, nF_upd_ge _ _ _ (Nat.le_refl _), ho]; simp
    · rw [upd_other _ _ _ _ (fun h => e h.symm)]
      have := ih (by omega)
      omega
theorem upd_mono {O : Nat → Bool} {t i : Nat} (h : O i = true) : upd O t true i = true := by
  unfold upd; split
  · rfl
  · exact h
theorem upd_true {O : Nat → Bool} {t i : Nat} (h : upd O t true i = true) : i = t ∨ O i = true := by
  unfold upd at h; split at h
  · left; assumption
  · right; exact h

/-- the same, read off memory -/
def nFw (w : World) (b N : Nat) : Nat := nF N (fun i => match w.cell? ⟨b, i, none⟩ with | some (.bool true) => true | _ => false)
theorem nF_congr {N : Nat} {O O' : Nat → Bool} (h : ∀ i, i < N → O i = O' i) : nF N O = nF N O' := by
  unfold nF
  rw [List.filter_congr (fun i hi => by rw [h i (List.mem_range.1 hi)])]
theorem nFw_eq {w : World} {b N : Nat} {t : TypeId} {O : Nat → Bool} (h : w.rowIs b t N (fun i => .bool (O i))) : nFw w b N = nF N O :=
  nF_congr fun i hi => by
    rw [h.cell hi]
    cases O i <;> rfl
def lenOf : Value → Nat
  | .slice _ n _ => n
  | _ => 0
theorem rd_row {w : World} {b N : Nat} {t : TypeId} {α : Type} {f : α → Value} {O : Nat → α} (h : w.rowIs b t N (fun i => f (O i))) : Rd1 w (some ⟨b, 0, none⟩) f ((List.range N).map O) := by
  intro i x hx
  rw [List.getElem?_map] at hx
  obtain ⟨k, hk, rfl⟩ := Option.map_eq_some_iff.1 hx
  obtain ⟨h1, h2⟩ := List.getElem?_eq_some_iff.1 hk
  simp at h1 h2
  subst h2
  exact ⟨b, 0, rfl, by rw [Nat.zero_add]; exact h.cell h1⟩
theorem row_upd {w : World} {b N i : Nat} {t : TypeId} {α : Type} {f : α → Value} {O : Nat → α} {x : α} (h : w.rowIs b t N (fun i => f (O i))) : (w.setCell ⟨b, i, none⟩ (f x)).rowIs b t N (fun j => f (upd O i x j)) :=
  (h.set i _).congr (fun j _ => by unfold upd; split <;> rfl)

inductive Rch (es : List EI) (r : Nat) : Nat → Prop
  | root : Rch es r r
  | step {v : Nat} {e : EI} {t : Int} : Rch es r v → e ∈ es → e.h.toNat = v → t ∈ e.t → Rch es r t.toNat
/-- what v reaches at once is in -/
def Cl (es : List EI) (O : Nat → Bool) (v : Nat) : Prop := ∀ e ∈ es, e.h.toNat = v → ∀ t ∈ e.t, O t.toNat = true
theorem Cl.mono {es : List EI} {O : Nat → Bool} {v t : Nat} (h : Cl es O v) : Cl es (upd O t true) v := fun e he hv x hx => upd_mono (h e he hv x hx)
structure RI (es : List EI) (r N : Nat) (O : Nat → Bool) (T : List Nat) : Prop where
  a : ∀ i, O i = true → Rch es r i
  b : ∀ x ∈ T, x < N ∧ O x = true
  c : ∀ v, O v = true → v ∉ T → Cl es O v
  d : O r = true
  e : 2 * nF N O + T.length ≤ 2 * N
structure RJ (es : List EI) (r N v p M : Nat) (L : List Nat) (O : Nat → Bool) (T : List Nat) : Prop where
  a : ∀ i, O i = true → Rch es r i
  b : ∀ x ∈ T, x < N ∧ O x = true
  c : ∀ u, O u = true → u ∉ T → u ≠ v → Cl es O u
  d : O r = true
  v : O v = true
  g : ∀ i ∈ L.take p, ∀ e, es[i]? = some e → ∀ t ∈ e.t, O t.toNat = true
  m : 2 * nF N O + T.length < M
  hM : M ≤ 2 * N
theorem RI.pop {es : List EI} {r N : Nat} {O : Nat → Bool} {T : List Nat} {v : Nat} {L : List Nat} (h : RI es r N O (T ++ [v])) : RJ es r N v 0 (2 * nF N O + (T ++ [v]).length) L O T :=
  ⟨h.a, fun x hx => h.b x (by simp [hx]), fun u hu hT hv => h.c u hu (by simp [hT, hv]), h.d, (h.b v (by simp)).2, fun i hi => by simp at hi, by simp, h.e⟩
theorem RJ.mark {es : List EI} {r N v p M : Nat} {L : List Nat} {O : Nat → Bool} {T : List Nat} {t : Nat} (h : RJ es r N v p M L O T) (ht : t < N) (ho : O t = false) (hr : Rch es r t) : RJ es r N v p M L (upd O t true) (T ++ [t]) :=
  ⟨fun i hi => by
    rcases upd_true hi with rfl | hi
    · exact hr
    · exact h.a i hi,
   fun x hx => by
    rcases List.mem_append.1 hx with hx | hx
    · exact ⟨(h.b x hx).1, upd_mono (h.b x hx).2⟩
    · simp only [List.mem_singleton] at hx; subst hx; exact ⟨ht, upd_same _ _ _⟩,
   fun u hu hT hv => by
    have h1 : u ≠ t := fun e => hT (by simp [e])
    have h2 : O u = true := (upd_true hu).resolve_left h1
    exact (h.c u h2 (fun e => hT (by simp [e])) hv).mono,
   upd_mono h.d, upd_mono h.v, fun i hi e he t ht => upd_mono (h.g i hi e he t ht),
   by have h1 := nF_upd N t O ht ho
      have h2 := h.m
      simp only [List.length_append, List.length_cons, List.length_nil]
      omega, h.hM⟩
theorem RJ.next {es : List EI} {r N v p M : Nat} {L : List Nat} {O : Nat → Bool} {T : List Nat} {i : Nat} {e : EI} (h : RJ es r N v p M L O T) (hi : L[p]? = some i) (he : es[i]? = some e) (hk : ∀ t ∈ e.t, O t.toNat = true) : RJ es r N v (p + 1) M L O T :=
  ⟨h.a, h.b, h.c, h.d, h.v, fun j hj e' he' t ht => by
    rw [List.take_add_one, hi] at hj
    rcases List.mem_append.1 hj with hj | hj
    · exact h.g j hj e' he' t ht
    · simp only [Option.toList_some, List.mem_singleton] at hj
      subst hj
      rw [he] at he'
      obtain rfl := Option.some.inj he'
      exact hk t ht, h.m, h.hM⟩
theorem mem_eof {es : List EI} {n v i : Nat} : i ∈ eof es n v ↔ i < n ∧ headAt es i = v := by
  unfold eof; simp
theorem headAt_of {es : List EI} {i : Nat} {e : EI} (h : es[i]? = some e) : headAt es i = e.h.toNat := by unfold headAt; rw [h]
theorem RJ.done {es : List EI} {r N v p M : Nat} {O : Nat → Bool} {T : List Nat} (h : RJ es r N v p M (eof es es.length v) O T) (hp : (eof es es.length v).length ≤ p) : RI es r N O T :=
  ⟨h.a, h.b, fun u hu hT => by
    by_cases e : u = v
    · subst e
      intro e he hv t ht
      obtain ⟨i, hi⟩ := List.mem_iff_getElem?.1 he
      have hlt : i < es.length := (List.getElem?_eq_some_iff.1 hi).1
      exact h.g i (by rw [List.take_of_length_le hp]; exact mem_eof.2 ⟨hlt, by rw [headAt_of hi]; exact hv⟩) e hi t ht
    · exact h.c u hu hT e, h.d, by have := h.m; have := h.hM; omega⟩
theorem RI.all {es : List EI} {r N : Nat} {O : Nat → Bool} (h : RI es r N O []) : ∀ i, O i = true ↔ Rch es r i := fun i => ⟨h.a i, fun hr => by
  induction hr with
  | root => exact h.d
  | step hv he hh ht ih => exact h.c _ ih (by simp) _ he hh _ ht⟩
open Classical in
noncomputable def rchL (es : List EI) (r N : Nat) : List Bool := (List.range N).map (fun i => decide (Rch es r i))
open Classical in
theorem rchL_eq {es : List EI} {r N : Nat} {O : Nat → Bool} (h : ∀ i, O i = true ↔ Rch es r i) : rchL es r N = (List.range N).map O := by
  unfold rchL
  apply List.map_congr_left
  intro i _
  rw [Bool.eq_iff_iff]
  simp [h]
/-- as Go's function answers, for any root -/
noncomputable def reachL (es : List EI) (N : Nat) (r : Int) : List Bool := if 0 ≤ r ∧ r < N then rchL es r.toNat N else List.replicate N false
end Go.Proofs.Ytoiffhoiklafhaa
/-
  Deriving nodes, as plain mathematics.
-/
namespace Go.Proofs.Ytoiffhoiklafhaa
open PK
def tl (es : List EI) (i : Nat) : List Nat := match es[i]? with | some e => e.t.map Int.toNat | none => []
theorem tl_of {es : List EI} {i : Nat} {e : EI} (h : es[i]? = some e) : tl es i = e.t.map Int.toNat := by unfold tl; rw [h]
inductive Der (es : List EI) : Nat → Prop
  | mk (i : Nat) : i < es.length → (∀ t, t ∈ tl es i → Der es t) → Der es (headAt es i)
theorem countP_mono {α : Type} (p q : α → Bool) (l : List α) (h : ∀ x, q x = true → p x = true) : l.countP q ≤ l.countP p := by
  induction l with
  | nil => simp
  | cons x l ih =>
    rw [List.countP_cons, List.countP_cons]
    cases hq : q x
    · simp; omega
    · rw [h x hq]; simp; omega
theorem countP_le_all {α : Type} (p q : α → Bool) (l : List α) (h : ∀ x, q x = true → p x = true) (hc : l.countP p ≤ l.countP q) : ∀ x ∈ l, p x = true → q x = true := by
  induction l with
  | nil => simp
  | cons y l ih =>
    rw [List.countP_cons, List.countP_cons] at hc
    have h1 := countP_mono p q l h
    intro x hx hp
    rcases List.mem_cons.1 hx with rfl | hx
    · cases hq : q x with
      | true => rfl
      | false => rw [hp, hq] at hc; simp at hc; omega
    · refine ih ?_ x hx hp
      cases hq : q y with
      | true => rw [hq, h y hq] at hc; simp at hc; omega
      | false => rw [hq] at hc; simp at hc; omega
theorem countP_disj (p : Nat → Bool) (v : Nat) (hv : p v = false) (l : List Nat) : l.countP (fun t => p t || t == v) = l.countP p + l.count v := by
  induction l with
  | nil => simp
  | cons x l ih =>
    rw [List.countP_cons, List.countP_cons, List.count_cons, ih]
    by_cases e : x = v
    · subst e; simp [hv]; omega
    · simp [e]; omega
theorem countP_congr' {α : Type} {p q : α → Bool} {l : List α} (h : ∀ x ∈ l, p x = q x) : l.countP p = l.countP q :=
  List.countP_congr (fun x hx => by rw [h x hx])

/-- not yet dealt with: not in, or in and waiting -/
def wt (O : Nat → Bool) (T : List Nat) (t : Nat) : Bool := !(O t) || T.contains t
/-- the lists of uses are right for the first k edges and the first j tails of the k-th -/
def UseOk (es : List EI) (k j N : Nat) (L : Nat → List Nat) : Prop :=
  ∀ v, v < N → ∀ i, (L v).count i = if i < k then (tl es i).count v else if i = k then ((tl es k).take j).count v else 0
structure DP (es : List EI) (N k : Nat) (O : Nat → Bool) (T : List Nat) : Prop where
  a : ∀ v, O v = true → Der es v
  b : ∀ x, O x = true ↔ x ∈ T
  lt : ∀ x ∈ T, x < N
  nd : T.Nodup
  z : ∀ i, i < k → tl es i = [] → O (headAt es i) = true
  e : nF N O + T.length ≤ N
structure DIq (es : List EI) (N n : Nat) (L : Nat → List Nat) (O : Nat → Bool) (T : List Nat) (Mi : Nat → Nat) : Prop where
  a : ∀ v, O v = true → Der es v
  b : ∀ x ∈ T, x < N ∧ O x = true
  nd : T.Nodup
  mi : ∀ i, i < n → Mi i = (tl es i).countP (wt O T)
  cl : ∀ i, i < n → Mi i = 0 → O (headAt es i) = true
  e : nF N O + T.length ≤ N
structure DJ (es : List EI) (N n v p M : Nat) (L : List Nat) (O : Nat → Bool) (T : List Nat) (Mi : Nat → Nat) : Prop where
  a : ∀ u, O u = true → Der es u
  b : ∀ x ∈ T, x < N ∧ O x = true
  nd : T.Nodup
  vO : O v = true
  vT : v ∉ T
  mi : ∀ i, i < n → Mi i + (L.take p).count i = (tl es i).countP (fun t => wt O T t || t == v)
  cl : ∀ i, i < n → Mi i = 0 → O (headAt es i) = true
  e : nF N O + T.length ≤ N
  m : 2 * nF N O + T.length < M
/-- a node that is found -/
def fO (O : Nat → Bool) (v : Nat) : Nat → Bool := if O v then O else upd O v true
def fT (O : Nat → Bool) (T : List Nat) (v : Nat) : List Nat := if O v then T else T ++ [v]
theorem fO_mono {O : Nat → Bool} {v i : Nat} (h : O i = true) : fO O v i = true := by unfold fO; split; exact h; exact upd_mono h
theorem fO_self {O : Nat → Bool} {v : Nat} : fO O v v = true := by unfold fO; split; assumption; exact upd_same _ _ _
theorem fO_true {O : Nat → Bool} {v i : Nat} (h : fO O v i = true) : i = v ∨ O i = true := by
  unfold fO at h; split at h
  · exact .inr h
  · exact upd_true h
theorem fT_mem {O : Nat → Bool} {T : List Nat} {v x : Nat} : x ∈ fT O T v ↔ x ∈ T ∨ (O v = false ∧ x = v) := by
  unfold fT; split
  · rename_i h; simp [h]
  · rename_i h; simp [h]
theorem wt_found {O : Nat → Bool} {T : List Nat} {v : Nat} (t : Nat) : wt (fO O v) (fT O T v) t = wt O T t := by
  unfold wt fO fT
  cases h : O v
  · simp only [Bool.false_eq_true, if_false]
    by_cases e : t = v
    · subst e; rw [upd_same, h]; simp
    · rw [upd_other _ _ _ _ e]; simp [e]
  · simp
theorem found_e {O : Nat → Bool} {T : List Nat} {N v : Nat} (hv : v < N) (h : nF N O + T.length ≤ N) : nF N (fO O v) + (fT O T v).length ≤ N := by
  unfold fO fT
  cases ho : O v
  · have := nF_upd N v O hv ho
    simp; omega
  · simpa using h
theorem found_m {O : Nat → Bool} {T : List Nat} {N v M : Nat} (hv : v < N) (h : 2 * nF N O + T.length < M) : 2 * nF N (fO O v) + (fT O T v).length < M := by
  unfold fO fT
  cases ho : O v
  · have := nF_upd N v O hv ho
    simp; omega
  · simpa using h
theorem found_nd {O : Nat → Bool} {T : List Nat} {v : Nat} (hb : ∀ x ∈ T, O x = true) (h : T.Nodup) : (fT O T v).Nodup := by
  unfold fT
  cases ho : O v
  · simp only [Bool.false_eq_true, if_false]
    rw [List.nodup_append]
    refine ⟨h, by simp, fun a ha b hb' => ?_⟩
    simp only [List.mem_singleton] at hb'
    subst hb'
    intro e
    subst e
    rw [hb a ha] at ho; cases ho
  · simpa using h
/-- an edge without tails is met -/
theorem DP.zero {es : List EI} {N k : Nat} {O : Nat → Bool} {T : List Nat} (h : DP es N k O T) (hk : k < es.length) (hz : tl es k = []) (hv : headAt es k < N) : DP es N (k + 1) (fO O (headAt es k)) (fT O T (headAt es k)) :=
  ⟨fun v hv => by
    rcases fO_true hv with rfl | h1
    · exact .mk k hk (by rw [hz]; simp)
    · exact h.a v h1,
   fun x => by
    rw [fT_mem, ← h.b]
    constructor
    · intro h1
      rcases fO_true h1 with rfl | h2
      · cases ho : O (headAt es k)
        · exact .inr ⟨rfl, rfl⟩
        · exact .inl rfl
      · exact .inl h2
    · rintro (h1 | ⟨h1, rfl⟩)
      · exact fO_mono h1
      · exact fO_self,
   fun x hx => by
    rcases fT_mem.1 hx with h1 | ⟨_, rfl⟩
    · exact h.lt x h1
    · exact hv,
   found_nd (fun x hx => (h.b x).2 hx) h.nd,
   fun i hi ht => by
    by_cases e : i = k
    · subst e; exact fO_self
    · exact fO_mono (h.z i (by omega) ht),
   found_e hv h.e⟩
theorem DP.skip {es : List EI} {N k : Nat} {O : Nat → Bool} {T : List Nat} (h : DP es N k O T) (hz : tl es k ≠ []) : DP es N (k + 1) O T :=
  ⟨h.a, h.b, h.lt, h.nd, fun i hi ht => by
    by_cases e : i = k
    · subst e; exact absurd ht hz
    · exact h.z i (by omega) ht, h.e⟩
theorem DP.start (es : List EI) (N : Nat) : DP es N 0 (fun _ => false) [] :=
  ⟨fun v h => (by cases h), fun x => (by simp), fun x h => (by simp at h), by simp, fun i h => (by omega), by unfold nF; simp only [List.length_nil, Nat.add_zero]; exact Nat.le_trans (List.length_filter_le _ _) (Nat.le_of_eq List.length_range)⟩
theorem DP.phase {es : List EI} {N : Nat} {O : Nat → Bool} {T : List Nat} {L : Nat → List Nat} {Mi : Nat → Nat} (h : DP es N es.length O T) (hm : ∀ i, i < es.length → Mi i = (tl es i).length) : DIq es N es.length L O T Mi :=
  ⟨h.a, fun x hx => ⟨h.lt x hx, (h.b x).2 hx⟩, h.nd, fun i hi => by
    rw [hm i hi, List.countP_eq_length.2]
    intro t _
    unfold wt
    cases ho : O t
    · rfl
    · simpa using (h.b t).1 ho,
   fun i hi h0 => h.z i hi (List.eq_nil_of_length_eq_zero ((hm i hi).symm.trans h0)), h.e⟩
theorem DIq.pop {es : List EI} {N n : Nat} {L : Nat → List Nat} {O : Nat → Bool} {T : List Nat} {Mi : Nat → Nat} {v : Nat} (h : DIq es N n L O (T ++ [v]) Mi) : DJ es N n v 0 (2 * nF N O + (T ++ [v]).length) (L v) O T Mi := by
  have hnd := List.nodup_append.1 h.nd
  have hvT : v ∉ T := fun hv => hnd.2.2 v hv v (by simp) rfl
  refine ⟨h.a, fun x hx => h.b x (by simp [hx]), hnd.1, (h.b v (by simp)).2, hvT, fun i hi => ?_, h.cl, by have := h.e; simp at this; omega, by simp⟩
  rw [h.mi i hi]
  simp only [List.take_zero, List.count_nil, Nat.add_zero]
  refine countP_congr' fun t _ => ?_
  unfold wt
  by_cases e : t = v
  · subst e; simp
  · simp [e]
/-- one use of v is dealt with -/
theorem DJ.step {es : List EI} {N n v p M i : Nat} {L : List Nat} {O : Nat → Bool} {T : List Nat} {Mi : Nat → Nat} (h : DJ es N n v p M L O T Mi) (hi : L[p]? = some i) (hin : i < n) (hn : n ≤ es.length) (hL : ∀ i, i < n → L.count i = (tl es i).count v) :
    1 ≤ Mi i ∧ (Mi i = 1 → headAt es i < N → DJ es N n v (p + 1) M L (fO O (headAt es i)) (fT O T (headAt es i)) (upd Mi i 0)) ∧ (Mi i ≠ 1 → DJ es N n v (p + 1) M L O T (upd Mi i (Mi i - 1))) := by
  have htake : ∀ j, (L.take (p + 1)).count j = (L.take p).count j + (if j = i then 1 else 0) := by
    intro j
    rw [List.take_add_one, hi, List.count_append]
    by_cases e : j = i
    · subst e; simp
    · simp [e, Ne.symm e]
  have hle : (L.take (p + 1)).count i ≤ L.count i := List.Sublist.count_le _ (List.take_sublist _ _)
  have hcv : (tl es i).count v ≤ (tl es i).countP (fun t => wt O T t || t == v) := countP_mono _ _ _ (fun x hx => by simp at hx; simp [hx])
  have hmi := h.mi i hin
  have hLi := hL i hin
  have ht := htake i
  rw [if_pos rfl] at ht
  refine ⟨by omega, fun h1 hh => ?_, fun h1 => ?_⟩
  · have hall : ∀ t ∈ tl es i, (wt O T t || t == v) = true → (t == v) = true := by
      refine countP_le_all _ _ _ (fun x hx => by simp at hx; simp [hx]) ?_
      have : (tl es i).countP (fun t => t == v) = (tl es i).count v := rfl
      rw [this]; omega
    have hder : Der es (headAt es i) := by
      refine .mk i (by omega) fun t ht => ?_
      by_cases e : t = v
      · subst e; exact h.a t h.vO
      · cases ho : O t
        · have := hall t ht (by simp [wt, ho])
          simp at this; exact absurd this e
        · exact h.a t ho
    have hvh : v ∉ fT O T (headAt es i) := fun hm => by
      rcases fT_mem.1 hm with hm | ⟨hm, e⟩
      · exact h.vT hm
      · rw [← e, h.vO] at hm; cases hm
    refine ⟨fun u hu => ?_, fun x hx => ?_, found_nd (fun x hx => (h.b x hx).2) h.nd, fO_mono h.vO, hvh, fun j hj => ?_, fun j hj h0 => ?_, found_e hh h.e, found_m hh h.m⟩
    · rcases fO_true hu with rfl | hu
      · exact hder
      · exact h.a u hu
    · rcases fT_mem.1 hx with hx | ⟨_, rfl⟩
      · exact ⟨(h.b x hx).1, fO_mono (h.b x hx).2⟩
      · exact ⟨hh, fO_self⟩
    · have hw : (tl es j).countP (fun t => wt (fO O (headAt es i)) (fT O T (headAt es i)) t || t == v) = (tl es j).countP (fun t => wt O T t || t == v) := countP_congr' fun t _ => by rw [wt_found]
      rw [hw, htake]
      have := h.mi j hj
      by_cases e : j = i
      · subst e; rw [upd_same, if_pos rfl]; omega
      · rw [upd_other _ _ _ _ e, if_neg e]; omega
    · by_cases e : j = i
      · subst e; exact fO_self
      · rw [upd_other _ _ _ _ e] at h0; exact fO_mono (h.cl j hj h0)
  · refine ⟨h.a, h.b, h.nd, h.vO, h.vT, fun j hj => ?_, fun j hj h0 => ?_, h.e, h.m⟩
    · rw [htake]
      have := h.mi j hj
      by_cases e : j = i
      · subst e; rw [upd_same, if_pos rfl]; omega
      · rw [upd_other _ _ _ _ e, if_neg e]; omega
    · by_cases e : j = i
      · subst e; rw [upd_same] at h0; omega
      · rw [upd_other _ _ _ _ e] at h0; exact h.cl j hj h0
theorem DJ.done {es : List EI} {N n v p M : Nat} {L : Nat → List Nat} {O : Nat → Bool} {T : List Nat} {Mi : Nat → Nat} (h : DJ es N n v p M (L v) O T Mi) (hp : (L v).length ≤ p) (hL : ∀ i, i < n → (L v).count i = (tl es i).count v) : DIq es N n L O T Mi :=
  ⟨h.a, h.b, h.nd, fun i hi => by
    have h1 := h.mi i hi
    rw [List.take_of_length_le hp, hL i hi, countP_disj (wt O T) v (by
      unfold wt; rw [h.vO]; simp [h.vT])] at h1
    omega, h.cl, h.e⟩
theorem DIq.all {es : List EI} {N : Nat} {L : Nat → List Nat} {O : Nat → Bool} {Mi : Nat → Nat} (h : DIq es N es.length L O [] Mi) : ∀ v, O v = true ↔ Der es v := fun v => ⟨h.a v, fun hd => by
  induction hd with
  | mk i hi ht ih =>
    refine h.cl i hi ?_
    rw [h.mi i hi, List.countP_eq_zero]
    intro t ht'
    unfold wt
    rw [ih t ht']
    simp⟩
open Classical in
noncomputable def derL (es : List EI) (N : Nat) : List Bool := (List.range N).map (fun i => decide (Der es i))
open Classical in
theorem derL_eq {es : List EI} {N : Nat} {O : Nat → Bool} (h : ∀ i, i < N → (O i = true ↔ Der es i)) : derL es N = (List.range N).map O := by
  unfold derL
  apply List.map_congr_left
  intro i hi
  rw [Bool.eq_iff_iff]
  simp [h i (List.mem_range.1 hi)]
/-- a use is noted -/
theorem UseOk.push {es : List EI} {k j N t : Nat} {L : Nat → List Nat} (h : UseOk es k j N L) (ht : (tl es k)[j]? = some t) : UseOk es k (j + 1) N (upd L t (L t ++ [k])) := by
  intro v hv i
  have h1 := h v hv i
  have h2 : ((tl es k).take (j + 1)).count v = ((tl es k).take j).count v + (if v = t then 1 else 0) := by
    rw [List.take_add_one, ht, List.count_append]
    by_cases e : v = t
    · subst e; simp
    · simp [e, Ne.symm e]
  by_cases e : v = t
  · subst e
    rw [upd_same, List.count_append, h1]
    rw [if_pos rfl] at h2
    by_cases hik : i < k
    · rw [if_pos hik, if_pos hik]
      have : k ≠ i := by omega
      simp [this]
    · rw [if_neg hik, if_neg hik]
      by_cases hk : i = k
      · subst hk; simp [h2]
      · rw [if_neg hk, if_neg hk]; simp [Ne.symm hk]
  · rw [upd_other _ _ _ _ e, h1]
    rw [if_neg e] at h2
    rw [h2]; rfl
theorem UseOk.next {es : List EI} {k j N : Nat} {L : Nat → List Nat} (h : UseOk es k j N L) (hj : (tl es k).length ≤ j) : UseOk es (k + 1) 0 N L := by
  intro v hv i
  rw [h v hv i]
  by_cases h1 : i < k
  · rw [if_pos h1, if_pos (by omega)]
  · rw [if_neg h1]
    by_cases h2 : i = k
    · subst h2; rw [if_pos rfl, if_pos (by omega), List.take_of_length_le hj]
    · rw [if_neg h2, if_neg (by omega)]
      by_cases h3 : i = k + 1
      · subst h3; simp
      · rw [if_neg h3]
theorem UseOk.start (es : List EI) (N : Nat) : UseOk es 0 0 N (fun _ => []) := by
  intro v hv i
  by_cases h : i = 0
  · subst h; simp
  · simp [h]
end Go.Proofs.Ytoiffhoiklafhaa
/-
  The order of a hypergraph, as plain mathematics.
-/
namespace Go.Proofs.Ytoiffhoiklafhaa
open PK
/-- every edge of v has only tails in D -/
def readyB (es : List EI) (D : Nat → Bool) (v : Nat) : Bool := (List.range es.length).all fun i => headAt es i != v || (tl es i).all D
def nextO (es : List EI) (N : Nat) (D : Nat → Bool) : Option Nat := (List.range N).find? fun v => !(D v) && readyB es D v
def ordGo (es : List EI) (N : Nat) : Nat → (Nat → Bool) → List Nat → Option (List Nat)
  | 0, _, l => some l
  | f + 1, D, l => match nextO es N D with
    | none => none
    | some v => ordGo es N f (upd D v true) (l ++ [v])
def ordS (es : List EI) (N : Nat) : Option (List Nat) := ordGo es N N (fun _ => false) []
/-- how many tails of edges of v, of the first k edges, are not in D -/
def mis (es : List EI) (D : Nat → Bool) (v : Nat) : Nat → Nat
  | 0 => 0
  | k + 1 => mis es D v k + (if headAt es k = v then (tl es k).countP (fun t => !(D t)) else 0)
/-- how often t is a tail of an edge of h, of the first k edges -/
def occ (es : List EI) (h t : Nat) : Nat → Nat
  | 0 => 0
  | k + 1 => occ es h t k + (if headAt es k = h then (tl es k).count t else 0)
theorem mis_zero (es : List EI) (D : Nat → Bool) (v : Nat) : ∀ k, mis es D v k = 0 ↔ ∀ i, i < k → headAt es i = v → ∀ t ∈ tl es i, D t = true
  | 0 => ⟨fun _ i hi => by omega, fun _ => rfl⟩
  | k + 1 => by
    have ih := mis_zero es D v k
    unfold mis
    rw [Nat.add_eq_zero_iff, ih]
    constructor
    · rintro ⟨h1, h2⟩ i hi hv t ht
      by_cases e : i = k
      · subst e
        rw [if_pos hv, List.countP_eq_zero] at h2
        have := h2 t ht
        simpa using this
      · exact h1 i (by omega) hv t ht
    · intro h
      refine ⟨fun i hi => h i (by omega), ?_⟩
      split
      · rename_i hv
        rw [List.countP_eq_zero]
        intro t ht
        simp [h k (by omega) hv t ht]
      · rfl
theorem ready_iff_mis (es : List EI) (D : Nat → Bool) (v : Nat) : readyB es D v = true ↔ mis es D v es.length = 0 := by
  rw [mis_zero]
  unfold readyB
  simp only [List.all_eq_true, List.mem_range, Bool.or_eq_true, bne_iff_ne, ne_eq]
  constructor
  · intro h i hi hv t ht
    rcases h i hi with h1 | h1
    · exact absurd hv h1
    · exact h1 t ht
  · intro h i hi
    by_cases e : headAt es i = v
    · exact .inr (h i hi e)
    · exact .inl e
theorem mis_done (es : List EI) (D : Nat → Bool) (h t : Nat) (ht : D t = false) : ∀ k, mis es D h k = mis es (upd D t true) h k + occ es h t k
  | 0 => rfl
  | k + 1 => by
    unfold mis occ
    rw [mis_done es D h t ht k]
    have : (tl es k).countP (fun x => !(D x)) = (tl es k).countP (fun x => !(upd D t true x)) + (tl es k).count t := by
      rw [← countP_disj (fun x => !(upd D t true x)) t (by rw [upd_same]; rfl)]
      refine countP_congr' fun x _ => ?_
      by_cases e : x = t
      · subst e; rw [ht]; simp
      · rw [upd_other _ _ _ _ e]; simp [e]
    split
    · omega
    · omega
theorem mis_start_succ (es : List EI) (v k : Nat) : mis es (fun _ => false) v (k + 1) = mis es (fun _ => false) v k + (if headAt es k = v then (tl es k).length else 0) := by
  show mis es (fun _ => false) v k + _ = _
  congr 1
  split
  · exact List.countP_eq_length.2 (fun t _ => rfl)
  · rfl
/-- the lists of uses (heads) are right for the first k edges and j tails of the k-th -/
def UseH (es : List EI) (k j N : Nat) (L : Nat → List Nat) : Prop :=
  (∀ t, t < N → ∀ h, (L t).count h = occ es h t k + (if headAt es k = h then ((tl es k).take j).count t else 0)) ∧ ∀ t, t < N → ∀ h ∈ L t, h < N
theorem UseH.start (es : List EI) (N : Nat) : UseH es 0 0 N (fun _ => []) := ⟨fun t ht h => by simp [occ], fun t _ h hh => by simp at hh⟩
theorem UseH.push {es : List EI} {k j N t : Nat} {L : Nat → List Nat} (h : UseH es k j N L) (ht : (tl es k)[j]? = some t) (hh : headAt es k < N) : UseH es k (j + 1) N (upd L t (L t ++ [headAt es k])) := by
  refine ⟨fun u hu x => ?_, fun u hu x hx => ?_⟩
  · have h1 := h.1 u hu x
    have h2 : ((tl es k).take (j + 1)).count u = ((tl es k).take j).count u + (if u = t then 1 else 0) := by
      rw [List.take_add_one, ht, List.count_append]
      by_cases e : u = t
      · subst e; simp
      · simp [e, Ne.symm e]
    by_cases e : u = t
    · subst e
      rw [upd_same, List.count_append, h1]
      rw [if_pos rfl] at h2
      by_cases hx : headAt es k = x
      · subst hx
        rw [if_pos rfl, if_pos rfl, h2]; simp; omega
      · rw [if_neg hx, if_neg hx]; simp [hx]
    · rw [upd_other _ _ _ _ e, h1]
      rw [if_neg e] at h2
      rw [h2]; rfl
  · by_cases e : u = t
    · subst e
      rw [upd_same] at hx
      rcases List.mem_append.1 hx with hx | hx
      · exact h.2 u hu x hx
      · simp only [List.mem_singleton] at hx; subst hx; exact hh
    · rw [upd_other _ _ _ _ e] at hx; exact h.2 u hu x hx
theorem UseH.next {es : List EI} {k j N : Nat} {L : Nat → List Nat} (h : UseH es k j N L) (hj : (tl es k).length ≤ j) : UseH es (k + 1) 0 N L := by
  refine ⟨fun u hu x => ?_, h.2⟩
  rw [h.1 u hu x, List.take_of_length_le hj]
  show _ = (occ es x u k + _) + _
  simp
theorem UseH.full {es : List EI} {N : Nat} {L : Nat → List Nat} (h : UseH es es.length 0 N L) : ∀ t, t < N → ∀ x, (L t).count x = occ es x t es.length := fun t ht x => by
  rw [h.1 t ht x]; simp

/-! ### the search for the next node -/
theorem nextO_some {es : List EI} {N v : Nat} {D : Nat → Bool} (hv : v < N) (h : (!(D v) && readyB es D v) = true) (hb : ∀ u, u < v → (!(D u) && readyB es D u) = false) : nextO es N D = some v := by
  unfold nextO
  rw [List.find?_range_eq_some]
  refine ⟨h, by simpa using hv, fun j hj => by rw [hb j hj]; rfl⟩
theorem nextO_none {es : List EI} {N : Nat} {D : Nat → Bool} (hb : ∀ u, u < N → (!(D u) && readyB es D u) = false) : nextO es N D = none := by
  unfold nextO
  rw [List.find?_eq_none]
  intro x hx
  rw [hb x (List.mem_range.1 hx)]; simp
/-- behind l, with the nodes D done, the rest of the order is still to come -/
def OI (es : List EI) (N : Nat) (D : Nat → Bool) (l : List Nat) : Prop := l.length ≤ N ∧ ordGo es N (N - l.length) D l = ordS es N ∧ (∀ x ∈ l, x < N)
theorem OI.start (es : List EI) (N : Nat) : OI es N (fun _ => false) [] := ⟨Nat.zero_le _, rfl, fun x h => by simp at h⟩
theorem OI.step {es : List EI} {N v : Nat} {D : Nat → Bool} {l : List Nat} (h : OI es N D l) (hl : l.length < N) (hn : nextO es N D = some v) (hv : v < N) : OI es N (upd D v true) (l ++ [v]) := by
  refine ⟨by simp; omega, ?_, fun x hx => ?_⟩
  · rw [← h.2.1]
    obtain ⟨f, hf⟩ : ∃ f, N - l.length = f + 1 := ⟨N - l.length - 1, by omega⟩
    rw [hf]
    simp only [List.length_append, List.length_cons, List.length_nil]
    rw [show N - (l.length + (0 + 1)) = f by omega]
    show _ = (match nextO es N D with | none => none | some v => ordGo es N f (upd D v true) (l ++ [v]))
    rw [hn]
  · rcases List.mem_append.1 hx with hx | hx
    · exact h.2.2 x hx
    · simp only [List.mem_singleton] at hx; subst hx; exact hv
theorem OI.stuck {es : List EI} {N : Nat} {D : Nat → Bool} {l : List Nat} (h : OI es N D l) (hl : l.length < N) (hn : nextO es N D = none) : ordS es N = none := by
  rw [← h.2.1]
  obtain ⟨f, hf⟩ : ∃ f, N - l.length = f + 1 := ⟨N - l.length - 1, by omega⟩
  rw [hf]
  show (match nextO es N D with | none => none | some v => ordGo es N f (upd D v true) (l ++ [v])) = none
  rw [hn]
theorem OI.done {es : List EI} {N : Nat} {D : Nat → Bool} {l : List Nat} (h : OI es N D l) (hl : N ≤ l.length) : ordS es N = some l ∧ l.length = N := by
  have h1 := h.1
  have e : N - l.length = 0 := by omega
  have h2 := h.2.1
  rw [e] at h2
  exact ⟨h2.symm, by omega⟩
/-- one use dealt with: the count of what is missing -/
theorem count_take_succ {L : List Nat} {p i : Nat} (hi : L[p]? = some i) (j : Nat) : (L.take (p + 1)).count j = (L.take p).count j + (if j = i then 1 else 0) := by
  rw [List.take_add_one, hi, List.count_append]
  by_cases e : j = i
  · subst e; simp
  · simp [e, Ne.symm e]
end Go.Proofs.Ytoiffhoiklafhaa
/-
  An order is topological, as plain mathematics.
-/
namespace Go.Proofs.Ytoiffhoiklafhaa
open PK
structure TI (es : List EI) (N : Nat) (D : Nat → Bool) (l : List Nat) : Prop where
  mem : ∀ x, D x = true ↔ x ∈ l
  lt : ∀ x ∈ l, x < N
  inj : ∀ (p q v : Nat), l[p]? = some v → l[q]? = some v → p = q
  top : ∀ (p v : Nat), l[p]? = some v → ∀ i, i < es.length → headAt es i = v → ∀ t ∈ tl es i, ∃ q, q < p ∧ l[q]? = some t
  cnt : nF N D + l.length = N
theorem TI.start (es : List EI) (N : Nat) : TI es N (fun _ => false) [] :=
  ⟨fun x => (by simp), fun x h => (by simp at h), fun p q v h => (by simp at h), fun p v h => (by simp at h), by
    unfold nF
    have : (List.range N).filter (fun _ => !false) = List.range N := List.filter_eq_self.2 (fun _ _ => rfl)
    rw [this]; simp⟩
theorem get_snoc {l : List Nat} {v p x : Nat} (h : (l ++ [v])[p]? = some x) : (p < l.length ∧ l[p]? = some x) ∨ (p = l.length ∧ x = v) := by
  rcases Nat.lt_trichotomy p l.length with h1 | h1 | h1
  · rw [List.getElem?_append_left h1] at h; exact .inl ⟨h1, h⟩
  · subst h1
    rw [List.getElem?_append_right (Nat.le_refl _)] at h
    simp at h; exact .inr ⟨rfl, h.symm⟩
  · rw [List.getElem?_append_right (by omega)] at h
    obtain ⟨k, hk⟩ : ∃ k, p - l.length = k + 1 := ⟨p - l.length - 1, by omega⟩
    rw [hk] at h; simp at h
theorem TI.step {es : List EI} {N v : Nat} {D : Nat → Bool} {l : List Nat} (h : TI es N D l) (hn : nextO es N D = some v) : TI es N (upd D v true) (l ++ [v]) := by
  have hv : v < N := by unfold nextO at hn; exact List.mem_range.1 (List.mem_of_find?_eq_some hn)
  have hp : (!(D v) && readyB es D v) = true := by
    unfold nextO at hn
    have h1 := List.find?_some hn
    simpa using h1
  simp only [Bool.and_eq_true, Bool.not_eq_true'] at hp
  have hvl : v ∉ l := fun e => by have := (h.mem v).2 e; rw [hp.1] at this; cases this
  have hrd := (mis_zero es D v es.length).1 ((ready_iff_mis es D v).1 hp.2)
  refine ⟨fun x => ?_, fun x hx => ?_, fun p q x hp1 hq1 => ?_, fun p x hx i hi hh t ht => ?_, ?_⟩
  · constructor
    · intro hx
      rcases upd_true hx with rfl | hx
      · simp
      · simp [(h.mem x).1 hx]
    · intro hx
      rcases List.mem_append.1 hx with hx | hx
      · exact upd_mono ((h.mem x).2 hx)
      · simp only [List.mem_singleton] at hx; subst hx; exact upd_same _ _ _
  · rcases List.mem_append.1 hx with hx | hx
    · exact h.lt x hx
    · simp only [List.mem_singleton] at hx; subst hx; exact hv
  · rcases get_snoc hp1 with ⟨h1, h2⟩ | ⟨h1, h2⟩ <;> rcases get_snoc hq1 with ⟨h3, h4⟩ | ⟨h3, h4⟩
    · exact h.inj p q x h2 h4
    · subst h4; exact absurd (List.mem_of_getElem? h2) hvl
    · subst h2; exact absurd (List.mem_of_getElem? h4) hvl
    · omega
  · rcases get_snoc hx with ⟨h1, h2⟩ | ⟨h1, h2⟩
    · obtain ⟨q, hq, hq2⟩ := h.top p x h2 i hi hh t ht
      exact ⟨q, hq, by rw [List.getElem?_append_left (by omega)]; exact hq2⟩
    · subst h2
      have hD := hrd i hi hh t ht
      obtain ⟨q, hq⟩ := List.mem_iff_getElem?.1 ((h.mem t).1 hD)
      have hql := (List.getElem?_eq_some_iff.1 hq).1
      exact ⟨q, by omega, by rw [List.getElem?_append_left hql]; exact hq⟩
  · have := nF_upd N v D hv hp.1
    have := h.cnt
    simp only [List.length_append, List.length_cons, List.length_nil]
    omega
theorem ordGo_top (es : List EI) (N : Nat) : ∀ (f : Nat) (D : Nat → Bool) (l r : List Nat), TI es N D l → ordGo es N f D l = some r → ∃ D', TI es N D' r ∧ r.length = l.length + f
  | 0, D, l, r, h, hr => by
    unfold ordGo at hr
    obtain rfl := Option.some.inj hr
    exact ⟨D, h, rfl⟩
  | f + 1, D, l, r, h, hr => by
    unfold ordGo at hr
    cases hn : nextO es N D with
    | none => rw [hn] at hr; cases hr
    | some v =>
      rw [hn] at hr
      obtain ⟨D', h1, h2⟩ := ordGo_top es N f _ _ r (h.step hn) hr
      exact ⟨D', h1, by rw [h2]; simp; omega⟩
theorem nF_zero {N : Nat} {D : Nat → Bool} (h : nF N D = 0) : ∀ v, v < N → D v = true := by
  intro v hv
  unfold nF at h
  have h1 := List.eq_nil_of_length_eq_zero h
  cases hd : D v with
  | true => rfl
  | false =>
    have : v ∈ (List.range N).filter (fun i => !D i) := List.mem_filter.2 ⟨List.mem_range.2 hv, by simp [hd]⟩
    rw [h1] at this; simp at this
/-- what an order is good for: every node has one place, tails before heads -/
theorem ordS_top {es : List EI} {N : Nat} {l : List Nat} (h : ordS es N = some l) : l.length = N ∧ (∀ x ∈ l, x < N) ∧ (∀ (p q v : Nat), l[p]? = some v → l[q]? = some v → p = q) ∧ (∀ v, v < N → ∃ p : Nat, l[p]? = some v) ∧
    (∀ i, i < es.length → headAt es i < N → ∀ t ∈ tl es i, ∀ (p q : Nat), l[p]? = some (headAt es i) → l[q]? = some t → q < p) := by
  obtain ⟨D, h1, h2⟩ := ordGo_top es N N _ _ l (TI.start es N) h
  have hlen : l.length = N := by simpa using h2
  have h0 : nF N D = 0 := by have := h1.cnt; omega
  refine ⟨hlen, h1.lt, h1.inj, fun v hv => List.mem_iff_getElem?.1 ((h1.mem v).1 (nF_zero h0 v hv)), fun i hi hh t ht p q hp hq => ?_⟩
  obtain ⟨q', hq', hq2⟩ := h1.top p _ hp i hi rfl t ht
  rw [h1.inj q q' t hq hq2]
  exact hq'
end Go.Proofs.Ytoiffhoiklafhaa
/-
  Derivable, walked.
-/
namespace Go.Proofs.Ytoiffhoiklafhaa
open Go.RowKit PK
attribute [local go_sem] Oper.lit Oper.litS fut_fut fut_drew World.cell?_alloc_some
/-- what Derivable has laid in memory: the blocks from b on -/
structure DH (w : World) (b N n : Nat) (A : Option Addr) (c : Nat) (wr : World) (O : Nat → Bool) (Mi : Nat → Nat) (V : Nat → Value) (L : Nat → List Nat) (tv : Value) (T : List Nat) : Prop where
  hb : w.heap.size ≤ b
  fut : Fut w wr
  sz : b + 6 ≤ wr.heap.size
  hbox : wr.cell? ⟨b, 1, none⟩ = some (.slice A n c)
  out : wr.rowIs (b + 1) 4 N (fun i => .bool (O i))
  obox : wr.cell? ⟨b + 2, 0, none⟩ = some (.slice (some ⟨b + 1, 0, none⟩) N N)
  mis : wr.rowIs (b + 3) 3 n (fun i => nv (Mi i))
  use : Uses wr (b + 6) (b + 4) N V L
  tbox : wr.heap[b + 5]? = some (.cells #[tv] 27 (0, 0))
  todo : Own wr (b + 6) tv T
  sep : ∀ i, i < N → ∀ g, (V i).ownBlock = some g → tv.ownBlock ≠ some g
section
variable {w wr : World} {b N n : Nat} {A : Option Addr} {c : Nat} {O : Nat → Bool} {Mi : Nat → Nat} {V : Nat → Value} {L : Nat → List Nat} {tv : Value} {T : List Nat}
theorem DH.drew (h : DH w b N n A c wr O Mi V L tv T) : DH w b N n A c wr.drew O Mi V L tv T :=
  ⟨h.hb, h.fut.drew, h.sz, h.hbox, h.out.drew, h.obox, h.mis.drew, h.use.drew, h.tbox, h.todo.drew, h.sep⟩
theorem DH.alloc (h : DH w b N n A c wr O Mi V L tv T) (o : Obj) : DH w b N n A c (wr.alloc o) O Mi V L tv T :=
  ⟨h.hb, h.fut.alloc o, by rw [World.size_alloc]; have := h.sz; omega, ((Fut.refl _).alloc o).cell h.hbox, h.out.alloc o, ((Fut.refl _).alloc o).cell h.obox, h.mis.alloc o, h.use.alloc o,
   (Below.heap_alloc _ _ _ (by have := h.sz; omega)).trans h.tbox, h.todo.alloc o, h.sep⟩
theorem cell_set {w : World} {a p : Addr} {u v : Value} (h : w.cell? p = some v) (hne : p.block ≠ a.block) : (w.setCell a u).cell? p = some v :=
  (World.cell?_of_block (Below.heap_setCell w a u p.block hne)).trans h
/-- a store into out -/
theorem DH.setOut (h : DH w b N n A c wr O Mi V L tv T) (i : Nat) (x : Bool) : DH w b N n A c (wr.setCell ⟨b + 1, i, none⟩ (.bool x)) (upd O i x) Mi V L tv T :=
  ⟨h.hb, h.fut.setCell (by have := h.hb; simp only; omega) _, by rw [World.size_setCell]; exact h.sz, cell_set h.hbox (by simp), row_upd (f := Value.bool) h.out, cell_set h.obox (by simp), h.mis.setOther (by simp) _, h.use.setOther (by simp only; omega) (by simp) _,
   (Below.heap_setCell _ _ _ _ (by simp)).trans h.tbox, h.todo.setOther (by simp only; omega) _, h.sep⟩
/-- a store into missing -/
theorem DH.setMis (h : DH w b N n A c wr O Mi V L tv T) (i x : Nat) : DH w b N n A c (wr.setCell ⟨b + 3, i, none⟩ (nv x)) O (upd Mi i x) V L tv T :=
  ⟨h.hb, h.fut.setCell (by have := h.hb; simp only; omega) _, by rw [World.size_setCell]; exact h.sz, cell_set h.hbox (by simp), h.out.setOther (by simp) _, cell_set h.obox (by simp), row_upd (f := nv) h.mis, h.use.setOther (by simp only; omega) (by simp) _,
   (Below.heap_setCell _ _ _ _ (by simp)).trans h.tbox, h.todo.setOther (by simp only; omega) _, h.sep⟩
/-- todo takes another value (a part of the one that it was) -/
theorem DH.setTodo (h : DH w b N n A c wr O Mi V L tv T) (tv2 : Value) (T2 : List Nat) (ho : Own wr (b + 6) tv2 T2) (hs : ∀ i, i < N → ∀ g, (V i).ownBlock = some g → tv2.ownBlock ≠ some g) : DH w b N n A c (wr.setCell ⟨b + 5, 0, none⟩ tv2) O Mi V L tv2 T2 :=
  ⟨h.hb, h.fut.setCell (by have := h.hb; simp only; omega) _, by rw [World.size_setCell]; exact h.sz, cell_set h.hbox (by simp), h.out.setOther (by simp) _, cell_set h.obox (by simp), h.mis.setOther (by simp) _, h.use.setOther (by simp only; omega) (by simp) _,
   one_setCell h.tbox, ho.setOther (by simp only; omega) _, hs⟩
/-- todo has been appended to -/
theorem DH.pushTodo (h : DH w b N n A c wr O Mi V L tv T) {w2 : World} {g cp v : Nat} (ho : Own w2 (b + 6) (.slice (some ⟨g, 0, none⟩) (T.length + 1) cp) (T ++ [v])) (hg : wr.grownBy w2 tv.ownBlock) (hw : tv.ownBlock = some g ∨ g = wr.heap.size) :
    DH w b N n A c (w2.setCell ⟨b + 5, 0, none⟩ (.slice (some ⟨g, 0, none⟩) (T.length + 1) cp)) O Mi V L (.slice (some ⟨g, 0, none⟩) (T.length + 1) cp) (T ++ [v]) := by
  have hlt := h.todo.lt
  have hne : ∀ k, k < b + 6 → some k ≠ tv.ownBlock := fun k hk e => by have := (hlt k e.symm).1; omega
  have hsz := h.sz
  have hbl : ∀ k, k < b + 6 → w2.heap[k]? = wr.heap[k]? := fun k hk => hg.block k (by omega) (hne k hk)
  have hce : ∀ (p : Addr) (v : Value), p.block < b + 6 → wr.cell? p = some v → w2.cell? p = some v := fun p v hp hc => (World.cell?_of_block (hbl _ hp)).trans hc
  have h1 : DH w b N n A c w2 O Mi V L tv T → False ∨ True := fun _ => .inr trivial
  have huse : Uses w2 (b + 6) (b + 4) N V L := h.use.kept hg (fun e => hne (b + 4) (by omega) e.symm) (fun i hi => by
    cases hv : (V i).ownBlock with
    | none => exact .inl rfl
    | some k => right; intro e; exact h.sep i hi k hv e.symm)
  refine ⟨h.hb, (Below.grown h.fut hg (by have := h.hb; omega) (fun k hk => by have := (hlt k hk).1; have := h.hb; omega)).setCell (by have := h.hb; simp only; omega) _, by rw [World.size_setCell]; have := hg.size; omega,
    cell_set (hce _ _ (by simp only; omega) h.hbox) (by simp), (h.out.of_block (hbl _ (by omega))).setOther (by simp) _, cell_set (hce _ _ (by simp only; omega) h.obox) (by simp), (h.mis.of_block (hbl _ (by omega))).setOther (by simp) _,
    huse.setOther (by simp only; omega) (by simp) _, one_setCell ((hbl _ (by omega)).trans h.tbox), ho.setOther (by simp only; omega) _, fun i hi k hk e => ?_⟩
  simp only [Value.ownBlock, Option.some.injEq] at e
  subst e
  rcases hw with hw | hw
  · exact h.sep i hi g hk hw
  · have := ((h.use.own i hi).lt g hk).2
    omega
/-- a use has been noted -/
theorem DH.pushUse (h : DH w b N n A c wr O Mi V L tv T) {w2 : World} {g cp t x : Nat} (ht : t < N) (ho : Own w2 (b + 6) (.slice (some ⟨g, 0, none⟩) ((L t).length + 1) cp) (L t ++ [x])) (hg : wr.grownBy w2 (V t).ownBlock) (hw : (V t).ownBlock = some g ∨ g = wr.heap.size) :
    DH w b N n A c (w2.setCell ⟨b + 4, t, none⟩ (.slice (some ⟨g, 0, none⟩) ((L t).length + 1) cp)) O Mi (upd V t (.slice (some ⟨g, 0, none⟩) ((L t).length + 1) cp)) (upd L t (L t ++ [x])) tv T := by
  have hlt := (h.use.own t ht).lt
  have hne : ∀ k, k < b + 6 → some k ≠ (V t).ownBlock := fun k hk e => by have := (hlt k e.symm).1; omega
  have hsz := h.sz
  have hbl : ∀ k, k < b + 6 → w2.heap[k]? = wr.heap[k]? := fun k hk => hg.block k (by omega) (hne k hk)
  have hce : ∀ (p : Addr) (v : Value), p.block < b + 6 → wr.cell? p = some v → w2.cell? p = some v := fun p v hp hc => (World.cell?_of_block (hbl _ hp)).trans hc
  have htd : Own w2 (b + 6) tv T := h.todo.kept hg (by
    cases hv : tv.ownBlock with
    | none => exact .inl rfl
    | some k => right; intro e; exact h.sep t ht k e.symm hv)
  refine ⟨h.hb, (Below.grown h.fut hg (by have := h.hb; omega) (fun k hk => by have := (hlt k hk).1; have := h.hb; omega)).setCell (by have := h.hb; simp only; omega) _, by rw [World.size_setCell]; have := hg.size; omega,
    cell_set (hce _ _ (by simp only; omega) h.hbox) (by simp), (h.out.of_block (hbl _ (by omega))).setOther (by simp) _, cell_set (hce _ _ (by simp only; omega) h.obox) (by simp), (h.mis.of_block (hbl _ (by omega))).setOther (by simp) _,
    h.use.push (by omega) ht (by have := ho; unfold Own at this; simpa using this) hg hw, (Below.heap_setCell _ _ _ _ (by simp)).trans ((hbl _ (by omega)).trans h.tbox), htd.setOther (by simp only; omega) _, fun i hi k hk e => ?_⟩
  by_cases ei : i = t
  · subst ei
    rw [upd_same] at hk
    simp only [Value.ownBlock, Option.some.injEq] at hk
    subst hk
    rcases hw with hw | hw
    · exact h.sep i hi g hw e
    · have := (h.todo.lt g e).2
      omega
  · rw [upd_other _ _ _ _ ei] at hk
    exact h.sep i hi k hk e
end
end Go.Proofs.Ytoiffhoiklafhaa
/-
  Derivable, walked: its two loops.
-/
namespace Go.Proofs.Ytoiffhoiklafhaa
open Go.RowKit PK
attribute [local go_sem] Oper.lit Oper.litS fut_fut fut_drew World.cell?_alloc_some
def sumT (es : List EI) (k : Nat) : Nat := ((List.range k).map (fun i => (tl es i).length)).sum
theorem sumT_succ (es : List EI) (k : Nat) : sumT es (k + 1) = sumT es k + (tl es k).length := by
  unfold sumT; rw [List.range_succ, List.map_append, List.sum_append]; simp
theorem sumT_mono (es : List EI) {k m : Nat} (h : k ≤ m) : sumT es k ≤ sumT es m := by
  induction m with
  | zero => have : k = 0 := by omega
            subst this; exact Nat.le_refl _
  | succ m ih =>
    by_cases e : k = m + 1
    · subst e; exact Nat.le_refl _
    · rw [sumT_succ]; have := ih (by omega); omega
theorem Own.ne_block {w : World} {B e : Nat} {v : Value} {xs : List Nat} {cs : Array Value} {t : TypeId} {fr : Nat × Nat} (h : Own w B v xs) (hb : w.heap[e]? = some (.cells cs t fr)) (ht : t ≠ 3) : v.ownBlock ≠ some e := by
  unfold Own World.ownsRow at h
  obtain ⟨_, ⟨rfl, _⟩ | ⟨g, cap, cur, rfl, h1, h2, _⟩⟩ := h
  · simp [Value.ownBlock]
  · intro e1
    simp only [Value.ownBlock, Option.some.injEq] at e1
    subst e1
    rw [hb] at h2
    simp only [Option.some.injEq, Obj.cells.injEq] at h2
    exact ht h2.2.1
end Go.Proofs.Ytoiffhoiklafhaa
/-
  Order, walked: its first loop.
-/
namespace Go.Proofs.Ytoiffhoiklafhaa
open Go.RowKit PK
attribute [local go_sem] Oper.lit Oper.litS fut_fut fut_drew World.cell?_alloc_some
/-- what Order has laid in memory: the blocks from b on -/
structure OH (w : World) (b N : Nat) (A : Option Addr) (n c : Nat) (wr : World) (Mi : Nat → Nat) (V : Nat → Value) (L : Nat → List Nat) : Prop where
  hb : w.heap.size ≤ b
  fut : Fut w wr
  sz : b + 3 ≤ wr.heap.size
  hbox : wr.cell? ⟨b, 0, none⟩ = some (.int .i64 N)
  mis : wr.rowIs (b + 1) 3 N (fun i => nv (Mi i))
  use : Uses wr (b + 3) (b + 2) N V L
section
variable {w wr : World} {b N n : Nat} {A : Option Addr} {c : Nat} {Mi : Nat → Nat} {V : Nat → Value} {L : Nat → List Nat}
theorem OH.drew (h : OH w b N A n c wr Mi V L) : OH w b N A n c wr.drew Mi V L := ⟨h.hb, h.fut.drew, h.sz, h.hbox, h.mis.drew, h.use.drew⟩
theorem OH.alloc (h : OH w b N A n c wr Mi V L) (o : Obj) : OH w b N A n c (wr.alloc o) Mi V L :=
  ⟨h.hb, h.fut.alloc o, by rw [World.size_alloc]; have := h.sz; omega, ((Fut.refl _).alloc o).cell h.hbox, h.mis.alloc o, h.use.alloc o⟩
theorem OH.setMis (h : OH w b N A n c wr Mi V L) (i x : Nat) : OH w b N A n c (wr.setCell ⟨b + 1, i, none⟩ (nv x)) (upd Mi i x) V L :=
  ⟨h.hb, h.fut.setCell (by have := h.hb; simp only; omega) _, by rw [World.size_setCell]; exact h.sz, cell_set h.hbox (by simp), row_upd (f := nv) h.mis, h.use.setOther (by simp only; omega) (by simp) _⟩
theorem OH.pushUse (h : OH w b N A n c wr Mi V L) {w2 : World} {g cp t x : Nat} (ht : t < N) (ho : Own w2 (b + 3) (.slice (some ⟨g, 0, none⟩) ((L t).length + 1) cp) (L t ++ [x])) (hg : wr.grownBy w2 (V t).ownBlock) (hw : (V t).ownBlock = some g ∨ g = wr.heap.size) :
    OH w b N A n c (w2.setCell ⟨b + 2, t, none⟩ (.slice (some ⟨g, 0, none⟩) ((L t).length + 1) cp)) Mi (upd V t (.slice (some ⟨g, 0, none⟩) ((L t).length + 1) cp)) (upd L t (L t ++ [x])) := by
  have hlt := (h.use.own t ht).lt
  have hne : ∀ k, k < b + 3 → some k ≠ (V t).ownBlock := fun k hk e => by have := (hlt k e.symm).1; omega
  have hsz := h.sz
  have hbl : ∀ k, k < b + 3 → w2.heap[k]? = wr.heap[k]? := fun k hk => hg.block k (by omega) (hne k hk)
  have hce : ∀ (p : Addr) (v : Value), p.block < b + 3 → wr.cell? p = some v → w2.cell? p = some v := fun p v hp hc => (World.cell?_of_block (hbl _ hp)).trans hc
  exact ⟨h.hb, (Below.grown h.fut hg (by have := h.hb; omega) (fun k hk => by have := (hlt k hk).1; have := h.hb; omega)).setCell (by have := h.hb; simp only; omega) _, by rw [World.size_setCell]; have := hg.size; omega,
    cell_set (hce _ _ (by simp only; omega) h.hbox) (by simp), (h.mis.of_block (hbl _ (by omega))).setOther (by simp) _,
    h.use.push (by omega) ht (by have := ho; unfold Own at this; simpa using this) hg hw⟩
end
/-- as Order answers -/
def OrdRes (w' : World) (e : Ending) (r : Option (List Nat)) : Prop :=
  match r with
  | some l => ∃ A c, e = .returned (.tuple #[.slice A l.length c, .int .i64 0]) ∧ Rd1 w' A nv l
  | none => e = .returned (.tuple #[.slice none 0 0, .int .i64 9])
set_option maxRecDepth 4000 in
set_option maxHeartbeats 12800000 in
theorem order_any (N : Nat) (A : Option Addr) (n c : Nat) (es : List EI) (w : World) (hl : es.length = n) (hn : n ≤ 1000) (hN : N ≤ 1048576) (hhd : ∀ e ∈ es, 0 ≤ e.h ∧ e.h < N) (htl : ∀ e ∈ es, ∀ t ∈ e.t, 0 ≤ t ∧ t < N) (htot : sumT es n ≤ 2000000) (hR : RdE w A es) :
    Calls Try.prog 47 #[hv N A n c] w fun e w' => OrdRes w' e (ordS es N) ∧ Below w.heap.size w w' := by
  have HR := Lib.hid hR
  have HL := Lib.hid hl
  have HV := Lib.hid hhd
  have HT := Lib.hid htl
  have HTOT := Lib.hid htot
  clear hR hl hhd htl htot
  obtain ⟨i0, hi, hz0, hz1, hz2⟩ := info_parts info_bool
  obtain ⟨i1, ki, kz0, kz1, kz2⟩ := info_parts info_int
  obtain ⟨i2, mi, mz0, mz1, mz2⟩ := info_parts info_sl
  go_enter Try.func47, Try.ntmps47
  go_wp2_with (first
    | (refine wpList_make_row _ rfl (.tmp 17) (.tmp 17) 27 rfl 3 i1 (.int .i64 0) Try.underlying27 ki kz0 kz1 rfl .i64 .i64 N rfl rfl (by rw [kz2]; omega) (by omega) ?_)
    | (refine wpList_make_row _ rfl (.tmp 20) (.tmp 20) 77 rfl 27 i2 (.slice none 0 0) Try.underlying77 mi mz0 mz1 rfl .i64 .i64 N rfl rfl (by rw [mz2]; omega) (by omega) ?_))
  simp only [Nat.add_assoc, Nat.reduceAdd]
  have HD0 := Lib.hid (show OH w w.heap.size N A n c (((w.alloc (.cells #[.int .i64 N, .slice A n c] 24)).alloc (.cells (madeCells #[.int .i64 0] N) 3)).alloc (.cells (madeCells #[.slice none 0 0] N) 27))
      (fun _ => 0) (fun _ => .slice none 0 0) (fun _ => []) from by
    have r1 := World.rowIs_made (w.alloc (.cells #[.int .i64 N, .slice A n c] 24)) (.int .i64 0) N 3
    have r2 := World.rowIs_made ((w.alloc (.cells #[.int .i64 N, .slice A n c] 24)).alloc (.cells (madeCells #[.int .i64 0] N) 3)) (.slice none 0 0) N 27
    simp only [World.size_alloc, Nat.add_assoc, Nat.reduceAdd] at r1 r2
    exact ⟨Nat.le_refl _, (((Fut.refl w).alloc _).alloc _).alloc _, by simp only [World.size_alloc]; omega, by (repeat (first | exact (cell_al_new _ _ _ _ _ _ (by first | rfl | (simp only [World.size_alloc]))).trans rfl | refine (cell_al_old _ _ _ (by first | omega | (simp only [World.size_alloc]; omega))).trans ?_)), r1.alloc _, ⟨r2, by omega, fun i _ => Own.nil _ _, fun i j g _ _ h => by simp [Value.ownBlock] at h⟩⟩)
  go_loopw [25] (fun i wr => ∃ (k : Nat) (Mi : Nat → Nat) (V : Nat → Value) (L : Nat → List Nat), k ≤ n ∧ i = .int .i64 k ∧ Hid (OH w w.heap.size N A n c wr Mi V L) ∧ Hid (UseH es k 0 N L) ∧ Hid (∀ v, v < N → Mi v = mis es (fun _ => false) v k) ∧ Hid (∀ v, v < N → (L v).length ≤ sumT es k) ∧ Hid (∀ v, Mi v ≤ sumT es k)) (fun i _ => n - (intOf i).toNat)
  case atStart => exact ⟨0, _, _, _, Nat.zero_le _, rfl, HD0, Lib.hid (UseH.start es N), Lib.hid (fun v _ => rfl), Lib.hid (fun v _ => by simp), Lib.hid (fun v => Nat.zero_le _)⟩
  case round =>
    clear HD0
    obtain ⟨k, Mi, V, L, hk, rfl, hOH, hUO, hMi, hLb, hMb⟩ := hrel
    by_cases hlt : k < n
    · obtain ⟨x, hx⟩ := get_lt HL.out hlt
      obtain ⟨b, o, rfl, hc⟩ := HR.out.1 k x hx
      have hF := hOH.out.fut
      have c0 := hF.cell (hc 0 _ (by decide) rfl)
      have c1 := hF.cell (hc 1 _ (by decide) rfl)
      have c2 := hF.cell (hc 2 _ (by decide) rfl)
      have c3 := hF.cell (hc 3 _ (by decide) rfl)
      have c4 := hF.cell (hc 4 _ (by decide) rfl)
      simp only [Nat.add_zero] at c0
      have HXT := Lib.hid (HR.out.2 x (List.mem_of_getElem? hx)).1
      have hxl : x.t.length ≤ 9223372036854775807 := (HR.out.2 x (List.mem_of_getElem? hx)).2
      have HXV := Lib.hid (HT.out x (List.mem_of_getElem? hx))
      have hxh := HV.out x (List.mem_of_getElem? hx)
      have HTL := Lib.hid (tl_of hx)
      have HHA := Lib.hid (headAt_of hx)
      clear hx hc hF
      obtain ⟨xh, xt, xc, xl0, xl1, xA, xk⟩ := x
      simp only at HXT hxl HXV hxh HTL HHA c0 c1 c2 c3 c4
      obtain ⟨hd, rfl⟩ : ∃ m : Nat, xh = m := Int.eq_ofNat_of_zero_le hxh.1
      have hdN : hd < N := by have := hxh.2; omega
      have HHD := Lib.hid (show headAt es k = hd from HHA.out)
      clear hxh HHA
      have hst : sumT es k + xt.length ≤ 2000000 := by have h2 := sumT_mono es (show k + 1 ≤ n by omega); rw [sumT_succ, HTL.out, List.length_map] at h2; have := HTOT.out; omega
      have hmb := hMb.out hd
      have hwr1 : IntKind.i64.wrap ((Mi hd : Int) + (xt.length : Int)) = (Mi hd : Int) + (xt.length : Int) := IntWalk.i64_in _ ⟨by omega, by omega⟩
      have hwr2 : wrap64 ((Mi hd : Int) + (xt.length : Int)) = (Mi hd : Int) + (xt.length : Int) := IntWalk.wrap64_in _ ⟨by omega, by omega⟩
      have h1 := (hOH.out.alloc (.cells #[.int .i64 hd, .slice xA xt.length xk, .int .i64 xc, .int .i64 xl0, .int .i64 xl1] 49)).setMis hd (Mi hd + xt.length)
      have hszr : w.heap.size + 3 ≤ wr.heap.size := hOH.out.sz
      have hmc := (hOH.out.alloc (.cells #[.int .i64 hd, .slice xA xt.length xk, .int .i64 xc, .int .i64 xl0, .int .i64 xl1] 49)).mis.cell hdN
      have hmf := (hOH.out.alloc (.cells #[.int .i64 hd, .slice xA xt.length xk, .int .i64 xc, .int .i64 xl0, .int .i64 xl1] 49)).mis.frozen hd
      have heb : ((wr.alloc (.cells #[.int .i64 hd, .slice xA xt.length xk, .int .i64 xc, .int .i64 xl0, .int .i64 xl1] 49)).setCell ⟨w.heap.size + 1, hd, none⟩ (nv (Mi hd + xt.length))).heap[wr.heap.size]? = some (.cells #[.int .i64 hd, .slice xA xt.length xk, .int .i64 xc, .int .i64 xl0, .int .i64 xl1] 49) := (Below.heap_setCell _ _ _ _ (by simp only; omega)).trans (heap_alloc_new _ _)
      have H1 := Lib.hid (show OH w w.heap.size N (some ⟨b, o, none⟩) n c (((wr.alloc (.cells #[.int .i64 hd, .slice xA xt.length xk, .int .i64 xc, .int .i64 xl0, .int .i64 xl1] 49)).setCell ⟨w.heap.size + 1, hd, none⟩ (.int .i64 ((Mi hd : Int) + (xt.length : Int)))).drew) (upd Mi hd (Mi hd + xt.length)) V L from h1.drew)
      have HEB := Lib.hid (show (((wr.alloc (.cells #[.int .i64 hd, .slice xA xt.length xk, .int .i64 xc, .int .i64 xl0, .int .i64 xl1] 49)).setCell ⟨w.heap.size + 1, hd, none⟩ (.int .i64 ((Mi hd : Int) + (xt.length : Int)))).drew).heap[wr.heap.size]? = some (.cells #[.int .i64 hd, .slice xA xt.length xk, .int .i64 xc, .int .i64 xl0, .int .i64 xl1] 49) from heb)
      have f0 : ∀ dd os, (fut (wr.alloc (.cells #[.int .i64 hd, .slice xA xt.length xk, .int .i64 xc, .int .i64 xl0, .int .i64 xl1] 49)) dd os).cell? ⟨wr.heap.size, 0, none⟩ = some (.int .i64 hd) := cell_fut (by (repeat (first | exact (cell_al_new _ _ _ _ _ _ (by first | rfl | (simp only [World.size_alloc]))).trans rfl | refine (cell_al_old _ _ _ (by first | omega | (simp only [World.size_alloc]; omega))).trans ?_)))
      have f1 : ∀ dd os, (fut (wr.alloc (.cells #[.int .i64 hd, .slice xA xt.length xk, .int .i64 xc, .int .i64 xl0, .int .i64 xl1] 49)) dd os).cell? ⟨wr.heap.size, 1, none⟩ = some (.slice xA xt.length xk) := cell_fut (by (repeat (first | exact (cell_al_new _ _ _ _ _ _ (by first | rfl | (simp only [World.size_alloc]))).trans rfl | refine (cell_al_old _ _ _ (by first | omega | (simp only [World.size_alloc]; omega))).trans ?_)))
      have f2 : ∀ dd os, (fut (wr.alloc (.cells #[.int .i64 hd, .slice xA xt.length xk, .int .i64 xc, .int .i64 xl0, .int .i64 xl1] 49)) dd os).cell? ⟨w.heap.size + 1, hd, none⟩ = some (.int .i64 (Mi hd)) := cell_fut hmc
      clear h1
      obtain ⟨wo, rfl⟩ : ∃ x, x = wr := ⟨_, rfl⟩
      go_wp2_with fail
      refine wp_region_M o_hypergraph_Order_6 (by kernel_rfl) (by kernel_rfl) (by intro c a d v w h; cases d <;> exact h) ?_; unfold o_hypergraph_Order_6
      iterate 10 (refine wpF_h rfl rfl (fun K hK => ?_); go_simp; refine hK _ _ ?_; clear hK K)
      refine wpF_o rfl rfl (fun K hK => ?_)
      go_simp
      refine hK _ _ (.inl (by kernel_rfl)) ?_
      clear hK K
      refine wpF_nil ?_
      have g1 : (((wo.alloc (.cells #[.int .i64 hd, .slice xA xt.length xk, .int .i64 xc, .int .i64 xl0, .int .i64 xl1] 49)).setCell ⟨w.heap.size + 1, hd, none⟩ (.int .i64 ((Mi hd : Int) + (xt.length : Int)))).drew).cell? ⟨wo.heap.size, 1, none⟩ = some (.slice xA xt.length xk) := cell_of_row _ _ 1 _ _ _ HEB.out
      generalize ((wo.alloc (.cells #[.int .i64 hd, .slice xA xt.length xk, .int .i64 xc, .int .i64 xl0, .int .i64 xl1] 49)).setCell ⟨w.heap.size + 1, hd, none⟩ (.int .i64 ((Mi hd : Int) + (xt.length : Int)))).drew = ws at *
      go_wp2_with fail
      clear c0 c1 c2 c3 c4 hmc hmf hwr1 hwr2 f0 f1 f2 heb g1
      obtain ⟨eb, hebd⟩ : ∃ eb, eb = wo.heap.size := ⟨_, rfl⟩
      have hebge : w.heap.size + 3 ≤ eb := by rw [hebd]; exact hszr
      rw [← hebd] at HEB ⊢
      clear hebd hszr
      go_loopw [42] (fun j wr => ∃ (jj : Nat) (V : Nat → Value) (L : Nat → List Nat), jj ≤ xt.length ∧ j = .int .i64 jj ∧ Hid (OH w w.heap.size N (some ⟨b, o, none⟩) n c wr (upd Mi hd (Mi hd + xt.length)) V L) ∧ Hid (UseH es k jj N L) ∧ Hid (∀ v, v < N → (L v).length ≤ sumT es k + jj) ∧ Hid (wr.heap[eb]? = some (.cells #[.int .i64 hd, .slice xA xt.length xk, .int .i64 xc, .int .i64 xl0, .int .i64 xl1] 49))) (fun j _ => xt.length - (intOf j).toNat)
      case atStart => exact ⟨0, V, L, Nat.zero_le _, rfl, H1, hUO, hLb, HEB⟩
      case round =>
        clear H1 hUO hLb HEB hOH V L
        obtain ⟨jj, V, L, hj, rfl, hOH, hUO, hLb, hEB⟩ := hrel
        by_cases hjt : jj < xt.length
        · obtain ⟨y, hy⟩ := get_lt rfl hjt
          have hyv := HXV.out y (List.mem_of_getElem? hy)
          obtain ⟨t, rfl⟩ : ∃ t : Nat, y = t := Int.eq_ofNat_of_zero_le hyv.1
          have htN : t < N := by have := hyv.2; omega
          obtain ⟨b4, o4, rfl, hcy⟩ := HXT.out jj _ hy
          have hcell := hOH.out.fut.cell hcy
          have HTJ := Lib.hid (show (tl es k)[jj]? = some t from by rw [HTL.out, List.getElem?_map, hy]; rfl)
          have hLt : (L t).length ≤ 2000000 := by have h1 := hLb.out t htN; omega
          have hszi := hOH.out.sz
          have hown0 := fun q hq => (hOH.out.use.own t htN).lt q hq
          have HOWN0 := Lib.hid hown0
          have hebl : eb < wr.heap.size := (Array.getElem?_eq_some_iff.1 hEB.out).1
          clear hy hyv hcy hown0
          obtain ⟨wi, rfl⟩ : ∃ x, x = wr := ⟨_, rfl⟩
          obtain ⟨S, hS⟩ : ∃ S : Nat → Bool, S = fun q => (V t).ownBlock == some q := ⟨_, rfl⟩
          have HS := Lib.hid hS
          have s0 : S eb = false := by
            rw [hS]; simp only [beq_eq_false_iff_ne]
            exact (hOH.out.use.own t htN).ne_block hEB.out (by decide)
          have s1 : S (w.heap.size + 2) = false := by
            rw [hS]; simp only [beq_eq_false_iff_ne]
            intro e
            have := (HOWN0.out _ e).1
            omega
          clear hS
          have r0 : ∀ f dd os, (futS wi S f dd os).cell? ⟨eb, 0, none⟩ = some (.int .i64 hd) := cell_futS (cell_of_row _ _ 0 _ _ _ hEB.out) s0
          have r1 : ∀ f dd os, (futS wi S f dd os).cell? ⟨w.heap.size + 2, t, none⟩ = some (V t) := cell_futS (hOH.out.use.row.cell htN) s1
          go_wp2_with fail
          refine wp_region_MG (relS S) o_hypergraph_Order_10 (by kernel_rfl) (by kernel_rfl) (by intro c a d v w h; cases d <;> exact h) ?_; unfold o_hypergraph_Order_10
          iterate 8 (refine wpS_h rfl rfl (fun K hK => ?_); go_simp; refine hK _ _ ?_; clear hK K)
          refine wpG_o rfl rfl (fun K hK => ?_)
          go_simp
          go_at_K
          refine hK _ _ (.inr ((relS S).of_fut ((Fut.refl _).alloc _))) ?_
          clear hK K
          refine wpG_o rfl rfl (fun K hK => ?_)
          refine wp_append_lies _ (.tmp 51) (.tmp 54) 27 rfl (w.heap.size + 3) 3 i1 (.int .i64 0) 1 8 Try.underlying27 ki kz0 kz1 kz2 rfl (by decide) (V t) (L t).length ((L t).map nv) rfl (((hOH.out.use.own t htN).drew).alloc _) ⟨wi.heap.size, 0, none⟩ 1 1 [nv hd] rfl rfl ?_ ?_ (by decide) ?_ ?_ ?_ (wi.heap.size + 1) ?_ ?_
          · exact World.news_of_block (cs := #[nv hd]) (heap_alloc_new _ _)
          · intro u hu; simp only [List.mem_singleton] at hu; subst hu; rfl
          · unfold maxLen; omega
          · omega
          · show _ ≤ (wi.alloc _).heap.size; rw [World.size_alloc]; omega
          · show (wi.alloc _).heap.size = _; rw [World.size_alloc]
          intro g cap w2 hown2 hgr hg2 hlt2
          have hOa : OH w w.heap.size N (some ⟨b, o, none⟩) n c (wi.alloc (.cells #[nv hd] 3)).drew (upd Mi hd (Mi hd + xt.length)) V L := (hOH.out.alloc _).drew
          have hfs : FutS S (wi.alloc (.cells #[nv hd] 3)).drew w2 := ⟨hgr.os, hgr.tape, hgr.output, hgr.size, fun q hq hs => hgr.block q hq (fun e => by rw [HS.out] at hs; simp [← e] at hs)⟩
          refine hK _ _ (.inr hfs) ?_
          clear hK K
          have hune : (V t).ownBlock ≠ some (w.heap.size + 2) := fun e => by have := (HOWN0.out _ e).1; omega
          have hrow2 : w2.rowIs (w.heap.size + 2) 27 N V := hOa.use.row.of_block (hgr.block _ hOa.use.row.lt (fun e => hune e.symm))
          have hcu : w2.cell? ⟨w.heap.size + 2, t, none⟩ = some (V t) := hrow2.cell htN
          have hfu : w2.frozen? ⟨w.heap.size + 2, t, none⟩ = false := hrow2.frozen t
          have HUP := Lib.hid (hOa.pushUse (x := hd) htN (by unfold Own; simpa using hown2) hgr (by rcases hg2 with h | h; exact .inl h; right; show _ = (wi.alloc _).heap.size; rw [World.size_alloc]; exact h))
          have HEB2 := Lib.hid ((hgr.block eb (by show _ < (wi.alloc _).heap.size; rw [World.size_alloc]; omega) (fun e => (hOH.out.use.own t htN).ne_block hEB.out (by decide) e.symm)).trans ((Below.heap_alloc _ _ _ hebl).trans hEB.out))
          clear hown2 hgr hg2 hlt2 hOa hfs hrow2
          (refine wpS_h rfl rfl (fun K hK => ?_); go_simp; refine hK _ _ ?_; clear hK K)
          refine wpG_o rfl rfl (fun K hK => ?_)
          go_simp
          refine hK _ _ (.inl (by kernel_rfl)) ?_
          clear hK K
          refine wpG_nil ?_
          go_wp2_with fail
          refine ⟨⟨jj + 1, _, _, by omega, by go_num, HUP, Lib.hid (by have := hUO.out.push HTJ.out (by rw [HHD.out]; exact hdN); rwa [HHD.out] at this), Lib.hid ?_, Lib.hid ((Below.heap_setCell _ _ _ _ (by simp only; omega)).trans HEB2.out)⟩, by simp [intOf]; omega⟩
          intro v hv
          have := hLb.out v hv
          by_cases e : v = t
          · subst e; rw [upd_same]; simp; omega
          · rw [upd_other _ _ _ _ e]; omega
        · have hjj : (tl es k).length ≤ jj := by rw [HTL.out, List.length_map]; omega
          have HU2 := Lib.hid (hUO.out.next hjj)
          have HB2 := Lib.hid (show ∀ v, v < N → (L v).length ≤ sumT es (k + 1) from fun v hv => by
            have := hLb.out v hv
            rw [sumT_succ, HTL.out, List.length_map]; omega)
          have HMI2 := Lib.hid (show ∀ v, v < N → upd Mi hd (Mi hd + xt.length) v = mis es (fun _ => false) v (k + 1) from fun v hv => by
            rw [mis_start_succ, HHD.out, HTL.out, List.length_map, ← hMi.out v hv]
            by_cases e : v = hd
            · subst e; rw [upd_same, if_pos rfl]
            · rw [upd_other _ _ _ _ e, if_neg (fun h => e h.symm)]; omega)
          have HMB2 := Lib.hid (show ∀ v, upd Mi hd (Mi hd + xt.length) v ≤ sumT es (k + 1) from fun v => by
            rw [sumT_succ, HTL.out, List.length_map]
            have := hMb.out v
            by_cases e : v = hd
            · subst e; rw [upd_same]; omega
            · rw [upd_other _ _ _ _ e]; omega)
          clear hjj
          go_wp2_with fail
          exact ⟨⟨k + 1, _, V, L, by omega, by go_num, hOH, HU2, HMI2, HB2, HMB2⟩, by simp [intOf]; omega⟩
    · have hkn : k = n := by omega
      subst hkn
      have HUF := Lib.hid (show ∀ t, t < N → ∀ x, (L t).count x = occ es x t k from by
        have h1 := UseH.full (es := es) (N := N) (L := L) (by rw [HL.out]; exact hUO.out)
        rwa [HL.out] at h1)
      have HUN := Lib.hid hUO.out.2
      have HLB := hLb
      clear hlt hk hUO hLb
      obtain ⟨wo, rfl⟩ : ∃ x, x = wr := ⟨_, rfl⟩
      have hb0 := hOH.out.hbox
      obtain ⟨d, hdd⟩ : ∃ d, d = wo.heap.size := ⟨_, rfl⟩
      have HDD := Lib.hid hdd
      have hdge : w.heap.size + 3 ≤ d := by rw [hdd]; exact hOH.out.sz
      have HO1 := Lib.hid (hOH.out.alloc (.cells (madeCells #[.bool false] N) 4))
      have HROW := Lib.hid (show (wo.alloc (.cells (madeCells #[.bool false] N) 4)).rowIs d 4 N (fun _ => .bool false) from by rw [hdd]; exact World.rowIs_made _ _ _ _)
      have hsz1 : (wo.alloc (.cells (madeCells #[.bool false] N) 4)).heap.size = d + 1 := by rw [World.size_alloc, hdd]
      have HULT := Lib.hid (show ∀ t, t < N → ∀ g, (V t).ownBlock = some g → w.heap.size + 3 ≤ g ∧ g < d from fun t ht g hg => by rw [hdd]; exact (hOH.out.use.own t ht).lt g hg)
      go_wp2_with (refine wpList_make_row _ rfl (.tmp 60) (.tmp 60) 64 rfl 4 i0 (.bool false) Try.underlying64 hi hz0 hz1 rfl .i64 .i64 N rfl rfl (by rw [hz2]; omega) (by omega) ?_)
      rw [← HDD.out]
      have hb1 := HO1.out.hbox
      generalize wo.alloc (.cells (madeCells #[.bool false] N) 4) = w1 at *
      clear hb0 hdd hOH
      obtain ⟨S, hS⟩ : ∃ S : Nat → Bool, S = fun q => q == w.heap.size + 1 || q == d := ⟨_, rfl⟩
      have HS1 := Lib.hid (show S (w.heap.size + 1) = true from by rw [hS]; simp)
      have HSd := Lib.hid (show S d = true from by rw [hS]; simp)
      have HSo := Lib.hid (show ∀ q, q ≠ w.heap.size + 1 → q ≠ d → S q = false from fun q h1 h2 => by rw [hS]; simp [h1, h2])
      have HSi := Lib.hid (show ∀ q, S q = true → w.heap.size ≤ q from fun q hq => by
        rw [hS] at hq; simp at hq; omega)
      clear hS
      have HUSE := Lib.hid HO1.out.use
      have HF1 := Lib.hid HO1.out.fut
      have HM0 := Lib.hid HO1.out.mis
      clear HO1
      go_loopw [11] (fun lv wr => ∃ (D : Nat → Bool) (Mi : Nat → Nat) (l : List Nat), Hid (OI es N D l) ∧ Hid (FutS S w1 wr) ∧ Hid (wr.rowIs (w.heap.size + 1) 3 N (fun i => nv (Mi i))) ∧ Hid (wr.rowIs d 4 N (fun i => .bool (D i))) ∧ Hid (Own wr (d + 1) lv l) ∧ Hid (∀ v, v < N → Mi v = mis es D v k) ∧ Hid (∀ v, Mi v ≤ 2000000)) (fun lv _ => N - lenOf lv)
      case atStart => exact ⟨fun _ => false, Mi, [], Lib.hid (OI.start es N), Lib.hid (FutS.refl _), HM0, HROW, Lib.hid (Own.nil _ _), hMi, Lib.hid (fun v => Nat.le_trans (hMb.out v) HTOT.out)⟩
      case round =>
        clear hMi hMb HROW HM0 Mi
        obtain ⟨D, Mi, l, hOI, hFS, hmis, hrow, hown, hMi, hMb⟩ := hrel
        have hbx := hFS.out.cell hb1 (HSo.out _ (by simp only; omega) (by simp only; omega))
        obtain ⟨la, lc, hlv, hla⟩ := hown.out.form
        subst hlv
        by_cases hln : l.length < N
        · obtain ⟨wo2, rfl⟩ : ∃ x, x = wr := ⟨_, rfl⟩
          go_wp2_with fail
          go_loopw [12, 69] (fun nx i wr => ∃ v0 : Nat, v0 ≤ N ∧ i = .int .i64 v0 ∧ nx = .int .i64 (-1) ∧ Hid (∀ u, u < v0 → (!(D u) && readyB es D u) = false) ∧ wr = wo2) (fun _ i _ => N - (intOf i).toNat)
          case atStart => exact ⟨0, Nat.zero_le _, rfl, rfl, Lib.hid (fun u hu => by omega), rfl⟩
          case round =>
            obtain ⟨v0, hv0, rfl, rfl, hpre, rfl⟩ := hrel
            by_cases hv : v0 < N
            · have hcd := hrow.out.cell hv
              have hcm := hmis.out.cell hv
              have hmm := hMi.out v0 hv
              have go_on : (!(D v0) && readyB es D v0) = false → ∀ u, u < v0 + 1 → (!(D u) && readyB es D u) = false := fun hb u hu => by
                by_cases e : u = v0
                · subst e; exact hb
                · exact hpre.out u (by omega)
              have HGO := Lib.hid go_on
              clear go_on
              cases hD : D v0
              · rw [hD] at hcd
                by_cases hz : Mi v0 = 0
                · have hzb : ((Mi v0 : Int) == 0) = true := by simp [hz]
                  have HNX := Lib.hid (nextO_some hv (show (!(D v0) && readyB es D v0) = true from by rw [hD, (ready_iff_mis es D v0).2 (by rw [HL.out, ← hmm]; exact hz)]; rfl) hpre.out)
                  have HDV := Lib.hid hD
                  have hfd := hrow.out.frozen v0
                  obtain ⟨A2, c2, hV2, _⟩ := (HUSE.out.own v0 hv).form
                  have hll : (L v0).length ≤ 2000000 := Nat.le_trans (HLB.out v0 hv) HTOT.out
                  have hcu1 := HUSE.out.row.cell hv
                  have hsw : d + 1 ≤ wr.heap.size := by have := hFS.out.size; rw [hsz1] at this; exact this
                  rw [hV2] at hcu1
                  have hrd1 := HUSE.out.own v0 hv
                  rw [hV2] at hrd1
                  have HRD1 := Lib.hid hrd1.rd.2
                  have HV2 := Lib.hid hV2
                  have HCU1 := Lib.hid hcu1
                  have HOWL := Lib.hid ((hown.out.setOther (a := ⟨d, v0, none⟩) (by simp only; omega) (.bool true)).alloc (.cells #[nv v0] 3))
                  clear hV2 hrd1 hcu1 hz hmm hD
                  have hlb : l.length ≤ 17000000000000 := by omega
                  go_wp2_with (at_builtin; refine wpList_pushI rfl (.tmp 91) (.tmp 93) rfl (d + 1) _ l rfl HOWL.out wr.heap.size v0 rfl (by rw [← World.size_setCell wr ⟨d, v0, none⟩ (.bool true)]; exact heap_alloc_new _ _) hlb (by rw [World.size_alloc, World.size_setCell]; omega) ?_; intro g2 cp2 w2 hown2 hgr2 _; have hFS2 := ((hFS.out.setCell (a := ⟨d, v0, none⟩) (.inl HSd.out) (.bool true)).alloc (.cells #[nv v0] 3)).grown hgr2 (fun q hq => .inr (by rw [hsz1]; exact (HOWL.out.lt q hq).1)); have hcu2 := hFS2.cell HCU1.out (HSo.out _ (by simp only; omega) (by simp only; omega)); have HFS2 := Lib.hid hFS2; have HOWN2 := Lib.hid hown2; have HGR2 := Lib.hid hgr2; clear hFS2 hown2 hgr2)
                  have hne2 : ∀ q, q < d + 1 → some q ≠ (Value.slice la l.length lc).ownBlock := fun q hq e => by have := (hown.out.lt q e.symm).1; omega
                  have HMIS2 := Lib.hid (((hmis.out.setOther (a := ⟨d, v0, none⟩) (by simp only; omega) (.bool true)).alloc (.cells #[nv v0] 3)).of_block (HGR2.out.block _ (by rw [World.size_alloc, World.size_setCell]; omega) (hne2 _ (by omega))))
                  have HROW2 := Lib.hid (((row_upd (f := Value.bool) (i := v0) (x := true) hrow.out).alloc (.cells #[nv v0] 3)).of_block (HGR2.out.block d (by rw [World.size_alloc, World.size_setCell]; omega) (hne2 _ (by omega))))
                  clear hcu2 hcd hcm hfd hne2 HGR2
                  go_loopw [100] (fun i wr => ∃ (p : Nat) (Mi : Nat → Nat), p ≤ (L v0).length ∧ i = .int .i64 p ∧ Hid (FutS S w1 wr) ∧ Hid (wr.rowIs (w.heap.size + 1) 3 N (fun i => nv (Mi i))) ∧ Hid (wr.rowIs d 4 N (fun i => .bool (upd D v0 true i))) ∧ Hid (Own wr (d + 1) (.slice (some ⟨g2, 0, none⟩) (l.length + 1) cp2) (l ++ [v0])) ∧ Hid (∀ h, h < N → Mi h + ((L v0).take p).count h = mis es D h k) ∧ Hid (∀ v, Mi v ≤ 2000000)) (fun i _ => (L v0).length - (intOf i).toNat)
                  case atStart => exact ⟨0, Mi, Nat.zero_le _, rfl, HFS2, HMIS2, HROW2, HOWN2, Lib.hid (fun h hh => by simpa using hMi.out h hh), hMb⟩
                  case round =>
                    clear HFS2 HMIS2 HROW2 HOWN2 hmis hMi hMb hrow hown HOWL hzb hFS hbx hsw
                    obtain ⟨p, Mi, hp, rfl, hFS, hmis, hrow, hown, hMi, hMb⟩ := hrel
                    by_cases hpl : p < (L v0).length
                    · obtain ⟨h, hh⟩ := get_lt rfl hpl
                      have hhN := HUN.out v0 hv h (List.mem_of_getElem? hh)
                      obtain ⟨b3, o3, rfl, hcell⟩ := HRD1.out p h hh
                      have hlo := HULT.out v0 hv b3 (by rw [HV2.out]; rfl)
                      have hc3 := hFS.out.cell hcell (HSo.out _ (by simp only; omega) (by simp only; omega))
                      have hmc := hmis.out.cell hhN
                      have hmf := hmis.out.frozen h
                      have hct := count_take_succ hh
                      have hge : 1 ≤ Mi h := by
                        have h1 := hMi.out h hhN
                        have h2 := mis_done es D h v0 HDV.out k
                        have h3 := HUF.out v0 hv h
                        have h4 : ((L v0).take (p + 1)).count h ≤ (L v0).count h := List.Sublist.count_le _ (List.take_sublist _ _)
                        have h5 := hct h
                        rw [if_pos rfl] at h5
                        omega
                      obtain ⟨q, hq⟩ : ∃ q, Mi h = q + 1 := ⟨Mi h - 1, by omega⟩
                      have hqb : q ≤ 2000000 := by have := hMb.out h; omega
                      rw [hq] at hmc
                      have hmc2 : wr.cell? ⟨w.heap.size + 1, h, none⟩ = some (.int .i64 ((q : Int) + 1)) := hmc
                      have HMI2 := Lib.hid (show ∀ x, x < N → upd Mi h q x + ((L v0).take (p + 1)).count x = mis es D x k from fun x hx => by
                        have h1 := hMi.out x hx
                        rw [hct x]
                        by_cases e : x = h
                        · subst e; rw [upd_same, if_pos rfl]; omega
                        · rw [upd_other _ _ _ _ e, if_neg e]; omega)
                      have HMB2 := Lib.hid (show ∀ v, upd Mi h q v ≤ 2000000 from fun v => by
                        by_cases e : v = h
                        · subst e; rw [upd_same]; exact hqb
                        · rw [upd_other _ _ _ _ e]; exact hMb.out v)
                      clear hh hcell hmc hct hge hq hlo
                      obtain ⟨wi, rfl⟩ : ∃ x, x = wr := ⟨_, rfl⟩
                      go_wp2_with fail
                      refine ⟨⟨p + 1, _, by omega, by go_num, Lib.hid (hFS.out.setCell (.inl HS1.out) _), Lib.hid (row_upd (f := nv) hmis.out), Lib.hid (hrow.out.setOther (by simp only; omega) _), Lib.hid (hown.out.setOther (by simp only; omega) _), HMI2, HMB2⟩, by simp [intOf]; omega⟩
                    · have HMI3 := Lib.hid (show ∀ x, x < N → Mi x = mis es (upd D v0 true) x k from fun x hx => by
                        have h1 := hMi.out x hx
                        have h2 := mis_done es D x v0 HDV.out k
                        have h3 := HUF.out v0 hv x
                        rw [List.take_of_length_le (by omega)] at h1
                        omega)
                      have HOI := Lib.hid (hOI.out.step hln HNX.out hv)
                      go_wp2_with fail
                      exact ⟨⟨upd D v0 true, Mi, l ++ [v0], HOI, hFS, hmis, hrow, hown, HMI3, hMb⟩, by simp only [lenOf]; omega⟩
                · have hzb : ((Mi v0 : Int) == 0) = false := by simp; omega
                  have HBAD := Lib.hid (HGO.out (by
                    cases hr : readyB es D v0 with
                    | false => simp
                    | true => rw [ready_iff_mis, HL.out, ← hmm] at hr; exact absurd hr hz))
                  clear hD hmm hz
                  go_wp2_with fail
                  exact ⟨⟨v0 + 1, by omega, by go_num, by first | rfl | trivial, HBAD, by first | rfl | trivial⟩, by simp [intOf]; omega⟩
              · rw [hD] at hcd
                have HBAD := Lib.hid (HGO.out (by rw [hD]; rfl))
                clear hD hmm
                go_wp2_with fail
                exact ⟨⟨v0 + 1, by omega, by go_num, by first | rfl | trivial, HBAD, by first | rfl | trivial⟩, by simp [intOf]; omega⟩
            · have hvN : v0 = N := by omega
              have HST := Lib.hid (hOI.out.stuck hln (nextO_none (by rw [← hvN]; exact hpre.out)))
              clear hvN
              go_wp2_with fail
              go_ret2
              refine ⟨?_, hFS.out.fut HF1.out HSi.out⟩
              rw [HST.out]
              rfl
        · have hD := hOI.out.done (by omega)
          have HD := Lib.hid hD
          have HR2 := Lib.hid hown.out.rd
          have hlN : l.length = N := hD.2
          clear hD
          go_wp2_with fail
          go_ret2
          refine ⟨?_, hFS.out.fut HF1.out HSi.out⟩
          rw [HD.out.1]
          exact ⟨la, lc, by rw [HD.out.2]; rfl, HR2.out.2⟩
end Go.Proofs.Ytoiffhoiklafhaa
/-
  Valid, as the program and as the reference have it; Small.
-/
namespace Go.Proofs.Ytoiffhoiklafhaa
open Go.RowKit
attribute [local go_sem] Oper.lit fut_fut fut_drew World.cell?_alloc_some
theorem in_any (N x : Int) (b : Nat) (w : World) (hc : w.cell? ⟨b, 0, none⟩ = some (.int .i64 N)) :
    Calls Try.prog 59 #[.int .i64 x, .pointer (some ⟨b, 0, none⟩)] w fun e w' => e = .returned (.bool (inB' N x)) ∧ w' = w := by
  go_enter Try.func59, Try.ntmps59
  go_wp2
  all_goals
    go_returns
    refine ⟨?_, rfl⟩
    first | rfl | (simp_all [inB']; try omega)

set_option maxHeartbeats 3200000 in
theorem valid_any (N : Int) (A : Option Addr) (n c : Nat) (es : List EI) (w : World) (hl : es.length = n) (hn : n ≤ maxLen) (hR : RdE w A es) :
    Calls Try.prog 46 #[hv N A n c] w fun e w' => e = .returned (.bool (validB N es)) ∧ Below w.heap.size w w' := by
  have hn' : n ≤ 9223372036854775807 := hn
  have HR := Lib.hid hR
  have HL := Lib.hid hl
  clear hR hl hn
  by_cases hN : 1 ≤ N ∧ N ≤ 1048576
  · obtain ⟨hN1, hN2⟩ := hN
    have q0 : ∀ dd os, (fut (w.alloc (.cells #[.int .i64 N, .slice A n c] 24)) dd os).cell? ⟨w.heap.size, 0, none⟩ = some (.int .i64 N) := cell_fut (by (repeat (first | exact (cell_al_new _ _ _ _ _ _ (by first | rfl | (simp only [World.size_alloc]))).trans rfl | refine (cell_al_old _ _ _ (by first | omega | (simp only [World.size_alloc]; omega))).trans ?_)))
    have q1 : ∀ dd os, (fut (w.alloc (.cells #[.int .i64 N, .slice A n c] 24)) dd os).cell? ⟨w.heap.size, 1, none⟩ = some (.slice A n c) := cell_fut (by (repeat (first | exact (cell_al_new _ _ _ _ _ _ (by first | rfl | (simp only [World.size_alloc]))).trans rfl | refine (cell_al_old _ _ _ (by first | omega | (simp only [World.size_alloc]; omega))).trans ?_)))
    go_enter Try.func46, Try.ntmps46
    go_wp2_with fail
    have HS := Lib.hid (HR.out.fut ((Fut.refl w).alloc (.cells #[.int .i64 N, .slice A n c] 24)))
    have HW := Lib.hid ((Fut.refl w).alloc (.cells #[.int .i64 N, .slice A n c] 24))
    generalize w.alloc (.cells #[.int .i64 N, .slice A n c] 24) = wb at *
    go_loopw [20] (fun i wr => ∃ j : Nat, j ≤ n ∧ i = .int .i64 j ∧ Hid ((es.take j).all (okE N) = true) ∧ Fut wb wr) (fun i _ => n - (intOf i).toNat)
    case atStart => exact ⟨0, Nat.zero_le _, rfl, Lib.hid (by simp), Fut.refl _⟩
    case round =>
      obtain ⟨j, hj, rfl, hall, hF⟩ := hrel
      obtain ⟨dd, oo, rfl⟩ := fut_of hF
      by_cases hlt : j < n
      · obtain ⟨x, hx⟩ := get_lt HL.out hlt
        obtain ⟨b, o, rfl, hc⟩ := HS.out.1 j x hx
        obtain ⟨ht, htl⟩ := (HS.out.2 x (List.mem_of_getElem? hx))
        have HT := Lib.hid (ht.fut hF)
        have HX := Lib.hid hx
        obtain ⟨xh, xt, xc, xl0, xl1, xA, xk⟩ := x
        have c0 := hF.cell (hc 0 _ (by decide) rfl)
        have c1 := hF.cell (hc 1 _ (by decide) rfl)
        have c2 := hF.cell (hc 2 _ (by decide) rfl)
        have c3 := hF.cell (hc 3 _ (by decide) rfl)
        have c4 := hF.cell (hc 4 _ (by decide) rfl)
        simp only [Nat.add_zero] at c0
        clear hx hc ht hF
        by_cases g1 : inB' N xh = true ∧ 0 ≤ xc ∧ xc ≤ 1099511627776
        · obtain ⟨g1, g2, g3⟩ := g1
          have HO : ∀ b : Bool, xt.all (inB' N) = b → Hid (okE N ⟨xh, xt, xc, xl0, xl1, xA, xk⟩ = b) := fun b hb => Lib.hid (by simp [okE, g1, g2, g3, hb])
          have HOO := Lib.hid HO
          clear HO
          have htl' : xt.length ≤ 9223372036854775807 := htl
          go_wp2_with (go_at_call 59; refine (in_any N _ _ _ (by first | assumption | (simp (config := {decide := false}) [go_sem, q0]; done))).mono ?_; rintro e w1 ⟨rfl, rfl⟩)
          have HT2 := Lib.hid (HT.out.fut ((Fut.refl _).alloc (.cells #[.int .i64 xh, .slice xA xt.length xk, .int .i64 xc, .int .i64 xl0, .int .i64 xl1] 49)))
          have HF2 := Lib.hid ((Fut.fut wb dd oo).alloc (.cells #[.int .i64 xh, .slice xA xt.length xk, .int .i64 xc, .int .i64 xl0, .int .i64 xl1] 49))
          clear c0 c1 c2 c3 c4
          have hN0 : ((fut wb dd oo).alloc (.cells #[.int .i64 xh, .slice xA xt.length xk, .int .i64 xc, .int .i64 xl0, .int .i64 xl1] 49)).cell? ⟨w.heap.size, 0, none⟩ = some (.int .i64 N) := Fut.cell ((Fut.refl _).alloc _) (q0 dd oo)
          generalize (fut wb dd oo).alloc (.cells #[.int .i64 xh, .slice xA xt.length xk, .int .i64 xc, .int .i64 xl0, .int .i64 xl1] 49) = wi at *
          go_loopw [42] (fun i wr => ∃ k : Nat, k ≤ xt.length ∧ i = .int .i64 k ∧ Hid ((xt.take k).all (inB' N) = true) ∧ wr = wi) (fun i _ => xt.length - (intOf i).toNat)
          case atStart => exact ⟨0, Nat.zero_le _, rfl, Lib.hid (by simp), rfl⟩
          case round =>
            obtain ⟨k, hk, rfl, hall2, rfl⟩ := hrel
            by_cases hkt : k < xt.length
            · obtain ⟨y, hy⟩ := get_lt rfl hkt
              obtain ⟨b2, o2, rfl, hc2⟩ := HT2.out k y hy
              have HY := Lib.hid hy
              clear hy
              cases hi : inB' N y
              · have hfin : validB N es = false := by
                  have h1 := all_not HX.out (HOO.out false (all_not HY.out hi)).out
                  simp [validB, h1]
                have HFin := Lib.hid hfin
                clear hfin
                go_wp2_with (go_at_call 59; refine (in_any N _ _ _ (by assumption)).mono ?_; rintro e w1 ⟨rfl, rfl⟩)
                go_ret
                exact ⟨by rw [HFin.out]; rfl, HW.out.trans HF2.out⟩
              · go_wp2_with (go_at_call 59; refine (in_any N _ _ _ (by assumption)).mono ?_; rintro e w1 ⟨rfl, rfl⟩)
                exact ⟨⟨k + 1, by omega, by go_num, Lib.hid (take_all hall2.out HY.out hi), by first | rfl | trivial⟩, by simp [intOf]; omega⟩
            · have hok := (HOO.out true (all_take hall2.out (by omega))).out
              have HK := Lib.hid (take_all hall.out HX.out hok)
              clear hok
              go_wp2_with fail
              exact ⟨⟨j + 1, by omega, by go_num, HK, HF2.out⟩, by simp [intOf]; omega⟩
        · have hfin : validB N es = false := by
            have h1 : okE N ⟨xh, xt, xc, xl0, xl1, xA, xk⟩ = false := by
              cases h : okE N ⟨xh, xt, xc, xl0, xl1, xA, xk⟩ with
              | false => rfl
              | true => exact absurd (by simp [okE] at h; exact ⟨h.1.1.1, h.1.1.2, h.1.2⟩) g1
            simp [validB, all_not HX.out h1]
          have HFin := Lib.hid hfin
          clear hfin
          have hg : inB' N xh = false ∨ (inB' N xh = true ∧ xc < 0) ∨ (inB' N xh = true ∧ 0 ≤ xc ∧ 1099511627776 < xc) := by
            cases h : inB' N xh with
            | false => exact .inl rfl
            | true =>
              by_cases h2 : 0 ≤ xc
              · exact .inr (.inr ⟨rfl, h2, by
                  have : ¬ xc ≤ 1099511627776 := fun h3 => g1 ⟨h, h2, h3⟩
                  omega⟩)
              · exact .inr (.inl ⟨rfl, by omega⟩)
          clear g1
          rcases hg with g1 | ⟨g1, g2⟩ | ⟨g1, g2, g3⟩
          all_goals
            go_wp2_with (go_at_call 59; refine (in_any N _ _ _ (by first | assumption | (simp (config := {decide := false}) [go_sem, q0]; done))).mono ?_; rintro e w1 ⟨rfl, rfl⟩)
            go_ret
            exact ⟨by rw [HFin.out]; rfl, HW.out.trans ((Fut.fut _ _ _).alloc _)⟩
      · have hfin : validB N es = true := by
          have h1 := all_take hall.out (by rw [HL.out]; omega)
          simp [validB, h1, hN1, hN2]
        have HFin := Lib.hid hfin
        clear hfin
        go_wp2_with fail
        go_ret
        exact ⟨by rw [HFin.out]; rfl, HW.out.trans (Fut.fut _ _ _)⟩
  · have hv : validB N es = false := by
      unfold validB
      by_cases h1 : 1 ≤ N
      · have : ¬ N ≤ 1048576 := fun h => hN ⟨h1, h⟩
        simp [this]
      · simp [h1]
    have HV := Lib.hid hv
    clear hv
    by_cases h1 : 1 ≤ N
    · have h2 : 1048576 < N := by omega
      clear hN
      go_enter Try.func46, Try.ntmps46
      go_wp2_with fail
      go_ret
      exact ⟨by rw [HV.out]; rfl, (Fut.refl w).alloc _⟩
    · have h2 : N < 1 := by omega
      clear hN h1
      go_enter Try.func46, Try.ntmps46
      go_wp2_with fail
      go_ret
      exact ⟨by rw [HV.out]; rfl, (Fut.refl w).alloc _⟩
end Go.Proofs.Ytoiffhoiklafhaa
/-
  Reachable, walked.
-/
namespace Go.Proofs.Ytoiffhoiklafhaa
open Go.RowKit PK
attribute [local go_sem] Oper.lit Oper.litS fut_fut fut_drew World.cell?_alloc_some
set_option maxRecDepth 4000 in
set_option maxHeartbeats 6400000 in
theorem reach_any (N : Nat) (r : Int) (A : Option Addr) (n c : Nat) (es : List EI) (w : World) (hl : es.length = n) (hn : n ≤ 1000) (hN : N ≤ 1048576) (hhd : ∀ e ∈ es, 0 ≤ e.h ∧ e.h < N) (htl : ∀ e ∈ es, ∀ t ∈ e.t, 0 ≤ t ∧ t < N) (hR : RdE w A es) :
    Calls Try.prog 34 #[hv N A n c, .int .i64 r] w fun e w' => ∃ b, e = .returned (.slice (some ⟨b, 0, none⟩) N N) ∧ Rd1 w' (some ⟨b, 0, none⟩) (Value.bool ·) (reachL es N r) ∧ Below w.heap.size w w' := by
  have HR := Lib.hid hR
  have HL := Lib.hid hl
  have HV := Lib.hid hhd
  have HT := Lib.hid htl
  clear hR hl hhd htl
  obtain ⟨i0, hi, hz0, hz1, hz2⟩ := info_parts info_bool
  by_cases hr : 0 ≤ r ∧ r < N
  · obtain ⟨rt, rfl⟩ : ∃ m : Nat, r = m := Int.eq_ofNat_of_zero_le hr.1
    have hrt : rt < N := by omega
    have HRL := Lib.hid (show reachL es N (rt : Int) = rchL es rt N from by unfold reachL; rw [if_pos hr]; rfl)
    clear hr
    go_enter Try.func34, Try.ntmps34
    have HW0 := Lib.hid (show Fut w ((w.alloc (.cells #[.int .i64 N, .slice A n c] 24)).alloc (.cells (madeCells #[.bool false] N) 4)) from ((Fut.refl w).alloc _).alloc _)
    have HROW := Lib.hid (show ((w.alloc (.cells #[.int .i64 N, .slice A n c] 24)).alloc (.cells (madeCells #[.bool false] N) 4)).rowIs (w.heap.size + 1) 4 N (fun _ => .bool false) from by
      have := World.rowIs_made (w.alloc (.cells #[.int .i64 N, .slice A n c] 24)) (.bool false) N 4
      simpa only [World.size_alloc] using this)
    have HBX := Lib.hid (show ((w.alloc (.cells #[.int .i64 N, .slice A n c] 24)).alloc (.cells (madeCells #[.bool false] N) 4)).cell? ⟨w.heap.size, 1, none⟩ = some (.slice A n c) from by (repeat (first | exact (cell_al_new _ _ _ _ _ _ (by first | rfl | (simp only [World.size_alloc]))).trans rfl | refine (cell_al_old _ _ _ (by first | omega | (simp only [World.size_alloc]; omega))).trans ?_)))
    have HSZ := Lib.hid (show ((w.alloc (.cells #[.int .i64 N, .slice A n c] 24)).alloc (.cells (madeCells #[.bool false] N) 4)).heap.size = w.heap.size + 2 from by simp only [World.size_alloc])
    go_wp2_with (first
      | (refine wpList_make_row _ rfl _ _ 64 rfl 4 i0 (.bool false) Try.underlying64 hi hz0 hz1 rfl .i64 .i64 N rfl rfl (by rw [hz2]; omega) (by omega) ?_)
      | (go_at_call 48; refine (edges_any N A n c es _ HL.out hn hN HV.out (HR.out.fut HW0.out)).mono ?_; rintro e w1 ⟨u, rfl, hL, hb1⟩; have hrow := HROW.out.of_block (hb1.block _ HROW.out.lt); have hcr := hrow.cell hrt; have hfr := hrow.frozen rt; have HLL := Lib.hid hL; have HB1 := Lib.hid hb1; have HROW1 := Lib.hid hrow; clear hL hb1 hrow))
    have hcx : w1.cell? ⟨w.heap.size, 1, none⟩ = some (.slice A n c) := Fut.cell HB1.out HBX.out
    have HF1 := Lib.hid (HW0.out.trans HB1.out)
    have hsz1 : w.heap.size + 2 ≤ w1.heap.size := by have := HB1.out.size; rw [HSZ.out] at this; exact this
    have HLL1 := HLL.out
    rw [HSZ.out] at HLL1
    have HLL2 := Lib.hid HLL1
    clear HLL HLL1 HBX HROW HB1 HSZ HW0 hcr hfr
    obtain ⟨S, hS⟩ : ∃ S : Nat → Bool, S = fun k => k == w.heap.size + 1 := ⟨_, rfl⟩
    have HSb := Lib.hid (show S (w.heap.size + 1) = true from by rw [hS]; simp)
    have HSo := Lib.hid (show ∀ k, k ≠ w.heap.size + 1 → S k = false from fun k hk => by rw [hS]; simp [hk])
    have HSi := Lib.hid (show ∀ k, S k = true → w.heap.size ≤ k from fun k hk => by rw [hS] at hk; simp at hk; omega)
    clear hS
    go_loopw [7] (fun tv wr => ∃ (O : Nat → Bool) (T : List Nat), Hid (RI es rt N O T) ∧ Hid (FutS S w1 wr) ∧ Hid (wr.rowIs (w.heap.size + 1) 4 N (fun i => .bool (O i))) ∧ Hid (Own wr w1.heap.size tv T)) (fun tv wr => 2 * nFw wr (w.heap.size + 1) N + lenOf tv)
    case atStart =>
      refine ⟨upd (fun _ => false) rt true, [rt], Lib.hid ⟨fun i hi => ?_, fun x hx => ?_, fun v hv hT => ?_, upd_same _ _ _, ?_⟩, Lib.hid ((FutS.refl w1).setCell (.inl HSb.out) _ |>.alloc _), Lib.hid ((row_upd (f := Value.bool) HROW1.out).alloc _), Lib.hid ?_⟩
      · rcases upd_true hi with rfl | h
        · exact .root
        · cases h
      · simp only [List.mem_singleton] at hx; subst hx; exact ⟨hrt, upd_same _ _ _⟩
      · rcases upd_true hv with rfl | h
        · simp at hT
        · cases h
      · have h1 := nF_upd N rt (fun _ => false) hrt rfl
        have h2 : nF N (fun _ => false) ≤ N := by unfold nF; exact Nat.le_trans (List.length_filter_le _ _) (by simp)
        simp only [List.length_cons, List.length_nil]
        omega
      · have h1 := World.ownsRow_lit (base := w1.heap.size) (e := 3) (size := 1) (w1.setCell ⟨w.heap.size + 1, rt, none⟩ (.bool true)) #[nv rt] 1 (by simp only [World.size_setCell]; omega) (by decide) rfl
        rw [World.size_setCell] at h1
        exact h1
    case round =>
      obtain ⟨O, T, hRI, hFS, hrow, hown⟩ := hrel
      rcases List.eq_nil_or_concat T with rfl | ⟨T', v, rfl⟩
      · obtain ⟨ta, tc, rfl, _⟩ := hown.out.form
        go_wp2_with fail
        go_ret
        refine ⟨_, rfl, ?_, hFS.out.fut HF1.out HSi.out⟩
        rw [HRL.out, rchL_eq hRI.out.all]
        exact rd_row hrow.out
      · rw [List.concat_eq_append] at hRI hown
        obtain ⟨ta, tc, htv, hta⟩ := hown.out.form
        obtain ⟨g, rfl⟩ : ∃ g, ta = some ⟨g, 0, none⟩ := by
          rcases hta with ⟨_, h⟩ | h
          · simp at h
          · exact h
        obtain ⟨m, hm⟩ : ∃ m, T'.length = m := ⟨_, rfl⟩
        have htv2 := htv.trans (show _ = Value.slice (some ⟨g, 0, none⟩) (m + 1) tc from by simp [hm])
        clear htv hta
        subst htv2
        have hcell : wr.cell? ⟨g, m, none⟩ = some (.int .i64 v) := by
          obtain ⟨_, h1⟩ := hown.out.rd
          obtain ⟨b, o, e1, h2⟩ := h1 m v (by rw [← hm]; simp)
          injection e1 with e1
          injection e1 with e1 e2
          subst e1 e2
          rw [Nat.zero_add] at h2; exact h2
        have hvN := (hRI.out.b v (by simp)).1
        have hrv := Lib.hid (hRI.out.a v (hRI.out.b v (by simp)).2)
        have hmb : m ≤ 2097152 := by have := hRI.out.e; simp only [List.length_append, List.length_cons, List.length_nil] at this; omega
        have HCUT := Lib.hid hown.out.cut.1
        have hcap := hown.out.cap
        have HJ0 := Lib.hid (hRI.out.pop (L := eof es n v))
        obtain ⟨A2, c2, hcu1, hrd1, hlo1⟩ := HLL2.out.2 v hvN
        have hcu := hFS.out.cell hcu1 (HSo.out _ (by have := HLL2.out.1; simp only; omega))
        have HRD1 := Lib.hid hrd1
        have HLO1 := Lib.hid hlo1
        obtain ⟨M, hM⟩ : ∃ M, 2 * nF N O + (T' ++ [v]).length = M := ⟨_, rfl⟩
        have hMw : 2 * nFw wr (w.heap.size + 1) N + (m + 1) = M := by rw [nFw_eq hrow.out, ← hM]; simp [hm]
        have HMW := Lib.hid hMw
        rw [hM] at HJ0
        have hll : (eof es n v).length ≤ n := eof_len es n v
        clear hM hMw hcu1 hrd1 hlo1 hm hown hRI
        obtain ⟨L, hLd⟩ : ∃ L, eof es n v = L := ⟨_, rfl⟩
        rw [hLd] at hcu HRD1 HJ0 hll
        have HLD := Lib.hid hLd
        clear hLd
        obtain ⟨ll, hle⟩ : ∃ ll, L.length = ll := ⟨_, rfl⟩
        have HLE := Lib.hid hle
        rw [hle] at hcu hll
        clear hle
        obtain ⟨wo, rfl⟩ : ∃ x, x = wr := ⟨_, rfl⟩
        go_wp2_with fail
        clear hcell hcu
        go_loopw [7, 51] (fun tv i wr => ∃ (p : Nat) (O : Nat → Bool) (T : List Nat), p ≤ ll ∧ i = .int .i64 p ∧ Hid (RJ es rt N v p M L O T) ∧ Hid (FutS S w1 wr) ∧ Hid (wr.rowIs (w.heap.size + 1) 4 N (fun i => .bool (O i))) ∧ Hid (Own wr w1.heap.size tv T)) (fun _ i _ => ll - (intOf i).toNat)
        case atStart => exact ⟨0, O, T', Nat.zero_le _, rfl, HJ0, hFS, hrow, HCUT⟩
        case round =>
          clear hFS hrow HCUT HJ0 O T'
          obtain ⟨p, O, T, hp, rfl, hRJ, hFS, hrow, hown⟩ := hrel
          by_cases hlt : p < ll
          · obtain ⟨i, hi⟩ := get_lt HLE.out hlt
            have him := mem_eof.1 (by rw [HLD.out]; exact List.mem_of_getElem? hi : i ∈ eof es n v)
            have hin := him.1
            obtain ⟨x, hx⟩ := get_lt HL.out hin
            obtain ⟨b3, o3, rfl, hci⟩ := HRD1.out p i hi
            have hcell := hFS.out.cell hci (HSo.out _ (by have := HLO1.out b3 o3 rfl; simp only; omega))
            have hbx := hFS.out.cell hcx (HSo.out _ (by simp only; omega))
            have hFw := hFS.out.fut HF1.out HSi.out
            obtain ⟨b, o, rfl, hc⟩ := HR.out.1 i x hx
            have ct := hFw.cell (hc 1 _ (by decide) rfl)
            have HXT := Lib.hid ((HR.out.2 x (List.mem_of_getElem? hx)).1)
            have hxl : x.t.length ≤ 9223372036854775807 := (HR.out.2 x (List.mem_of_getElem? hx)).2
            have HXV := Lib.hid (HT.out x (List.mem_of_getElem? hx))
            have HXM := Lib.hid (List.mem_of_getElem? hx)
            have HXH := Lib.hid (show x.h.toNat = v from by rw [← headAt_of hx]; exact him.2)
            have HX := Lib.hid hx
            have HI := Lib.hid hi
            clear hi him hx hci hFw hc
            obtain ⟨xh, xt, xc, xl0, xl1, xA, xk⟩ := x
            simp only at HXT hxl HXV ct
            obtain ⟨wi, rfl⟩ : ∃ x, x = wr := ⟨_, rfl⟩
            go_wp2_with fail
            clear hcell hbx ct
            go_loopw [7, 62] (fun tv j wr => ∃ (k : Nat) (O : Nat → Bool) (T : List Nat), k ≤ xt.length ∧ j = .int .i64 k ∧ Hid (∀ t ∈ xt.take k, O t.toNat = true) ∧ Hid (RJ es rt N v p M L O T) ∧ Hid (FutS S w1 wr) ∧ Hid (wr.rowIs (w.heap.size + 1) 4 N (fun i => .bool (O i))) ∧ Hid (Own wr w1.heap.size tv T)) (fun _ j _ => xt.length - (intOf j).toNat)
            case atStart => exact ⟨0, O, T, Nat.zero_le _, rfl, Lib.hid (by simp), hRJ, hFS, hrow, hown⟩
            case round =>
              clear hRJ hFS hrow hown O T
              obtain ⟨k, O, T, hk, rfl, hpre, hRJ, hFS, hrow, hown⟩ := hrel
              by_cases hkt : k < xt.length
              · obtain ⟨y, hy⟩ := get_lt rfl hkt
                have hyv := HXV.out y (List.mem_of_getElem? hy)
                have HYM := Lib.hid (List.mem_of_getElem? hy)
                obtain ⟨t, rfl⟩ : ∃ t : Nat, y = t := Int.eq_ofNat_of_zero_le hyv.1
                have htN : t < N := by have := hyv.2; omega
                obtain ⟨b4, o4, rfl, hcy⟩ := HXT.out k _ hy
                have hcell := (hFS.out.fut HF1.out HSi.out).cell hcy
                have hco := hrow.out.cell htN
                have hfo := hrow.out.frozen t
                have HY := Lib.hid hy
                clear hy hyv hcy
                obtain ⟨wj, rfl⟩ : ∃ x, x = wr := ⟨_, rfl⟩
                cases ho : O t
                · rw [ho] at hco
                  have HO := Lib.hid ho
                  have HRT := Lib.hid (show Rch es rt t from .step (t := (t : Int)) hrv.out HXM.out HXH.out HYM.out)
                  obtain ⟨ta, tc2, htv, hta⟩ := hown.out.form
                  subst htv
                  have hTl : T.length ≤ 17000000000000 := by have h1 := hRJ.out.m; have h2 := hRJ.out.hM; omega
                  have hszj : w1.heap.size ≤ wj.heap.size := hFS.out.size
                  have hobl : w.heap.size + 1 < w1.heap.size := by omega
                  clear ho
                  go_wp2_with (at_builtin; refine wpList_pushI rfl (.tmp 74) (.tmp 76) rfl w1.heap.size _ T rfl ((hown.out.setOther hobl (.bool true)).alloc _) wj.heap.size t rfl (by rw [← World.size_setCell wj ⟨w.heap.size + 1, t, none⟩ (.bool true)]; exact heap_alloc_new _ _) hTl (by simp only [World.size_alloc, World.size_setCell]; omega) ?_; intro g2 cp2 w2 hown2 hgr2 _; have HOWN2 := Lib.hid hown2; have HGR2 := Lib.hid hgr2; clear hown2 hgr2)
                  have hrow2 : (wj.setCell ⟨w.heap.size + 1, t, none⟩ (.bool true)).alloc (.cells #[nv t] 3) |>.rowIs (w.heap.size + 1) 4 N (fun i => .bool (upd O t true i)) := (row_upd (f := Value.bool) hrow.out).alloc _
                  refine ⟨⟨k + 1, upd O t true, T ++ [t], by omega, by go_num, Lib.hid ?_, Lib.hid (hRJ.out.mark htN HO.out HRT.out), Lib.hid (((hFS.out.setCell (.inl HSb.out) _).alloc _).grown HGR2.out (fun k hk => .inr (hown.out.lt k hk).1)), Lib.hid (hrow2.of_block (HGR2.out.block _ hrow2.lt ?_)), HOWN2⟩, by simp [intOf]; omega⟩
                  · intro z hz
                    rw [List.take_add_one, HY.out] at hz
                    rcases List.mem_append.1 hz with hz | hz
                    · exact upd_mono (hpre.out z hz)
                    · simp only [Option.toList_some, List.mem_singleton] at hz
                      subst hz
                      exact upd_same _ _ _
                  · intro e
                    have := (hown.out.lt _ e.symm).1
                    omega
                · rw [ho] at hco
                  have HO := Lib.hid ho
                  clear ho
                  go_wp2_with fail
                  refine ⟨⟨k + 1, O, T, by omega, by go_num, Lib.hid ?_, hRJ, hFS, hrow, hown⟩, by simp [intOf]; omega⟩
                  intro z hz
                  rw [List.take_add_one, HY.out] at hz
                  rcases List.mem_append.1 hz with hz | hz
                  · exact hpre.out z hz
                  · simp only [Option.toList_some, List.mem_singleton] at hz
                    subst hz
                    exact HO.out
              · have hfull : ∀ t ∈ xt, O t.toNat = true := by have := hpre.out; rwa [List.take_of_length_le (by omega)] at this
                have HJ2 := Lib.hid (hRJ.out.next HI.out HX.out hfull)
                clear hfull
                go_wp2_with fail
                exact ⟨⟨p + 1, O, T, by omega, by go_num, HJ2, hFS, hrow, hown⟩, by simp [intOf]; omega⟩
          · have HD := Lib.hid (show RI es rt N O T from RJ.done (p := p) (v := v) (M := M) (by have := hRJ.out; rw [← HLD.out, ← HL.out] at this; exact this) (by rw [HL.out, HLD.out, HLE.out]; omega))
            have hlt2 := hRJ.out.m
            have hms := nFw_eq hrow.out
            have hmw := HMW.out
            obtain ⟨ta, tc2, htv, _⟩ := hown.out.form
            have HLT := Lib.hid (show 2 * nFw wr (w.heap.size + 1) N + T.length < 2 * nFw wo (w.heap.size + 1) N + (m + 1) from by rw [hms, hmw]; exact hlt2)
            clear hlt2 hms hmw
            subst htv
            go_wp2_with fail
            exact ⟨⟨O, T, HD, hFS, hrow, hown⟩, HLT.out⟩
  · have HRL := Lib.hid (show reachL es N r = (List.range N).map (fun _ => false) from by
      unfold reachL; rw [if_neg hr]
      simp [List.map_const'])
    have hr' : r < 0 ∨ (0 ≤ r ∧ (N : Int) ≤ r) := by omega
    clear hr
    have HB0 := Lib.hid (World.rowIs_made (w.alloc (.cells #[.int .i64 N, .slice A n c] 24)) (.bool false) N 4)
    rcases hr' with h1 | ⟨h1, h2⟩
    all_goals
      go_enter Try.func34, Try.ntmps34
      go_wp2_with (refine wpList_make_row _ rfl _ _ 64 rfl 4 i0 (.bool false) Try.underlying64 hi hz0 hz1 rfl .i64 .i64 N rfl rfl (by rw [hz2]; omega) (by omega) ?_)
      go_ret
      refine ⟨_, rfl, ?_, ((Fut.refl w).alloc _).alloc _⟩
      rw [HRL.out]
      have h3 := rd_row (f := Value.bool) (O := fun _ => false) HB0.out
      simpa only [World.size_alloc] using h3
end Go.Proofs.Ytoiffhoiklafhaa
/-
  Inside values, as plain mathematics.
-/
namespace Go.Proofs.Ytoiffhoiklafhaa
open PK
abbrev uu : Value := .agg #[]
theorem valid_parts {N : Nat} {es : List EI} (h : validB N es = true) : 1 ≤ N ∧ N ≤ 1048576 ∧ (∀ e ∈ es, 0 ≤ e.h ∧ e.h < N) ∧ (∀ e ∈ es, ∀ t ∈ e.t, 0 ≤ t ∧ t < N) := by
  unfold validB at h
  simp only [Bool.and_eq_true, decide_eq_true_eq, List.all_eq_true] at h
  obtain ⟨⟨h1, h2⟩, h3⟩ := h
  refine ⟨by omega, by omega, fun e he => ?_, fun e he t ht => ?_⟩
  · have := h3 e he
    unfold okE at this
    simp only [Bool.and_eq_true, inB', decide_eq_true_eq] at this
    exact this.1.1.1
  · have := h3 e he
    unfold okE at this
    simp only [Bool.and_eq_true, List.all_eq_true] at this
    have := this.2 t ht
    simpa [inB'] using this
theorem ordGo_lt (es : List EI) (N : Nat) : ∀ (f : Nat) (D : Nat → Bool) (l r : List Nat), (∀ x ∈ l, x < N) → ordGo es N f D l = some r → (∀ x ∈ r, x < N) ∧ r.length = l.length + f
  | 0, D, l, r, hl, h => by
    unfold ordGo at h
    obtain rfl := Option.some.inj h
    exact ⟨hl, rfl⟩
  | f + 1, D, l, r, hl, h => by
    unfold ordGo at h
    cases hn : nextO es N D with
    | none => rw [hn] at h; cases h
    | some v =>
      rw [hn] at h
      have hv : v < N := by
        unfold nextO at hn
        exact List.mem_range.1 (List.mem_of_find?_eq_some hn)
      have := ordGo_lt es N f (upd D v true) (l ++ [v]) r (fun x hx => by
        rcases List.mem_append.1 hx with hx | hx
        · exact hl x hx
        · simp only [List.mem_singleton] at hx; subst hx; exact hv) h
      exact ⟨this.1, by rw [this.2]; simp; omega⟩
theorem ordS_lt {es : List EI} {N : Nat} {l : List Nat} (h : ordS es N = some l) : (∀ x ∈ l, x < N) ∧ l.length = N := by
  have := ordGo_lt es N N (fun _ => false) [] l (by simp) h
  exact ⟨this.1, by simpa using this.2⟩
section
variable {α : Type} (Z z0 : α) (mul add : α → α → α) (es : List EI) (ws : List α) (n : Nat)
/-- the product of an edge -/
def edgeV (O : Nat → α) (x : α) (i : Nat) : α := (tl es i).foldl (fun a t => mul a (O t)) x
/-- the value of a node -/
def nodeV (O : Nat → α) (v : Nat) : α := (eof es n v).foldl (fun s i => add s (edgeV mul es O (ws.getD i z0) i)) Z
def insStep (O : Nat → α) (v : Nat) : Nat → α := upd O v (nodeV Z z0 mul add es ws n O v)
def insO (l : List Nat) : Nat → α := l.foldl (insStep Z z0 mul add es ws n) (fun _ => z0)
end
/-- as Inside answers -/
def InsRes {α : Type} (f : α → Value) (w' : World) (e : Ending) (N : Nat) (O : List Nat → Nat → α) (r : Option (List Nat)) : Prop :=
  match r with
  | some l => ∃ b, e = .returned (.tuple #[.slice (some ⟨b, 0, none⟩) N N, .int .i64 0]) ∧ Rd1 w' (some ⟨b, 0, none⟩) f ((List.range N).map (O l))
  | none => e = .returned (.tuple #[.slice none 0 0, .int .i64 9])
/-- every cell of w is as it was -/
def Kp (w w' : World) : Prop := ∀ a v, w.cell? a = some v → w'.cell? a = some v
theorem Kp.refl (w : World) : Kp w w := fun _ _ h => h
theorem Kp.fut {w w' w'' : World} (h : Kp w w') (k : Fut w' w'') : Kp w w'' := fun a v hc => k.cell (h a v hc)
theorem Kp.set {w w' : World} (h : Kp w w') {a : Addr} (ha : w.heap.size ≤ a.block) (u : Value) : Kp w (w'.setCell a u) := fun p v hc => cell_set (h p v hc) (by have := World.block_lt_of_cell? w p hc; omega)
theorem Rd1.kp {α : Type} {f : α → Value} {w w' : World} {A : Option Addr} {l : List α} (h : Rd1 w A f l) (k : Kp w w') : Rd1 w' A f l := fun i a hi => by
  obtain ⟨b, o, e, hc⟩ := h i a hi
  exact ⟨b, o, e, k _ _ hc⟩
end Go.Proofs.Ytoiffhoiklafhaa
/-
  Valid of the reference, Small.
-/
namespace Go.Proofs.Ytoiffhoiklafhaa
open Go.RowKit
attribute [local go_sem] Oper.lit Oper.litS fut_fut fut_drew World.cell?_alloc_some
set_option maxHeartbeats 6400000 in
theorem rValid_any (N : Int) (A : Option Addr) (n c : Nat) (es : List EI) (w : World) (hl : es.length = n) (hn : n ≤ maxLen) (hR : RdE w A es) :
    Calls Try.prog 23 #[hv N A n c] w fun e w' => e = .returned (.bool (validB N es)) ∧ Below w.heap.size w w' := by
  have hn' : n ≤ 9223372036854775807 := hn
  have HR := Lib.hid hR
  have HL := Lib.hid hl
  clear hR hl hn
  by_cases hN : 1 ≤ N ∧ N ≤ 1048576
  · obtain ⟨hN1, hN2⟩ := hN
    have q0 : ∀ dd os, (fut (w.alloc (.cells #[.int .i64 N, .slice A n c] 24)) dd os).cell? ⟨w.heap.size, 0, none⟩ = some (.int .i64 N) := cell_fut (by (repeat (first | exact (cell_al_new _ _ _ _ _ _ (by first | rfl | (simp only [World.size_alloc]))).trans rfl | refine (cell_al_old _ _ _ (by first | omega | (simp only [World.size_alloc]; omega))).trans ?_)))
    have q1 : ∀ dd os, (fut (w.alloc (.cells #[.int .i64 N, .slice A n c] 24)) dd os).cell? ⟨w.heap.size, 1, none⟩ = some (.slice A n c) := cell_fut (by (repeat (first | exact (cell_al_new _ _ _ _ _ _ (by first | rfl | (simp only [World.size_alloc]))).trans rfl | refine (cell_al_old _ _ _ (by first | omega | (simp only [World.size_alloc]; omega))).trans ?_)))
    go_enter Try.func23, Try.ntmps23
    go_wp2_with fail
    have HS := Lib.hid (HR.out.fut ((Fut.refl w).alloc (.cells #[.int .i64 N, .slice A n c] 24)))
    have HW := Lib.hid ((Fut.refl w).alloc (.cells #[.int .i64 N, .slice A n c] 24))
    generalize w.alloc (.cells #[.int .i64 N, .slice A n c] 24) = wb at *
    go_loopw [3] (fun i wr => ∃ j : Nat, j ≤ n ∧ i = .int .i64 j ∧ Hid ((es.take j).all (okE N) = true) ∧ Fut wb wr) (fun i _ => n - (intOf i).toNat)
    case atStart => exact ⟨0, Nat.zero_le _, rfl, Lib.hid (by simp), Fut.refl _⟩
    case round =>
      obtain ⟨j, hj, rfl, hall, hF⟩ := hrel
      obtain ⟨dd, oo, rfl⟩ := fut_of hF
      by_cases hlt : j < n
      · obtain ⟨x, hx⟩ := get_lt HL.out hlt
        obtain ⟨b, o, rfl, hc⟩ := HS.out.1 j x hx
        obtain ⟨ht, htl⟩ := (HS.out.2 x (List.mem_of_getElem? hx))
        have HT := Lib.hid (ht.fut hF)
        have HX := Lib.hid hx
        obtain ⟨xh, xt, xc, xl0, xl1, xA, xk⟩ := x
        have c0 := hF.cell (hc 0 _ (by decide) rfl)
        have c1 := hF.cell (hc 1 _ (by decide) rfl)
        have c2 := hF.cell (hc 2 _ (by decide) rfl)
        have c3 := hF.cell (hc 3 _ (by decide) rfl)
        have c4 := hF.cell (hc 4 _ (by decide) rfl)
        simp only [Nat.add_zero] at c0
        clear hx hc ht hF
        by_cases g1 : (0 ≤ xh ∧ xh < N) ∧ 0 ≤ xc ∧ xc ≤ 1099511627776
        · obtain ⟨⟨g1, g1'⟩, g2, g3⟩ := g1
          have HO : ∀ b : Bool, xt.all (inB' N) = b → Hid (okE N ⟨xh, xt, xc, xl0, xl1, xA, xk⟩ = b) := fun b hb => Lib.hid (by simp [okE, inB', g1, g1', g2, g3] at hb ⊢; exact hb)
          have HOO := Lib.hid HO
          clear HO
          have htl' : xt.length ≤ 9223372036854775807 := htl
          go_wp2_with fail
          have HT2 := Lib.hid (HT.out.fut ((Fut.refl _).alloc (.cells #[.int .i64 xh, .slice xA xt.length xk, .int .i64 xc, .int .i64 xl0, .int .i64 xl1] 49)))
          have HF2 := Lib.hid ((Fut.fut wb dd oo).alloc (.cells #[.int .i64 xh, .slice xA xt.length xk, .int .i64 xc, .int .i64 xl0, .int .i64 xl1] 49))
          have hN0 : ((fut wb dd oo).alloc (.cells #[.int .i64 xh, .slice xA xt.length xk, .int .i64 xc, .int .i64 xl0, .int .i64 xl1] 49)).cell? ⟨w.heap.size, 0, none⟩ = some (.int .i64 N) := Fut.cell ((Fut.refl _).alloc _) (q0 dd oo)
          have hT1 : ((fut wb dd oo).alloc (.cells #[.int .i64 xh, .slice xA xt.length xk, .int .i64 xc, .int .i64 xl0, .int .i64 xl1] 49)).cell? ⟨(fut wb dd oo).heap.size, 1, none⟩ = some (.slice xA xt.length xk) := by (repeat (first | exact (cell_al_new _ _ _ _ _ _ (by first | rfl | (simp only [World.size_alloc]))).trans rfl | refine (cell_al_old _ _ _ (by first | omega | (simp only [World.size_alloc]; omega))).trans ?_))
          have hq1 : ((fut wb dd oo).alloc (.cells #[.int .i64 xh, .slice xA xt.length xk, .int .i64 xc, .int .i64 xl0, .int .i64 xl1] 49)).cell? ⟨w.heap.size, 1, none⟩ = some (.slice (some ⟨b, o, none⟩) n c) := Fut.cell ((Fut.refl _).alloc _) (q1 dd oo)
          clear c0 c1 c2 c3 c4
          generalize (fut wb dd oo).alloc (.cells #[.int .i64 xh, .slice xA xt.length xk, .int .i64 xc, .int .i64 xl0, .int .i64 xl1] 49) = wi at *
          go_loopw [5] (fun i wr => ∃ k : Nat, k ≤ xt.length ∧ i = .int .i64 k ∧ Hid ((xt.take k).all (inB' N) = true) ∧ Fut wi wr) (fun i _ => xt.length - (intOf i).toNat)
          case atStart => exact ⟨0, Nat.zero_le _, rfl, Lib.hid (by simp), Fut.refl _⟩
          case round =>
            obtain ⟨k, hk, rfl, hall2, hFi⟩ := hrel
            obtain ⟨d2, o2, rfl⟩ := fut_of hFi
            have r1 : ∀ d3 os, (fut wi d3 os).cell? ⟨(fut wb dd oo).heap.size, 1, none⟩ = some (.slice xA xt.length xk) := cell_fut hT1
            have r0 : ∀ dd os, (fut wi dd os).cell? ⟨w.heap.size, 0, none⟩ = some (.int .i64 N) := cell_fut hN0
            by_cases hkt : k < xt.length
            · obtain ⟨y, hy⟩ := get_lt rfl hkt
              obtain ⟨b2, o3, rfl, hc2⟩ := HT2.out k y hy
              have r2 : ∀ dd os, (fut wi dd os).cell? ⟨b2, o3 + k, none⟩ = some (.int .i64 y) := cell_fut hc2
              have HY := Lib.hid hy
              have HFI := Lib.hid hFi
              clear hy hc2 hFi
              by_cases y1 : 0 ≤ y
              · by_cases y2 : y < N
                · have HOK := Lib.hid (take_all hall2.out HY.out (show inB' N y = true from by simp [inB', y1, y2]))
                  have g4 : (y < 0) = False := eq_false (by omega)
                  have g5 : (N ≤ y) = False := eq_false (by omega)
                  go_wp2_with fail
                  refine wp_region_M o_emendateref27_Valid_12 (by kernel_rfl) (by kernel_rfl) (by intro c a d v w h; cases d <;> exact h) ?_; unfold o_emendateref27_Valid_12
                  iterate 16 (refine wpF_h rfl rfl (fun K hK => ?_); go_simp; refine hK _ _ ?_; clear hK K)
                  refine wpF_nil ?_
                  go_wp2_with fail
                  exact ⟨⟨k + 1, by omega, by go_num, HOK, HFI.out.drew⟩, by simp [intOf]; omega⟩
                · have hfin : validB N es = false := by
                    have h1 := all_not HX.out (HOO.out false (all_not HY.out (by simp [inB', y2]))).out
                    simp [validB, h1]
                  have HFin := Lib.hid hfin
                  have g4 : (y < 0) = False := eq_false (by omega)
                  have g5 : (N ≤ y) = True := eq_true (by omega)
                  clear hfin
                  go_wp2_with fail
                  refine wp_region_M o_emendateref27_Valid_12 (by kernel_rfl) (by kernel_rfl) (by intro c a d v w h; cases d <;> exact h) ?_; unfold o_emendateref27_Valid_12
                  iterate 16 (refine wpF_h rfl rfl (fun K hK => ?_); go_simp; refine hK _ _ ?_; clear hK K)
                  refine wpF_nil ?_
                  go_wp2_with fail
                  go_ret
                  exact ⟨by rw [HFin.out]; rfl, HW.out.trans (HF2.out.trans HFI.out.drew)⟩
              · have hfin : validB N es = false := by
                  have h1 := all_not HX.out (HOO.out false (all_not HY.out (by simp [inB', y1]))).out
                  simp [validB, h1]
                have HFin := Lib.hid hfin
                have g4 : (y < 0) = True := eq_true (by omega)
                clear hfin
                go_wp2_with fail
                refine wp_region_M o_emendateref27_Valid_12 (by kernel_rfl) (by kernel_rfl) (by intro c a d v w h; cases d <;> exact h) ?_; unfold o_emendateref27_Valid_12
                iterate 7 (refine wpF_h rfl rfl (fun K hK => ?_); go_simp; refine hK _ _ ?_; clear hK K)
                iterate 8 (refine wpF_hs2 rfl rfl (fun K hK => ?_); go_simp; refine hK _ _ ?_; clear hK K)
                (refine wpF_h rfl rfl (fun K hK => ?_); go_simp; refine hK _ _ ?_; clear hK K)
                refine wpF_nil ?_
                go_wp2_with fail
                go_ret
                exact ⟨by rw [HFin.out]; rfl, HW.out.trans (HF2.out.trans HFI.out.drew)⟩
            · have hok := (HOO.out true (all_take hall2.out (by omega))).out
              have HK := Lib.hid (take_all hall.out HX.out hok)
              clear hok
              go_wp2_with fail
              exact ⟨⟨j + 1, by omega, by go_num, HK, HF2.out.trans (Fut.fut _ _ _)⟩, by simp [intOf]; omega⟩
        · have hfin : validB N es = false := by
            have h1 : okE N ⟨xh, xt, xc, xl0, xl1, xA, xk⟩ = false := by
              cases h : okE N ⟨xh, xt, xc, xl0, xl1, xA, xk⟩ with
              | false => rfl
              | true => exact absurd (by simp [okE, inB'] at h; exact ⟨h.1.1.1, h.1.1.2, h.1.2⟩) g1
            simp [validB, all_not HX.out h1]
          have HFin := Lib.hid hfin
          clear hfin
          have hg : xh < 0 ∨ (0 ≤ xh ∧ N ≤ xh) ∨ (0 ≤ xh ∧ xh < N ∧ xc < 0) ∨ (0 ≤ xh ∧ xh < N ∧ 0 ≤ xc ∧ 1099511627776 < xc) := by omega
          clear g1
          rcases hg with g1 | ⟨g1, g2⟩ | ⟨g1, g2, g3⟩ | ⟨g1, g2, g3, g4⟩
          all_goals
            go_wp2_with fail
            go_ret
            exact ⟨by rw [HFin.out]; rfl, HW.out.trans ((Fut.fut _ _ _).alloc _)⟩
      · have hfin : validB N es = true := by
          have h1 := all_take hall.out (by rw [HL.out]; omega)
          simp [validB, h1, hN1, hN2]
        have HFin := Lib.hid hfin
        clear hfin
        go_wp2_with fail
        go_ret
        exact ⟨by rw [HFin.out]; rfl, HW.out.trans (Fut.fut _ _ _)⟩
  · have hvb : validB N es = false := by
      unfold validB
      by_cases h1 : 1 ≤ N
      · have : ¬ N ≤ 1048576 := fun h => hN ⟨h1, h⟩
        simp [this]
      · simp [h1]
    have HVb := Lib.hid hvb
    clear hvb
    by_cases h1 : 1 ≤ N
    · have h2 : 1048576 < N := by omega
      clear hN
      go_enter Try.func23, Try.ntmps23
      go_wp2_with fail
      go_ret
      exact ⟨by rw [HVb.out]; rfl, (Fut.refl w).alloc _⟩
    · have h2 : N < 1 := by omega
      clear hN h1
      go_enter Try.func23, Try.ntmps23
      go_wp2_with fail
      go_ret
      exact ⟨by rw [HVb.out]; rfl, (Fut.refl w).alloc _⟩
set_option maxHeartbeats 3200000 in
theorem small_any (N : Int) (A : Option Addr) (n c : Nat) (es : List EI) (w : World) (hl : es.length = n) (hn : n ≤ maxLen) (hR : RdE w A es) :
    Calls Try.prog 31 #[hv N A n c] w fun e w' => e = .returned (.bool (smallB N es)) ∧ Below w.heap.size w w' := by
  have hn' : n ≤ 9223372036854775807 := hn
  have HN := Lib.hid hn
  have HR := Lib.hid hR
  have HL := Lib.hid hl
  clear hR hl hn
  by_cases hN : N ≤ 30 ∧ n ≤ 60
  · obtain ⟨hN1, hN2⟩ := hN
    have x0 : (w.alloc (.cells #[.int .i64 N, .slice A n c] 24)).cell? ⟨w.heap.size, 0, none⟩ = some (.int .i64 N) := by (repeat (first | exact (cell_al_new _ _ _ _ _ _ (by first | rfl | (simp only [World.size_alloc]))).trans rfl | refine (cell_al_old _ _ _ (by first | omega | (simp only [World.size_alloc]; omega))).trans ?_))
    have x1 : (w.alloc (.cells #[.int .i64 N, .slice A n c] 24)).cell? ⟨w.heap.size, 1, none⟩ = some (.slice A n c) := by (repeat (first | exact (cell_al_new _ _ _ _ _ _ (by first | rfl | (simp only [World.size_alloc]))).trans rfl | refine (cell_al_old _ _ _ (by first | omega | (simp only [World.size_alloc]; omega))).trans ?_))
    go_enter Try.func31, Try.ntmps31
    go_wp2_with fail
    have HS := Lib.hid (HR.out.fut ((Fut.refl w).alloc (.cells #[.int .i64 N, .slice A n c] 24)))
    have HW := Lib.hid ((Fut.refl w).alloc (.cells #[.int .i64 N, .slice A n c] 24))
    generalize w.alloc (.cells #[.int .i64 N, .slice A n c] 24) = wb at *
    go_loopw [3] (fun i wr => ∃ j : Nat, j ≤ n ∧ i = .int .i64 j ∧ Hid ((es.take j).all (fun e => decide (e.t.length ≤ 4)) = true) ∧ wr = wb) (fun i _ => n - (intOf i).toNat)
    case atStart => exact ⟨0, Nat.zero_le _, rfl, Lib.hid (by simp), rfl⟩
    case round =>
      obtain ⟨j, hj, rfl, hall, rfl⟩ := hrel
      by_cases hlt : j < n
      · obtain ⟨x, hx⟩ := get_lt HL.out hlt
        obtain ⟨b, o, rfl, hc⟩ := HS.out.1 j x hx
        have hxl : x.t.length ≤ 9223372036854775807 := (HS.out.2 x (List.mem_of_getElem? hx)).2
        have HX := Lib.hid hx
        have c1 := hc 1 _ (by decide) rfl
        clear hx hc
        obtain ⟨xh, xt, xc, xl0, xl1, xA, xk⟩ := x
        simp only at c1 hxl
        by_cases h4 : xt.length ≤ 4
        · have HOK := Lib.hid (take_all hall.out HX.out (show decide (xt.length ≤ 4) = true from decide_eq_true h4))
          go_wp2_with fail
          exact ⟨⟨j + 1, by omega, by go_num, HOK, by first | rfl | trivial⟩, by simp [intOf]; omega⟩
        · have hfin : smallB N es = false := by
            have h1 := all_not (p := fun e : EI => decide (e.t.length ≤ 4)) HX.out (decide_eq_false h4)
            unfold smallB
            rw [h1]; simp
          have HFin := Lib.hid hfin
          clear hfin
          go_wp2_with fail
          go_ret
          exact ⟨by rw [HFin.out]; rfl, HW.out⟩
      · have hfin : smallB N es = validB N es := by
          have h1 := all_take hall.out (by rw [HL.out]; omega)
          unfold smallB
          rw [h1, HL.out]; simp [hN1, hN2]
        have HFin := Lib.hid hfin
        clear hfin
        go_wp2_with (go_at_call 23; refine (rValid_any N A n c es _ HL.out HN.out HS.out).mono ?_; rintro e w1 ⟨rfl, hb1⟩; have f1 : Fut _ w1 := hb1; clear hb1)
        go_ret
        exact ⟨by rw [HFin.out]; rfl, HW.out.trans (by assumption)⟩
  · have hvb : smallB N es = false := by
      unfold smallB
      rw [HL.out]
      by_cases h1 : N ≤ 30
      · have : ¬ n ≤ 60 := fun h => hN ⟨h1, h⟩
        simp [this]
      · simp [h1]
    have HVb := Lib.hid hvb
    clear hvb
    by_cases h1 : N ≤ 30
    · have h2 : 60 < n := by omega
      clear hN
      go_enter Try.func31, Try.ntmps31
      go_wp2_with fail
      go_ret
      exact ⟨by rw [HVb.out]; rfl, (Fut.refl w).alloc _⟩
    · have h2 : 30 < N := by omega
      clear hN h1
      go_enter Try.func31, Try.ntmps31
      go_wp2_with fail
      go_ret
      exact ⟨by rw [HVb.out]; rfl, (Fut.refl w).alloc _⟩
end Go.Proofs.Ytoiffhoiklafhaa
/-
  Small hypergraphs.
-/
namespace Go.Proofs.Ytoiffhoiklafhaa
open PK
theorem sumT_le {es : List EI} (h : ∀ e ∈ es, e.t.length ≤ 4) : ∀ k, sumT es k ≤ 4 * k
  | 0 => by simp [sumT]
  | k + 1 => by
    rw [sumT_succ]
    have := sumT_le h k
    have h2 : (tl es k).length ≤ 4 := by
      unfold tl
      cases he : es[k]? with
      | none => simp
      | some e => simp only [List.length_map]; exact h e (List.mem_of_getElem? he)
    omega
theorem small_parts {N : Int} {es : List EI} {n : Nat} (hl : es.length = n) (h : smallB N es = true) : ∃ M : Nat, N = M ∧ M ≤ 30 ∧ n ≤ 60 ∧ validB M es = true ∧ sumT es n ≤ 2000000 ∧ 1 ≤ M ∧ (∀ e ∈ es, 0 ≤ e.h ∧ e.h < M) ∧ (∀ e ∈ es, ∀ t ∈ e.t, 0 ≤ t ∧ t < M) ∧ (∀ e ∈ es, e.t.length ≤ 4) := by
  unfold smallB at h
  simp only [Bool.and_eq_true, decide_eq_true_eq, List.all_eq_true] at h
  obtain ⟨⟨⟨h1, h2⟩, h3⟩, h4⟩ := h
  have h5 : 1 ≤ N := by
    have := h4
    unfold validB at this
    simp only [Bool.and_eq_true, decide_eq_true_eq] at this
    exact this.1.1
  obtain ⟨M, rfl⟩ : ∃ M : Nat, N = M := Int.eq_ofNat_of_zero_le (by omega)
  have hp := valid_parts h4
  refine ⟨M, rfl, by omega, by omega, h4, ?_, hp.1, hp.2.2.1, hp.2.2.2, h3⟩
  have := sumT_le (es := es) h3 n
  omega
theorem rchL_len (es : List EI) (r N : Nat) : (rchL es r N).length = N := by unfold rchL; simp
theorem reachL_len (es : List EI) (N : Nat) (r : Int) : (reachL es N r).length = N := by
  unfold reachL; split
  · exact rchL_len _ _ _
  · simp
end Go.Proofs.Ytoiffhoiklafhaa
/-
  The semirings: what each method computes.
-/
namespace Go.Proofs.Ytoiffhoiklafhaa
open Go.RowKit
attribute [local go_sem] Oper.lit fut_fut fut_drew World.cell?_alloc_some
abbrev vvq (c s : Int) : Value := .agg #[.int .i64 c, .int .i64 s]
def plusF (a b : Int) : Int := if a + b < 1099511627776 then a + b else 1099511627776
def mulF (a b : Int) : Int := if a * b < 1099511627776 then a * b else 1099511627776
def minF (a b : Int) : Int := if a < b then a else b
def lessB (a b c d : Int) : Bool := decide (a < c) || (decide (a = c) && decide (b < d))
/-- the lesser of two values -/
def vaC (a b c d : Int) : Int := if lessB c d a b then c else a
def vaS (a b c d : Int) : Int := if lessB c d a b then d else b
/-- the product of two values -/
def vmC (a c : Int) : Int := if a + c < 1099511627776 then a + c else 1099511627776
def vmS (a b c d : Int) : Int := if a + c < 1099511627776 then plusF b d else 0
def intB (a : Int) : Bool := decide (0 ≤ a) && decide (a ≤ 1099511627776)
def valB (c s : Int) : Bool := (decide (c = 1099511627776) && decide (s = 0)) || (decide (0 ≤ c) && decide (c < 1099511627776) && intB s)
theorem intB_iff {a : Int} : intB a = true ↔ 0 ≤ a ∧ a ≤ 1099511627776 := by simp [intB]
theorem valB_iff {c s : Int} : valB c s = true ↔ (c = 1099511627776 ∧ s = 0) ∨ (0 ≤ c ∧ c < 1099511627776 ∧ 0 ≤ s ∧ s ≤ 1099511627776) := by simp [valB, intB, and_assoc]
theorem valB_bd {c s : Int} (h : valB c s = true) : 0 ≤ c ∧ c ≤ 1099511627776 ∧ 0 ≤ s ∧ s ≤ 1099511627776 := by
  rcases valB_iff.1 h with ⟨rfl, rfl⟩ | h <;> omega
theorem plusF_bd {a b : Int} (ha : 0 ≤ a) (hb : 0 ≤ b) : 0 ≤ plusF a b ∧ plusF a b ≤ 1099511627776 := by unfold plusF; split <;> omega
theorem mulF_bd {a b : Int} (ha : 0 ≤ a) (hb : 0 ≤ b) : 0 ≤ mulF a b ∧ mulF a b ≤ 1099511627776 := by
  have := Int.mul_nonneg ha hb
  unfold mulF; split <;> omega
theorem plus_any (a b : Int) (ha : 0 ≤ a) (ha1 : a ≤ 1099511627776) (hb : 0 ≤ b) (hb1 : b ≤ 1099511627776) (w : World) : Calls Try.prog 83 #[.int .i64 a, .int .i64 b] w fun e w' => e = .returned (.int .i64 (plusF a b)) ∧ w' = w := by
  go_enter Try.func83, Try.ntmps83
  go_wp2
  all_goals
    go_returns
    refine ⟨?_, rfl⟩
    first | rfl | (simp_all [plusF]; try omega)
theorem cntZero_any  (w : World) : Calls Try.prog 82 #[uu] w fun e w' => e = .returned (.int .i64 0) ∧ Below w.heap.size w w' := by
  go_enter Try.func82, Try.ntmps82
  go_wp2
  all_goals
    go_returns
    refine ⟨?_, by go_grown⟩
    first | rfl | (simp_all; try omega)
theorem cntOne_any  (w : World) : Calls Try.prog 36 #[uu] w fun e w' => e = .returned (.int .i64 1) ∧ Below w.heap.size w w' := by
  go_enter Try.func36, Try.ntmps36
  go_wp2
  all_goals
    go_returns
    refine ⟨?_, by go_grown⟩
    first | rfl | (simp_all; try omega)
theorem cntAdd_any (a b : Int) (ha : 0 ≤ a) (ha1 : a ≤ 1099511627776) (hb : 0 ≤ b) (hb1 : b ≤ 1099511627776) (w : World) : Calls Try.prog 80 #[uu, .int .i64 a, .int .i64 b] w fun e w' => e = .returned (.int .i64 (plusF a b)) ∧ Below w.heap.size w w' := by
  go_enter Try.func80, Try.ntmps80
  go_wp2_with (go_at_call 83; refine (plus_any _ _ ha ha1 hb hb1 _).mono ?_; rintro e w1 ⟨rfl, rfl⟩)
  go_returns
  exact ⟨rfl, by go_grown⟩
def hiF (x y : Int) : Int := ((x.toNat * y.toNat / 18446744073709551616 : Nat) : Int)
def loF (x y : Int) : Int := ((x.toNat * y.toNat % 18446744073709551616 : Nat) : Int)
theorem hilo {x y : Int} (hx : 0 ≤ x) (hx1 : x ≤ 1099511627776) (hy : 0 ≤ y) (hy1 : y ≤ 1099511627776) :
    (0 < hiF x y → mulF x y = 1099511627776) ∧ (hiF x y ≤ 0 → 1099511627776 ≤ loF x y → mulF x y = 1099511627776) ∧ (hiF x y ≤ 0 → loF x y < 1099511627776 → mulF x y = loF x y) ∧ 0 ≤ hiF x y ∧ 0 ≤ loF x y ∧ loF x y ≤ 18446744073709551615 := by
  obtain ⟨m, rfl⟩ := Int.eq_ofNat_of_zero_le hx
  obtain ⟨n, rfl⟩ := Int.eq_ofNat_of_zero_le hy
  unfold mulF hiF loF
  have e : ((m : Int) * (n : Int)) = ((m * n : Nat) : Int) := by simp
  rw [e]
  simp only [Int.toNat_natCast]
  generalize m * n = z
  refine ⟨fun h => ?_, fun h1 h2 => ?_, fun h1 h2 => ?_, ?_, ?_, ?_⟩
  · split <;> omega
  · split <;> omega
  · split <;> omega
  all_goals omega
theorem mul64_any (x y : Int) (hx : 0 ≤ x) (hx1 : x ≤ 1099511627776) (hy : 0 ≤ y) (hy1 : y ≤ 1099511627776) (w : World) :
    Calls Try.prog 84 #[.int .u64 x, .int .u64 y] w fun e w' => e = .returned (.tuple #[.int .u64 (hiF x y), .int .u64 (loF x y)]) ∧ w' = w := by
  obtain ⟨m, rfl⟩ := Int.eq_ofNat_of_zero_le hx
  obtain ⟨n, rfl⟩ := Int.eq_ofNat_of_zero_le hy
  exact Try.bits_Mul64 m n (by omega) (by omega) w
theorem cntMul_any (a b : Int) (ha : 0 ≤ a) (ha1 : a ≤ 1099511627776) (hb : 0 ≤ b) (hb1 : b ≤ 1099511627776) (w : World) : Calls Try.prog 81 #[uu, .int .i64 a, .int .i64 b] w fun e w' => e = .returned (.int .i64 (mulF a b)) ∧ Below w.heap.size w w' := by
  obtain ⟨h1, h2, h3, h4, h5, h6⟩ := hilo ha ha1 hb hb1
  have H1 := Lib.hid h1
  have H2 := Lib.hid h2
  have H3 := Lib.hid h3
  clear h1 h2 h3
  go_enter Try.func81, Try.ntmps81
  go_wp2_with (go_at_call 84; refine (mul64_any a b ha ha1 hb hb1 _).mono ?_; rintro e w1 ⟨rfl, rfl⟩)
  all_goals
    go_returns
    refine ⟨?_, by go_grown⟩
    congr 1
    first | (rw [H1.out (by omega)]; rfl) | (rw [H2.out (by omega) (by omega)]; rfl) | (rw [H3.out (by omega) (by omega)]; rfl)
end Go.Proofs.Ytoiffhoiklafhaa
/-
  Inside, walked, for numbers.
-/
namespace Go.Proofs.Ytoiffhoiklafhaa
open Go.RowKit PK
attribute [local go_sem] Oper.lit Oper.litS fut_fut fut_drew World.cell?_alloc_some
set_option maxRecDepth 4000 in
set_option maxHeartbeats 12800000 in
theorem insideI_any (T : TypeId) (fz fm fa : FuncId) (Z : Int) (mul add : Int → Int → Int) (Inv : Int → Prop)
    (hmZ : ∀ w : World, (method 225 T uu "Zero").run Try.prog w = .ok (fz, uu) w) (hmM : ∀ w : World, (method 225 T uu "Mul").run Try.prog w = .ok (fm, uu) w) (hnM : ∀ w : World, (nilAhead 225 T uu "Mul").run Try.prog w = .ok (some false) w) (hmA : ∀ w : World, (method 225 T uu "Add").run Try.prog w = .ok (fa, uu) w)
    (hcfZ : ∀ (args : Array Value) (w : World), (callFunc fz args).run Try.prog w = .ok (.enter fz args) w) (hcfM : ∀ (args : Array Value) (w : World), (callFunc fm args).run Try.prog w = .ok (.enter fm args) w) (hcfA : ∀ (args : Array Value) (w : World), (callFunc fa args).run Try.prog w = .ok (.enter fa args) w)
    (hcZ : ∀ w : World, Calls Try.prog fz #[uu] w fun e w' => e = .returned ((Value.int .i64) Z) ∧ Below w.heap.size w w')
    (hcM : ∀ (a b : Int) (w : World), Inv a → Inv b → Calls Try.prog fm #[uu, (Value.int .i64) a, (Value.int .i64) b] w fun e w' => e = .returned ((Value.int .i64) (mul a b)) ∧ Below w.heap.size w w')
    (hcA : ∀ (a b : Int) (w : World), Inv a → Inv b → Calls Try.prog fa #[uu, (Value.int .i64) a, (Value.int .i64) b] w fun e w' => e = .returned ((Value.int .i64) (add a b)) ∧ Below w.heap.size w w')
    (hIz : Inv Z) (hI0 : Inv 0) (hIm : ∀ a b, Inv a → Inv b → Inv (mul a b)) (hIa : ∀ a b, Inv a → Inv b → Inv (add a b))
    (N : Nat) (A B : Option Addr) (n c d : Nat) (es : List EI) (ws : List Int) (w : World) (hl : es.length = n) (hwl : ws.length = n) (hn : n ≤ 1000) (hval : validB N es = true) (htot : sumT es n ≤ 2000000) (hR : RdE w A es) (hRw : Rd1 w B ((Value.int .i64) ·) ws) (hwI : ∀ x ∈ ws, Inv x) :
    Calls Try.prog 26 #[hv N A n c, .iface T uu, .slice B n d] w fun e w' => InsRes (Value.int .i64) w' e N (insO Z 0 mul add es ws n) (ordS es N) ∧ Below w.heap.size w w' := by
  obtain ⟨hN1, hN, hhd, htl⟩ := valid_parts hval
  have HVAL := Lib.hid hval
  have HR := Lib.hid hR
  have HRW := Lib.hid hRw
  have HL := Lib.hid hl
  have HWL := Lib.hid hwl
  have HV := Lib.hid hhd
  have HT := Lib.hid htl
  have HTOT := Lib.hid htot
  have HCZ := Lib.hid hcZ
  have HCM := Lib.hid hcM
  have HCA := Lib.hid hcA
  have HIZ := Lib.hid hIz
  have HI0 := Lib.hid hI0
  have HIM := Lib.hid hIm
  have HIA := Lib.hid hIa
  have HWI := Lib.hid hwI
  clear hval hR hRw hl hwl hhd htl htot hcZ hcM hcA hIz hI0 hIm hIa hwI
  obtain ⟨i1, ki, kz0, kz1, kz2⟩ := info_parts info_int
  have hnm : n ≤ maxLen := by unfold maxLen; omega
  have HB0 := Lib.hid (show Fut w (w.alloc (.cells #[.int .i64 N, .slice A n c] 24)) from (Fut.refl w).alloc _)
  have b0 : ∀ dd os, (fut (w.alloc (.cells #[.int .i64 N, .slice A n c] 24)) dd os).cell? ⟨w.heap.size, 0, none⟩ = some (.int .i64 N) := cell_fut (by (repeat (first | exact (cell_al_new _ _ _ _ _ _ (by first | rfl | (simp only [World.size_alloc]))).trans rfl | refine (cell_al_old _ _ _ (by first | omega | (simp only [World.size_alloc]; omega))).trans ?_)))
  have b1 : ∀ dd os, (fut (w.alloc (.cells #[.int .i64 N, .slice A n c] 24)) dd os).cell? ⟨w.heap.size, 1, none⟩ = some (.slice A n c) := cell_fut (by (repeat (first | exact (cell_al_new _ _ _ _ _ _ (by first | rfl | (simp only [World.size_alloc]))).trans rfl | refine (cell_al_old _ _ _ (by first | omega | (simp only [World.size_alloc]; omega))).trans ?_)))
  have HBS := Lib.hid (show (w.alloc (.cells #[.int .i64 N, .slice A n c] 24)).heap.size = w.heap.size + 1 from World.size_alloc _ _)
  go_enter Try.func26, Try.ntmps26
  cases hor : ordS es N with
  | none =>
    have HOR := Lib.hid hor
    clear hor
    go_wp2_with (first
      | (go_at_call 46; refine (valid_any N A n c es _ HL.out hnm (HR.out.fut HB0.out)).mono ?_; rintro e w1 ⟨rfl, hb1⟩; rw [HVAL.out]; obtain ⟨dd, oo, rfl⟩ := fut_of hb1; clear hb1)
      | (go_at_call 47; refine (order_any N A n c es _ HL.out hn hN HV.out HT.out HTOT.out (HR.out.fut (HB0.out.trans (Fut.fut _ _ _)))).mono ?_; rintro e w2 ⟨he, hb2⟩; rw [HOR.out] at he; obtain rfl := he; have HB2 := Lib.hid hb2; clear hb2))
    go_ret2
    exact ⟨rfl, (HB0.out.trans (Fut.fut _ _ _)).trans HB2.out⟩
  | some l =>
    have HOR := Lib.hid hor
    clear hor
    go_wp2_with (first
      | (go_at_call 46; refine (valid_any N A n c es _ HL.out hnm (HR.out.fut HB0.out)).mono ?_; rintro e w1 ⟨rfl, hb1⟩; rw [HVAL.out]; obtain ⟨dd, oo, rfl⟩ := fut_of hb1; clear hb1)
      | (go_at_call 47; refine (order_any N A n c es _ HL.out hn hN HV.out HT.out HTOT.out (HR.out.fut (HB0.out.trans (Fut.fut _ _ _)))).mono ?_; rintro e w2 ⟨he, hb2⟩; rw [HOR.out] at he; obtain ⟨oA, oc, rfl, hol⟩ := he; obtain ⟨dd2, oo2, rfl⟩ := fut_of ((Fut.fut _ _ _).trans hb2); have HOL := Lib.hid hol; clear hb2 hol)
      | (go_at_call 48; refine (edges_any N A n c es _ HL.out hn hN HV.out (HR.out.fut (HB0.out.trans (Fut.fut _ _ _)))).mono ?_; rintro e w3 ⟨u, rfl, hL, hb3⟩; have HOL3 := Lib.hid (HOL.out.fut hb3); obtain ⟨dd3, oo3, rfl⟩ := fut_of ((Fut.fut _ _ _).trans hb3); have HLL := Lib.hid hL; clear hL hb3)
      | (refine wpList_make_row _ rfl (.tmp 42) (.tmp 42) 27 rfl 3 i1 ((Value.int .i64) 0) Try.underlying27 ki kz0 kz1 rfl .i64 .i64 N rfl rfl (by rw [kz2]; omega) (by omega) ?_))
    have hls := ordS_lt HOR.out
    have HLT := Lib.hid hls.1
    have hlN : l.length = N := hls.2
    clear hls
    rw [hlN]
    generalize hW2 : fut (w.alloc (.cells #[.int .i64 N, .slice A n c] 24)) dd3 oo3 = w2 at *
    have hFw2 : Fut w w2 := by rw [← hW2]; exact HB0.out.trans (Fut.fut _ _ _)
    have hbx2 : w2.cell? ⟨w.heap.size, 1, none⟩ = some (.slice A n c) := by rw [← hW2]; exact b1 _ _
    have HOL2 : Hid (Rd1 w2 oA nv l) := Lib.hid HOL3.out
    have hsz0 : w.heap.size ≤ w2.heap.size := hFw2.size
    have HROW := Lib.hid (World.rowIs_made w2 ((Value.int .i64) 0) N 3)
    have HK0 := Lib.hid ((Kp.refl w2).fut ((Fut.refl w2).alloc (.cells (madeCells #[(Value.int .i64) 0] N) 3)))
    have HFW := Lib.hid hFw2
    clear b0 b1 hW2 HBS HOL3 hFw2
    obtain ⟨d, hdd⟩ : ∃ d, w2.heap.size = d := ⟨_, rfl⟩
    rw [hdd] at HROW ⊢
    go_loopw [46] (fun i wr => ∃ (j : Nat) (O : Nat → Int), j ≤ N ∧ i = .int .i64 j ∧ Hid (O = (l.take j).foldl (insStep Z 0 mul add es ws n) (fun _ => 0)) ∧ Hid (∀ v, Inv (O v)) ∧ Hid (Kp w2 wr) ∧ Hid (Fut w wr) ∧ Hid (wr.rowIs d 3 N (fun i => (Value.int .i64) (O i)))) (fun i _ => N - (intOf i).toNat)
    case atStart => exact ⟨0, _, Nat.zero_le _, rfl, Lib.hid rfl, Lib.hid (fun _ => HI0.out), HK0, Lib.hid (HFW.out.alloc _), HROW⟩
    case round =>
      clear HK0 HROW
      obtain ⟨j, O, hj, rfl, hO, hIO, hKp, hFw, hrow⟩ := hrel
      by_cases hjl : j < N
      · obtain ⟨v, hv⟩ := get_lt hlN hjl
        obtain ⟨b3, o3, rfl, hcv⟩ := HOL2.out j v hv
        have hcv2 := hKp.out _ _ hcv
        have hvN := HLT.out v (List.mem_of_getElem? hv)
        obtain ⟨A2, c2, hcu, hrd2, _⟩ := HLL.out.2 v hvN
        have hll : (eof es n v).length ≤ n := eof_len es n v
        have HRD2 := Lib.hid hrd2
        have HCU := Lib.hid hcu
        have HVJ := Lib.hid hv
        clear hcv hv hcu hrd2
        obtain ⟨wo, rfl⟩ : ∃ x, x = wr := ⟨_, rfl⟩
        go_wp2_with (first | (refine (HCZ.out _).mono ?_; rintro e w4 ⟨rfl, hb4⟩; have hcu4 := (hKp.out.fut hb4) _ _ HCU.out; have HB4 := Lib.hid (show Fut wo w4 from hb4); clear hb4))
        clear hcv2 hcu4
        go_loopw [14, 57] (fun s i wr => ∃ (p : Nat) (x : Int), p ≤ (eof es n v).length ∧ i = .int .i64 p ∧ s = (Value.int .i64) x ∧ Hid (x = ((eof es n v).take p).foldl (fun s i => add s (edgeV mul es O (ws.getD i 0) i)) Z) ∧ Hid (Inv x) ∧ Hid (Fut wo wr)) (fun _ i _ => (eof es n v).length - (intOf i).toNat)
        case atStart => exact ⟨0, Z, Nat.zero_le _, rfl, rfl, Lib.hid rfl, HIZ, HB4⟩
        case round =>
          clear HB4
          obtain ⟨p, x, hp, rfl, rfl, hx, hIx, hFo⟩ := hrel
          by_cases hpl : p < (eof es n v).length
          · obtain ⟨i, hi⟩ := get_lt rfl hpl
            have hin := (mem_eof.1 (List.mem_of_getElem? hi)).1
            obtain ⟨b4, o4, rfl, hci⟩ := HRD2.out p i hi
            have hci2 := hFo.out.cell (hKp.out _ _ hci)
            obtain ⟨y, hy⟩ := get_lt HWL.out hin
            obtain ⟨b5, o5, rfl, hcw⟩ := HRW.out i y hy
            have hcw2 := (hFw.out.trans hFo.out).cell hcw
            obtain ⟨z, hz⟩ := get_lt HL.out hin
            obtain ⟨b6, o6, rfl, hce⟩ := HR.out.1 i z hz
            have hce2 := (hFw.out.trans hFo.out).cell (hce 1 _ (by decide) rfl)
            have hbx3 := hFo.out.cell (hKp.out _ _ hbx2)
            have HZT := Lib.hid (HR.out.2 z (List.mem_of_getElem? hz)).1
            have hzl : z.t.length ≤ 9223372036854775807 := (HR.out.2 z (List.mem_of_getElem? hz)).2
            have HZV := Lib.hid (HT.out z (List.mem_of_getElem? hz))
            have HTLZ := Lib.hid (tl_of hz)
            have HYI := Lib.hid (HWI.out y (List.mem_of_getElem? hy))
            have HYD := Lib.hid (show ws.getD i 0 = y from by rw [List.getD_eq_getElem?_getD, hy]; rfl)
            have HI := Lib.hid hi
            clear hi hci hy hcw hz hce
            obtain ⟨zh, zt, zc, zl0, zl1, zA, zk⟩ := z
            simp only at HZT hzl HZV HTLZ hce2
            obtain ⟨wi, rfl⟩ : ∃ q, q = wr := ⟨_, rfl⟩
            go_wp2_with fail
            clear hci2 hcw2 hce2 hbx3
            go_loopw [17, 72] (fun s i wr => ∃ (k : Nat) (a : Int), k ≤ zt.length ∧ i = .int .i64 k ∧ s = (Value.int .i64) a ∧ Hid (a = ((zt.map Int.toNat).take k).foldl (fun a t => mul a (O t)) y) ∧ Hid (Inv a) ∧ Hid (Fut wi wr)) (fun _ i _ => zt.length - (intOf i).toNat)
            case atStart => exact ⟨0, y, Nat.zero_le _, rfl, rfl, Lib.hid rfl, HYI, Lib.hid (Fut.refl _)⟩
            case round =>
              obtain ⟨k, a, hk, rfl, rfl, ha, hIa, hFi⟩ := hrel
              by_cases hkt : k < zt.length
              · obtain ⟨y2, hy2⟩ := get_lt rfl hkt
                have hyv := HZV.out y2 (List.mem_of_getElem? hy2)
                obtain ⟨t, rfl⟩ : ∃ t : Nat, y2 = t := Int.eq_ofNat_of_zero_le hyv.1
                have htN : t < N := by have := hyv.2; omega
                obtain ⟨b7, o7, rfl, hct⟩ := HZT.out k _ hy2
                have hct2 := ((hFw.out.trans hFo.out).trans hFi.out).cell hct
                have r0 : ∀ dd os, (fut wr dd os).cell? ⟨d, t, none⟩ = some ((Value.int .i64) (O t)) := cell_fut ((hFo.out.trans hFi.out).cell (hrow.out.cell htN))
                have HA2 := Lib.hid (show mul a (O t) = ((zt.map Int.toNat).take (k + 1)).foldl (fun a t => mul a (O t)) y from by
                  rw [List.take_add_one, List.getElem?_map, hy2, List.foldl_append, ← ha.out]; rfl)
                clear hy2 hyv hct
                obtain ⟨wk, rfl⟩ : ∃ q, q = wr := ⟨_, rfl⟩
                go_wp2_with fail
                refine wp_region_M o_hypergraph_Inside_int_19 (by kernel_rfl) (by kernel_rfl) (by intro c a d v w h; cases d <;> exact h) ?_; unfold o_hypergraph_Inside_int_19
                iterate 9 (refine wpF_h rfl rfl (fun K hK => ?_); go_simp; refine hK _ _ ?_; clear hK K)
                refine wpF_o rfl rfl (fun K hK => ?_)
                go_simp
                refine (HCM.out a (O t) _ hIa.out (hIO.out t)).mono ?_
                rintro e w5 ⟨rfl, hb5⟩
                refine hK _ _ (.inr hb5) ?_
                clear hK K
                have HB5 := Lib.hid ((hFi.out.drew).trans hb5)
                clear hb5
                repeat (refine wpF_h rfl rfl (fun K hK => ?_); go_simp; refine hK _ _ ?_; clear hK K)
                refine wpF_nil ?_
                go_wp2_with fail
                exact ⟨⟨k + 1, mul a (O t), by omega, by go_num, rfl, HA2, Lib.hid (HIM.out _ _ hIa.out (hIO.out t)), HB5⟩, by simp [intOf]; omega⟩
              · have HAE := Lib.hid (show a = edgeV mul es O y i from by
                  rw [ha.out, List.take_of_length_le (by rw [List.length_map]; omega)]
                  unfold edgeV; rw [HTLZ.out])
                go_wp2_with (refine (HCA.out x a _ hIx.out hIa.out).mono ?_; rintro e w6 ⟨rfl, hb6⟩; have HB6 := Lib.hid ((hFo.out.trans hFi.out).trans hb6); clear hb6)
                refine ⟨⟨p + 1, add x a, by omega, by go_num, rfl, Lib.hid ?_, Lib.hid (HIA.out _ _ hIx.out hIa.out), HB6⟩, by simp [intOf]; omega⟩
                rw [List.take_add_one, HI.out, List.foldl_append, ← hx.out]
                simp only [Option.toList_some, List.foldl_cons, List.foldl_nil]
                rw [HYD.out, ← HAE.out]
          · have hxe : x = nodeV Z 0 mul add es ws n O v := by
              rw [hx.out, List.take_of_length_le (by omega)]; rfl
            have HXE := Lib.hid hxe
            have hr2 : wr.rowIs d 3 N (fun i => (Value.int .i64) (O i)) := hrow.out.of_block (hFo.out.block d hrow.out.lt)
            have hcd := hr2.cell hvN
            have hfd := hr2.frozen v
            have HR2 := Lib.hid (row_upd (i := v) (x := x) hr2)
            have hds : w2.heap.size ≤ d := by omega
            clear hxe hr2
            obtain ⟨wi, rfl⟩ : ∃ q, q = wr := ⟨_, rfl⟩
            go_wp2_with fail
            refine ⟨⟨j + 1, upd O v x, by omega, by go_num, Lib.hid ?_, Lib.hid ?_, Lib.hid ((hKp.out.fut hFo.out).set hds _), Lib.hid ((hFw.out.trans hFo.out).setCell (by simp only; omega) _), HR2⟩, by simp [intOf]; omega⟩
            · rw [List.take_add_one, HVJ.out, List.foldl_append, ← hO.out, HXE.out]; rfl
            · intro q
              by_cases e : q = v
              · subst e; rw [upd_same]; exact hIx.out
              · rw [upd_other _ _ _ _ e]; exact hIO.out q
      · have hOe : O = insO Z 0 mul add es ws n l := by
          rw [hO.out, List.take_of_length_le (by omega)]; rfl
        have HOE := Lib.hid hOe
        clear hOe
        go_wp2_with fail
        go_ret2
        refine ⟨⟨d, rfl, ?_⟩, hFw.out⟩
        have := rd_row (f := (Value.int .i64)) hrow.out
        rw [HOE.out] at this
        exact this
end Go.Proofs.Ytoiffhoiklafhaa
/-
  Derivable of the reference, walked.
-/
namespace Go.Proofs.Ytoiffhoiklafhaa
open Go.RowKit PK
attribute [local go_sem] Oper.lit Oper.litS fut_fut fut_drew World.cell?_alloc_some
set_option maxRecDepth 4000 in
set_option maxHeartbeats 1600000 in
theorem all_any (A : Option Addr) (n c : Nat) (ts : List Int) (d N : Nat) (O : Nat → Bool) (r : Bool) (w : World) (hl : ts.length = n) (hn : n ≤ maxLen) (hr : (ts.map Int.toNat).all O = r) (ht : ∀ t ∈ ts, 0 ≤ t ∧ t < N) (hR : Rd1 w A (.int .i64 ·) ts) (hrow : w.rowIs d 4 N (fun i => .bool (O i))) :
    Calls Try.prog 58 #[.slice A n c, .slice (some ⟨d, 0, none⟩) N N] w fun e w' => e = .returned (.bool r) ∧ w' = w := by
  have hn' : n ≤ 9223372036854775807 := hn
  have HR := Lib.hid hR
  have HL := Lib.hid hl
  have HT := Lib.hid ht
  have HROW := Lib.hid hrow
  have HRR := Lib.hid hr
  clear hR hl ht hrow hn hr
  go_enter Try.func58, Try.ntmps58
  go_wp2_with fail
  go_loopw [5] (fun i wr => ∃ k : Nat, k ≤ n ∧ i = .int .i64 k ∧ Hid (((ts.map Int.toNat).take k).all O = true) ∧ wr = w) (fun i _ => n - (intOf i).toNat)
  case atStart => exact ⟨0, Nat.zero_le _, rfl, Lib.hid (by simp), rfl⟩
  case round =>
    obtain ⟨k, hk, rfl, hall, rfl⟩ := hrel
    by_cases hlt : k < n
    · obtain ⟨y, hy⟩ := get_lt HL.out hlt
      have hyv := HT.out y (List.mem_of_getElem? hy)
      obtain ⟨t, rfl⟩ : ∃ t : Nat, y = t := Int.eq_ofNat_of_zero_le hyv.1
      have htN : t < N := by have := hyv.2; omega
      obtain ⟨b, o, rfl, hc⟩ := HR.out k _ hy
      have hcd := HROW.out.cell htN
      have HY := Lib.hid (show (ts.map Int.toNat)[k]? = some t from by rw [List.getElem?_map, hy]; rfl)
      clear hy hyv
      cases ho : O t
      · rw [ho] at hcd
        have HFin := Lib.hid (show r = false from by rw [← HRR.out]; exact all_not (p := O) HY.out ho)
        clear ho
        go_wp2_with fail
        go_ret
        exact ⟨by rw [HFin.out]; rfl, rfl⟩
      · rw [ho] at hcd
        have HK := Lib.hid (take_all hall.out HY.out ho)
        clear ho
        go_wp2_with fail
        exact ⟨⟨k + 1, by omega, by go_num, HK, by first | rfl | trivial⟩, by simp [intOf]; omega⟩
    · have HFin := Lib.hid (show r = true from by rw [← HRR.out]; exact all_take hall.out (by rw [List.length_map, HL.out]; omega))
      go_wp2_with fail
      go_ret
      exact ⟨by rw [HFin.out]; rfl, rfl⟩
/-- the next round of the closure -/
structure DK (es : List EI) (N k : Nat) (O0 O : Nat → Bool) (b : Bool) : Prop where
  a : ∀ v, O v = true → Der es v
  f : b = false → O = O0 ∧ ∀ i, i < k → (tl es i).all O = true → O (headAt es i) = true
  t : b = true → nF N O < nF N O0
  le : nF N O ≤ nF N O0
theorem DK.start {es : List EI} {N : Nat} {O : Nat → Bool} (h : ∀ v, O v = true → Der es v) : DK es N 0 O O false := ⟨h, fun _ => ⟨rfl, fun i hi => (by omega)⟩, fun h => (by cases h), Nat.le_refl _⟩
theorem DK.mark {es : List EI} {N k : Nat} {O0 O : Nat → Bool} {b : Bool} (h : DK es N k O0 O b) (hk : k < es.length) (hh : headAt es k < N) (ho : O (headAt es k) = false) (ht : (tl es k).all O = true) : DK es N (k + 1) O0 (upd O (headAt es k) true) true := by
  have h1 := nF_upd N _ O hh ho
  refine ⟨fun v hv => ?_, fun h => (by cases h), fun _ => (by have := h.le; omega), by have := h.le; omega⟩
  rcases upd_true hv with rfl | hv
  · exact .mk k hk (fun t htm => h.a t (List.all_eq_true.1 ht t htm))
  · exact h.a v hv
theorem DK.skip {es : List EI} {N k : Nat} {O0 O : Nat → Bool} {b : Bool} (h : DK es N k O0 O b) (hs : O (headAt es k) = true ∨ (tl es k).all O = false) : DK es N (k + 1) O0 O b :=
  ⟨h.a, fun hb => ⟨(h.f hb).1, fun i hi ht => by
    by_cases e : i = k
    · subst e
      rcases hs with hs | hs
      · exact hs
      · rw [hs] at ht; cases ht
    · exact (h.f hb).2 i (by omega) ht⟩, h.t, h.le⟩
theorem DK.done {es : List EI} {N : Nat} {O0 O : Nat → Bool} (h : DK es N es.length O0 O false) : ∀ v, O v = true ↔ Der es v := fun v => ⟨h.a v, fun hd => by
  induction hd with
  | mk i hi ht ih => exact (h.f rfl).2 i hi (List.all_eq_true.2 (fun t htm => ih t htm))⟩
end Go.Proofs.Ytoiffhoiklafhaa
/-
  Order of the reference, walked.
-/
namespace Go.Proofs.Ytoiffhoiklafhaa
open Go.RowKit PK
attribute [local go_sem] Oper.lit Oper.litS fut_fut fut_drew World.cell?_alloc_some
theorem all_pre {es : List EI} {D : Nat → Bool} {v k : Nat} (h : ((List.range k).all fun i => headAt es i != v || (tl es i).all D) = true) (hk : headAt es k ≠ v ∨ (tl es k).all D = true) : ((List.range (k + 1)).all fun i => headAt es i != v || (tl es i).all D) = true := by
  rw [List.range_succ, List.all_append, h]
  simp only [List.all_cons, List.all_nil, Bool.and_true, Bool.true_and, Bool.or_eq_true, bne_iff_ne, ne_eq]
  exact hk
theorem all_bad {es : List EI} {D : Nat → Bool} {v k : Nat} (hk : k < es.length) (h1 : headAt es k = v) (h2 : (tl es k).all D = false) : readyB es D v = false := by
  unfold readyB
  exact List.all_eq_false.2 ⟨k, List.mem_range.2 hk, by simp [h1, h2]⟩
set_option maxRecDepth 4000 in
set_option maxHeartbeats 3200000 in
theorem ready_any (N v : Nat) (A : Option Addr) (n c d : Nat) (es : List EI) (D : Nat → Bool) (w : World) (hl : es.length = n) (hn : n ≤ 1000) (hhd : ∀ e ∈ es, 0 ≤ e.h ∧ e.h < N) (htl : ∀ e ∈ es, ∀ t ∈ e.t, 0 ≤ t ∧ t < N) (hR : RdE w A es) (hrow : w.rowIs d 4 N (fun i => .bool (D i))) :
    Calls Try.prog 43 #[hv N A n c, .int .i64 v, .slice (some ⟨d, 0, none⟩) N N] w fun e w' => e = .returned (.bool (readyB es D v)) ∧ Below w.heap.size w w' := by
  have HL := Lib.hid hl
  have HV := Lib.hid hhd
  have HT := Lib.hid htl
  have HR := Lib.hid (hR.fut ((Fut.refl w).alloc (.cells #[.int .i64 N, .slice A n c] 24)))
  have HROW := Lib.hid (hrow.alloc (.cells #[.int .i64 N, .slice A n c] 24))
  have HF := Lib.hid ((Fut.refl w).alloc (.cells #[.int .i64 N, .slice A n c] 24))
  have x0 : (w.alloc (.cells #[.int .i64 N, .slice A n c] 24)).cell? ⟨w.heap.size, 0, none⟩ = some (.int .i64 N) := by (repeat (first | exact (cell_al_new _ _ _ _ _ _ (by first | rfl | (simp only [World.size_alloc]))).trans rfl | refine (cell_al_old _ _ _ (by first | omega | (simp only [World.size_alloc]; omega))).trans ?_))
  have x1 : (w.alloc (.cells #[.int .i64 N, .slice A n c] 24)).cell? ⟨w.heap.size, 1, none⟩ = some (.slice A n c) := by (repeat (first | exact (cell_al_new _ _ _ _ _ _ (by first | rfl | (simp only [World.size_alloc]))).trans rfl | refine (cell_al_old _ _ _ (by first | omega | (simp only [World.size_alloc]; omega))).trans ?_))
  clear hl hhd htl hR hrow
  go_enter Try.func43, Try.ntmps43
  go_wp2_with fail
  generalize w.alloc (.cells #[.int .i64 N, .slice A n c] 24) = wb at *
  go_loopw [7] (fun i wr => ∃ k : Nat, k ≤ n ∧ i = .int .i64 k ∧ Hid (((List.range k).all fun i => headAt es i != v || (tl es i).all D) = true) ∧ wr = wb) (fun i _ => n - (intOf i).toNat)
  case atStart => exact ⟨0, Nat.zero_le _, rfl, Lib.hid rfl, rfl⟩
  case round =>
    obtain ⟨k, hk, rfl, hall, rfl⟩ := hrel
    by_cases hlt : k < n
    · obtain ⟨x, hx⟩ := get_lt HL.out hlt
      obtain ⟨b, o, rfl, hc⟩ := HR.out.1 k x hx
      have c0 := hc 0 _ (by decide) rfl
      have c1 := hc 1 _ (by decide) rfl
      simp only [Nat.add_zero] at c0
      have hxh := HV.out x (List.mem_of_getElem? hx)
      have HXT := Lib.hid (HR.out.2 x (List.mem_of_getElem? hx))
      have HXV := Lib.hid (HT.out x (List.mem_of_getElem? hx))
      have HTL := Lib.hid (tl_of hx)
      have hha := headAt_of hx
      clear hx hc
      obtain ⟨xh, xt, xc, xl0, xl1, xA, xk⟩ := x
      simp only at HXT HXV HTL hxh hha c0 c1
      obtain ⟨hd, rfl⟩ : ∃ m : Nat, xh = m := Int.eq_ofNat_of_zero_le hxh.1
      have HHD := Lib.hid (show headAt es k = hd from hha)
      clear hxh hha
      by_cases hdv : hd = v
      · subst hdv
        have hb : ((hd : Int) == (hd : Int)) = true := by simp
        cases hal : (xt.map Int.toNat).all D
        · have HB := Lib.hid (all_bad (by rw [HL.out]; exact hlt) HHD.out (by rw [HTL.out]; exact hal))
          have HAL := Lib.hid hal
          clear hal
          go_wp2_with (go_at_call 58; refine (all_any xA xt.length xk xt d N D _ _ rfl HXT.out.2 HAL.out HXV.out HXT.out.1 HROW.out).mono ?_; rintro e w1 ⟨rfl, rfl⟩)
          go_ret
          exact ⟨by rw [HB.out]; rfl, HF.out⟩
        · have HB := Lib.hid (all_pre hall.out (.inr (by rw [HTL.out]; exact hal)))
          have HAL := Lib.hid hal
          clear hal
          go_wp2_with (go_at_call 58; refine (all_any xA xt.length xk xt d N D _ _ rfl HXT.out.2 HAL.out HXV.out HXT.out.1 HROW.out).mono ?_; rintro e w1 ⟨rfl, rfl⟩)
          exact ⟨⟨k + 1, by omega, by go_num, HB, by first | rfl | trivial⟩, by simp [intOf]; omega⟩
      · have hb : ((hd : Int) == (v : Int)) = false := by
          rw [beq_eq_false_iff_ne]; omega
        have HB := Lib.hid (all_pre hall.out (.inl (by rw [HHD.out]; exact hdv)))
        clear hdv
        go_wp2_with fail
        exact ⟨⟨k + 1, by omega, by go_num, HB, by first | rfl | trivial⟩, by simp [intOf]; omega⟩
    · have HB := Lib.hid (show readyB es D v = true from by unfold readyB; rw [HL.out, show n = k by omega]; exact hall.out)
      go_wp2_with fail
      go_ret
      exact ⟨by rw [HB.out]; rfl, HF.out⟩
set_option maxRecDepth 4000 in
set_option maxHeartbeats 6400000 in
theorem rOrder_any (N : Nat) (A : Option Addr) (n c : Nat) (es : List EI) (w : World) (hl : es.length = n) (hn : n ≤ 1000) (hN : N ≤ 1048576) (hhd : ∀ e ∈ es, 0 ≤ e.h ∧ e.h < N) (htl : ∀ e ∈ es, ∀ t ∈ e.t, 0 ≤ t ∧ t < N) (hR : RdE w A es) :
    Calls Try.prog 24 #[hv N A n c] w fun e w' => OrdRes w' e (ordS es N) ∧ Below w.heap.size w w' := by
  have HR := Lib.hid hR
  have HL := Lib.hid hl
  have HV := Lib.hid hhd
  have HT := Lib.hid htl
  clear hR hl hhd htl
  obtain ⟨i0, hi, hz0, hz1, hz2⟩ := info_parts info_bool
  have HW := Lib.hid (show Fut w ((w.alloc (.cells #[.int .i64 N, .slice A n c] 24)).alloc (.cells (madeCells #[.bool false] N) 4)) from ((Fut.refl w).alloc _).alloc _)
  have HROW := Lib.hid (show ((w.alloc (.cells #[.int .i64 N, .slice A n c] 24)).alloc (.cells (madeCells #[.bool false] N) 4)).rowIs (w.heap.size + 1) 4 N (fun _ => .bool false) from by
    have := World.rowIs_made (w.alloc (.cells #[.int .i64 N, .slice A n c] 24)) (.bool false) N 4
    simpa only [World.size_alloc] using this)
  have hb0 : ((w.alloc (.cells #[.int .i64 N, .slice A n c] 24)).alloc (.cells (madeCells #[.bool false] N) 4)).cell? ⟨w.heap.size, 0, none⟩ = some (.int .i64 N) := by (repeat (first | exact (cell_al_new _ _ _ _ _ _ (by first | rfl | (simp only [World.size_alloc]))).trans rfl | refine (cell_al_old _ _ _ (by first | omega | (simp only [World.size_alloc]; omega))).trans ?_))
  have hb1 : ((w.alloc (.cells #[.int .i64 N, .slice A n c] 24)).alloc (.cells (madeCells #[.bool false] N) 4)).cell? ⟨w.heap.size, 1, none⟩ = some (.slice A n c) := by (repeat (first | exact (cell_al_new _ _ _ _ _ _ (by first | rfl | (simp only [World.size_alloc]))).trans rfl | refine (cell_al_old _ _ _ (by first | omega | (simp only [World.size_alloc]; omega))).trans ?_))
  have HSZ := Lib.hid (show w.heap.size + 2 ≤ ((w.alloc (.cells #[.int .i64 N, .slice A n c] 24)).alloc (.cells (madeCells #[.bool false] N) 4)).heap.size from by simp only [World.size_alloc]; omega)
  go_enter Try.func24, Try.ntmps24
  go_wp2_with (refine wpList_make_row _ rfl _ _ 64 rfl 4 i0 (.bool false) Try.underlying64 hi hz0 hz1 rfl .i64 .i64 N rfl rfl (by rw [hz2]; omega) (by omega) ?_)
  have HB0 := Lib.hid hb0
  have HB1 := Lib.hid hb1
  clear hb0 hb1
  go_loopw [5] (fun lv wr => ∃ (D : Nat → Bool) (l : List Nat), Hid (OI es N D l) ∧ Hid (wr.rowIs (w.heap.size + 1) 4 N (fun i => .bool (D i))) ∧ Hid (Own wr (w.heap.size + 2) lv l) ∧ Hid (Fut w wr) ∧ Hid (wr.cell? ⟨w.heap.size, 0, none⟩ = some (.int .i64 N)) ∧ Hid (wr.cell? ⟨w.heap.size, 1, none⟩ = some (.slice A n c)) ∧ Hid (w.heap.size + 2 ≤ wr.heap.size)) (fun lv _ => N - lenOf lv)
  case atStart => exact ⟨_, [], Lib.hid (OI.start es N), HROW, Lib.hid (Own.nil _ _), HW, HB0, HB1, HSZ⟩
  case round =>
    clear HROW HW HB0 HB1 HSZ
    obtain ⟨D, l, hOI, hrow, hown, hF, hB0, hB1, hSZ⟩ := hrel
    have hb0 := hB0.out
    obtain ⟨la, lc, hlv, hla⟩ := hown.out.form
    subst hlv
    by_cases hln : l.length < N
    · obtain ⟨wo, rfl⟩ : ∃ x, x = wr := ⟨_, rfl⟩
      go_wp2_with fail
      clear hb0
      go_loopw [6, 7] (fun nx i wr => ∃ v0 : Nat, v0 ≤ N ∧ i = .int .i64 v0 ∧ ((nx = .int .i64 (-1) ∧ Hid (∀ u, u < v0 → (!(D u) && readyB es D u) = false)) ∨ ∃ u0 : Nat, nx = .int .i64 u0 ∧ u0 < N ∧ Hid (nextO es N D = some u0)) ∧ Hid (Fut wo wr)) (fun _ i _ => N - (intOf i).toNat)
      case atStart => exact ⟨0, Nat.zero_le _, rfl, .inl ⟨rfl, Lib.hid (fun u hu => by omega)⟩, Lib.hid (Fut.refl _)⟩
      case round =>
        obtain ⟨v0, hv0, rfl, hnx, hFo⟩ := hrel
        have hb0 := hFo.out.cell hB0.out
        have hb1 := hFo.out.cell hB1.out
        have hr2 := hrow.out.of_block (hFo.out.block _ hrow.out.lt)
        have HR2 := Lib.hid hr2
        have hszw : w.heap.size + 2 ≤ wr.heap.size := Nat.le_trans hSZ.out hFo.out.size
        rcases hnx with ⟨rfl, hpre⟩ | ⟨u0, rfl, hu0, hnx⟩
        · by_cases hv : v0 < N
          · have hcd := hr2.cell hv
            have go_on : (!(D v0) && readyB es D v0) = false → ∀ u, u < v0 + 1 → (!(D u) && readyB es D u) = false := fun hb u hu => by
              by_cases e : u = v0
              · subst e; exact hb
              · exact hpre.out u (by omega)
            have HGO := Lib.hid go_on
            clear go_on hr2
            obtain ⟨wi, rfl⟩ : ∃ x, x = wr := ⟨_, rfl⟩
            cases hD : D v0
            · rw [hD] at hcd
              cases hrd : readyB es D v0
              · have HBAD := Lib.hid (HGO.out (by rw [hrd]; simp))
                have HRD := Lib.hid hrd
                clear hD hrd
                go_wp2_with (go_at_call 43; refine (ready_any N v0 A n c (w.heap.size + 1) es D _ HL.out hn HV.out HT.out (HR.out.fut (hF.out.trans hFo.out)) HR2.out).mono ?_; rintro e w1 ⟨rfl, hb1⟩; rw [HRD.out]; have HF1 := Lib.hid (hFo.out.trans hb1); clear hb1)
                exact ⟨⟨v0 + 1, by omega, by go_num, .inl ⟨rfl, HBAD⟩, HF1⟩, by simp [intOf]; omega⟩
              · have HNX := Lib.hid (nextO_some hv (show (!(D v0) && readyB es D v0) = true from by rw [hD, hrd]; rfl) hpre.out)
                have HRD := Lib.hid hrd
                clear hD hrd
                go_wp2_with (go_at_call 43; refine (ready_any N v0 A n c (w.heap.size + 1) es D _ HL.out hn HV.out HT.out (HR.out.fut (hF.out.trans hFo.out)) HR2.out).mono ?_; rintro e w1 ⟨rfl, hb1⟩; rw [HRD.out]; have HF1 := Lib.hid (hFo.out.trans hb1); clear hb1)
                exact ⟨⟨v0 + 1, by omega, by go_num, .inr ⟨v0, rfl, hv, HNX⟩, HF1⟩, by simp [intOf]; omega⟩
            · rw [hD] at hcd
              have HBAD := Lib.hid (HGO.out (by rw [hD]; rfl))
              clear hD
              go_wp2_with fail
              exact ⟨⟨v0 + 1, by omega, by go_num, .inl ⟨rfl, HBAD⟩, hFo⟩, by simp [intOf]; omega⟩
          · have hvN : v0 = N := by omega
            have HST := Lib.hid (hOI.out.stuck hln (nextO_none (by rw [← hvN]; exact hpre.out)))
            clear hvN hr2
            go_wp2_with fail
            go_ret2
            refine ⟨?_, hF.out.trans hFo.out⟩
            rw [HST.out]
            rfl
        · have hcd := hr2.cell hu0
          have hfd := hr2.frozen u0
          have HOW := Lib.hid ((hown.out.kept (row := none) ⟨hFo.out.os, hFo.out.tape, hFo.out.output, hFo.out.size, fun q hq _ => hFo.out.block q hq⟩ (by cases h : (Value.slice la l.length lc).ownBlock <;> simp)).setOther (a := ⟨w.heap.size + 1, u0, none⟩) (by simp only; omega) (.bool true) |>.alloc (.cells #[nv u0] 3))
          have hlb : l.length ≤ 17000000000000 := by omega
          have HOI2 := Lib.hid (hOI.out.step hln hnx.out hu0)
          clear hr2
          obtain ⟨wi, rfl⟩ : ∃ x, x = wr := ⟨_, rfl⟩
          rcases Nat.lt_or_ge v0 N with hvv | hvv
          all_goals
            go_wp2_with (at_builtin; refine wpList_pushI rfl (.tmp 43) (.tmp 45) rfl (w.heap.size + 2) _ l rfl HOW.out wi.heap.size u0 rfl (by rw [← World.size_setCell wi ⟨w.heap.size + 1, u0, none⟩ (.bool true)]; exact heap_alloc_new _ _) hlb (by rw [World.size_alloc, World.size_setCell]; omega) ?_; intro g2 cp2 w2 hown2 hgr2 _; have HOWN2 := Lib.hid hown2; have HGR2 := Lib.hid hgr2; clear hown2 hgr2)
            have hne2 : ∀ q, q < w.heap.size + 2 → some q ≠ (Value.slice la l.length lc).ownBlock := fun q hq e => by have := (hown.out.lt q e.symm).1; omega
            have hkeep : ∀ q, q < w.heap.size + 2 → w2.heap[q]? = ((wi.setCell ⟨w.heap.size + 1, u0, none⟩ (.bool true)).alloc (.cells #[nv u0] 3)).heap[q]? := fun q hq => HGR2.out.block q (by rw [World.size_alloc, World.size_setCell]; omega) (hne2 q hq)
            have hcell : ∀ (p : Addr) (x : Value), p.block < w.heap.size + 1 → wi.cell? p = some x → w2.cell? p = some x := fun p x hp hc => (World.cell?_of_block (hkeep _ (by omega))).trans (((Fut.refl _).alloc _).cell (cell_set hc (by simp only; omega)))
            refine ⟨⟨upd D u0 true, l ++ [u0], HOI2, Lib.hid (((row_upd (f := Value.bool) (i := u0) (x := true) HR2.out).alloc (.cells #[nv u0] 3)).of_block (hkeep _ (by omega))), HOWN2, Lib.hid (Below.grown (((hF.out.trans hFo.out).setCell (by simp only; omega) _).alloc _) HGR2.out (by rw [World.size_alloc, World.size_setCell]; omega) (fun q hq => by have := (hown.out.lt q hq).1; omega)), Lib.hid (hcell _ _ (by simp only; omega) hb0), Lib.hid (hcell _ _ (by simp only; omega) hb1), Lib.hid ?_⟩, by simp only [lenOf]; omega⟩
            have := HGR2.out.size
            rw [World.size_alloc, World.size_setCell] at this
            omega
    · have HD := Lib.hid (hOI.out.done (by omega))
      have HR2 := Lib.hid hown.out.rd
      have hlN : l.length = N := HD.out.2
      go_wp2_with fail
      go_ret2
      refine ⟨?_, hF.out⟩
      rw [HD.out.1]
      exact ⟨la, lc, by rw [HD.out.2]; rfl, HR2.out.2⟩
end Go.Proofs.Ytoiffhoiklafhaa
