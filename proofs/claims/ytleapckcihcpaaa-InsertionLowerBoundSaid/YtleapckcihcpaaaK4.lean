/-
  One element appended to a slice of the call's own; the reference's Tails.
-/
import Derived.Test.YtleapckcihcpaaaK3
import Derived.Deep.AppendLies
namespace Go.Proofs.Ytleapckcihcpaaa
open Go.RowKit Go.Deep PK
attribute [local go_sem] Oper.lit Oper.litS fut_fut fut_drew World.cell?_alloc_some
section
variable {w : World} {o : Oper} {a : Act} {Q : Exit → Act → World → Prop}
theorem wp_push {K : Act → World → Prop} (T E : TypeId) (sz bytes : Nat) (zero : Value) (hT : Try.prog.underlying T = some (.slice E)) (hinfo : (Try.prog.info? E).map (fun i => (i.zero, i.size, i.bytes)) = some (some zero, sz, bytes)) (hzs : zero.cells.size = sz) (hsz : 0 < sz) (hby : bytes ≤ 100)
    (s x : Operand) (ho : o.op = .call { callee := .builtin .append, args := #[s, x], argTypes := #[T, T] })
    (base : Nat) (v : Value) (n : Nat) (xs : List Value) (hs : a.eval s = v) (hown : w.ownsRow base E sz v n xs) (b : Nat) (cs : List Value) (hx : a.eval x = .slice (some ⟨b, 0, none⟩) 1 1) (hb : w.heap[b]? = some (.cells cs.toArray E (0, 0))) (hcl : cs.length = sz) (h1 : ∀ u ∈ cs, u.oneCell' = true)
    (hn : n ≤ 1000000000000) (hbase : base ≤ w.heap.size)
    (h : ∀ g cap w', w'.ownsRow base E sz (.slice (some ⟨g, 0, none⟩) (n + 1) cap) (n + 1) (xs ++ cs) → w.grownBy w' v.ownBlock → (v.ownBlock = some g ∨ g = w.heap.size) → K (a.put o.dst (.slice (some ⟨g, 0, none⟩) (n + 1) cap)) w') : o.wp Try.prog a w K Q := by
  obtain ⟨i, hi, hzz⟩ := Option.map_eq_some_iff.1 hinfo
  simp only [Prod.mk.injEq] at hzz
  obtain ⟨hz, hs1, hb1⟩ := hzz
  refine wp_append_lies w s x T ho base E i zero sz bytes hT hi hz hs1 hb1 hzs hsz v n xs hs hown ⟨b, 0, none⟩ 1 1 cs hx (by omega) ?_ h1 (by decide) (by unfold maxLen; omega) ?_ hbase w.heap.size rfl (fun g cap w' h2 h3 h4 _ => h g cap w' h2 h3 h4)
  · intro j u hj
    have h9 := World.news_of_block (cs := cs.toArray) hb
    exact h9 j u (by simpa using hj)
  · have : (n + 1) * bytes ≤ (n + 1) * 100 := Nat.mul_le_mul_left _ hby
    omega
theorem wpList_push {ops : Array Oper} {rest : List Oper} (hgd : o.guard = none) (T E : TypeId) (sz bytes : Nat) (zero : Value) (hT : Try.prog.underlying T = some (.slice E)) (hinfo : (Try.prog.info? E).map (fun i => (i.zero, i.size, i.bytes)) = some (some zero, sz, bytes)) (hzs : zero.cells.size = sz) (hsz : 0 < sz) (hby : bytes ≤ 100)
    (s x : Operand) (ho : o.op = .call { callee := .builtin .append, args := #[s, x], argTypes := #[T, T] })
    (base : Nat) (v : Value) (n : Nat) (xs : List Value) (hs : a.eval s = v) (hown : w.ownsRow base E sz v n xs) (b : Nat) (cs : List Value) (hx : a.eval x = .slice (some ⟨b, 0, none⟩) 1 1) (hb : w.heap[b]? = some (.cells cs.toArray E (0, 0))) (hcl : cs.length = sz) (h1 : ∀ u ∈ cs, u.oneCell' = true)
    (hn : n ≤ 1000000000000) (hbase : base ≤ w.heap.size)
    (h : ∀ g cap w', w'.ownsRow base E sz (.slice (some ⟨g, 0, none⟩) (n + 1) cap) (n + 1) (xs ++ cs) → w.grownBy w' v.ownBlock → (v.ownBlock = some g ∨ g = w.heap.size) → wpList Try.prog ops Q rest (a.put o.dst (.slice (some ⟨g, 0, none⟩) (n + 1) cap)) w') : wpList Try.prog ops Q (o :: rest) a w :=
  wpList_plain hgd fun _ hK => wp_push T E sz bytes zero hT hinfo hzs hsz hby s x ho base v n xs hs hown b cs hx hb hcl h1 hn hbase fun g cap w' h2 h3 h4 => hK _ _ (h g cap w' h2 h3 h4)
end
theorem encV_len (a : VV) : (encV a).length = 2 := rfl
/-- a slice of values of the call's own -/
abbrev OwnV (w : World) (B : Nat) (v : Value) (l : List VV) : Prop := w.ownsRow B 40 2 v l.length (l.flatMap encV)
theorem own_form {w : World} {B sz n : Nat} {E : TypeId} {v : Value} {xs : List Value} (h : w.ownsRow B E sz v n xs) : ∃ A c, v = .slice A n c ∧ (A = none → n = 0) := by
  obtain ⟨_, ⟨hv, hn⟩ | ⟨g, cap, cur, hv, _⟩⟩ := h
  · exact ⟨none, 0, by rw [hv, hn], fun _ => hn⟩
  · exact ⟨_, _, hv, fun e => by cases e⟩
set_option maxHeartbeats 3200000 in
theorem rtails_any (vb N : Nat) (V : Nat → VV) (e : EI) (w : World) (hv : RowV w vb N V) (_hN : N ≤ 1048576)
    (ht : ∀ t ∈ e.t, 0 ≤ t ∧ t < (N : Int)) (hl : e.t.length ≤ 1000000) (hR : Rd1 w e.A (.int .i64 ·) e.t) :
    Calls Try.prog 26 #[.agg #[.int .i64 e.h, .slice e.A e.t.length e.k, .int .i64 e.c, .int .i64 e.l0, .int .i64 e.l1], .slice (some ⟨vb, 0, none⟩) N N] w fun r w' => (∃ A c, r = .returned (.slice A e.t.length c) ∧ RdS w' A 2 encV ((e.t.map Int.toNat).map V)) ∧ Below w.heap.size w w' := by
  obtain ⟨xh, xt, xc, xl0, xl1, xA, xk⟩ := e
  simp only at ht hl hR ⊢
  obtain ⟨n, hn⟩ : ∃ n, n = xt.length := ⟨_, rfl⟩
  rw [← hn] at hl ⊢
  have HT := Lib.hid ht
  have HN := Lib.hid hn
  have hn63 : n ≤ 9223372036854775807 := by omega
  have HW := Lib.hid (show Fut w (w.alloc (.cells #[.int .i64 xh, .slice xA n xk, .int .i64 xc, .int .i64 xl0, .int .i64 xl1] 59)) from (Fut.refl w).alloc _)
  have HR := Lib.hid (hR.fut HW.out)
  have HV := Lib.hid (hv.fut HW.out)
  have q1 : ∀ dd os, (fut (w.alloc (.cells #[.int .i64 xh, .slice xA n xk, .int .i64 xc, .int .i64 xl0, .int .i64 xl1] 59)) dd os).cell? ⟨w.heap.size, 1, none⟩ = some (.slice xA n xk) := cell_fut (by (repeat (first | exact (cell_al_new _ _ _ _ _ _ (by first | rfl | (simp only [World.size_alloc]))).trans rfl | refine (cell_al_old _ _ _ (by first | omega | (simp only [World.size_alloc]; omega))).trans ?_)))
  clear hR ht hn hv
  go_enter Try.func26, Try.ntmps26
  go_wp2_with fail
  have HB0 := Lib.hid (show w.heap.size + 1 ≤ (w.alloc (.cells #[.int .i64 xh, .slice xA n xk, .int .i64 xc, .int .i64 xl0, .int .i64 xl1] 59)).heap.size from by rw [World.size_alloc]; omega)
  generalize w.alloc (.cells #[.int .i64 xh, .slice xA n xk, .int .i64 xc, .int .i64 xl0, .int .i64 xl1] 59) = wb at *
  go_loopw [5, 6] (fun x i wr => ∃ j : Nat, j ≤ n ∧ i = .int .i64 j ∧ Hid (wr.ownsRow wb.heap.size 40 2 x j (((xt.take j).map (fun t => V t.toNat)).flatMap encV)) ∧ Fut wb wr) (fun _ i _ => n - (intOf i).toNat)
  case atStart => exact ⟨0, Nat.zero_le _, rfl, Lib.hid (World.ownsRow_nil _ _ _ _), Fut.refl _⟩
  case round =>
    obtain ⟨j, hj, rfl, HO, hF⟩ := hrel
    obtain ⟨dd, oo, rfl⟩ := fut_of hF
    by_cases hlt : j < n
    · obtain ⟨y, hy⟩ := get_lt HN.out.symm hlt
      have hyr := HT.out y (List.mem_of_getElem? hy)
      obtain ⟨t, rfl⟩ : ∃ t : Nat, y = t := ⟨y.toNat, by omega⟩
      have htN : t < N := by omega
      obtain ⟨b, o, rfl, hc'⟩ := HR.out j _ hy
      have g0 := hF.cell hc'
      have g2 := (HV.out.fut hF).c htN
      have g3 := (HV.out.fut hF).s htN
      have HY := Lib.hid hy
      have HFF := Lib.hid hF
      clear hy hc' hyr hF
      obtain ⟨XA, Xc, rfl, _⟩ := own_form HO.out
      have hown := World.ownsRow.alloc HO.out (.cells #[.int .i64 (V t).c, .int .i64 (V t).s] 40)
      have hfo : Fut wb ((fut wb dd oo).alloc (.cells #[.int .i64 (V t).c, .int .i64 (V t).s] 40)) := HFF.out.alloc _
      have HOW := Lib.hid hown
      have HFO := Lib.hid hfo
      clear hown hfo
      go_wp2_with (at_builtin; refine wpList_push rfl 29 40 2 16 _ Try.underlying29 info_vv rfl (by decide) (by decide) (.tmp 14) (.tmp 23) rfl wb.heap.size (.slice XA j Xc) j _ rfl HOW.out (fut wb dd oo).heap.size [.int .i64 (V t).c, .int .i64 (V t).s] rfl (heap_new' _ _ _ rfl) rfl (by simp [Value.oneCell']) (by omega) HFO.out.size ?_; intro g cap w' h1 h2 h3)
      refine ⟨⟨j + 1, by omega, by go_num, Lib.hid ?_, Below.grown HFO.out h2 HFO.out.size (fun q hq => (World.ownsRow.lt HOW.out q hq).1)⟩, by simp [intOf]; omega⟩
      rw [List.take_add_one, HY.out, List.map_append, List.flatMap_append]
      exact h1
    · have hjn : j = n := by omega
      have HJ := Lib.hid hjn
      have hl9 : xt.take j = xt := List.take_of_length_le (by rw [← HN.out]; omega)
      have HL9 := Lib.hid hl9
      obtain ⟨XA, Xc, rfl, _⟩ := own_form HO.out
      have HFF := Lib.hid hF
      clear hjn hl9 hF
      go_wp2_with fail
      go_ret
      refine ⟨⟨XA, Xc, by rw [HJ.out]; rfl, ?_⟩, HW.out.trans HFF.out⟩
      have h9 := HO.out
      rw [HL9.out] at h9
      have h8 := RdS.of_own (enc := encV) encV_len (by decide) h9
      rw [List.map_map]
      exact h8
end Go.Proofs.Ytleapckcihcpaaa
