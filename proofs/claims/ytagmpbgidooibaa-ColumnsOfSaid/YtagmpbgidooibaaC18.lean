/-
  Grow from nil, and Concat of three slices of columns.
-/
import Derived.Test.YtagmpbgidooibaaC17
import Derived.Test.YtagmpbgidooibaaC14
import Derived.Lib.AppendZeros
import Derived.Laws.AppendOwnNone
namespace Go.Proofs.Ytagmpbgidooibaa
open Go.RowKit Go.Deep
attribute [local go_sem] Oper.lit Oper.litS fut_fut fut_drew World.cell?_alloc_some
set_option maxHeartbeats 1600000 in
theorem grow_any (n : Nat) (w : World) (hn : n ≤ 100000) :
    Calls Try.prog 43 #[.slice none 0 0, .int .i64 n] w fun e w' => (∃ v, e = .returned v ∧ w'.ownsRow w.heap.size 51 3 v 0 []) ∧ Below w.heap.size w w' := by
  obtain ⟨ci, ca, cz0, cz1, cz2⟩ := info_parts info_col
  by_cases h0 : n = 0
  · subst h0
    go_enter Try.func43, Try.ntmps43
    go_wp2_with fail
    go_ret
    exact ⟨⟨_, rfl, World.ownsRow_nil _ _ _ _⟩, Fut.refl _⟩
  · have h1 : (0 : Int) < n := by omega
    have hcap := grownCap_ge w n 0 51
    have hcap2 := grownCap_le_maxLen w n 0 51 (by unfold maxLen; omega)
    have HRUN := Lib.hid (Lib.run_append_nil_zeros (P := Try.prog) w 22 3 22 51 ci _ .i64 .i64 Try.underlying22 Try.underlying3 ca cz0 n (by omega) (by rw [cz1]; decide) (by omega) (by rw [cz2]; omega))
    generalize hgc : grownCap w n 0 51 = cap at *
    have hlc : cap ≤ 9223372036854775807 := hcap2
    go_enter Try.func43, Try.ntmps43
    go_wp2_with (refine Lib.wpList_append_run _ rfl (.tmp 20) (.tmp 21) 22 3 rfl (.slice none 0 0) (.int .i64 n) rfl rfl _ _ HRUN.out ?_)
    go_ret
    refine ⟨⟨_, rfl, by simp, .inr ⟨w.heap.size, cap, _, rfl, Nat.le_refl _, heap_alloc_new w.drew _, Nat.zero_le _, hcap2, ?_, by simp⟩⟩, ((Fut.refl w).drew.alloc _)⟩
    simp only [Builtin.zeroCells, Array.size_append, Array.size_map, Array.size_range, Value.cells]
    show n * 3 + (cap - n) * 3 = cap * 3
    omega
def acc {α : Type} (xs ys zs : List α) (j : Nat) : List α := if j = 0 then [] else if j = 1 then xs else if j = 2 then xs ++ ys else xs ++ (ys ++ zs)
theorem wp_append_cols {w : World} {ops : Array Oper} {rest : List Oper} {o : Oper} {a : Act} {Q : Exit → Act → World → Prop} (hgd : o.guard = none) (s x : Operand) (ho : o.op = .call { callee := .builtin .append, args := #[s, x], argTypes := #[22, 22] })
    (base : Nat) (v : Value) (k : Nat) (xs : List CC) (hs : a.eval s = v) (hk : xs.length = k) (hown : w.ownsRow base 51 3 v k (xs.flatMap encC)) (A : Option Addr) (n c : Nat) (l : List CC) (hx : a.eval x = .slice A n c) (hl : l.length = n) (hn : n ≤ 1000) (hkn : k ≤ 100000) (hnl : A = none → n = 0 ∧ c = 0) (hR : RdS w A 3 encC l) (hb : base ≤ w.heap.size)
    (h : ∀ v' w', w'.ownsRow base 51 3 v' (k + n) ((xs ++ l).flatMap encC) → w.grownBy w' v.ownBlock → wpList Try.prog ops Q rest (a.put o.dst v') w') : wpList Try.prog ops Q (o :: rest) a w := by
  obtain ⟨ci, ca, cz0, cz1, cz2⟩ := info_parts info_col
  cases A with
  | none =>
    obtain ⟨rfl, rfl⟩ := hnl rfl
    have : l = [] := List.length_eq_zero_iff.1 hl
    subst this
    refine wpList_append_own_none hgd s x 22 ho base 51 ci 3 Try.underlying22 ca v k (xs.flatMap encC) hs hown hx ?_
    exact h v w (by simpa using hown) ⟨rfl, rfl, rfl, Nat.le_refl _, fun _ _ _ => rfl⟩
  | some ad =>
    refine wpList_append_own _ hgd s x 22 ho base 51 ci _ 3 40 Try.underlying22 ca cz0 cz1 cz2 rfl (by decide) v k (xs.flatMap encC) hs hown ad n c (l.flatMap encC) hx (by rw [flat_len encC 3 encC_len, hl]) ?_ ?_ (by unfold maxLen; omega) (by omega) hb ?_
    · intro j u hu
      obtain ⟨i, j2, e, rfl, hj2, hi, hu2⟩ := flat_inv encC 3 encC_len l j u hu
      obtain ⟨b, o, hA, hc⟩ := hR i e hi
      injection hA with hA
      subst hA
      have e2 : (⟨b, o, none⟩ : Addr).add (i * 3 + j2) = ⟨b, o + i * 3 + j2, none⟩ := by unfold Addr.add; split <;> simp_all [Nat.add_assoc]
      rw [e2]
      exact hc j2 u hj2 hu2
    · intro u hu
      obtain ⟨e, _, he⟩ := List.mem_flatMap.1 hu
      simp only [encC, List.mem_cons, List.not_mem_nil, or_false] at he
      rcases he with rfl | rfl | rfl <;> rfl
    · intro v' w' h1 h2 _
      refine h v' w' ?_ h2
      rw [List.flatMap_append]
      exact h1
set_option maxHeartbeats 6400000 in
set_option maxRecDepth 4000 in
theorem concat_any (b : Nat) (A1 A2 A3 : Option Addr) (n1 n2 n3 c1 c2 c3 : Nat) (xs ys zs : List CC) (w : World) (q1 : w.cell? ⟨b, 0, none⟩ = some (.slice A1 n1 c1)) (q2 : w.cell? ⟨b, 1, none⟩ = some (.slice A2 n2 c2)) (q3 : w.cell? ⟨b, 2, none⟩ = some (.slice A3 n3 c3))
    (l1 : xs.length = n1) (l2 : ys.length = n2) (l3 : zs.length = n3) (m1 : n1 ≤ 1000) (m2 : n2 ≤ 1000) (m3 : n3 ≤ 1000) (z1 : A1 = none → n1 = 0 ∧ c1 = 0) (z2 : A2 = none → n2 = 0 ∧ c2 = 0) (z3 : A3 = none → n3 = 0 ∧ c3 = 0) (r1 : RdC w A1 xs) (r2 : RdC w A2 ys) (r3 : RdC w A3 zs) :
    Calls Try.prog 33 #[.slice (some ⟨b, 0, none⟩) 3 3] w fun e w' => (∃ A c, e = .returned (.slice A (n1 + n2 + n3) c) ∧ RdC w' A (xs ++ (ys ++ zs)) ∧ ∀ b o q, A = some ⟨b, o, q⟩ → w.heap.size ≤ b) ∧ Below w.heap.size w w' := by
  have L1 := Lib.hid l1
  have L2 := Lib.hid l2
  have L3 := Lib.hid l3
  have Z1 := Lib.hid z1
  have Z2 := Lib.hid z2
  have Z3 := Lib.hid z3
  have R1 := Lib.hid r1
  have R2 := Lib.hid r2
  have R3 := Lib.hid r3
  have HGR := Lib.hid (grow_any (n1 + n2 + n3) w (by omega))
  clear l1 l2 l3 z1 z2 z3 r1 r2 r3
  obtain ⟨sz, hsz⟩ : ∃ sz : Nat → Nat, sz = fun j => if j = 0 then 0 else if j = 1 then n1 else if j = 2 then n1 + n2 else n1 + n2 + n3 := ⟨_, rfl⟩
  have s0 : sz 0 = 0 := by rw [hsz]; rfl
  have s1 : sz 1 = n1 := by rw [hsz]; rfl
  have s2 : sz 2 = n1 + n2 := by rw [hsz]; rfl
  have s3 : sz 3 = n1 + n2 + n3 := by rw [hsz]; rfl
  clear hsz
  have k1 : n1 ≤ 9223372036854775807 := by omega
  have k2 : n2 ≤ 9223372036854775807 := by omega
  have k3 : n3 ≤ 9223372036854775807 := by omega
  go_enter Try.func33, Try.ntmps33
  go_wp2_with fail
  go_loopw [3, 11] (fun s i wr => ∃ j : Nat, j ≤ 3 ∧ i = .int .i64 j ∧ s = .int .i64 (sz j) ∧ wr = w) (fun _ i _ => 3 - (intOf i).toNat)
  case atStart => exact ⟨0, by omega, rfl, by rw [s0]; rfl, rfl⟩
  case round =>
    obtain ⟨j, hj, rfl, rfl, hw⟩ := hrel
    replace hw := hw.symm
    subst hw
    by_cases hlt : j < 3
    · rcases (show j = 0 ∨ j = 1 ∨ j = 2 by omega) with rfl | rfl | rfl
      · rw [s0]
        go_wp2_with fail
        exact ⟨⟨1, by omega, rfl, by rw [s1], by first | rfl | trivial⟩, by simp [intOf]⟩
      · rw [s1]
        go_wp2_with fail
        exact ⟨⟨2, by omega, rfl, by rw [s2]; go_num, by first | rfl | trivial⟩, by simp [intOf]⟩
      · rw [s2]
        go_wp2_with fail
        exact ⟨⟨3, by omega, rfl, by rw [s3]; go_num, by first | rfl | trivial⟩, by simp [intOf]⟩
    · obtain rfl : j = 3 := by omega
      rw [s3]
      go_wp2_with (go_at_call 43; rw [show ((n1 : Int) + (n2 : Int) + (n3 : Int)) = ((n1 + n2 + n3 : Nat) : Int) by omega]; refine HGR.out.mono ?_; rintro e w1 ⟨⟨v, rfl, hown⟩, hb1⟩; have HO := Lib.hid hown; have HB := Lib.hid hb1; have y1 := Fut.cell hb1 q1; have y2 := Fut.cell hb1 q2; have y3 := Fut.cell hb1 q3; clear hown hb1)
      go_loopw [6, 27] (fun lv i wr => ∃ (j : Nat) (v : Value), j ≤ 3 ∧ i = .int .i64 j ∧ lv = v ∧ Hid ((acc xs ys zs j).length = sz j) ∧ Hid (wr.ownsRow w.heap.size 51 3 v (sz j) ((acc xs ys zs j).flatMap encC)) ∧ Hid (Fut w wr)) (fun _ i _ => 3 - (intOf i).toNat)
      case atStart => exact ⟨0, v, by omega, rfl, rfl, Lib.hid (by rw [s0]; rfl), Lib.hid (by rw [s0]; exact HO.out), HB⟩
      case round =>
        clear HO HB y1 y2 y3
        obtain ⟨j, vv, hj, rfl, hvv, hacc, hown, HF⟩ := hrel
        replace hvv := hvv.symm
        subst hvv
        have y1 := HF.out.cell q1
        have y2 := HF.out.cell q2
        have y3 := HF.out.cell q3
        have hall := hj
        by_cases hlt : j < 3
        · rcases (show j = 0 ∨ j = 1 ∨ j = 2 by omega) with rfl | rfl | rfl
          · clear hall
            have hwr := HF.out.size
            go_wp2_with (at_builtin; refine wp_append_cols rfl (.tmp 31) (.tmp 32) rfl w.heap.size vv (sz 0) (acc xs ys zs 0) rfl (hacc.out) (hown.out) A1 n1 _ _ rfl L1.out (by omega) (by rw [s0]; omega) Z1.out (R1.out.fut HF.out).1 (by have := HF.out.size; omega) ?_; intro v2 w2 hown2 hgr2; have HO2 := Lib.hid hown2; have HG2 := Lib.hid hgr2; clear hown2 hgr2)
            exact ⟨⟨1, v2, by omega, rfl, rfl, Lib.hid (by rw [s1]; simp only [acc]; simp; have := L1.out; have := L2.out; have := L3.out; omega), Lib.hid (by have h := HO2.out; rw [s0] at h; rw [s1]; simpa [acc, Nat.add_assoc] using h), Lib.hid (Below.grown HF.out HG2.out (Nat.le_of_lt_succ (Nat.lt_succ_of_le hwr)) (fun k hk => (World.ownsRow.lt hown.out k hk).1))⟩, by simp [intOf]⟩
          · clear hall
            have hwr := HF.out.size
            go_wp2_with (at_builtin; refine wp_append_cols rfl (.tmp 31) (.tmp 32) rfl w.heap.size vv (sz 1) (acc xs ys zs 1) rfl (hacc.out) (hown.out) A2 n2 _ _ rfl L2.out (by omega) (by rw [s1]; omega) Z2.out (R2.out.fut HF.out).1 (by have := HF.out.size; omega) ?_; intro v2 w2 hown2 hgr2; have HO2 := Lib.hid hown2; have HG2 := Lib.hid hgr2; clear hown2 hgr2)
            exact ⟨⟨2, v2, by omega, rfl, rfl, Lib.hid (by rw [s2]; simp only [acc]; simp; have := L1.out; have := L2.out; have := L3.out; omega), Lib.hid (by have h := HO2.out; rw [s1] at h; rw [s2]; simpa [acc, Nat.add_assoc] using h), Lib.hid (Below.grown HF.out HG2.out (Nat.le_of_lt_succ (Nat.lt_succ_of_le hwr)) (fun k hk => (World.ownsRow.lt hown.out k hk).1))⟩, by simp [intOf]⟩
          · clear hall
            have hwr := HF.out.size
            go_wp2_with (at_builtin; refine wp_append_cols rfl (.tmp 31) (.tmp 32) rfl w.heap.size vv (sz 2) (acc xs ys zs 2) rfl (hacc.out) (hown.out) A3 n3 _ _ rfl L3.out (by omega) (by rw [s2]; omega) Z3.out (R3.out.fut HF.out).1 (by have := HF.out.size; omega) ?_; intro v2 w2 hown2 hgr2; have HO2 := Lib.hid hown2; have HG2 := Lib.hid hgr2; clear hown2 hgr2)
            exact ⟨⟨3, v2, by omega, rfl, rfl, Lib.hid (by rw [s3]; simp only [acc]; simp; have := L1.out; have := L2.out; have := L3.out; omega), Lib.hid (by have h := HO2.out; rw [s2] at h; rw [s3]; simpa [acc, Nat.add_assoc] using h), Lib.hid (Below.grown HF.out HG2.out (Nat.le_of_lt_succ (Nat.lt_succ_of_le hwr)) (fun k hk => (World.ownsRow.lt hown.out k hk).1))⟩, by simp [intOf]⟩
        · obtain rfl : j = 3 := by omega
          go_wp2_with fail
          go_ret
          have ho := hown.out
          rw [s3] at ho
          have ha : acc xs ys zs 3 = xs ++ (ys ++ zs) := by simp [acc]
          rw [ha] at ho
          have hlen : (xs ++ (ys ++ zs)).length = n1 + n2 + n3 := by simp only [List.length_append, L1.out, L2.out, L3.out]; omega
          have hv : ∃ A c, vv = .slice A (n1 + n2 + n3) c ∧ ∀ b o q, A = some ⟨b, o, q⟩ → w.heap.size ≤ b := by
            rcases ho.2 with ⟨h, h0⟩ | ⟨g, cap, cur, h, hg, _⟩
            · exact ⟨none, 0, by rw [h, h0], fun _ _ _ e => by cases e⟩
            · exact ⟨_, _, h, fun b o q e => by injection e with e; injection e with e _ _; omega⟩
          obtain ⟨A, c, rfl, hlow⟩ := hv
          refine ⟨⟨A, c, rfl, ⟨RdS.of_own encC_len (by decide) ho, fun e he => ?_⟩, hlow⟩, HF.out⟩
          rcases List.mem_append.1 he with he | he
          · exact (R1.out.fut HF.out).2 e he
          · rcases List.mem_append.1 he with he | he
            · exact (R2.out.fut HF.out).2 e he
            · exact (R3.out.fut HF.out).2 e he
end Go.Proofs.Ytagmpbgidooibaa
