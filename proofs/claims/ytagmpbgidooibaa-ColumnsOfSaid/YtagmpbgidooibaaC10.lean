/-
  Repeat, at a slice of one number.
-/
import Derived.Test.YtagmpbgidooibaaC9
namespace Go.Proofs.Ytagmpbgidooibaa
open Go.RowKit Go.Deep
attribute [local go_sem] Oper.lit Oper.litS fut_fut fut_drew World.cell?_alloc_some
set_option maxHeartbeats 6400000 in
set_option maxRecDepth 4000 in
theorem repeat_any (b T : Nat) (w : World) (hT : T ≤ 1000) (h0 : w.cell? ⟨b, 0, none⟩ = some (.int .i64 (-1))) :
    Calls Try.prog 41 #[.slice (some ⟨b, 0, none⟩) 1 1, .int .i64 T] w fun e w' => (∃ g, e = .returned (.slice (some ⟨g, 0, none⟩) T T) ∧ w.heap.size ≤ g ∧ w'.heap[g]? = some (.cells (rp T T).toArray 3 (0, 0))) ∧ Below w.heap.size w w' := by
  obtain ⟨i1, ki, kz0, kz1, kz2⟩ := info_parts info_int
  have hm0 : (((1 : Nat) * T / 18446744073709551616 : Nat) : Int) = 0 := by omega
  have hm1 : (((1 : Nat) * T % 18446744073709551616 : Nat) : Int) = (T : Int) := by omega
  have HM := Lib.hid (fun w' => Try.bits_Mul 1 T (by omega) (by omega) w')
  rw [hm0, hm1] at HM
  clear hm0 hm1
  have hT2 : ¬ (T : Int) < 0 := by omega
  have HH := Lib.hid h0
  have hblt := World.block_lt_of_cell? w _ h0
  simp only at hblt
  clear h0
  go_enter Try.func41, Try.ntmps41
  go_wp2_with (first
    | (go_at_call 45; refine (HM.out _).mono ?_; rintro e w1 ⟨rfl, hw1⟩; replace hw1 := hw1.symm; subst hw1)
    | (refine wpList_make_row _ rfl (.tmp 29) (.tmp 29) 23 rfl 3 i1 (.int .i64 0) Try.underlying23 ki kz0 kz1 rfl .i64 .i64 T rfl rfl (by rw [kz2]; omega) (by omega) ?_; rw [made_list])
    | (refine wpList_copy_splice rfl (.tmp 31) (.tmp 32) 23 23 rfl 3 Try.underlying23 info_sz (some ⟨w.heap.size, 0, none⟩) (some ⟨b, 0, none⟩) T T 1 1 rfl rfl w.heap.size 0 (List.replicate T (.int .i64 0)) 3 (by rw [List.toArray_replicate]; exact heap_alloc_new _ _) (List.replicate (min 1 T) (.int .i64 (-1))) ?c1 ?c2 ?c3 ?c4 w.heap.size w ((Fut.refl w).alloc _) (Nat.le_refl _) ?_))
  case c1 => rw [List.length_replicate]
  case c2 =>
    intro _
    intro j v hj
    obtain ⟨hlt, rfl⟩ := List.getElem?_eq_some_iff.1 hj
    rw [List.length_replicate] at hlt
    have : j = 0 := by omega
    subst this
    rw [List.getElem_replicate]
    exact HH.out
  case c3 => rw [List.length_replicate, List.length_replicate]; omega
  case c4 =>
    intro v hv
    obtain ⟨_, rfl⟩ := List.mem_replicate.1 hv
    rfl
  intro w2 hrow hb
  have HROW := Lib.hid (show w2.heap[w.heap.size]? = some (.cells (rp T (min 1 T)).toArray 3 (0, 0)) from by
    rw [hrow.out, show (List.replicate T (Value.int .i64 0)) = rp T 0 by simp [rp], rp_splice T 0 (min 1 T) (by omega), Nat.zero_add])
  have HB := Lib.hid hb
  clear hrow hb
  go_wp2_with fail
  go_loopw [8] (fun i wr => ∃ k : Nat, k ≤ T ∧ (0 < T → 0 < k) ∧ i = .int .i64 k ∧ Hid (wr.heap[w.heap.size]? = some (.cells (rp T k).toArray 3 (0, 0))) ∧ Hid (Fut w wr)) (fun i _ => T - (intOf i).toNat)
  case atStart =>
    exact ⟨min 1 T, by omega, by omega, by simp, HROW, HB⟩
  case round =>
    obtain ⟨k, hk, hk0, rfl, hrow, hF⟩ := hrel
    by_cases hlt : k < T
    · have hk1 : 0 < k := hk0 (by omega)
      obtain ⟨m, hmm⟩ : ∃ m : Nat, m = Nat.min k (T - k) := ⟨_, rfl⟩
      obtain ⟨hm1, hm2, hm3⟩ : 0 < m ∧ k + m ≤ T ∧ m ≤ k := by rw [hmm, show Nat.min k (T - k) = min k (T - k) from rfl]; omega
      have HMM := Lib.hid hmm
      clear hmm
      clear hk0
      go_wp2_with fail
      refine wp_region_MG (relS (fun q => q == w.heap.size)) o_slices_Repeat_int_int_9 (by kernel_rfl) (by kernel_rfl) (by intro c a d v w h; cases d <;> exact h) ?_; unfold o_slices_Repeat_int_int_9
      iterate 7 (refine wpS_h rfl rfl (fun K hK => ?_); go_simp; refine hK _ _ ?_; clear hK K)
      refine wpG_o rfl rfl (fun K hK => ?_)
      refine wp_copy_own (.tmp 41) (.tmp 44) 23 23 rfl 3 Try.underlying23 info_sz w.heap.size k (T - k) (T - k) ⟨w.heap.size, 0, none⟩ k T (by show Value.slice (if T = k then _ else _) _ _ = _; rw [if_neg (by omega)]) rfl (rp T k) 3 hrow.out (List.replicate (m) (.int .i64 (-1))) ?c1 ?c2 ?c3 ?c4 ?_
      case c1 => rw [List.length_replicate]; exact HMM.out
      case c2 =>
        intro j v hj
        obtain ⟨hjl, rfl⟩ := List.getElem?_eq_some_iff.1 hj
        rw [List.length_replicate] at hjl
        rw [List.getElem_replicate, show (⟨w.heap.size, 0, none⟩ : Addr).add j = ⟨w.heap.size, j, none⟩ by unfold Addr.add; split <;> simp_all]
        have h1 : wr.drew.heap[w.heap.size]? = _ := hrow.out
        rw [World.cell?]
        simp only [h1]
        rw [if_neg (by simp)]
        rw [List.getElem?_toArray]
        exact rp_get T k j (by omega)
      case c3 => rw [rp_len T k hk, List.length_replicate]; omega
      case c4 =>
        intro v hv
        obtain ⟨_, rfl⟩ := List.mem_replicate.1 hv
        rfl
      rw [List.length_replicate, rp_splice T k (m) (by omega)]
      refine hK _ _ (.inr ⟨rfl, rfl, rfl, by simp [World.setRow], fun q _ hq => setRow_other _ _ q _ (by simpa using hq)⟩) ?_
      clear hK K
      have HR2 := Lib.hid (setRow_heap _ _ _ (rp T (k + m)).toArray _ _ hrow.out)
      have hwm : IntKind.i64.wrap ((k : Int) + (m : Int)) = ((k + m : Nat) : Int) := by rw [IntKind.wrap_i64]; omega
      have HF2 := Lib.hid (below_setRow hF.out.drew (Nat.le_refl _) (rp T (k + m)).toArray)
      clear hrow hF
      iterate 2 (refine wpS_h rfl rfl (fun K hK => ?_); go_simp; refine hK _ _ ?_; clear hK K)
      refine wpG_nil ?_
      go_wp2_with fail
      exact ⟨⟨k + m, by omega, by omega, by go_num, HR2, HF2⟩, by simp only [intOf]; omega⟩
    · have hkT : k = T := by omega
      subst hkT
      go_wp2_with fail
      go_ret
      exact ⟨⟨_, rfl, Nat.le_refl _, hrow.out⟩, hF.out⟩
end Go.Proofs.Ytagmpbgidooibaa
