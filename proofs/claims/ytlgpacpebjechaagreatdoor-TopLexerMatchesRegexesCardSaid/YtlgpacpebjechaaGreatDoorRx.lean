/-
  The four expressions: parsing, derivatives, the empty string.
-/
import Derived.Test.YtlgpacpebjechaaGreatDoorRx0
import Derived.Test.YtlgpacpebjechaaGreatDoorRx1
import Derived.Test.YtlgpacpebjechaaGreatDoorRx2
import Derived.Test.YtlgpacpebjechaaGreatDoorRx3
import Derived.Test.YtlgpacpebjechaaGreatDoorRx4
import Derived.KernelRfl
namespace Go.Proofs.YtlgpacpebjechaaGreatDoor
namespace Ev
theorem der_pick {i b : Nat} (l : List (List Nat × Nat)) (h : ((List.range 256).all fun b => l.any fun p => p.1.contains b && dlt i b == p.2) = true) (hb : b < 256) : ∃ p ∈ l, b ∈ p.1 ∧ dlt i b = p.2 := by
  obtain ⟨p, h1, h2⟩ := List.any_eq_true.1 (List.all_eq_true.1 h b (List.mem_range.2 hb))
  rw [Bool.and_eq_true] at h2
  exact ⟨p, h1, List.contains_iff_mem.1 h2.1, eq_of_beq h2.2⟩
theorem der0 (b : Nat) (hb : b < 256) : Trans 1 22 [rV0, cY b] rL0 (rV (dlt 0 b)) (rL (dlt 0 b)) := by
  obtain ⟨p, hp, h, e⟩ := der_pick (i := 0) [(dr0_0b, 1), (dr0_1b, 1), (dr0_2b, 2)] (by kernel_rfl) hb
  rw [e]
  simp only [List.mem_cons, List.not_mem_nil, or_false] at hp
  rcases hp with rfl | rfl | rfl
  · exact dr0_0 b h
  · exact dr0_1 b h
  · exact dr0_2 b h
theorem der1 (b : Nat) (hb : b < 256) : Trans 1 22 [rV1, cY b] rL1 (rV (dlt 1 b)) (rL (dlt 1 b)) := by
  obtain ⟨p, hp, h, e⟩ := der_pick (i := 1) [(dr0_3b, 1)] (by kernel_rfl) hb
  rw [e]
  simp only [List.mem_cons, List.not_mem_nil, or_false] at hp
  rcases hp with rfl
  · exact dr0_3 b h
theorem der2 (b : Nat) (hb : b < 256) : Trans 1 22 [rV2, cY b] rL2 (rV (dlt 2 b)) (rL (dlt 2 b)) := by
  obtain ⟨p, hp, h, e⟩ := der_pick (i := 2) [(dr0_4b, 1), (dr0_5b, 3)] (by kernel_rfl) hb
  rw [e]
  simp only [List.mem_cons, List.not_mem_nil, or_false] at hp
  rcases hp with rfl | rfl
  · exact dr0_4 b h
  · exact dr0_5 b h
theorem der3 (b : Nat) (hb : b < 256) : Trans 1 22 [rV3, cY b] rL3 (rV (dlt 3 b)) (rL (dlt 3 b)) := by
  obtain ⟨p, hp, h, e⟩ := der_pick (i := 3) [(dr0_6b, 1)] (by kernel_rfl) hb
  rw [e]
  simp only [List.mem_cons, List.not_mem_nil, or_false] at hp
  rcases hp with rfl
  · exact dr0_6 b h
theorem der4 (b : Nat) (hb : b < 256) : Trans 2 22 [rV4, cY b] rL4 (rV (dlt 4 b)) (rL (dlt 4 b)) := by
  obtain ⟨p, hp, h, e⟩ := der_pick (i := 4) [(dr0_7b, 5), (dr0_8b, 5), (dr0_9b, 6)] (by kernel_rfl) hb
  rw [e]
  simp only [List.mem_cons, List.not_mem_nil, or_false] at hp
  rcases hp with rfl | rfl | rfl
  · exact dr0_7 b h
  · exact dr0_8 b h
  · exact dr0_9 b h
theorem der5 (b : Nat) (hb : b < 256) : Trans 2 22 [rV5, cY b] rL5 (rV (dlt 5 b)) (rL (dlt 5 b)) := by
  obtain ⟨p, hp, h, e⟩ := der_pick (i := 5) [(dr0_10b, 5)] (by kernel_rfl) hb
  rw [e]
  simp only [List.mem_cons, List.not_mem_nil, or_false] at hp
  rcases hp with rfl
  · exact dr0_10 b h
theorem der6 (b : Nat) (hb : b < 256) : Trans 2 22 [rV6, cY b] rL6 (rV (dlt 6 b)) (rL (dlt 6 b)) := by
  obtain ⟨p, hp, h, e⟩ := der_pick (i := 6) [(dr0_11b, 5), (dr0_12b, 6)] (by kernel_rfl) hb
  rw [e]
  simp only [List.mem_cons, List.not_mem_nil, or_false] at hp
  rcases hp with rfl | rfl
  · exact dr0_11 b h
  · exact dr0_12 b h
theorem der7 (b : Nat) (hb : b < 256) : Trans 7 22 [rV7, cY b] rL7 (rV (dlt 7 b)) (rL (dlt 7 b)) := by
  obtain ⟨p, hp, h, e⟩ := der_pick (i := 7) [(dr1_0b, 8), (dr1_1b, 8), (dr1_2b, 8), (dr1_3b, 9)] (by kernel_rfl) hb
  rw [e]
  simp only [List.mem_cons, List.not_mem_nil, or_false] at hp
  rcases hp with rfl | rfl | rfl | rfl
  · exact dr1_0 b h
  · exact dr1_1 b h
  · exact dr1_2 b h
  · exact dr1_3 b h
theorem der8 (b : Nat) (hb : b < 256) : Trans 7 22 [rV8, cY b] rL8 (rV (dlt 8 b)) (rL (dlt 8 b)) := by
  obtain ⟨p, hp, h, e⟩ := der_pick (i := 8) [(dr1_4b, 8)] (by kernel_rfl) hb
  rw [e]
  simp only [List.mem_cons, List.not_mem_nil, or_false] at hp
  rcases hp with rfl
  · exact dr1_4 b h
theorem der9 (b : Nat) (hb : b < 256) : Trans 7 22 [rV9, cY b] rL9 (rV (dlt 9 b)) (rL (dlt 9 b)) := by
  obtain ⟨p, hp, h, e⟩ := der_pick (i := 9) [(dr1_5b, 8), (dr2_0b, 8), (dr2_1b, 8), (dr2_2b, 8), (dr3_0b, 8), (dr3_1b, 10), (dr3_2b, 9)] (by kernel_rfl) hb
  rw [e]
  simp only [List.mem_cons, List.not_mem_nil, or_false] at hp
  rcases hp with rfl | rfl | rfl | rfl | rfl | rfl | rfl
  · exact dr1_5 b h
  · exact dr2_0 b h
  · exact dr2_1 b h
  · exact dr2_2 b h
  · exact dr3_0 b h
  · exact dr3_1 b h
  · exact dr3_2 b h
theorem der10 (b : Nat) (hb : b < 256) : Trans 7 22 [rV10, cY b] rL10 (rV (dlt 10 b)) (rL (dlt 10 b)) := by
  obtain ⟨p, hp, h, e⟩ := der_pick (i := 10) [(dr3_3b, 8), (dr3_4b, 8), (dr3_5b, 11)] (by kernel_rfl) hb
  rw [e]
  simp only [List.mem_cons, List.not_mem_nil, or_false] at hp
  rcases hp with rfl | rfl | rfl
  · exact dr3_3 b h
  · exact dr3_4 b h
  · exact dr3_5 b h
theorem der11 (b : Nat) (hb : b < 256) : Trans 7 22 [rV11, cY b] rL11 (rV (dlt 11 b)) (rL (dlt 11 b)) := by
  obtain ⟨p, hp, h, e⟩ := der_pick (i := 11) [(dr3_6b, 8), (dr3_7b, 11)] (by kernel_rfl) hb
  rw [e]
  simp only [List.mem_cons, List.not_mem_nil, or_false] at hp
  rcases hp with rfl | rfl
  · exact dr3_6 b h
  · exact dr3_7 b h
theorem der12 (b : Nat) (hb : b < 256) : Trans 2 22 [rV12, cY b] rL12 (rV (dlt 12 b)) (rL (dlt 12 b)) := by
  obtain ⟨p, hp, h, e⟩ := der_pick (i := 12) [(dr3_8b, 13), (dr4_0b, 13), (dr4_1b, 14)] (by kernel_rfl) hb
  rw [e]
  simp only [List.mem_cons, List.not_mem_nil, or_false] at hp
  rcases hp with rfl | rfl | rfl
  · exact dr3_8 b h
  · exact dr4_0 b h
  · exact dr4_1 b h
theorem der13 (b : Nat) (hb : b < 256) : Trans 2 22 [rV13, cY b] rL13 (rV (dlt 13 b)) (rL (dlt 13 b)) := by
  obtain ⟨p, hp, h, e⟩ := der_pick (i := 13) [(dr4_2b, 13)] (by kernel_rfl) hb
  rw [e]
  simp only [List.mem_cons, List.not_mem_nil, or_false] at hp
  rcases hp with rfl
  · exact dr4_2 b h
theorem der14 (b : Nat) (hb : b < 256) : Trans 2 22 [rV14, cY b] rL14 (rV (dlt 14 b)) (rL (dlt 14 b)) := by
  obtain ⟨p, hp, h, e⟩ := der_pick (i := 14) [(dr4_3b, 13), (dr4_4b, 14)] (by kernel_rfl) hb
  rw [e]
  simp only [List.mem_cons, List.not_mem_nil, or_false] at hp
  rcases hp with rfl | rfl
  · exact dr4_3 b h
  · exact dr4_4 b h
theorem nul0 : Trans 1 23 [rV0] rL0 (.bool (nul 0)) (rL (ini 0)) := trans_of (callN_sound intr_sound 400) [qP 1] (by kernel_rfl) (by kernel_rfl)
theorem nul1 : Trans 1 23 [rV1] rL1 (.bool (nul 1)) (rL (ini 1)) := trans_of (callN_sound intr_sound 400) [qP 1] (by kernel_rfl) (by kernel_rfl)
theorem nul2 : Trans 1 23 [rV2] rL2 (.bool (nul 2)) (rL (ini 2)) := trans_of (callN_sound intr_sound 400) [qP 1] (by kernel_rfl) (by kernel_rfl)
theorem nul3 : Trans 1 23 [rV3] rL3 (.bool (nul 3)) (rL (ini 3)) := trans_of (callN_sound intr_sound 400) [qP 1] (by kernel_rfl) (by kernel_rfl)
theorem nul4 : Trans 2 23 [rV4] rL4 (.bool (nul 4)) (rL (ini 4)) := trans_of (callN_sound intr_sound 400) [qP 1, qP 2] (by kernel_rfl) (by kernel_rfl)
theorem nul5 : Trans 2 23 [rV5] rL5 (.bool (nul 5)) (rL (ini 5)) := trans_of (callN_sound intr_sound 400) [qP 1, qP 2] (by kernel_rfl) (by kernel_rfl)
theorem nul6 : Trans 2 23 [rV6] rL6 (.bool (nul 6)) (rL (ini 6)) := trans_of (callN_sound intr_sound 400) [qP 1, qP 2] (by kernel_rfl) (by kernel_rfl)
theorem nul7 : Trans 7 23 [rV7] rL7 (.bool (nul 7)) (rL (ini 7)) := trans_of (callN_sound intr_sound 400) [qP 1, qP 2, qP 3, qP 4, qP 5, qP 6, qP 7] (by kernel_rfl) (by kernel_rfl)
theorem nul8 : Trans 7 23 [rV8] rL8 (.bool (nul 8)) (rL (ini 8)) := trans_of (callN_sound intr_sound 400) [qP 1, qP 2, qP 3, qP 4, qP 5, qP 6, qP 7] (by kernel_rfl) (by kernel_rfl)
theorem nul9 : Trans 7 23 [rV9] rL9 (.bool (nul 9)) (rL (ini 9)) := trans_of (callN_sound intr_sound 400) [qP 1, qP 2, qP 3, qP 4, qP 5, qP 6, qP 7] (by kernel_rfl) (by kernel_rfl)
theorem nul10 : Trans 7 23 [rV10] rL10 (.bool (nul 10)) (rL (ini 10)) := trans_of (callN_sound intr_sound 400) [qP 1, qP 2, qP 3, qP 4, qP 5, qP 6, qP 7] (by kernel_rfl) (by kernel_rfl)
theorem nul11 : Trans 7 23 [rV11] rL11 (.bool (nul 11)) (rL (ini 11)) := trans_of (callN_sound intr_sound 400) [qP 1, qP 2, qP 3, qP 4, qP 5, qP 6, qP 7] (by kernel_rfl) (by kernel_rfl)
theorem nul12 : Trans 2 23 [rV12] rL12 (.bool (nul 12)) (rL (ini 12)) := trans_of (callN_sound intr_sound 400) [qP 1, qP 2] (by kernel_rfl) (by kernel_rfl)
theorem nul13 : Trans 2 23 [rV13] rL13 (.bool (nul 13)) (rL (ini 13)) := trans_of (callN_sound intr_sound 400) [qP 1, qP 2] (by kernel_rfl) (by kernel_rfl)
theorem nul14 : Trans 2 23 [rV14] rL14 (.bool (nul 14)) (rL (ini 14)) := trans_of (callN_sound intr_sound 400) [qP 1, qP 2] (by kernel_rfl) (by kernel_rfl)
theorem par0 : Trans 0 9 [pA0] [] pV0 rL0 := trans_of (callN_sound intr_sound 400) [qP 24] (by kernel_rfl) (by kernel_rfl)
theorem par1 : Trans 0 9 [pA1] [] pV1 rL4 := trans_of (callN_sound intr_sound 400) [qP 15, qP 17] (by kernel_rfl) (by kernel_rfl)
theorem par2 : Trans 0 9 [pA2] [] pV2 rL7 := trans_of (callN_sound intr_sound 400) [qP 15, qP 17, qP 43, qP 45, qP 49, qP 57, qP 61] (by kernel_rfl) (by kernel_rfl)
theorem par3 : Trans 0 9 [pA3] [] pV3 rL12 := trans_of (callN_sound intr_sound 400) [qP 12, qP 14] (by kernel_rfl) (by kernel_rfl)
theorem dlt_lt (i b : Nat) (hi : i < 15) (hb : b < 256) : dlt i b < 15 := by
  have h : ((List.range 15).all fun i => (List.range 256).all fun b => decide (dlt i b < 15)) = true := by kernel_rfl
  exact of_decide_eq_true (List.all_eq_true.1 (List.all_eq_true.1 h i (List.mem_range.2 hi)) b (List.mem_range.2 hb))
theorem der_all (b : Nat) (hb : b < 256) : ∀ i, i < 15 → Trans (mst i) 22 [rV i, cY b] (rL i) (rV (dlt i b)) (rL (dlt i b))
  | 0, _ => der0 b hb
  | 1, _ => der1 b hb
  | 2, _ => der2 b hb
  | 3, _ => der3 b hb
  | 4, _ => der4 b hb
  | 5, _ => der5 b hb
  | 6, _ => der6 b hb
  | 7, _ => der7 b hb
  | 8, _ => der8 b hb
  | 9, _ => der9 b hb
  | 10, _ => der10 b hb
  | 11, _ => der11 b hb
  | 12, _ => der12 b hb
  | 13, _ => der13 b hb
  | 14, _ => der14 b hb
  | i + 15, h => absurd h (by omega)
theorem nul_all : ∀ i, i < 15 → Trans (mst i) 23 [rV i] (rL i) (.bool (nul i)) (rL (ini i))
  | 0, _ => nul0
  | 1, _ => nul1
  | 2, _ => nul2
  | 3, _ => nul3
  | 4, _ => nul4
  | 5, _ => nul5
  | 6, _ => nul6
  | 7, _ => nul7
  | 8, _ => nul8
  | 9, _ => nul9
  | 10, _ => nul10
  | 11, _ => nul11
  | 12, _ => nul12
  | 13, _ => nul13
  | 14, _ => nul14
  | i + 15, h => absurd h (by omega)
end Ev
end Go.Proofs.YtlgpacpebjechaaGreatDoor
