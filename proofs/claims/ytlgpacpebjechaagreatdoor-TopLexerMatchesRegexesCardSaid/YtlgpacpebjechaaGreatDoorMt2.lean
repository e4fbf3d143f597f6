/-
  regex.Match on the four expressions: the walk.
-/
import Derived.Test.YtlgpacpebjechaaGreatDoorMt
import Derived.Test.YtlgpacpebjechaaGreatDoorPl3
import Derived.Test.YtlgpacpebjechaaGreatDoorLx3
namespace Go.Proofs.YtlgpacpebjechaaGreatDoor
open Go.RowKit Go.Deep Ev
attribute [local go_sem] Oper.lit Oper.litS fut_fut fut_drew World.cell?_alloc_some
theorem rV_agg : ∀ i, i < 15 → ∃ k a b c d t, rV i = .agg [.int .i64 k, .int .u64 a, .int .u64 b, .int .u64 c, .int .u64 d, t] ∧ (t = .nils ∨ ∃ b o n k, t = .slice b o n k)
  | 0, _ => ⟨_, _, _, _, _, _, rfl, .inr ⟨_, _, _, _, rfl⟩⟩
  | 1, _ => ⟨_, _, _, _, _, _, rfl, .inl rfl⟩
  | 2, _ => ⟨_, _, _, _, _, _, rfl, .inl rfl⟩
  | 3, _ => ⟨_, _, _, _, _, _, rfl, .inl rfl⟩
  | 4, _ => ⟨_, _, _, _, _, _, rfl, .inr ⟨_, _, _, _, rfl⟩⟩
  | 5, _ => ⟨_, _, _, _, _, _, rfl, .inl rfl⟩
  | 6, _ => ⟨_, _, _, _, _, _, rfl, .inr ⟨_, _, _, _, rfl⟩⟩
  | 7, _ => ⟨_, _, _, _, _, _, rfl, .inr ⟨_, _, _, _, rfl⟩⟩
  | 8, _ => ⟨_, _, _, _, _, _, rfl, .inl rfl⟩
  | 9, _ => ⟨_, _, _, _, _, _, rfl, .inr ⟨_, _, _, _, rfl⟩⟩
  | 10, _ => ⟨_, _, _, _, _, _, rfl, .inr ⟨_, _, _, _, rfl⟩⟩
  | 11, _ => ⟨_, _, _, _, _, _, rfl, .inr ⟨_, _, _, _, rfl⟩⟩
  | 12, _ => ⟨_, _, _, _, _, _, rfl, .inr ⟨_, _, _, _, rfl⟩⟩
  | 13, _ => ⟨_, _, _, _, _, _, rfl, .inl rfl⟩
  | 14, _ => ⟨_, _, _, _, _, _, rfl, .inr ⟨_, _, _, _, rfl⟩⟩
  | i + 15, h => absurd h (by omega)
theorem R_agg6 {σ : Sg} {k a b c d : Int} {t : AV} {v : Value} (ht : t = .nils ∨ ∃ b o n k, t = .slice b o n k) (h : R σ (.agg [.int .i64 k, .int .u64 a, .int .u64 b, .int .u64 c, .int .u64 d, t]) v) : ∃ A n cc, v = .agg #[.int .i64 k, .int .u64 a, .int .u64 b, .int .u64 c, .int .u64 d, .slice A n cc] := by
  obtain ⟨vs, h1, rfl⟩ := R_agg h
  cases h1 with
  | cons _ v0 _ _ r0 h1 => cases h1 with
    | cons _ v1 _ _ r1 h1 => cases h1 with
      | cons _ v2 _ _ r2 h1 => cases h1 with
        | cons _ v3 _ _ r3 h1 => cases h1 with
          | cons _ v4 _ _ r4 h1 => cases h1 with
            | cons _ v5 _ _ r5 h1 =>
              cases h1
              have := R_int r0
              have := R_int r1
              have := R_int r2
              have := R_int r3
              have := R_int r4
              subst_vars
              rcases ht with rfl | ⟨b', o, n, k', rfl⟩
              · exact ⟨_, _, _, by rw [R_nils r5]⟩
              · obtain ⟨g, q, _, e⟩ := R_slice r5
                exact ⟨_, _, _, by rw [e]⟩
theorem RepX.six {N i : Nat} {S : Nat → Bool} {w : World} {v x : Value} (hi : i < 15) (h : RepX N i S w v x) : ∃ (k a b c d : Int) (A : Option Addr) (n cc : Nat), v = .agg #[.int .i64 k, .int .u64 a, .int .u64 b, .int .u64 c, .int .u64 d, .slice A n cc] := by
  obtain ⟨σ, _, hv, _⟩ := h.ex
  obtain ⟨k, a, b, c, d, t, e1, ht⟩ := rV_agg i hi
  rw [e1] at hv
  obtain ⟨A, n, cc, e⟩ := R_agg6 ht hv
  exact ⟨k, a, b, c, d, A, n, cc, e⟩
theorem RepX.futS {N i : Nat} {S T : Nat → Bool} {w w' : World} {v x : Value} (h : RepX N i S w v x) (hf : FutS T w w') (hT : ∀ g, S g = true → g < w.heap.size → T g = false) (hz : ∀ g, g < N → T g = false) : RepX N i S w' v x := by
  obtain ⟨σ, hr, hv, hx, hI⟩ := h.ex
  refine ⟨σ, ⟨Nat.le_trans hr.base hf.size, hr.glob, hr.pos, fun b => ?_, hr.inj, hr.fresh⟩, hv, hx, hI⟩
  by_cases hn : hget (litH (rL i)) b = .none
  · rw [hn]; exact trivial
  · obtain ⟨g, q, h1, h2⟩ := (hr.blk b).lt hn
    refine (hr.blk b).keep σ.le_refl (fun g' q' e => ?_)
    rw [h1] at e; injection e with e; injection e with e1 e2; subst e1
    refine hf.block g h2 ?_
    by_cases ho : ownB (hget (litH (rL i)) b) = true
    · exact hT g (hI b g q ho h1) h2
    · have hb := hr.blk b
      cases hx : hget (litH (rL i)) b with
      | none => exact absurd hx hn
      | row _ _ _ => rw [hx] at ho; exact absurd rfl ho
      | map _ _ => rw [hx] at ho; exact absurd rfl ho
      | ro _ _ =>
        rw [hx] at hb
        obtain ⟨g3, q3, _, _, _, h4, h5, _⟩ := hb
        rw [h1] at h4; injection h4 with h4; injection h4 with h4 _; subst h4
        exact hz _ h5
theorem RepX.fut {N i : Nat} {S : Nat → Bool} {w w' : World} {v x : Value} (h : RepX N i S w v x) (hf : Fut w w') : RepX N i S w' v x :=
  h.futS (T := fun _ => false) (FutS.of hf) (fun _ _ _ => rfl) (fun _ _ => rfl)
theorem RepX.sub {N i : Nat} {S T : Nat → Bool} {w : World} {v x : Value} (h : RepX N i S w v x) (hT : ∀ g, S g = true → g < w.heap.size → T g = true) : RepX N i T w v x := by
  obtain ⟨σ, hr, hv, hx, hI⟩ := h.ex
  exact ⟨σ, hr, hv, hx, fun b g q ho e => hT g (hI b g q ho e) (hr.own_ge ho e).2⟩
theorem dl_lt {i : Nat} (hi : i < 15) : ∀ r : List Nat, (∀ b ∈ r, b < 256) → dl i r < 15 ∧ ini (dl i r) = ini i := by
  intro r
  induction r generalizing i with
  | nil => intro _; exact ⟨hi, rfl⟩
  | cons b r ih =>
    intro h
    have hb := h b List.mem_cons_self
    obtain ⟨h1, h2⟩ := ih (dlt_lt i b hi hb) (fun x hx => h x (List.mem_cons_of_mem _ hx))
    exact ⟨h1, h2.trans (dlt_ini i b hi hb).1⟩
theorem bl_lt (s : ByteArray) : ∀ b ∈ bl s, b < 256 := by
  intro b hb
  obtain ⟨c, _, rfl⟩ := List.mem_map.1 hb
  exact c.toNat_lt
set_option maxHeartbeats 6400000 in
theorem match_any (N i0 : Nat) (S : Nat → Bool) (s : ByteArray) (w : World) (x : Value) (hs : s.size ≤ 1000000) (hi : i0 < 15) (hin : ini i0 = i0) (hr : RepX N i0 S w x x) (hS : ∀ g, w.heap.size ≤ g → S g = true) (hN : N ≤ w.heap.size) :
    Calls Tryz.prog 10 #[x, .string s] w fun e w' => e = .returned (.bool (nul (dl i0 (bl s)))) ∧ RepX N i0 S w' x x ∧ FutS S w w' := by
  obtain ⟨a0, a1, a2, a3, a4, a5, a6, a7, rfl⟩ := hr.six hi
  obtain ⟨x, hx⟩ : ∃ x, x = Value.agg #[.int .i64 a0, .int .u64 a1, .int .u64 a2, .int .u64 a3, .int .u64 a4, .slice a5 a6 a7] := ⟨_, rfl⟩
  have HX := Lib.hid hx
  obtain ⟨S1, hS1⟩ : ∃ S1 : Nat → Bool, S1 = fun k => S k && k != w.heap.size := ⟨_, rfl⟩
  have h0 : S1 w.heap.size = false := by rw [hS1]; simp
  have HS1 := Lib.hid (show ∀ g, w.heap.size + 1 ≤ g → S1 g = true from fun g hg => by rw [hS1]; simp only [Bool.and_eq_true, bne_iff_ne]; exact ⟨hS g (by omega), by omega⟩)
  have HSS := Lib.hid (show ∀ g, S1 g = true → S g = true from fun g hg => by rw [hS1] at hg; simp only [Bool.and_eq_true] at hg; exact hg.1)
  have HSn := Lib.hid (show ∀ g, S g = true → g < w.heap.size → S1 g = true from fun g hg hl => by rw [hS1]; simp only [Bool.and_eq_true, bne_iff_ne]; exact ⟨hg, by omega⟩)
  have HS := Lib.hid hS
  clear hS hS1
  have HR0 := Lib.hid (show RepX N i0 S1 (w.alloc (.cells #[.int .i64 a0, .int .u64 a1, .int .u64 a2, .int .u64 a3, .int .u64 a4, .slice a5 a6 a7] 41)) (.agg #[.int .i64 a0, .int .u64 a1, .int .u64 a2, .int .u64 a3, .int .u64 a4, .slice a5 a6 a7]) x from by rw [hx]; exact ((hr.sub HSn.out).fut ((Fut.refl w).alloc (.cells #[.int .i64 a0, .int .u64 a1, .int .u64 a2, .int .u64 a3, .int .u64 a4, .slice a5 a6 a7] 41))))
  have HB0 := Lib.hid (Blk.new w 41 #[.int .i64 a0, .int .u64 a1, .int .u64 a2, .int .u64 a3, .int .u64 a4, .slice a5 a6 a7])
  have HF0 := Lib.hid ((Fut.refl w).alloc (.cells #[.int .i64 a0, .int .u64 a1, .int .u64 a2, .int .u64 a3, .int .u64 a4, .slice a5 a6 a7] 41))
  rw [← hx]
  clear hr hx
  have hxx := HX.out
  go_enter Tryz.func10, Tryz.ntmps10
  rw [hxx]
  go_wp2_with fail
  clear hxx
  go_loopw [8] (fun i wr => ∃ (j : Nat) (c0 c1 c2 c3 c4 : Int) (c5 : Option Addr) (c6 c7 : Nat), i = .int .i64 j ∧ j ≤ s.size ∧ Blk wr w.heap.size 41 #[.int .i64 c0, .int .u64 c1, .int .u64 c2, .int .u64 c3, .int .u64 c4, .slice c5 c6 c7] ∧ Hid (RepX N (dl i0 ((bl s).take j)) S1 wr (.agg #[.int .i64 c0, .int .u64 c1, .int .u64 c2, .int .u64 c3, .int .u64 c4, .slice c5 c6 c7]) x) ∧ Hid (w.heap.size + 1 ≤ wr.heap.size) ∧ Hid (FutS S w wr)) (fun i _ => s.size - (intOf i).toNat)
  case atStart => exact ⟨0, a0, a1, a2, a3, a4, a5, a6, a7, rfl, Nat.zero_le _, HB0.out, Lib.hid (by simpa [dl] using HR0.out), Lib.hid (by simp only [World.size_alloc]; omega), Lib.hid (FutS.of HF0.out)⟩
  case round =>
    obtain ⟨j, c0, c1, c2, c3, c4, c5, c6, c7, rfl, hj, hB, HR, HZ, HF⟩ := hrel
    have hlt0 := dl_lt hi ((bl s).take j) (fun b hb => bl_lt s b (List.mem_of_mem_take hb))
    by_cases hlt : j < s.size
    · obtain ⟨b, hb⟩ : ∃ b, (s[j]'hlt).toNat = b := ⟨_, rfl⟩
      have hb256 : b < 256 := by rw [← hb]; exact UInt8.toNat_lt _
      have HNX := Lib.hid (show dl i0 ((bl s).take (j + 1)) = dlt (dl i0 ((bl s).take j)) b from by
        rw [List.take_add_one, bl_at hlt, hb]
        exact dl_snoc _ _ _)
      obtain ⟨i', hi'⟩ : ∃ i', dl i0 ((bl s).take j) = i' := ⟨_, rfl⟩
      rw [hi'] at HR HNX hlt0
      have HDER := Lib.hid (fun (wy : World) (h : RepX N i' S1 wy (.agg #[.int .i64 c0, .int .u64 c1, .int .u64 c2, .int .u64 c3, .int .u64 c4, .slice c5 c6 c7]) x) (hz : ∀ g, wy.heap.size ≤ g → S1 g = true) => der_any hlt0.1 hb256 h hz)
      have HI := Lib.hid hlt0
      clear hi' hlt0
      have d0 := cell_futS (S := S1) (hB.cell (i := 0) rfl) h0
      have d1 := cell_futS (S := S1) (hB.cell (i := 1) rfl) h0
      have d2 := cell_futS (S := S1) (hB.cell (i := 2) rfl) h0
      have d3 := cell_futS (S := S1) (hB.cell (i := 3) rfl) h0
      have d4 := cell_futS (S := S1) (hB.cell (i := 4) rfl) h0
      have d5 := cell_futS (S := S1) (hB.cell (i := 5) rfl) h0
      have HB := Lib.hid hB
      have hj1 : ((j : Int) < s.size) = True := eq_true (by omega)
      clear hB
      go_wp2_with fail
      refine wp_region_MG (relS S1) o_regex_Match_4 (by kernel_rfl) (by kernel_rfl) (by intro c a d v w h; cases d <;> exact h) ?_; unfold o_regex_Match_4
      iterate 4 (refine wpS_h rfl rfl (fun K hK => ?_); go_simp; refine hK _ _ ?_; clear hK K)
      refine wpG_o rfl rfl (fun K hK => ?_)
      go_simp
      go_at_call 22
      refine (HDER.out _ (HR.out.fut (Fut.refl wr).drew) (fun g hg => HS1.out g (by have := HZ.out; have h9 : wr.heap.size ≤ g := hg; omega))).mono ?_
      rintro e w1 ⟨v', rfl, hrep, hf⟩
      obtain ⟨e0, e1, e2, e3, e4, e5, e6, e7, rfl⟩ := hrep.six (dlt_lt _ _ HI.out.1 hb256)
      refine hK _ _ (.inr hf) ?_
      clear hK K d0 d1 d2 d3 d4 d5
      have hB1 := HB.out.drew.futS hf h0
      have k0 := hB1.cell (i := 0) rfl
      have k1 := hB1.cell (i := 1) rfl
      have k2 := hB1.cell (i := 2) rfl
      have k3 := hB1.cell (i := 3) rfl
      have k4 := hB1.cell (i := 4) rfl
      have k5 := hB1.cell (i := 5) rfl
      have f0 := hB1.fz 0
      have f1 := hB1.fz 1
      have f2 := hB1.fz 2
      have f3 := hB1.fz 3
      have f4 := hB1.fz 4
      have f5 := hB1.fz 5
      have HREP := Lib.hid hrep
      have HFF := Lib.hid hf
      have HB1 := Lib.hid hB1
      clear hB1 hrep hf HDER
      refine wpG_o rfl rfl (fun K hK => ?_)
      go_simp
      refine hK _ _ (.inl (by kernel_rfl)) ?_
      clear hK K
      refine wpG_nil ?_
      clear k0 k1 k2 k3 k4 k5 f0 f1 f2 f3 f4 f5
      go_wp2_with fail
      have hT : FutS (fun k => k == w.heap.size) w1 ((((((w1.setCell ⟨w.heap.size, 0, none⟩ (.int .i64 e0)).setCell ⟨w.heap.size, 1, none⟩ (.int .u64 e1)).setCell ⟨w.heap.size, 2, none⟩ (.int .u64 e2)).setCell ⟨w.heap.size, 3, none⟩ (.int .u64 e3)).setCell ⟨w.heap.size, 4, none⟩ (.int .u64 e4)).setCell ⟨w.heap.size, 5, none⟩ (.slice e5 e6 e7)) :=
        (((((((FutS.refl w1).setCell (a := ⟨w.heap.size, 0, none⟩) (.inl (by simp)) (.int .i64 e0)).setCell (a := ⟨w.heap.size, 1, none⟩) (.inl (by simp)) (.int .u64 e1)).setCell (a := ⟨w.heap.size, 2, none⟩) (.inl (by simp)) (.int .u64 e2)).setCell (a := ⟨w.heap.size, 3, none⟩) (.inl (by simp)) (.int .u64 e3)).setCell (a := ⟨w.heap.size, 4, none⟩) (.inl (by simp)) (.int .u64 e4)).setCell (a := ⟨w.heap.size, 5, none⟩) (.inl (by simp)) (.slice e5 e6 e7))
      refine ⟨⟨j + 1, e0, e1, e2, e3, e4, e5, e6, e7, by go_num, by omega, ((((((HB1.out.set 0 (.int .i64 e0)).set 1 (.int .u64 e1)).set 2 (.int .u64 e2)).set 3 (.int .u64 e3)).set 4 (.int .u64 e4)).set 5 (.slice e5 e6 e7)), Lib.hid ?_, Lib.hid ?_, Lib.hid ?_⟩, by simp [intOf]; omega⟩
      · rw [HNX.out]
        refine HREP.out.futS hT (fun g hg _ => ?_) (fun g hg => ?_)
        · refine beq_eq_false_iff_ne.2 (fun e => ?_)
          subst e; rw [h0] at hg; cases hg
        · exact beq_eq_false_iff_ne.2 (by omega)
      · have h7 := hT.size
        have h8 := HFF.out.size
        have h9 := HZ.out
        have h10 : wr.drew.heap.size = wr.heap.size := rfl
        omega
      · have h7 : FutS S w w1 := (HF.out.drew).trans (HFF.out.mono (fun k hk => .inl (HSS.out k hk)))
        exact h7.trans (hT.mono (fun k hk => .inl (HS.out k (by have := beq_iff_eq.1 hk; omega))))
    · have hj1 : ((j : Int) < s.size) = False := eq_false (by omega)
      have hje : j = s.size := by omega
      have d0 := hB.cell (i := 0) rfl
      have d1 := hB.cell (i := 1) rfl
      have d2 := hB.cell (i := 2) rfl
      have d3 := hB.cell (i := 3) rfl
      have d4 := hB.cell (i := 4) rfl
      have d5 := hB.cell (i := 5) rfl
      have hi1 : ini (dl i0 ((bl s).take j)) = i0 := hlt0.2.trans hin
      have htk : (bl s).take j = bl s := List.take_of_length_le (by rw [bl_len]; omega)
      rw [htk] at HR hi1 hlt0
      have HNUL := Lib.hid (nul_any hlt0.1 HR.out (fun g hg => HS1.out g (by have := HZ.out; omega)))
      rw [hi1] at HNUL
      clear hlt0 hi1
      go_wp2_with fail
      refine HNUL.out.mono ?_
      rintro e w1 ⟨rfl, hrep, hf⟩
      have HREP := Lib.hid hrep
      have HFF := Lib.hid hf
      clear hrep hf d0 d1 d2 d3 d4 d5 hB
      go_wp2_with fail
      go_ret
      refine ⟨rfl, ?_, HF.out.trans (HFF.out.mono (fun k hk => .inl (HSS.out k hk)))⟩
      have := HREP.out.sub (T := S) (fun g hg _ => HSS.out g hg)
      rw [HX.out] at this
      exact this
end Go.Proofs.YtlgpacpebjechaaGreatDoor
