/-
  How many hyperedges a derivation has; the reference's value of a derivation, walked.
-/
import Derived.Test.YtoiffhoiklafhaaF11
import Derived.Test.YtoiffhoiklafhaaBK
import Derived.Test.YtoiffhoiklafhaaPnex
namespace Go.Proofs.Ytoiffhoiklafhaa
open Go.RowKit Go.Deep PK
attribute [local go_sem] Oper.lit Oper.litS fut_fut fut_drew World.cell?_alloc_some
attribute [local go_sem] fut_base_drew World.frozen?_setCell
set_option maxRecDepth 4000 in
set_option maxHeartbeats 3200000 in
theorem left_any (d : DI) : ∀ (l q : Int) w, RdD w d → 0 ≤ l → l ≤ 101 → 0 ≤ q → q ≤ 1000 →
    Calls Try.prog 39 #[dv d, .int .i64 l, .int .i64 q] w fun r w' => r = .returned (.int .i64 (leftF (toDT d) l q)) ∧ Below w.heap.size w w' := by
  induction d using DI.ind with
  | h e A c k ih =>
    intro l q w hR hl0 hl1 hq0 hq1
    obtain ⟨hS, hkl, hK⟩ := hR.parts
    have HS := Lib.hid hS
    have HK := Lib.hid hK
    have HI := Lib.hid ih
    obtain ⟨n, hn⟩ : ∃ n, k.length = n := ⟨_, rfl⟩
    have hn63 : n ≤ 9223372036854775807 := hn ▸ hkl
    have HL := Lib.hid hn
    rw [toDT_eq, leftF]
    simp only [dv, DI.e, DI.A, DI.c, DI.k, hn]
    clear hS hK hR ih hkl hn
    have HB := Lib.hid (show Blk (w.alloc (.cells #[.int .i64 e, .slice A n c] 36)) w.heap.size 36 #[.int .i64 e, .slice A n c] from heap_new' _ _ _ rfl)
    have HF := Lib.hid (show Fut w (w.alloc (.cells #[.int .i64 e, .slice A n c] 36)) from (Fut.refl w).alloc _)
    by_cases h1 : l > 100 ∨ q ≤ 0
    · rw [if_pos h1]
      by_cases h2 : 100 < l
      · clear h1
        go_enter Try.func39, Try.ntmps39
        go_wp2_with fail
        go_ret
        exact ⟨rfl, HF.out⟩
      · have h3 : ¬ 100 < l := by omega
        have h4 : q ≤ 0 := by omega
        clear h1 h2
        go_enter Try.func39, Try.ntmps39
        go_wp2_with fail
        go_ret
        exact ⟨rfl, HF.out⟩
    · rw [if_neg h1]
      have h3 : ¬ 100 < l := by omega
      have h4 : ¬ q ≤ 0 := by omega
      have hw1 : IntKind.i64.wrap (q - 1) = q - 1 := by simp [IntKind.wrap, IntKind.signed, IntKind.bits]; omega
      have hw2 : wrap64 (q - 1) = q - 1 := IntWalk.wrap64_in _ ⟨by omega, by omega⟩
      clear h1
      go_enter Try.func39, Try.ntmps39
      go_wp2_with fail
      generalize w.alloc (.cells #[.int .i64 e, .slice A n c] 36) = wb at *
      go_loopw [2, 7] (fun x i wr => ∃ (j : Nat) (cur : Int), j ≤ n ∧ x = .int .i64 cur ∧ i = .int .i64 j ∧ Hid (leftL (k.map toDT) l (q - 1) = leftL ((k.map toDT).drop j) l cur) ∧ -1 ≤ cur ∧ cur ≤ q ∧ Fut wb wr) (fun _ i _ => n - (intOf i).toNat)
      case atStart => exact ⟨0, q - 1, Nat.zero_le _, rfl, rfl, Lib.hid rfl, by omega, by omega, Fut.refl _⟩
      case round =>
        obtain ⟨j, cur, hj, rfl, rfl, hall, hc0, hc1, hF⟩ := hrel
        have HF2 := Lib.hid hF
        have q1 := (HB.out.fut hF).cell (i := 1) rfl
        by_cases hlt : j < n
        · by_cases hcur : 0 ≤ cur
          · obtain ⟨y, hy⟩ := get_lt HL.out hlt
            obtain ⟨b1, o1, rfl, hd⟩ := HS.out j y hy
            have d0 := hF.cell (HF.out.cell (hd 0 _ (by decide) rfl))
            have d1 := hF.cell (HF.out.cell (hd 1 _ (by decide) rfl))
            simp only [Nat.add_zero] at d0
            have HAT := Lib.hid (leftL_at (k.map toDT) l cur j (toDT y) (by rw [List.getElem?_map, hy]; rfl) hcur)
            have HBD := Lib.hid (leftF_bd (toDT y) (l + 1) cur hcur)
            have HC := Lib.hid (HI.out y (List.mem_of_getElem? hy) (l + 1) cur wr (((HK.out y (List.mem_of_getElem? hy)).fut HF.out).fut hF) (by omega) (by omega) hcur (by omega))
            generalize leftF (toDT y) (l + 1) cur = z at HAT HBD HC
            obtain ⟨ye, yA, yc, yk⟩ := y
            simp only [DI.e, DI.A, DI.c, DI.k] at d0 d1
            simp only [dv, DI.e, DI.A, DI.c, DI.k] at HC
            have hw3 : IntKind.i64.wrap (l + 1) = l + 1 := by simp [IntKind.wrap, IntKind.signed, IntKind.bits]; omega
            have hw4 : wrap64 (l + 1) = l + 1 := IntWalk.wrap64_in _ ⟨by omega, by omega⟩
            clear hy hd hF
            go_wp2_with fail
            refine HC.out.mono ?_
            rintro r w1 ⟨rfl, hb⟩
            have HF3 := Lib.hid (HF2.out.trans (show Fut wr w1 from hb))
            clear hb q1 d0 d1
            go_wp2_with fail
            exact ⟨⟨j + 1, z, by omega, rfl, by go_num, Lib.hid (hall.out.trans HAT.out), HBD.out.1, Int.le_trans HBD.out.2 hc1, HF3.out⟩, by simp [intOf]; omega⟩
          · have HA := Lib.hid (show leftL (k.map toDT) l (q - 1) = cur from hall.out.trans (leftL_neg _ _ _ (by omega)))
            clear hF
            go_wp2_with fail
            go_ret
            exact ⟨by rw [HA.out]; rfl, HF.out.trans HF2.out⟩
        · have HA := Lib.hid (show leftL (k.map toDT) l (q - 1) = cur from by
            rw [hall.out, List.drop_of_length_le (by rw [List.length_map, HL.out]; omega), leftL])
          clear hF
          go_wp2_with fail
          go_ret
          exact ⟨by rw [HA.out]; rfl, HF.out.trans HF2.out⟩
set_option maxRecDepth 4000 in
theorem few_any (d : DI) (w : World) (hR : RdD w d) : Calls Try.prog 20 #[dv d, .int .i64 200] w fun r w' => r = .returned (.bool (decide (0 ≤ leftF (toDT d) 0 201))) ∧ Below w.heap.size w w' := by
  obtain ⟨e, A, c, k⟩ := d
  have HF := Lib.hid (show Fut w (w.alloc (.cells #[.int .i64 e, .slice A k.length c] 36)) from (Fut.refl w).alloc _)
  have HC := Lib.hid (left_any (.node e A c k) 0 201 _ (hR.fut HF.out) (by decide) (by decide) (by decide) (by decide))
  clear hR
  generalize leftF (toDT (.node e A c k)) 0 201 = z at *
  simp only [dv, DI.e, DI.A, DI.c, DI.k] at HC ⊢
  generalize k.length = n at *
  go_enter Try.func20, Try.ntmps20
  go_wp2_with fail
  refine HC.out.mono ?_
  rintro r w1 ⟨rfl, hb⟩
  have HF1 := Lib.hid (show Fut _ w1 from hb)
  clear hb
  go_wp2_with fail
  go_ret
  exact ⟨rfl, HF.out.trans HF1.out⟩
theorem val_s_le (es : List EE) (d : DT) : (val es d).s ≤ sizD d := by
  induction d using DT.ind with
  | h e k ih =>
    rw [val, sizD]
    have hk : ∀ (k : List DT), (∀ d ∈ k, (val es d).s ≤ sizD d) → ∀ p : Int × Int, ((valL es k).foldl combG p).2 ≤ p.2 + sizDs k := by
      intro k
      induction k with
      | nil => intro _ p; simp [valL, sizDs]
      | cons d k ihk =>
        intro h p
        rw [valL, List.foldl_cons, sizDs]
        have h1 := ihk (fun d hd => h d (by simp [hd])) (combG p (val es d))
        have h2 := h d (by simp)
        have h3 : (combG p (val es d)).2 ≤ p.2 + (val es d).s := by unfold combG; simp only; omega
        omega
    cases edge es e with
    | none => have := sizD_pos (.node e k); rw [sizD] at this; unfold top; simp only; omega
    | some E =>
      simp only
      unfold comb
      split
      · have := sizD_pos (.node e k); rw [sizD] at this; unfold top; simp only; omega
      · have := hk k ih (E.c, 1)
        simp only at this ⊢
        omega
theorem few_size {d : DT} (h : 0 ≤ leftF d 0 201) : sizD d ≤ 201 := by
  have := leftF_size d 0 201 h
  omega
theorem sizDs_drop (k : List DI) (j : Nat) (y : DI) (h : k[j]? = some y) : sizDs ((k.drop j).map toDT) = sizD (toDT y) + sizDs ((k.drop (j + 1)).map toDT) := by
  obtain ⟨hj, he⟩ := List.getElem?_eq_some_iff.1 h
  rw [List.drop_eq_getElem_cons hj, List.map_cons, sizDs, he]
theorem rval_res : Try.f28.results = #[.cell 8 46, .tmp 9] := by kernel_rfl
end Go.Proofs.Ytoiffhoiklafhaa
