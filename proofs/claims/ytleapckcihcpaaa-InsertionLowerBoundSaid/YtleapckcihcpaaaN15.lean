/-
  How many rules a parse has; what is moderate.
-/
import Derived.Test.YtleapckcihcpaaaN12
namespace Go.Proofs.Ytleapckcihcpaaa
open Go.RowKit Go.Deep PK
attribute [local go_sem] Oper.lit Oper.litS fut_fut fut_drew World.cell?_alloc_some
set_option maxHeartbeats 3200000 in
theorem left_any (d : DI) : ∀ (l q : Int) w, RdD w d → 0 ≤ l → l ≤ 101 → 0 ≤ q → q ≤ 1000 →
    Calls Try.prog 36 #[dv d, .int .i64 l, .int .i64 q] w fun r w' => r = .returned (.int .i64 (leftF (toDT d) l q)) ∧ Below w.heap.size w w' := by
  induction d using DI.ind with
  | h e A c k ih =>
    intro l q w hR hl0 hl1 hq0 hq1
    obtain ⟨hS, hkl, hK⟩ := hR.parts
    have HS := Lib.hid hS
    have HK := Lib.hid hK
    have HI := Lib.hid ih
    obtain ⟨n, hn⟩ : ∃ n, k.length = n := ⟨_, rfl⟩
    have hn63 : n ≤ 9223372036854775807 := hn ▸ hkl
    have HL := Lib.hid hn
    rw [toDT_eq, leftF]
    simp only [dv, DI.e, DI.A, DI.c, DI.k, hn]
    clear hS hK hR ih hkl hn
    have HB := Lib.hid (show Blk (w.alloc (.cells #[.int .i64 e, .slice A n c] 33)) w.heap.size 33 #[.int .i64 e, .slice A n c] from heap_new' _ _ _ rfl)
    have HF := Lib.hid (show Fut w (w.alloc (.cells #[.int .i64 e, .slice A n c] 33)) from (Fut.refl w).alloc _)
    by_cases h1 : l > 100 ∨ q ≤ 0
    · rw [if_pos h1]
      by_cases h2 : 100 < l
      · clear h1
        go_enter Try.func36, Try.ntmps36
        go_wp2_with fail
        go_ret
        exact ⟨rfl, HF.out⟩
      · have h3 : ¬ 100 < l := by omega
        have h4 : q ≤ 0 := by omega
        clear h1 h2
        go_enter Try.func36, Try.ntmps36
        go_wp2_with fail
        go_ret
        exact ⟨rfl, HF.out⟩
    · rw [if_neg h1]
      have h3 : ¬ 100 < l := by omega
      have h4 : ¬ q ≤ 0 := by omega
      have hw1 : IntKind.i64.wrap (q - 1) = q - 1 := by simp [IntKind.wrap, IntKind.signed, IntKind.bits]; omega
      have hw2 : wrap64 (q - 1) = q - 1 := IntWalk.wrap64_in _ ⟨by omega, by omega⟩
      clear h1
      go_enter Try.func36, Try.ntmps36
      go_wp2_with fail
      generalize w.alloc (.cells #[.int .i64 e, .slice A n c] 33) = wb at *
      go_loopw [2, 7] (fun x i wr => ∃ (j : Nat) (cur : Int), j ≤ n ∧ x = .int .i64 cur ∧ i = .int .i64 j ∧ Hid (leftL (k.map toDT) l (q - 1) = leftL ((k.map toDT).drop j) l cur) ∧ -1 ≤ cur ∧ cur ≤ q ∧ Fut wb wr) (fun _ i _ => n - (intOf i).toNat)
      case atStart => exact ⟨0, q - 1, Nat.zero_le _, rfl, rfl, Lib.hid rfl, by omega, by omega, Fut.refl _⟩
      case round =>
        obtain ⟨j, cur, hj, rfl, rfl, hall, hc0, hc1, hF⟩ := hrel
        have HF2 := Lib.hid hF
        have q1 := (HB.out.fut hF).cell (i := 1) rfl
        by_cases hlt : j < n
        · by_cases hcur : 0 ≤ cur
          · obtain ⟨y, hy⟩ := get_lt HL.out hlt
            obtain ⟨b1, o1, rfl, hd⟩ := HS.out j y hy
            have d0 := hF.cell (HF.out.cell (hd 0 _ (by decide) rfl))
            have d1 := hF.cell (HF.out.cell (hd 1 _ (by decide) rfl))
            simp only [Nat.add_zero] at d0
            have HAT := Lib.hid (leftL_at (k.map toDT) l cur j (toDT y) (by rw [List.getElem?_map, hy]; rfl) hcur)
            have HBD := Lib.hid (leftF_bd (toDT y) (l + 1) cur hcur)
            have HC := Lib.hid (HI.out y (List.mem_of_getElem? hy) (l + 1) cur wr (((HK.out y (List.mem_of_getElem? hy)).fut HF.out).fut hF) (by omega) (by omega) hcur (by omega))
            generalize leftF (toDT y) (l + 1) cur = z at HAT HBD HC
            obtain ⟨ye, yA, yc, yk⟩ := y
            simp only [DI.e, DI.A, DI.c, DI.k] at d0 d1
            simp only [dv, DI.e, DI.A, DI.c, DI.k] at HC
            have hw3 : IntKind.i64.wrap (l + 1) = l + 1 := by simp [IntKind.wrap, IntKind.signed, IntKind.bits]; omega
            have hw4 : wrap64 (l + 1) = l + 1 := IntWalk.wrap64_in _ ⟨by omega, by omega⟩
            clear hy hd hF
            go_wp2_with fail
            refine HC.out.mono ?_
            rintro r w1 ⟨rfl, hb⟩
            have HF3 := Lib.hid (HF2.out.trans (show Fut wr w1 from hb))
            clear hb q1 d0 d1
            go_wp2_with fail
            exact ⟨⟨j + 1, z, by omega, rfl, by go_num, Lib.hid (hall.out.trans HAT.out), HBD.out.1, Int.le_trans HBD.out.2 hc1, HF3.out⟩, by simp [intOf]; omega⟩
          · have HA := Lib.hid (show leftL (k.map toDT) l (q - 1) = cur from hall.out.trans (leftL_neg _ _ _ (by omega)))
            clear hF
            go_wp2_with fail
            go_ret
            exact ⟨by rw [HA.out]; rfl, HF.out.trans HF2.out⟩
        · have HA := Lib.hid (show leftL (k.map toDT) l (q - 1) = cur from by
            rw [hall.out, List.drop_of_length_le (by rw [List.length_map, HL.out]; omega), leftL])
          clear hF
          go_wp2_with fail
          go_ret
          exact ⟨by rw [HA.out]; rfl, HF.out.trans HF2.out⟩
theorem few_any (d : DI) (w : World) (hR : RdD w d) : Calls Try.prog 22 #[dv d, .int .i64 200] w fun r w' => r = .returned (.bool (decide (0 ≤ leftF (toDT d) 0 201))) ∧ Below w.heap.size w w' := by
  obtain ⟨e, A, c, k⟩ := d
  have HF := Lib.hid (show Fut w (w.alloc (.cells #[.int .i64 e, .slice A k.length c] 33)) from (Fut.refl w).alloc _)
  have HC := Lib.hid (left_any (.node e A c k) 0 201 _ (hR.fut HF.out) (by decide) (by decide) (by decide) (by decide))
  clear hR
  generalize leftF (toDT (.node e A c k)) 0 201 = z at *
  simp only [dv, DI.e, DI.A, DI.c, DI.k] at HC ⊢
  generalize k.length = n at *
  go_enter Try.func22, Try.ntmps22
  go_wp2_with fail
  refine HC.out.mono ?_
  rintro r w1 ⟨rfl, hb⟩
  have HF1 := Lib.hid (show Fut _ w1 from hb)
  clear hb
  go_wp2_with fail
  go_ret
  exact ⟨rfl, HF.out.trans HF1.out⟩
set_option maxHeartbeats 3200000 in
theorem moderate_any (T N st : Int) (A : Option Addr) (n c : Nat) (rs : List NR) (B : Option Addr) (m d : Nat) (ins : List Int) (w : World) (hl : rs.length = n) (hn : n ≤ maxLen) (hR : RdN w A rs) (hil : ins.length = m) (hm : m ≤ maxLen) (hI : Rd1 w B (.int .i64 ·) ins) :
    Calls Try.prog 17 #[nmv T N st A n c, .slice B m d] w fun r w' => (∃ b, r = .returned (.bool b) ∧ (b = true → (validN T N st rs && pricesB T ins) = true ∧ ∃ V, Sol (grE ins rs) V ∧ ∀ i, (V i).s ≤ 1000)) ∧ Below w.heap.size w w' := by
  have HB := Lib.hid (show Blk (w.alloc (.cells #[.int .i64 T, .int .i64 N, .int .i64 st, .slice A n c] 24)) w.heap.size 24 #[.int .i64 T, .int .i64 N, .int .i64 st, .slice A n c] from heap_new' _ _ _ rfl)
  have HF := Lib.hid (show Fut w (w.alloc (.cells #[.int .i64 T, .int .i64 N, .int .i64 st, .slice A n c] 24)) from (Fut.refl w).alloc _)
  have HC1 := Lib.hid (fun w' (hf : Fut w w') => rnvalid_any T N st A n c rs w' hl hn (RdS.fut hR hf))
  have HC2 := Lib.hid (fun w' (hf : Fut w w') => rprices_any T N st A n c B m d ins w' hil hm (hI.fut hf))
  have HC3 := Lib.hid (fun w' (hf : Fut w w') => rvalues38_any T N st A n c rs B m d ins w' hl hn (RdS.fut hR hf) hil hm (hI.fut hf))
  clear hl hn hR hil hm hI
  go_enter Try.func17, Try.ntmps17
  go_wp2_with fail
  generalize w.alloc (.cells #[.int .i64 T, .int .i64 N, .int .i64 st, .slice A n c] 24) = wb at *
  refine (HC1.out _ HF.out).mono ?_
  rintro r w1 ⟨rfl, hb⟩
  have HF1 := Lib.hid (show Fut wb w1 from hb)
  clear hb
  obtain ⟨v, hv9⟩ : ∃ v, validN T N st rs = v := ⟨_, rfl⟩
  have HV := Lib.hid hv9
  rw [hv9]
  clear hv9
  have q0 := (HB.out.fut HF1.out).cell (i := 0) rfl
  have q1 := (HB.out.fut HF1.out).cell (i := 1) rfl
  have q2 := (HB.out.fut HF1.out).cell (i := 2) rfl
  have q3 := (HB.out.fut HF1.out).cell (i := 3) rfl
  cases v with
  | false =>
    go_wp2_with fail
    go_ret
    exact ⟨⟨false, rfl, fun h => by cases h⟩, HF.out.trans HF1.out⟩
  | true =>
    go_wp2_with fail
    refine (HC2.out _ (HF.out.trans HF1.out)).mono ?_
    rintro r w2 ⟨rfl, hb⟩
    have HF2 := Lib.hid (HF1.out.trans (show Fut w1 w2 from hb))
    clear hb q0 q1 q2 q3
    obtain ⟨v, hv9⟩ : ∃ v, pricesB T ins = v := ⟨_, rfl⟩
    have HP := Lib.hid hv9
    rw [hv9]
    clear hv9
    have q0 := (HB.out.fut HF2.out).cell (i := 0) rfl
    have q1 := (HB.out.fut HF2.out).cell (i := 1) rfl
    have q2 := (HB.out.fut HF2.out).cell (i := 2) rfl
    have q3 := (HB.out.fut HF2.out).cell (i := 3) rfl
    cases v with
    | false =>
      go_wp2_with fail
      go_ret
      exact ⟨⟨false, rfl, fun h => by cases h⟩, HF.out.trans HF2.out⟩
    | true =>
      have HVP := Lib.hid (show (validN T N st rs && pricesB T ins) = true from by rw [HV.out, HP.out]; rfl)
      go_wp2_with fail
      refine (HC3.out _ (HF.out.trans HF2.out)).mono ?_
      rintro r w3 ⟨hval, hb⟩
      have HF3 := Lib.hid (HF2.out.trans (show Fut w2 w3 from hb))
      clear hb q0 q1 q2 q3
      rcases hval with ⟨h9, _⟩ | ⟨_, M, V, vb, rfl, rfl, hsol, hrow, _⟩
      · rw [HVP.out] at h9; cases h9
      have HSO := Lib.hid hsol
      have HRW := Lib.hid hrow
      have hM : M ≤ 1000 := by have := (validN_parts HV.out).2.2.2.1; omega
      clear hsol hrow
      go_wp2_with fail
      go_loopw [6] (fun i wr => ∃ j : Nat, j ≤ M ∧ i = .int .i64 j ∧ Hid (∀ k, k < j → (V k).s ≤ 1000) ∧ Fut w3 wr) (fun i _ => M - (intOf i).toNat)
      case atStart => exact ⟨0, Nat.zero_le _, rfl, Lib.hid (fun k h => by omega), Fut.refl _⟩
      case round =>
        obtain ⟨j, hj, rfl, hall, hF⟩ := hrel
        have HF4 := Lib.hid hF
        by_cases hlt : j < M
        · have cs := hF.cell (HRW.out.s hlt)
          clear hF
          by_cases hsz : (1000 : Int) < (V j).s
          · go_wp2_with fail
            go_ret
            exact ⟨⟨false, rfl, fun h => by cases h⟩, HF.out.trans (HF3.out.trans HF4.out)⟩
          · have HA := Lib.hid (show ∀ k, k < j + 1 → (V k).s ≤ 1000 from fun k hk => by
              by_cases e : k = j
              · subst e; omega
              · exact hall.out k (by omega))
            go_wp2_with fail
            exact ⟨⟨j + 1, by omega, by go_num, HA, HF4.out⟩, by simp [intOf]; omega⟩
        · clear hF
          go_wp2_with fail
          go_ret
          refine ⟨⟨true, rfl, fun _ => ⟨HVP.out, V, HSO.out, fun i => ?_⟩⟩, HF.out.trans (HF3.out.trans HF4.out)⟩
          by_cases hi : i < M
          · exact hall.out i (by omega)
          · rw [HSO.out.beyond (grE_ok HV.out HP.out) (N := M) (fun e he => by have := grE_head (ins := ins) HV.out e he; simpa using this) (by omega)]
            unfold top; decide
end Go.Proofs.Ytleapckcihcpaaa
