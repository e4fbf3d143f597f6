/-
  The insertion values, as the program and the reference have them; whether two lists of values are the same.
-/
import Derived.Test.YtleapckcihcpaaaN6
import Derived.Test.YtleapckcihcpaaaK14
namespace Go.Proofs.Ytleapckcihcpaaa
open Go.RowKit Go.Deep PK
attribute [local go_sem] Oper.lit Oper.litS fut_fut fut_drew World.cell?_alloc_some
/-- what Values answers -/
def ValR (T N st : Int) (rs : List NR) (ins : List Int) (lo : Nat) (r : Ending) (w' : World) : Prop :=
  ((validN T N st rs && pricesB T ins) = false ∧ r = .returned (.slice none 0 0)) ∨
  ((validN T N st rs && pricesB T ins) = true ∧ ∃ (M : Nat) (V : Nat → VV) (vb : Nat), N = M ∧ r = .returned (.slice (some ⟨vb, 0, none⟩) M M) ∧ Sol (grE ins rs) V ∧ RowV w' vb M V ∧ lo ≤ vb)
set_option maxHeartbeats 3200000 in
theorem values38_any (T N st : Int) (A : Option Addr) (n c : Nat) (rs : List NR) (B : Option Addr) (m d : Nat) (ins : List Int) (w : World) (hl : rs.length = n) (hn : n ≤ maxLen) (hR : RdN w A rs) (hil : ins.length = m) (hm : m ≤ maxLen) (hI : Rd1 w B (.int .i64 ·) ins) :
    Calls Try.prog 12 #[nmv T N st A n c, .slice B m d] w fun r w' => ValR T N st rs ins w.heap.size r w' ∧ Below w.heap.size w w' := by
  have HF := Lib.hid ((Fut.refl w).alloc (.cells #[.int .i64 T, .int .i64 N, .int .i64 st, .slice A n c] 24))
  have HB := Lib.hid (show Blk (w.alloc (.cells #[.int .i64 T, .int .i64 N, .int .i64 st, .slice A n c] 24)) w.heap.size 24 #[.int .i64 T, .int .i64 N, .int .i64 st, .slice A n c] from heap_new' _ _ _ rfl)
  have HC := Lib.hid (fun w' (hf : Fut w w') => ivalid_any T N st A n c rs B m d ins w' hl hn (hR.fut hf) hil hm (hI.fut hf))
  have HG := Lib.hid (fun w' (hf : Fut w w') h1 h2 => graph_any T N st A n c rs B m d ins w' hl (hR.fut hf) hil (hI.fut hf) h1 h2)
  have HN6 := Lib.hid (fun (h : validN T N st rs = true) => (show n ≤ 1000000 from by
    have := (validN_parts h).2.2.2.2.1
    omega))
  have HLL := Lib.hid hl
  clear hl hn hR hil hm hI
  go_enter Try.func12, Try.ntmps12
  go_wp2_with fail
  generalize w.alloc (.cells #[.int .i64 T, .int .i64 N, .int .i64 st, .slice A n c] 24) = wb at *
  refine (HC.out _ HF.out).mono ?_
  rintro r w1 ⟨rfl, hb⟩
  have HF1 := Lib.hid (show Fut wb w1 from hb)
  clear hb
  have q0 := (HB.out.fut HF1.out).cell (i := 0) rfl
  have q1 := (HB.out.fut HF1.out).cell (i := 1) rfl
  have q2 := (HB.out.fut HF1.out).cell (i := 2) rfl
  have q3 := (HB.out.fut HF1.out).cell (i := 3) rfl
  obtain ⟨v, hv9⟩ : ∃ v, (validN T N st rs && pricesB T ins) = v := ⟨_, rfl⟩
  have HVP := Lib.hid hv9
  rw [hv9]
  clear hv9
  cases v with
  | false =>
    go_wp2_with fail
    go_ret
    exact ⟨.inl ⟨HVP.out, rfl⟩, HF.out.trans HF1.out⟩
  | true =>
    have HV := Lib.hid (show validN T N st rs = true from by
      have := HVP.out
      rw [Bool.and_eq_true] at this
      exact this.1)
    have HP := Lib.hid (show pricesB T ins = true from by
      have := HVP.out
      rw [Bool.and_eq_true] at this
      exact this.2)
    go_wp2_with fail
    refine (HG.out _ (HF.out.trans HF1.out) HV.out HP.out).mono ?_
    rintro r w3 ⟨⟨XA, Xc, es, rfl, hgr, hre⟩, hb⟩
    have HF3 := Lib.hid (HF1.out.trans (show Fut _ w3 from hb))
    have HGR := Lib.hid hgr
    have HRE := Lib.hid hre
    obtain ⟨M, rfl⟩ : ∃ M : Nat, N = M := ⟨N.toNat, by have := (validN_parts HV.out).2.2.1; omega⟩
    clear hb hgr hre q0 q1 q2 q3
    go_wp2_with fail
    refine (solve_any M XA n Xc es _ (HGR.out.1.trans HLL.out) (HN6.out HV.out) (HGR.out.valid HV.out HP.out) HGR.out.tl HRE.out).mono ?_
    rintro r w4 ⟨⟨V, vb, eb, rfl, hs', hv', _, hlo, _⟩, hb⟩
    have HF4 := Lib.hid (HF3.out.trans (show Fut _ w4 from hb))
    have HS := Lib.hid hs'
    have HRV := Lib.hid hv'
    have HLO := Lib.hid (Nat.le_trans (HF.out.trans HF3.out).size hlo)
    clear hb hs' hv' hlo
    go_wp2_with fail
    go_ret
    refine ⟨.inr ⟨by rw [HV.out, HP.out]; rfl, M, V, vb, rfl, rfl, ?_, HRV.out, HLO.out⟩, HF.out.trans HF4.out⟩
    rw [← HGR.out.EEs]; exact HS.out
set_option maxHeartbeats 3200000 in
theorem rvalues38_any (T N st : Int) (A : Option Addr) (n c : Nat) (rs : List NR) (B : Option Addr) (m d : Nat) (ins : List Int) (w : World) (hl : rs.length = n) (hn : n ≤ maxLen) (hR : RdN w A rs) (hil : ins.length = m) (hm : m ≤ maxLen) (hI : Rd1 w B (.int .i64 ·) ins) :
    Calls Try.prog 13 #[nmv T N st A n c, .slice B m d] w fun r w' => ValR T N st rs ins w.heap.size r w' ∧ Below w.heap.size w w' := by
  have HF := Lib.hid ((Fut.refl w).alloc (.cells #[.int .i64 T, .int .i64 N, .int .i64 st, .slice A n c] 24))
  have HB := Lib.hid (show Blk (w.alloc (.cells #[.int .i64 T, .int .i64 N, .int .i64 st, .slice A n c] 24)) w.heap.size 24 #[.int .i64 T, .int .i64 N, .int .i64 st, .slice A n c] from heap_new' _ _ _ rfl)
  have HC := Lib.hid (fun w' (hf : Fut w w') => rnvalid_any T N st A n c rs w' hl hn (hR.fut hf))
  have HC2 := Lib.hid (fun w' (hf : Fut w w') => rprices_any T N st A n c B m d ins w' hil hm (hI.fut hf))
  have HG := Lib.hid (fun w' (hf : Fut w w') h1 h2 => rgraph_any T N st A n c rs B m d ins w' hl (hR.fut hf) hil (hI.fut hf) h1 h2)
  have HN6 := Lib.hid (fun (h : validN T N st rs = true) => (show n ≤ 1000000 from by
    have := (validN_parts h).2.2.2.2.1
    omega))
  have HLL := Lib.hid hl
  clear hl hn hR hil hm hI
  go_enter Try.func13, Try.ntmps13
  go_wp2_with fail
  generalize w.alloc (.cells #[.int .i64 T, .int .i64 N, .int .i64 st, .slice A n c] 24) = wb at *
  refine (HC.out _ HF.out).mono ?_
  rintro r w1 ⟨rfl, hb⟩
  have HF1 := Lib.hid (show Fut wb w1 from hb)
  clear hb
  have q0 := (HB.out.fut HF1.out).cell (i := 0) rfl
  have q1 := (HB.out.fut HF1.out).cell (i := 1) rfl
  have q2 := (HB.out.fut HF1.out).cell (i := 2) rfl
  have q3 := (HB.out.fut HF1.out).cell (i := 3) rfl
  obtain ⟨v, hv9⟩ : ∃ v, validN T N st rs = v := ⟨_, rfl⟩
  have HV := Lib.hid hv9
  rw [hv9]
  clear hv9
  cases v with
  | false =>
    go_wp2_with fail
    go_ret
    exact ⟨.inl ⟨by rw [HV.out]; rfl, rfl⟩, HF.out.trans HF1.out⟩
  | true =>
    go_wp2_with fail
    refine (HC2.out _ (HF.out.trans HF1.out)).mono ?_
    rintro r w2 ⟨rfl, hb⟩
    have HF2 := Lib.hid (HF1.out.trans (show Fut w1 w2 from hb))
    clear hb q0 q1 q2 q3
    obtain ⟨p, hp9⟩ : ∃ p, pricesB T ins = p := ⟨_, rfl⟩
    have HP := Lib.hid hp9
    rw [hp9]
    clear hp9
    have q0 := (HB.out.fut HF2.out).cell (i := 0) rfl
    have q1 := (HB.out.fut HF2.out).cell (i := 1) rfl
    have q2 := (HB.out.fut HF2.out).cell (i := 2) rfl
    have q3 := (HB.out.fut HF2.out).cell (i := 3) rfl
    cases p with
    | false =>
      go_wp2_with fail
      go_ret
      exact ⟨.inl ⟨by rw [HV.out, HP.out]; rfl, rfl⟩, HF.out.trans HF2.out⟩
    | true =>
      go_wp2_with fail
      refine (HG.out _ (HF.out.trans HF2.out) HV.out HP.out).mono ?_
      rintro r w3 ⟨⟨XA, Xc, es, rfl, hgr, hre⟩, hb⟩
      have HF3 := Lib.hid (HF2.out.trans (show Fut _ w3 from hb))
      have HGR := Lib.hid hgr
      have HRE := Lib.hid hre
      obtain ⟨M, rfl⟩ : ∃ M : Nat, N = M := ⟨N.toNat, by have := (validN_parts HV.out).2.2.1; omega⟩
      clear hb hgr hre q0 q1 q2 q3
      go_wp2_with fail
      refine (rsolve_any M XA n Xc es _ (HGR.out.1.trans HLL.out) (HN6.out HV.out) (HGR.out.valid HV.out HP.out) HGR.out.tl HRE.out).mono ?_
      rintro r w4 ⟨⟨V, vb, eb, rfl, hs', hv', _, hlo, _⟩, hb⟩
      have HF4 := Lib.hid (HF3.out.trans (show Fut _ w4 from hb))
      have HS := Lib.hid hs'
      have HRV := Lib.hid hv'
      have HLO := Lib.hid (Nat.le_trans (HF.out.trans HF3.out).size hlo)
      clear hb hs' hv' hlo
      go_wp2_with fail
      go_ret
      refine ⟨.inr ⟨by rw [HV.out, HP.out]; rfl, M, V, vb, rfl, rfl, ?_, HRV.out, HLO.out⟩, HF.out.trans HF4.out⟩
      rw [← HGR.out.EEs]; exact HS.out
set_option maxHeartbeats 3200000 in
theorem samev_any (A B : Option Addr) (n c m d : Nat) (l k : List VV) (w : World) (hl : l.length = n) (hk : k.length = m) (hn : n ≤ maxLen) (hm : m ≤ maxLen) (hR : RdS w A 2 encV l) (hS : RdS w B 2 encV k) :
    Calls Try.prog 11 #[.slice A n c, .slice B m d] w fun e w' => e = .returned (.bool (decide (l = k))) ∧ Below w.heap.size w w' := by
  have hn' : n ≤ 9223372036854775807 := hn
  have hm' : m ≤ 9223372036854775807 := hm
  have HR := Lib.hid hR
  have HS := Lib.hid hS
  have HL := Lib.hid hl
  have HK := Lib.hid hk
  clear hR hS hl hk hn hm
  by_cases hnm : n = m
  · subst hnm
    go_enter Try.func11, Try.ntmps11
    go_wp2_with fail
    go_loopw [5] (fun i wr => ∃ j : Nat, j ≤ n ∧ i = .int .i64 j ∧ Hid (l.take j = k.take j) ∧ Fut w wr) (fun i _ => n - (intOf i).toNat)
    case atStart => exact ⟨0, Nat.zero_le _, rfl, Lib.hid (by simp), Fut.refl _⟩
    case round =>
      obtain ⟨j, hj, rfl, hall, hF⟩ := hrel
      by_cases hlt : j < n
      · obtain ⟨x, hx⟩ := get_lt HL.out hlt
        obtain ⟨y, hy⟩ := get_lt HK.out hlt
        obtain ⟨b, o, rfl, hc⟩ := HR.out j x hx
        obtain ⟨b2, o2, rfl, he⟩ := HS.out j y hy
        have c0 := cell_fut (hF.cell (hc 0 _ (by decide) rfl))
        have c1 := cell_fut (hF.cell (hc 1 _ (by decide) rfl))
        have e0 := cell_fut (hF.cell (he 0 _ (by decide) rfl))
        have e1 := cell_fut (hF.cell (he 1 _ (by decide) rfl))
        simp only [Nat.add_zero] at c0 e0
        have HX := Lib.hid hx
        have HY := Lib.hid hy
        have HF := Lib.hid hF
        clear hx hy hc he hF
        obtain ⟨xc, xs⟩ := x
        obtain ⟨yc, ys⟩ := y
        by_cases hxy : xc = yc ∧ xs = ys
        · obtain ⟨rfl, rfl⟩ := hxy
          have HA := Lib.hid (show l.take (j + 1) = k.take (j + 1) from by rw [List.take_add_one, List.take_add_one, hall.out, HX.out, HY.out])
          go_wp2_with fail
          refine wp_region_M o_emendateref29_SameValues_6 (by kernel_rfl) (by kernel_rfl) (by intro c a d v w h; cases d <;> exact h) ?_; unfold o_emendateref29_SameValues_6
          iterate 9 (refine wpF_h rfl rfl (fun K hK => ?_); go_simp; refine hK _ _ ?_; clear hK K)
          refine wpF_nil ?_
          go_wp2_with fail
          exact ⟨⟨j + 1, by omega, by go_num, HA, HF.out.trans (by show Fut _ _; repeat (first | (with_reducible assumption) | exact Fut.refl _ | exact Fut.fut _ _ _ | refine Fut.drew ?_ | refine Fut.alloc ?_ _ | refine Fut.trans ?_ (Fut.fut _ _ _) | refine Fut.trans ?_ (by assumption)))⟩, by simp [intOf]; omega⟩
        · have HA := Lib.hid (show decide (l = k) = false from decide_eq_false (fun h => by
            subst h
            have := HX.out.symm.trans HY.out
            injection this with this
            injection this with h1 h2
            exact hxy ⟨h1, h2⟩))
          by_cases h1 : xc = yc
          · subst h1
            have h2 : ¬ xs = ys := fun h => hxy ⟨rfl, h⟩
            obtain ⟨x1, x2, x3⟩ := cmpF_no h2
            clear h2 hxy
            go_wp2_with fail
            refine wp_region_M o_emendateref29_SameValues_6 (by kernel_rfl) (by kernel_rfl) (by intro c a d v w h; cases d <;> exact h) ?_; unfold o_emendateref29_SameValues_6
            iterate 9 (refine wpF_h rfl rfl (fun K hK => ?_); go_simp; refine hK _ _ ?_; clear hK K)
            refine wpF_nil ?_
            go_wp2_with fail
            go_ret
            exact ⟨by rw [HA.out]; rfl, HF.out.trans (by show Fut _ _; repeat (first | (with_reducible assumption) | exact Fut.refl _ | exact Fut.fut _ _ _ | refine Fut.drew ?_ | refine Fut.alloc ?_ _ | refine Fut.trans ?_ (Fut.fut _ _ _) | refine Fut.trans ?_ (by assumption)))⟩
          · obtain ⟨x1, x2, x3⟩ := cmpF_no h1
            clear h1 hxy
            go_wp2_with fail
            refine wp_region_M o_emendateref29_SameValues_6 (by kernel_rfl) (by kernel_rfl) (by intro c a d v w h; cases d <;> exact h) ?_; unfold o_emendateref29_SameValues_6
            iterate 9 (refine wpF_h rfl rfl (fun K hK => ?_); go_simp; refine hK _ _ ?_; clear hK K)
            refine wpF_nil ?_
            go_wp2_with fail
            go_ret
            exact ⟨by rw [HA.out]; rfl, HF.out.trans (by show Fut _ _; repeat (first | (with_reducible assumption) | exact Fut.refl _ | exact Fut.fut _ _ _ | refine Fut.drew ?_ | refine Fut.alloc ?_ _ | refine Fut.trans ?_ (Fut.fut _ _ _) | refine Fut.trans ?_ (by assumption)))⟩
      · have HA := Lib.hid (show decide (l = k) = true from decide_eq_true (by
          have := hall.out
          rwa [List.take_of_length_le (by rw [HL.out]; omega), List.take_of_length_le (by rw [HK.out]; omega)] at this))
        go_wp2_with fail
        go_ret
        exact ⟨by rw [HA.out]; rfl, hF⟩
  · have HA := Lib.hid (show decide (l = k) = false from decide_eq_false (fun h => hnm (by rw [← HL.out, ← HK.out, h])))
    have hx : ¬ (n : Int) = (m : Int) := by omega
    obtain ⟨x1, x2, x3⟩ := cmpF_no hx
    clear hx hnm
    go_enter Try.func11, Try.ntmps11
    go_wp2_with fail
    go_ret
    exact ⟨by rw [HA.out]; rfl, Fut.refl _⟩
end Go.Proofs.Ytleapckcihcpaaa
