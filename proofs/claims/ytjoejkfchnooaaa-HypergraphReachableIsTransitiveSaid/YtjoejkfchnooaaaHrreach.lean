/-
  Reachable of the reference, walked.
-/
import Derived.Test.YtjoejkfchnooaaaHreach
import Derived.Test.YtjoejkfchnooaaaHder2
namespace Go.Proofs.Ytjoejkfchnooaaa
open Go.RowKit
attribute [local go_sem] Oper.lit Oper.litS fut_fut fut_drew World.cell?_alloc_some
structure RK (es : List EI) (r N k : Nat) (O0 O : Nat → Bool) (b : Bool) : Prop where
  a : ∀ v, O v = true → Rch es r v
  d : O r = true
  f : b = false → O = O0 ∧ ∀ i, i < k → O (headAt es i) = true → ∀ t ∈ tl es i, O t = true
  t : b = true → nF N O < nF N O0
  le : nF N O ≤ nF N O0
theorem RK.start {es : List EI} {r N : Nat} {O : Nat → Bool} (h : ∀ v, O v = true → Rch es r v) (hd : O r = true) : RK es r N 0 O O false := ⟨h, hd, fun _ => ⟨rfl, fun i hi => (by omega)⟩, fun h => (by cases h), Nat.le_refl _⟩
theorem rch_step {es : List EI} {r k t : Nat} {e : EI} (he : es[k]? = some e) (hv : Rch es r (headAt es k)) (ht : t ∈ tl es k) : Rch es r t := by
  rw [tl_of he] at ht
  obtain ⟨y, hy, rfl⟩ := List.mem_map.1 ht
  exact .step hv (List.mem_of_getElem? he) (headAt_of he).symm hy
theorem RK.mark {es : List EI} {r N k t : Nat} {O0 O : Nat → Bool} {b : Bool} (h : RK es r N k O0 O b) (htN : t < N) (ho : O t = false) (hr : Rch es r t) : RK es r N k O0 (upd O t true) true := by
  have h1 := nF_upd N _ O htN ho
  refine ⟨fun v hv => ?_, upd_mono h.d, fun h => (by cases h), fun _ => (by have := h.le; omega), by have := h.le; omega⟩
  rcases upd_true hv with rfl | hv
  · exact hr
  · exact h.a v hv
theorem RK.next {es : List EI} {r N k : Nat} {O0 O : Nat → Bool} {b : Bool} (h : RK es r N k O0 O b) (hs : O (headAt es k) = true → ∀ t ∈ tl es k, O t = true) : RK es r N (k + 1) O0 O b :=
  ⟨h.a, h.d, fun hb => ⟨(h.f hb).1, fun i hi hh => by
    by_cases e : i = k
    · subst e; exact hs hh
    · exact (h.f hb).2 i (by omega) hh⟩, h.t, h.le⟩
theorem RK.done {es : List EI} {r N : Nat} {O0 O : Nat → Bool} (h : RK es r N es.length O0 O false) : ∀ v, O v = true ↔ Rch es r v := fun v => ⟨h.a v, fun hd => by
  induction hd with
  | root => exact h.d
  | step hv he hh ht ih =>
    obtain ⟨i, hi⟩ := List.mem_iff_getElem?.1 he
    refine (h.f rfl).2 i (List.getElem?_eq_some_iff.1 hi).1 (by rw [headAt_of hi, hh]; exact ih) _ ?_
    rw [tl_of hi]
    exact List.mem_map.2 ⟨_, ht, rfl⟩⟩
set_option maxHeartbeats 6400000 in
theorem rReach_any (N : Nat) (r : Int) (A : Option Addr) (n c : Nat) (es : List EI) (w : World) (hl : es.length = n) (hn : n ≤ 1000) (hN : N ≤ 1048576) (hhd : ∀ e ∈ es, 0 ≤ e.h ∧ e.h < N) (htl : ∀ e ∈ es, ∀ t ∈ e.t, 0 ≤ t ∧ t < N) (hR : RdE w A es) :
    Calls Try.prog 19 #[hv N A n c, .int .i64 r] w fun e w' => ∃ b, e = .returned (.slice (some ⟨b, 0, none⟩) N N) ∧ Rd1 w' (some ⟨b, 0, none⟩) (Value.bool ·) (reachL es N r) ∧ Below w.heap.size w w' := by
  have HR := Lib.hid hR
  have HL := Lib.hid hl
  have HV := Lib.hid hhd
  have HT := Lib.hid htl
  clear hR hl hhd htl
  obtain ⟨i0, hi, hz0, hz1, hz2⟩ := info_parts info_bool
  have HW := Lib.hid (show Fut w ((w.alloc (.cells #[.int .i64 N, .slice A n c] 24)).alloc (.cells (madeCells #[.bool false] N) 4)) from ((Fut.refl w).alloc _).alloc _)
  have HROW := Lib.hid (show ((w.alloc (.cells #[.int .i64 N, .slice A n c] 24)).alloc (.cells (madeCells #[.bool false] N) 4)).rowIs (w.heap.size + 1) 4 N (fun _ => .bool false) from by
    have := World.rowIs_made (w.alloc (.cells #[.int .i64 N, .slice A n c] 24)) (.bool false) N 4
    simpa only [World.size_alloc] using this)
  have hbx0 : ((w.alloc (.cells #[.int .i64 N, .slice A n c] 24)).alloc (.cells (madeCells #[.bool false] N) 4)).cell? ⟨w.heap.size, 1, none⟩ = some (.slice A n c) := by (first | (with_reducible assumption) | ((try simp (disch := first | (simp only [World.size_alloc, World.size_drew, World.size_setCell]; done) | (simp only [World.size_alloc, World.size_drew, World.size_setCell]; omega) | omega) only [cell_al_new, cell_al_old, cell_dr]); first | (with_reducible assumption) | rfl | (simp; done)))
  by_cases hr : 0 ≤ r ∧ r < N
  · obtain ⟨rt, rfl⟩ : ∃ m : Nat, r = m := Int.eq_ofNat_of_zero_le hr.1
    have hrt : rt < N := by omega
    have HRL := Lib.hid (show reachL es N (rt : Int) = rchL es rt N from by unfold reachL; rw [if_pos hr]; rfl)
    have hcd := HROW.out.cell hrt
    have hcf := HROW.out.frozen rt
    have HBX := Lib.hid (cell_set (a := ⟨w.heap.size + 1, rt, none⟩) (u := .bool true) hbx0 (by simp))
    have HR1 := Lib.hid (row_upd (f := Value.bool) (O := fun _ => false) (i := rt) (x := true) HROW.out)
    have HF1 := Lib.hid (HW.out.setCell (p := ⟨w.heap.size + 1, rt, none⟩) (by simp only; omega) (.bool true))
    clear hr
    go_enter Try.func19, Try.ntmps19
    go_wp2_with (refine wpList_make_row _ rfl _ _ 28 rfl 4 i0 (.bool false) Try.underlying28 hi hz0 hz1 rfl .i64 .i64 N rfl rfl (by rw [hz2]; omega) (by omega) ?_)
    clear hbx0 hcd hcf
    rw [World.setCell_alloc_at _ _ _ _ _ (World.size_alloc _ _).symm] at HR1 HF1 HBX
    go_loopw [6] (fun ch wr => ∃ (O : Nat → Bool) (b : Bool), ch = .bool b ∧ Hid (∀ v, O v = true → Rch es rt v) ∧ Hid (O rt = true) ∧ Hid (b = false → ∀ v, O v = true ↔ Rch es rt v) ∧ Hid (wr.rowIs (w.heap.size + 1) 4 N (fun i => .bool (O i))) ∧ Hid (Fut w wr) ∧ Hid (wr.cell? ⟨w.heap.size, 1, none⟩ = some (.slice A n c))) (fun ch wr => 2 * nFw wr (w.heap.size + 1) N + (match ch with | .bool true => 1 | _ => 0))
    case atStart => exact ⟨upd (fun _ => false) rt true, true, rfl, Lib.hid (fun v h => by
      rcases upd_true h with rfl | h
      · exact .root
      · cases h), Lib.hid (upd_same _ _ _), Lib.hid (fun h => by cases h), HR1, HF1, HBX⟩
    case round =>
      clear HROW HW HBX HR1 HF1
      obtain ⟨O, b, rfl, hsound, hrt1, hdone, hrow, hF, hbx⟩ := hrel
      cases b with
      | false =>
        have HD := Lib.hid (hdone.out rfl)
        go_wp2_with fail
        go_ret
        refine ⟨_, rfl, ?_, hF.out⟩
        rw [HRL.out, rchL_eq HD.out]
        exact rd_row hrow.out
      | true =>
        have hb1 := hbx.out
        have HMS := Lib.hid (nFw_eq hrow.out)
        obtain ⟨wo, rfl⟩ : ∃ q, q = wr := ⟨_, rfl⟩
        go_wp2_with fail
        clear hb1
        go_loopw [6, 7] (fun ch i wr => ∃ (k : Nat) (O2 : Nat → Bool) (b : Bool), k ≤ n ∧ i = .int .i64 k ∧ ch = .bool b ∧ Hid (RK es rt N k O O2 b) ∧ Hid (wr.rowIs (w.heap.size + 1) 4 N (fun i => .bool (O2 i))) ∧ Hid (Fut w wr) ∧ Hid (wr.cell? ⟨w.heap.size, 1, none⟩ = some (.slice A n c))) (fun _ i _ => n - (intOf i).toNat)
        case atStart => exact ⟨0, O, false, Nat.zero_le _, rfl, rfl, Lib.hid (RK.start hsound.out hrt1.out), hrow, hF, hbx⟩
        case round =>
          clear hrow hF hbx
          obtain ⟨k, O2, b, hk, rfl, rfl, hRK, hrow, hF, hbx⟩ := hrel
          have hb1 := hbx.out
          by_cases hlt : k < n
          · obtain ⟨x, hx⟩ := get_lt HL.out hlt
            obtain ⟨b3, o3, rfl, hc⟩ := HR.out.1 k x hx
            have c0 := hF.out.cell (hc 0 _ (by decide) rfl)
            have c1 := hF.out.cell (hc 1 _ (by decide) rfl)
            have c2 := hF.out.cell (hc 2 _ (by decide) rfl)
            have c3 := hF.out.cell (hc 3 _ (by decide) rfl)
            have c4 := hF.out.cell (hc 4 _ (by decide) rfl)
            simp only [Nat.add_zero] at c0
            have hxh := HV.out x (List.mem_of_getElem? hx)
            have HXT := Lib.hid (HR.out.2 x (List.mem_of_getElem? hx)).1
            have hxl : x.t.length ≤ 9223372036854775807 := (HR.out.2 x (List.mem_of_getElem? hx)).2
            have HXV := Lib.hid (HT.out x (List.mem_of_getElem? hx))
            have HTL := Lib.hid (tl_of hx)
            have hha := headAt_of hx
            have HX := Lib.hid hx
            clear hx hc
            obtain ⟨xh, xt, xc, xl0, xl1, xA, xk⟩ := x
            simp only at HXT hxl HXV HTL hxh hha c0 c1 c2 c3 c4
            obtain ⟨hd, rfl⟩ : ∃ m : Nat, xh = m := Int.eq_ofNat_of_zero_le hxh.1
            have hdN : hd < N := by have := hxh.2; omega
            have HHD := Lib.hid (show headAt es k = hd from hha)
            clear hxh hha
            have HRO := Lib.hid (hrow.out.alloc (.cells #[.int .i64 hd, .slice xA xt.length xk, .int .i64 xc, .int .i64 xl0, .int .i64 xl1] 39))
            have HBO := Lib.hid (show (wr.alloc (.cells #[.int .i64 hd, .slice xA xt.length xk, .int .i64 xc, .int .i64 xl0, .int .i64 xl1] 39)).cell? ⟨w.heap.size, 1, none⟩ = some (.slice (some ⟨b3, o3, none⟩) n c) from ((Fut.refl _).alloc _).cell hb1)
            have HFO := Lib.hid (hF.out.alloc (.cells #[.int .i64 hd, .slice xA xt.length xk, .int .i64 xc, .int .i64 xl0, .int .i64 xl1] 39))
            have HEB := Lib.hid (show (wr.alloc (.cells #[.int .i64 hd, .slice xA xt.length xk, .int .i64 xc, .int .i64 xl0, .int .i64 xl1] 39)).heap[wr.heap.size]? = some (.cells #[.int .i64 hd, .slice xA xt.length xk, .int .i64 xc, .int .i64 xl0, .int .i64 xl1] 39) from heap_alloc_new _ _)
            have hws : w.heap.size + 1 < wr.heap.size := hrow.out.lt
            obtain ⟨wi, rfl⟩ : ∃ q, q = wr := ⟨_, rfl⟩
            go_wp2_with fail
            clear c0 c1 c2 c3 c4 hb1
            go_loopw [6, 9] (fun ch j wr => ∃ (jj : Nat) (O2 : Nat → Bool) (b : Bool), jj ≤ xt.length ∧ j = .int .i64 jj ∧ ch = .bool b ∧ Hid (RK es rt N k O O2 b) ∧ Hid (∀ t ∈ (xt.map Int.toNat).take jj, O2 t = true) ∧ Hid (wr.rowIs (w.heap.size + 1) 4 N (fun i => .bool (O2 i))) ∧ Hid (Fut w wr) ∧ Hid (wr.cell? ⟨w.heap.size, 1, none⟩ = some (.slice (some ⟨b3, o3, none⟩) n c)) ∧ Hid (wr.heap[wi.heap.size]? = some (.cells #[.int .i64 hd, .slice xA xt.length xk, .int .i64 xc, .int .i64 xl0, .int .i64 xl1] 39))) (fun _ j _ => xt.length - (intOf j).toNat)
            case atStart => exact ⟨0, O2, b, Nat.zero_le _, rfl, rfl, hRK, Lib.hid (by simp), HRO, HFO, HBO, HEB⟩
            case round =>
              clear HRO HFO HBO HEB hRK hrow hF hbx
              obtain ⟨jj, O3, b, hj, rfl, rfl, hRK, hpre, hrow, hF, hbx, hEB⟩ := hrel
              have g0 : wr.cell? ⟨wi.heap.size, 0, none⟩ = some (.int .i64 hd) := cell_of_row _ _ 0 _ _ _ hEB.out
              have g1 : wr.cell? ⟨wi.heap.size, 1, none⟩ = some (.slice xA xt.length xk) := cell_of_row _ _ 1 _ _ _ hEB.out
              have hcd := hrow.out.cell hdN
              by_cases hjt : jj < xt.length
              · cases hoh : O3 hd
                · rw [hoh] at hcd
                  have HNX := Lib.hid (hRK.out.next (by rw [HHD.out, hoh]; intro h; cases h))
                  clear hoh
                  go_wp2_with fail
                  exact ⟨⟨k + 1, O3, b, by omega, by go_num, rfl, HNX, hrow, hF, hbx⟩, by simp [intOf]; omega⟩
                · rw [hoh] at hcd
                  obtain ⟨y, hy⟩ := get_lt rfl hjt
                  have hyv := HXV.out y (List.mem_of_getElem? hy)
                  obtain ⟨t, rfl⟩ : ∃ t : Nat, y = t := Int.eq_ofNat_of_zero_le hyv.1
                  have htN : t < N := by have := hyv.2; omega
                  obtain ⟨b4, o4, rfl, hcy⟩ := HXT.out jj _ hy
                  have hct := hF.out.cell hcy
                  have hco := hrow.out.cell htN
                  have hfo := hrow.out.frozen t
                  have HTJ := Lib.hid (show (xt.map Int.toNat)[jj]? = some t from by rw [List.getElem?_map, hy]; rfl)
                  have HRT := Lib.hid (show Rch es rt t from rch_step HX.out (hRK.out.a _ (by rw [HHD.out]; exact hoh)) (by rw [HTL.out]; exact List.mem_of_getElem? HTJ.out))
                  clear hoh hy hyv hcy
                  obtain ⟨wj, rfl⟩ : ∃ q, q = wr := ⟨_, rfl⟩
                  cases hot : O3 t
                  · rw [hot] at hco
                    have HMK := Lib.hid (hRK.out.mark htN hot HRT.out)
                    clear hot
                    go_wp2_with fail
                    refine ⟨⟨jj + 1, upd O3 t true, true, by omega, by go_num, rfl, HMK, Lib.hid ?_, Lib.hid (row_upd (f := Value.bool) hrow.out), Lib.hid (hF.out.setCell (by simp only; omega) _), Lib.hid (cell_set hbx.out (by simp)), Lib.hid ((Below.heap_setCell _ _ _ _ (by simp only; omega)).trans hEB.out)⟩, by simp [intOf]; omega⟩
                    intro z hz
                    rw [List.take_add_one, HTJ.out] at hz
                    rcases List.mem_append.1 hz with hz | hz
                    · exact upd_mono (hpre.out z hz)
                    · simp only [Option.toList_some, List.mem_singleton] at hz; subst hz; exact upd_same _ _ _
                  · rw [hot] at hco
                    have HOT := Lib.hid hot
                    clear hot
                    go_wp2_with fail
                    refine ⟨⟨jj + 1, O3, b, by omega, by go_num, rfl, hRK, Lib.hid ?_, hrow, hF, hbx, hEB⟩, by simp [intOf]; omega⟩
                    intro z hz
                    rw [List.take_add_one, HTJ.out] at hz
                    rcases List.mem_append.1 hz with hz | hz
                    · exact hpre.out z hz
                    · simp only [Option.toList_some, List.mem_singleton] at hz; subst hz; exact HOT.out
              · have HNX := Lib.hid (hRK.out.next (fun _ t ht => hpre.out t (by rw [HTL.out] at ht; rw [List.take_of_length_le (by rw [List.length_map]; omega)]; exact ht)))
                go_wp2_with fail
                exact ⟨⟨k + 1, O3, b, by omega, by go_num, rfl, HNX, hrow, hF, hbx⟩, by simp [intOf]; omega⟩
          · have hkn : k = n := by omega
            have HRK := Lib.hid (show RK es rt N es.length O O2 b from by rw [HL.out, ← hkn]; exact hRK.out)
            have HMS2 := Lib.hid (nFw_eq hrow.out)
            clear hkn
            go_wp2_with fail
            refine ⟨⟨O2, b, rfl, Lib.hid HRK.out.a, Lib.hid HRK.out.d, Lib.hid (fun hb => ?_), hrow, hF, hbx⟩, ?_⟩
            · subst hb; exact HRK.out.done
            · rw [HMS.out, HMS2.out]
              cases b with
              | false => have := HRK.out.le; simp only; omega
              | true => have := HRK.out.t rfl; simp only; omega
  · have HRL := Lib.hid (show reachL es N r = (List.range N).map (fun _ => false) from by
      unfold reachL; rw [if_neg hr]
      simp [List.map_const'])
    have hr' : r < 0 ∨ (0 ≤ r ∧ (N : Int) ≤ r) := by omega
    clear hr hbx0
    rcases hr' with h1 | ⟨h1, h2⟩
    all_goals
      go_enter Try.func19, Try.ntmps19
      go_wp2_with (refine wpList_make_row _ rfl _ _ 28 rfl 4 i0 (.bool false) Try.underlying28 hi hz0 hz1 rfl .i64 .i64 N rfl rfl (by rw [hz2]; omega) (by omega) ?_)
      go_ret
      refine ⟨_, rfl, ?_, HW.out⟩
      rw [HRL.out]
      exact rd_row (f := Value.bool) (O := fun _ => false) HROW.out
end Go.Proofs.Ytjoejkfchnooaaa
