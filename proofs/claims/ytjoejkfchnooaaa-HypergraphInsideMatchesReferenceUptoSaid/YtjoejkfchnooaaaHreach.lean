/-
  Reachable, walked.
-/
import Derived.Test.YtjoejkfchnooaaaHrp
import Derived.Lib.SmallJoins
namespace Go.Proofs.Ytjoejkfchnooaaa
open Go.RowKit
attribute [local go_sem] Oper.lit Oper.litS fut_fut fut_drew World.cell?_alloc_some
set_option maxHeartbeats 6400000 in
theorem reach_any (N : Nat) (r : Int) (A : Option Addr) (n c : Nat) (es : List EI) (w : World) (hl : es.length = n) (hn : n ≤ 1000) (hN : N ≤ 1048576) (hhd : ∀ e ∈ es, 0 ≤ e.h ∧ e.h < N) (htl : ∀ e ∈ es, ∀ t ∈ e.t, 0 ≤ t ∧ t < N) (hR : RdE w A es) :
    Calls Try.prog 18 #[hv N A n c, .int .i64 r] w fun e w' => ∃ b, e = .returned (.slice (some ⟨b, 0, none⟩) N N) ∧ Rd1 w' (some ⟨b, 0, none⟩) (Value.bool ·) (reachL es N r) ∧ Below w.heap.size w w' := by
  have HR := Lib.hid hR
  have HL := Lib.hid hl
  have HV := Lib.hid hhd
  have HT := Lib.hid htl
  clear hR hl hhd htl
  obtain ⟨i0, hi, hz0, hz1, hz2⟩ := info_parts info_bool
  by_cases hr : 0 ≤ r ∧ r < N
  · obtain ⟨rt, rfl⟩ : ∃ m : Nat, r = m := Int.eq_ofNat_of_zero_le hr.1
    have hrt : rt < N := by omega
    have HRL := Lib.hid (show reachL es N (rt : Int) = rchL es rt N from by unfold reachL; rw [if_pos hr]; rfl)
    clear hr
    go_enter Try.func18, Try.ntmps18
    have HW0 := Lib.hid (show Fut w ((w.alloc (.cells #[.int .i64 N, .slice A n c] 24)).alloc (.cells (madeCells #[.bool false] N) 4)) from ((Fut.refl w).alloc _).alloc _)
    have HROW := Lib.hid (show ((w.alloc (.cells #[.int .i64 N, .slice A n c] 24)).alloc (.cells (madeCells #[.bool false] N) 4)).rowIs (w.heap.size + 1) 4 N (fun _ => .bool false) from by
      have := World.rowIs_made (w.alloc (.cells #[.int .i64 N, .slice A n c] 24)) (.bool false) N 4
      simpa only [World.size_alloc] using this)
    have HBX := Lib.hid (show ((w.alloc (.cells #[.int .i64 N, .slice A n c] 24)).alloc (.cells (madeCells #[.bool false] N) 4)).cell? ⟨w.heap.size, 1, none⟩ = some (.slice A n c) from by (first | (with_reducible assumption) | ((try simp (disch := first | (simp only [World.size_alloc, World.size_drew, World.size_setCell]; done) | (simp only [World.size_alloc, World.size_drew, World.size_setCell]; omega) | omega) only [cell_al_new, cell_al_old, cell_dr]); first | (with_reducible assumption) | rfl | (simp; done))))
    have HSZ := Lib.hid (show ((w.alloc (.cells #[.int .i64 N, .slice A n c] 24)).alloc (.cells (madeCells #[.bool false] N) 4)).heap.size = w.heap.size + 2 from by simp only [World.size_alloc])
    go_wp2_with (first
      | (refine wpList_make_row _ rfl _ _ 28 rfl 4 i0 (.bool false) Try.underlying28 hi hz0 hz1 rfl .i64 .i64 N rfl rfl (by rw [hz2]; omega) (by omega) ?_)
      | (go_at_call 32; refine (edges_any N A n c es _ HL.out hn hN HV.out (HR.out.fut HW0.out)).mono ?_; rintro e w1 ⟨u, rfl, hL, hb1⟩; have hrow := HROW.out.of_block (hb1.block _ HROW.out.lt); have hcr := hrow.cell hrt; have hfr := hrow.frozen rt; have HLL := Lib.hid hL; have HB1 := Lib.hid hb1; have HROW1 := Lib.hid hrow; clear hL hb1 hrow))
    have hcx : w1.cell? ⟨w.heap.size, 1, none⟩ = some (.slice A n c) := Fut.cell HB1.out HBX.out
    have HF1 := Lib.hid (HW0.out.trans HB1.out)
    have hsz1 : w.heap.size + 2 ≤ w1.heap.size := by have := HB1.out.size; rw [HSZ.out] at this; exact this
    have HLL1 := HLL.out
    rw [HSZ.out] at HLL1
    have HLL2 := Lib.hid HLL1
    clear HLL HLL1 HBX HROW HB1 HSZ HW0 hcr hfr
    obtain ⟨S, hS⟩ : ∃ S : Nat → Bool, S = fun k => k == w.heap.size + 1 := ⟨_, rfl⟩
    have HSb := Lib.hid (show S (w.heap.size + 1) = true from by rw [hS]; simp)
    have HSo := Lib.hid (show ∀ k, k ≠ w.heap.size + 1 → S k = false from fun k hk => by rw [hS]; simp [hk])
    have HSi := Lib.hid (show ∀ k, S k = true → w.heap.size ≤ k from fun k hk => by rw [hS] at hk; simp at hk; omega)
    clear hS
    go_loopw [7] (fun tv wr => ∃ (O : Nat → Bool) (T : List Nat), Hid (RI es rt N O T) ∧ Hid (FutS S w1 wr) ∧ Hid (wr.rowIs (w.heap.size + 1) 4 N (fun i => .bool (O i))) ∧ Hid (Own wr w1.heap.size tv T)) (fun tv wr => 2 * nFw wr (w.heap.size + 1) N + lenOf tv)
    case atStart =>
      refine ⟨upd (fun _ => false) rt true, [rt], Lib.hid ⟨fun i hi => ?_, fun x hx => ?_, fun v hv hT => ?_, upd_same _ _ _, ?_⟩, Lib.hid ((FutS.refl w1).setCell (.inl HSb.out) _ |>.alloc _), Lib.hid ((row_upd (f := Value.bool) HROW1.out).alloc _), Lib.hid ?_⟩
      · rcases upd_true hi with rfl | h
        · exact .root
        · cases h
      · simp only [List.mem_singleton] at hx; subst hx; exact ⟨hrt, upd_same _ _ _⟩
      · rcases upd_true hv with rfl | h
        · simp at hT
        · cases h
      · have h1 := nF_upd N rt (fun _ => false) hrt rfl
        have h2 : nF N (fun _ => false) ≤ N := by unfold nF; exact Nat.le_trans (List.length_filter_le _ _) (by simp)
        simp only [List.length_cons, List.length_nil]
        omega
      · have h1 := World.ownsRow_lit (base := w1.heap.size) (e := 3) (size := 1) (w1.setCell ⟨w.heap.size + 1, rt, none⟩ (.bool true)) #[nv rt] 1 (by simp only [World.size_setCell]; omega) (by decide) rfl
        rw [World.size_setCell] at h1
        exact h1
    case round =>
      obtain ⟨O, T, hRI, hFS, hrow, hown⟩ := hrel
      rcases List.eq_nil_or_concat T with rfl | ⟨T', v, rfl⟩
      · obtain ⟨ta, tc, rfl, _⟩ := hown.out.form
        go_wp2_with fail
        go_ret
        refine ⟨_, rfl, ?_, hFS.out.fut HF1.out HSi.out⟩
        rw [HRL.out, rchL_eq hRI.out.all]
        exact rd_row hrow.out
      · rw [List.concat_eq_append] at hRI hown
        obtain ⟨ta, tc, htv, hta⟩ := hown.out.form
        obtain ⟨g, rfl⟩ : ∃ g, ta = some ⟨g, 0, none⟩ := by
          rcases hta with ⟨_, h⟩ | h
          · simp at h
          · exact h
        obtain ⟨m, hm⟩ : ∃ m, T'.length = m := ⟨_, rfl⟩
        have htv2 := htv.trans (show _ = Value.slice (some ⟨g, 0, none⟩) (m + 1) tc from by simp [hm])
        clear htv hta
        subst htv2
        have hcell : wr.cell? ⟨g, m, none⟩ = some (.int .i64 v) := by
          obtain ⟨_, h1⟩ := hown.out.rd
          obtain ⟨b, o, e1, h2⟩ := h1 m v (by rw [← hm]; simp)
          injection e1 with e1
          injection e1 with e1 e2
          subst e1 e2
          rw [Nat.zero_add] at h2; exact h2
        have hvN := (hRI.out.b v (by simp)).1
        have hrv := Lib.hid (hRI.out.a v (hRI.out.b v (by simp)).2)
        have hmb : m ≤ 2097152 := by have := hRI.out.e; simp only [List.length_append, List.length_cons, List.length_nil] at this; omega
        have HCUT := Lib.hid hown.out.cut.1
        have hcap := hown.out.cap
        have HJ0 := Lib.hid (hRI.out.pop (L := eof es n v))
        obtain ⟨A2, c2, hcu1, hrd1, hlo1⟩ := HLL2.out.2 v hvN
        have hcu := hFS.out.cell hcu1 (HSo.out _ (by have := HLL2.out.1; simp only; omega))
        have HRD1 := Lib.hid hrd1
        have HLO1 := Lib.hid hlo1
        obtain ⟨M, hM⟩ : ∃ M, 2 * nF N O + (T' ++ [v]).length = M := ⟨_, rfl⟩
        have hMw : 2 * nFw wr (w.heap.size + 1) N + (m + 1) = M := by rw [nFw_eq hrow.out, ← hM]; simp [hm]
        have HMW := Lib.hid hMw
        rw [hM] at HJ0
        have hll : (eof es n v).length ≤ n := eof_len es n v
        clear hM hMw hcu1 hrd1 hlo1 hm hown hRI
        obtain ⟨L, hLd⟩ : ∃ L, eof es n v = L := ⟨_, rfl⟩
        rw [hLd] at hcu HRD1 HJ0 hll
        have HLD := Lib.hid hLd
        clear hLd
        obtain ⟨ll, hle⟩ : ∃ ll, L.length = ll := ⟨_, rfl⟩
        have HLE := Lib.hid hle
        rw [hle] at hcu hll
        clear hle
        obtain ⟨wo, rfl⟩ : ∃ x, x = wr := ⟨_, rfl⟩
        go_wp2_with fail
        clear hcell hcu
        go_loopw [7, 51] (fun tv i wr => ∃ (p : Nat) (O : Nat → Bool) (T : List Nat), p ≤ ll ∧ i = .int .i64 p ∧ Hid (RJ es rt N v p M L O T) ∧ Hid (FutS S w1 wr) ∧ Hid (wr.rowIs (w.heap.size + 1) 4 N (fun i => .bool (O i))) ∧ Hid (Own wr w1.heap.size tv T)) (fun _ i _ => ll - (intOf i).toNat)
        case atStart => exact ⟨0, O, T', Nat.zero_le _, rfl, HJ0, hFS, hrow, HCUT⟩
        case round =>
          clear hFS hrow HCUT HJ0 O T'
          obtain ⟨p, O, T, hp, rfl, hRJ, hFS, hrow, hown⟩ := hrel
          by_cases hlt : p < ll
          · obtain ⟨i, hi⟩ := get_lt HLE.out hlt
            have him := mem_eof.1 (by rw [HLD.out]; exact List.mem_of_getElem? hi : i ∈ eof es n v)
            have hin := him.1
            obtain ⟨x, hx⟩ := get_lt HL.out hin
            obtain ⟨b3, o3, rfl, hci⟩ := HRD1.out p i hi
            have hcell := hFS.out.cell hci (HSo.out _ (by have := HLO1.out b3 o3 rfl; simp only; omega))
            have hbx := hFS.out.cell hcx (HSo.out _ (by simp only; omega))
            have hFw := hFS.out.fut HF1.out HSi.out
            obtain ⟨b, o, rfl, hc⟩ := HR.out.1 i x hx
            have ct := hFw.cell (hc 1 _ (by decide) rfl)
            have HXT := Lib.hid ((HR.out.2 x (List.mem_of_getElem? hx)).1)
            have hxl : x.t.length ≤ 9223372036854775807 := (HR.out.2 x (List.mem_of_getElem? hx)).2
            have HXV := Lib.hid (HT.out x (List.mem_of_getElem? hx))
            have HXM := Lib.hid (List.mem_of_getElem? hx)
            have HXH := Lib.hid (show x.h.toNat = v from by rw [← headAt_of hx]; exact him.2)
            have HX := Lib.hid hx
            have HI := Lib.hid hi
            clear hi him hx hci hFw hc
            obtain ⟨xh, xt, xc, xl0, xl1, xA, xk⟩ := x
            simp only at HXT hxl HXV ct
            obtain ⟨wi, rfl⟩ : ∃ x, x = wr := ⟨_, rfl⟩
            go_wp2_with fail
            clear hcell hbx ct
            go_loopw [7, 62] (fun tv j wr => ∃ (k : Nat) (O : Nat → Bool) (T : List Nat), k ≤ xt.length ∧ j = .int .i64 k ∧ Hid (∀ t ∈ xt.take k, O t.toNat = true) ∧ Hid (RJ es rt N v p M L O T) ∧ Hid (FutS S w1 wr) ∧ Hid (wr.rowIs (w.heap.size + 1) 4 N (fun i => .bool (O i))) ∧ Hid (Own wr w1.heap.size tv T)) (fun _ j _ => xt.length - (intOf j).toNat)
            case atStart => exact ⟨0, O, T, Nat.zero_le _, rfl, Lib.hid (by simp), hRJ, hFS, hrow, hown⟩
            case round =>
              clear hRJ hFS hrow hown O T
              obtain ⟨k, O, T, hk, rfl, hpre, hRJ, hFS, hrow, hown⟩ := hrel
              by_cases hkt : k < xt.length
              · obtain ⟨y, hy⟩ := get_lt rfl hkt
                have hyv := HXV.out y (List.mem_of_getElem? hy)
                have HYM := Lib.hid (List.mem_of_getElem? hy)
                obtain ⟨t, rfl⟩ : ∃ t : Nat, y = t := Int.eq_ofNat_of_zero_le hyv.1
                have htN : t < N := by have := hyv.2; omega
                obtain ⟨b4, o4, rfl, hcy⟩ := HXT.out k _ hy
                have hcell := (hFS.out.fut HF1.out HSi.out).cell hcy
                have hco := hrow.out.cell htN
                have hfo := hrow.out.frozen t
                have HY := Lib.hid hy
                clear hy hyv hcy
                obtain ⟨wj, rfl⟩ : ∃ x, x = wr := ⟨_, rfl⟩
                cases ho : O t
                · rw [ho] at hco
                  have HO := Lib.hid ho
                  have HRT := Lib.hid (show Rch es rt t from .step (t := (t : Int)) hrv.out HXM.out HXH.out HYM.out)
                  obtain ⟨ta, tc2, htv, hta⟩ := hown.out.form
                  subst htv
                  have hTl : T.length ≤ 17000000000000 := by have h1 := hRJ.out.m; have h2 := hRJ.out.hM; omega
                  have hszj : w1.heap.size ≤ wj.heap.size := hFS.out.size
                  have hobl : w.heap.size + 1 < w1.heap.size := by omega
                  clear ho
                  go_wp2_with (at_builtin; refine wpList_push rfl (.tmp 74) (.tmp 76) rfl w1.heap.size _ T rfl ((hown.out.setOther hobl (.bool true)).alloc _) wj.heap.size t rfl (by rw [← World.size_setCell wj ⟨w.heap.size + 1, t, none⟩ (.bool true)]; exact heap_alloc_new _ _) hTl (by simp only [World.size_alloc, World.size_setCell]; omega) ?_; intro g2 cp2 w2 hown2 hgr2 _; have HOWN2 := Lib.hid hown2; have HGR2 := Lib.hid hgr2; clear hown2 hgr2)
                  have hrow2 : (wj.setCell ⟨w.heap.size + 1, t, none⟩ (.bool true)).alloc (.cells #[nv t] 3) |>.rowIs (w.heap.size + 1) 4 N (fun i => .bool (upd O t true i)) := (row_upd (f := Value.bool) hrow.out).alloc _
                  refine ⟨⟨k + 1, upd O t true, T ++ [t], by omega, by go_num, Lib.hid ?_, Lib.hid (hRJ.out.mark htN HO.out HRT.out), Lib.hid (((hFS.out.setCell (.inl HSb.out) _).alloc _).grown HGR2.out (fun k hk => .inr (hown.out.lt k hk).1)), Lib.hid (hrow2.of_block (HGR2.out.block _ hrow2.lt ?_)), HOWN2⟩, by simp [intOf]; omega⟩
                  · intro z hz
                    rw [List.take_add_one, HY.out] at hz
                    rcases List.mem_append.1 hz with hz | hz
                    · exact upd_mono (hpre.out z hz)
                    · simp only [Option.toList_some, List.mem_singleton] at hz
                      subst hz
                      exact upd_same _ _ _
                  · intro e
                    have := (hown.out.lt _ e.symm).1
                    omega
                · rw [ho] at hco
                  have HO := Lib.hid ho
                  clear ho
                  go_wp2_with fail
                  refine ⟨⟨k + 1, O, T, by omega, by go_num, Lib.hid ?_, hRJ, hFS, hrow, hown⟩, by simp [intOf]; omega⟩
                  intro z hz
                  rw [List.take_add_one, HY.out] at hz
                  rcases List.mem_append.1 hz with hz | hz
                  · exact hpre.out z hz
                  · simp only [Option.toList_some, List.mem_singleton] at hz
                    subst hz
                    exact HO.out
              · have hfull : ∀ t ∈ xt, O t.toNat = true := by have := hpre.out; rwa [List.take_of_length_le (by omega)] at this
                have HJ2 := Lib.hid (hRJ.out.next HI.out HX.out hfull)
                clear hfull
                go_wp2_with fail
                exact ⟨⟨p + 1, O, T, by omega, by go_num, HJ2, hFS, hrow, hown⟩, by simp [intOf]; omega⟩
          · have HD := Lib.hid (show RI es rt N O T from RJ.done (p := p) (v := v) (M := M) (by have := hRJ.out; rw [← HLD.out, ← HL.out] at this; exact this) (by rw [HL.out, HLD.out, HLE.out]; omega))
            have hlt2 := hRJ.out.m
            have hms := nFw_eq hrow.out
            have hmw := HMW.out
            obtain ⟨ta, tc2, htv, _⟩ := hown.out.form
            have HLT := Lib.hid (show 2 * nFw wr (w.heap.size + 1) N + T.length < 2 * nFw wo (w.heap.size + 1) N + (m + 1) from by rw [hms, hmw]; exact hlt2)
            clear hlt2 hms hmw
            subst htv
            go_wp2_with fail
            exact ⟨⟨O, T, HD, hFS, hrow, hown⟩, HLT.out⟩
  · have HRL := Lib.hid (show reachL es N r = (List.range N).map (fun _ => false) from by
      unfold reachL; rw [if_neg hr]
      simp [List.map_const'])
    have hr' : r < 0 ∨ (0 ≤ r ∧ (N : Int) ≤ r) := by omega
    clear hr
    have HB0 := Lib.hid (World.rowIs_made (w.alloc (.cells #[.int .i64 N, .slice A n c] 24)) (.bool false) N 4)
    rcases hr' with h1 | ⟨h1, h2⟩
    all_goals
      go_enter Try.func18, Try.ntmps18
      go_wp2_with (refine wpList_make_row _ rfl _ _ 28 rfl 4 i0 (.bool false) Try.underlying28 hi hz0 hz1 rfl .i64 .i64 N rfl rfl (by rw [hz2]; omega) (by omega) ?_)
      go_ret
      refine ⟨_, rfl, ?_, ((Fut.refl w).alloc _).alloc _⟩
      rw [HRL.out]
      have h3 := rd_row (f := Value.bool) (O := fun _ => false) HB0.out
      simpa only [World.size_alloc] using h3
end Go.Proofs.Ytjoejkfchnooaaa
