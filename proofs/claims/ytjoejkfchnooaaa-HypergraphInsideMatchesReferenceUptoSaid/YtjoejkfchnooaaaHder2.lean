/-
  Derivable, walked: its two loops.
-/
import Derived.Test.YtjoejkfchnooaaaHfound
namespace Go.Proofs.Ytjoejkfchnooaaa
open Go.RowKit
attribute [local go_sem] Oper.lit Oper.litS fut_fut fut_drew World.cell?_alloc_some
def sumT (es : List EI) (k : Nat) : Nat := ((List.range k).map (fun i => (tl es i).length)).sum
theorem sumT_succ (es : List EI) (k : Nat) : sumT es (k + 1) = sumT es k + (tl es k).length := by
  unfold sumT; rw [List.range_succ, List.map_append, List.sum_append]; simp
theorem sumT_mono (es : List EI) {k m : Nat} (h : k ≤ m) : sumT es k ≤ sumT es m := by
  induction m with
  | zero => have : k = 0 := by omega
            subst this; exact Nat.le_refl _
  | succ m ih =>
    by_cases e : k = m + 1
    · subst e; exact Nat.le_refl _
    · rw [sumT_succ]; have := ih (by omega); omega
theorem Own.ne_block {w : World} {B e : Nat} {v : Value} {xs : List Nat} {cs : Array Value} {t : TypeId} {fr : Nat × Nat} (h : Own w B v xs) (hb : w.heap[e]? = some (.cells cs t fr)) (ht : t ≠ 3) : v.ownBlock ≠ some e := by
  unfold Own World.ownsRow at h
  obtain ⟨_, ⟨rfl, _⟩ | ⟨g, cap, cur, rfl, h1, h2, _⟩⟩ := h
  · simp [Value.ownBlock]
  · intro e1
    simp only [Value.ownBlock, Option.some.injEq] at e1
    subst e1
    rw [hb] at h2
    simp only [Option.some.injEq, Obj.cells.injEq] at h2
    exact ht h2.2.1
set_option maxHeartbeats 12800000 in
theorem derive_any (N : Nat) (A : Option Addr) (n c : Nat) (es : List EI) (w : World) (hl : es.length = n) (hn : n ≤ 1000) (hN : N ≤ 1048576) (hhd : ∀ e ∈ es, 0 ≤ e.h ∧ e.h < N) (htl : ∀ e ∈ es, ∀ t ∈ e.t, 0 ≤ t ∧ t < N) (htot : sumT es n ≤ 2000000) (hR : RdE w A es) :
    Calls Try.prog 16 #[hv N A n c] w fun e w' => ∃ b, e = .returned (.slice (some ⟨b, 0, none⟩) N N) ∧ Rd1 w' (some ⟨b, 0, none⟩) (Value.bool ·) (derL es N) ∧ Below w.heap.size w w' := by
  have HR := Lib.hid hR
  have HL := Lib.hid hl
  have HV := Lib.hid hhd
  have HT := Lib.hid htl
  have HTOT := Lib.hid htot
  clear hR hl hhd htl htot
  obtain ⟨i0, hi, hz0, hz1, hz2⟩ := info_parts info_bool
  obtain ⟨i1, ki, kz0, kz1, kz2⟩ := info_parts info_int
  obtain ⟨i2, mi, mz0, mz1, mz2⟩ := info_parts info_sl
  go_enter Try.func16, Try.ntmps16
  go_wp2_with (first
    | (refine wpList_make_row _ rfl (.tmp 16) (.tmp 16) 28 rfl 4 i0 (.bool false) Try.underlying28 hi hz0 hz1 rfl .i64 .i64 N rfl rfl (by rw [hz2]; omega) (by omega) ?_)
    | (refine wpList_make_row _ rfl (.tmp 20) (.tmp 20) 32 rfl 3 i1 (.int .i64 0) Try.underlying32 ki kz0 kz1 rfl .i64 .i64 n rfl rfl (by rw [kz2]; omega) (by omega) ?_)
    | (refine wpList_make_row _ rfl (.tmp 23) (.tmp 23) 56 rfl 32 i2 (.slice none 0 0) Try.underlying56 mi mz0 mz1 rfl .i64 .i64 N rfl rfl (by rw [mz2]; omega) (by omega) ?_))
  simp only [Nat.add_assoc, Nat.reduceAdd]
  have HD0 := Lib.hid (show DH w w.heap.size N n A c ((((((w.alloc (.cells #[.int .i64 N, .slice A n c] 24)).alloc (.cells (madeCells #[.bool false] N) 4)).alloc (.cells #[.slice (some ⟨w.heap.size + 1, 0, none⟩) N N] 28)).alloc (.cells (madeCells #[.int .i64 0] n) 3)).alloc (.cells (madeCells #[.slice none 0 0] N) 32)).alloc (.cells #[.slice none 0 0] 32))
      (fun _ => false) (fun _ => 0) (fun _ => .slice none 0 0) (fun _ => []) (.slice none 0 0) [] from by
    have r1 := World.rowIs_made (w.alloc (.cells #[.int .i64 N, .slice A n c] 24)) (.bool false) N 4
    have r3 := World.rowIs_made (((w.alloc (.cells #[.int .i64 N, .slice A n c] 24)).alloc (.cells (madeCells #[.bool false] N) 4)).alloc (.cells #[.slice (some ⟨w.heap.size + 1, 0, none⟩) N N] 28)) (.int .i64 0) n 3
    have r4 := World.rowIs_made ((((w.alloc (.cells #[.int .i64 N, .slice A n c] 24)).alloc (.cells (madeCells #[.bool false] N) 4)).alloc (.cells #[.slice (some ⟨w.heap.size + 1, 0, none⟩) N N] 28)).alloc (.cells (madeCells #[.int .i64 0] n) 3)) (.slice none 0 0) N 32
    simp only [World.size_alloc, Nat.add_assoc, Nat.reduceAdd] at r1 r3 r4
    refine ⟨Nat.le_refl _, ((((((Fut.refl w).alloc _).alloc _).alloc _).alloc _).alloc _).alloc _, by simp only [World.size_alloc]; omega, by (first | (with_reducible assumption) | ((try simp (disch := first | (simp only [World.size_alloc, World.size_drew, World.size_setCell]; done) | (simp only [World.size_alloc, World.size_drew, World.size_setCell]; omega) | omega) only [cell_al_new, cell_al_old, cell_dr]); first | (with_reducible assumption) | rfl | (simp; done))), (((r1.alloc _).alloc _).alloc _).alloc _, by (first | (with_reducible assumption) | ((try simp (disch := first | (simp only [World.size_alloc, World.size_drew, World.size_setCell]; done) | (simp only [World.size_alloc, World.size_drew, World.size_setCell]; omega) | omega) only [cell_al_new, cell_al_old, cell_dr]); first | (with_reducible assumption) | rfl | (simp; done))), (r3.alloc _).alloc _, ⟨r4.alloc _, by omega, fun i _ => Own.nil _ _, fun i j g _ _ h => by simp [Value.ownBlock] at h⟩, ?_, Own.nil _ _, fun i _ g h => by simp [Value.ownBlock] at h⟩
    have h5 := heap_alloc_new (((((w.alloc (.cells #[.int .i64 N, .slice A n c] 24)).alloc (.cells (madeCells #[.bool false] N) 4)).alloc (.cells #[.slice (some ⟨w.heap.size + 1, 0, none⟩) N N] 28)).alloc (.cells (madeCells #[.int .i64 0] n) 3)).alloc (.cells (madeCells #[.slice none 0 0] N) 32)) (.cells #[.slice none 0 0] 32)
    simpa only [World.size_alloc, Nat.add_assoc, Nat.reduceAdd] using h5)
  go_loopw [29] (fun i wr => ∃ (k : Nat) (O : Nat → Bool) (Mi : Nat → Nat) (V : Nat → Value) (L : Nat → List Nat) (tv : Value) (T : List Nat), k ≤ n ∧ i = .int .i64 k ∧ Hid (DH w w.heap.size N n A c wr O Mi V L tv T) ∧ Hid (DP es N k O T) ∧ Hid (UseOk es k 0 N L) ∧ Hid (∀ i, i < k → Mi i = (tl es i).length) ∧ Hid (∀ v, v < N → (L v).length ≤ sumT es k)) (fun i _ => n - (intOf i).toNat)
  case atStart => exact ⟨0, _, _, _, _, _, _, Nat.zero_le _, rfl, HD0, Lib.hid (DP.start es N), Lib.hid (UseOk.start es N), Lib.hid (fun i hi => by omega), Lib.hid (fun v _ => by simp)⟩
  case round =>
    clear HD0
    obtain ⟨k, O, Mi, V, L, tv, T, hk, rfl, hDH, hDP, hUO, hMi, hLb⟩ := hrel
    by_cases hlt : k < n
    · obtain ⟨x, hx⟩ := get_lt HL.out hlt
      obtain ⟨b, o, rfl, hc⟩ := HR.out.1 k x hx
      have hF := hDH.out.fut
      have c0 := hF.cell (hc 0 _ (by decide) rfl)
      have c1 := hF.cell (hc 1 _ (by decide) rfl)
      have c2 := hF.cell (hc 2 _ (by decide) rfl)
      have c3 := hF.cell (hc 3 _ (by decide) rfl)
      have c4 := hF.cell (hc 4 _ (by decide) rfl)
      simp only [Nat.add_zero] at c0
      have HXT := Lib.hid (HR.out.2 x (List.mem_of_getElem? hx)).1
      have hxl : x.t.length ≤ 9223372036854775807 := (HR.out.2 x (List.mem_of_getElem? hx)).2
      have HXV := Lib.hid (HT.out x (List.mem_of_getElem? hx))
      have hxh := HV.out x (List.mem_of_getElem? hx)
      have HTL := Lib.hid (tl_of hx)
      have HHA := Lib.hid (headAt_of hx)
      clear hx hc hF
      obtain ⟨xh, xt, xc, xl0, xl1, xA, xk⟩ := x
      simp only at HXT hxl HXV hxh HTL HHA c0 c1 c2 c3 c4
      obtain ⟨hd, rfl⟩ : ∃ m : Nat, xh = m := Int.eq_ofNat_of_zero_le hxh.1
      have hdN : hd < N := by have := hxh.2; omega
      have HHD := Lib.hid (show headAt es k = hd from HHA.out)
      clear hxh HHA
      have h1 := (hDH.out.alloc (.cells #[.int .i64 hd, .slice xA xt.length xk, .int .i64 xc, .int .i64 xl0, .int .i64 xl1] 39)).setMis k xt.length
      have hszr : w.heap.size + 6 ≤ wr.heap.size := hDH.out.sz
      have hmc := (hDH.out.alloc (.cells #[.int .i64 hd, .slice xA xt.length xk, .int .i64 xc, .int .i64 xl0, .int .i64 xl1] 39)).mis.cell hlt
      have hmf := (hDH.out.alloc (.cells #[.int .i64 hd, .slice xA xt.length xk, .int .i64 xc, .int .i64 xl0, .int .i64 xl1] 39)).mis.frozen k
      have heb : ((wr.alloc (.cells #[.int .i64 hd, .slice xA xt.length xk, .int .i64 xc, .int .i64 xl0, .int .i64 xl1] 39)).setCell ⟨w.heap.size + 3, k, none⟩ (nv xt.length)).heap[wr.heap.size]? = some (.cells #[.int .i64 hd, .slice xA xt.length xk, .int .i64 xc, .int .i64 xl0, .int .i64 xl1] 39) := (Below.heap_setCell _ _ _ _ (by simp only; omega)).trans (heap_alloc_new _ _)
      have H1 := Lib.hid h1
      have HEB := Lib.hid heb
      have g0 : ((wr.alloc (.cells #[.int .i64 hd, .slice xA xt.length xk, .int .i64 xc, .int .i64 xl0, .int .i64 xl1] 39)).setCell ⟨w.heap.size + 3, k, none⟩ (nv xt.length)).cell? ⟨wr.heap.size, 1, none⟩ = some (.slice xA xt.length xk) := cell_of_row _ _ 1 _ _ _ heb
      clear h1 heb
      obtain ⟨wo, rfl⟩ : ∃ x, x = wr := ⟨_, rfl⟩
      go_wp2_with fail
      clear c0 c1 c2 c3 c4 hmc hmf
      have hebs : wo.heap.size < ((wo.alloc (.cells #[.int .i64 hd, .slice xA xt.length xk, .int .i64 xc, .int .i64 xl0, .int .i64 xl1] 39)).setCell ⟨w.heap.size + 3, k, none⟩ (nv xt.length)).heap.size := by simp only [World.size_alloc, World.size_setCell]; omega
      generalize (wo.alloc (.cells #[.int .i64 hd, .slice xA xt.length xk, .int .i64 xc, .int .i64 xl0, .int .i64 xl1] 39)).setCell ⟨w.heap.size + 3, k, none⟩ (nv xt.length) = ws at *
      obtain ⟨eb, hebd⟩ : ∃ eb, eb = wo.heap.size := ⟨_, rfl⟩
      have hebge : w.heap.size + 6 ≤ eb := by rw [hebd]; exact hszr
      rw [← hebd] at HEB hebs g0 ⊢
      clear hebd hszr
      go_loopw [43] (fun j wr => ∃ (jj : Nat) (V : Nat → Value) (L : Nat → List Nat), jj ≤ xt.length ∧ j = .int .i64 jj ∧ Hid (DH w w.heap.size N n (some ⟨b, o, none⟩) c wr O (upd Mi k xt.length) V L tv T) ∧ Hid (UseOk es k jj N L) ∧ Hid (∀ v, v < N → (L v).length ≤ sumT es k + jj) ∧ Hid (wr.heap[eb]? = some (.cells #[.int .i64 hd, .slice xA xt.length xk, .int .i64 xc, .int .i64 xl0, .int .i64 xl1] 39))) (fun j _ => xt.length - (intOf j).toNat)
      case atStart => exact ⟨0, V, L, Nat.zero_le _, rfl, H1, hUO, hLb, HEB⟩
      case round =>
        clear H1 hUO hLb HEB hDH V L g0 hebs
        obtain ⟨jj, V, L, hj, rfl, hDH, hUO, hLb, hEB⟩ := hrel
        by_cases hjt : jj < xt.length
        · obtain ⟨y, hy⟩ := get_lt rfl hjt
          have hyv := HXV.out y (List.mem_of_getElem? hy)
          obtain ⟨t, rfl⟩ : ∃ t : Nat, y = t := Int.eq_ofNat_of_zero_le hyv.1
          have htN : t < N := by have := hyv.2; omega
          obtain ⟨b4, o4, rfl, hcy⟩ := HXT.out jj _ hy
          have hcell := hDH.out.fut.cell hcy
          have hcu := hDH.out.use.row.cell htN
          have hfu := hDH.out.use.row.frozen t
          have HTJ := Lib.hid (show (tl es k)[jj]? = some t from by rw [HTL.out, List.getElem?_map, hy]; rfl)
          have hLt : (L t).length ≤ 17000000000000 := by have h1 := hLb.out t htN; have h2 := sumT_mono es (show k + 1 ≤ n by omega); rw [sumT_succ, HTL.out, List.length_map] at h2; have := HTOT.out; omega
          have hszi := hDH.out.sz
          clear hy hyv hcy
          obtain ⟨wi, rfl⟩ : ∃ x, x = wr := ⟨_, rfl⟩
          go_wp2_with (at_builtin; refine wpList_push rfl (.tmp 52) (.tmp 54) rfl (w.heap.size + 6) (V t) (L t) rfl ((hDH.out.use.own t htN).alloc _) wi.heap.size k rfl (heap_alloc_new _ _) hLt (by rw [World.size_alloc]; omega) ?_; intro g2 cp2 w2 hown2 hgr2 hw2; have hne2 : ∀ q, q < w.heap.size + 6 → some q ≠ (V t).ownBlock := (fun q hq e => by have := ((hDH.out.use.own t htN).lt _ e.symm).1; omega); have hrow2 := ((hDH.out.alloc (.cells #[nv k] 3)).use.row).of_block (hgr2.block (w.heap.size + 4) (by rw [World.size_alloc]; omega) (hne2 _ (by omega))); have hcu2 := hrow2.cell htN; have hfu2 := hrow2.frozen t; have HP := Lib.hid ((hDH.out.alloc (.cells #[nv k] 3)).pushUse htN hown2 hgr2 hw2); have HEB2 := Lib.hid ((hgr2.block eb (by rw [World.size_alloc]; have := (Array.getElem?_eq_some_iff.1 hEB.out).1; omega) (fun e => (hDH.out.use.own t htN).ne_block hEB.out (by decide) e.symm)).trans ((Below.heap_alloc _ _ _ (Array.getElem?_eq_some_iff.1 hEB.out).1).trans hEB.out)); have hszw2 := hgr2.size; clear hown2 hgr2 hw2 hrow2 hne2)
          refine ⟨⟨jj + 1, _, _, by omega, by go_num, HP, Lib.hid (hUO.out.push HTJ.out), Lib.hid ?_, Lib.hid ((Below.heap_setCell _ _ _ _ ?_).trans HEB2.out)⟩, by simp [intOf]; omega⟩
          · intro v hv
            have := hLb.out v hv
            by_cases e : v = t
            · subst e; rw [upd_same]; simp; omega
            · rw [upd_other _ _ _ _ e]; omega
          · simp only; omega
        · have hjj : (tl es k).length ≤ jj := by rw [HTL.out, List.length_map]; omega
          have HU2 := Lib.hid (hUO.out.next hjj)
          have hb2 : ∀ v, v < N → (L v).length ≤ sumT es (k + 1) := fun v hv => by
            have := hLb.out v hv
            rw [sumT_succ, HTL.out, List.length_map]; omega
          have HB2 := Lib.hid hb2
          have HMI2 := Lib.hid (show ∀ i, i < k + 1 → upd Mi k xt.length i = (tl es i).length from fun i hi => by
            by_cases e : i = k
            · subst e; rw [upd_same, HTL.out, List.length_map]
            · rw [upd_other _ _ _ _ e]; exact hMi.out i (by omega))
          have g0 : wr.cell? ⟨eb, 0, none⟩ = some (.int .i64 hd) := cell_of_row _ _ 0 _ _ _ hEB.out
          have g1 : wr.cell? ⟨eb, 1, none⟩ = some (.slice xA xt.length xk) := cell_of_row _ _ 1 _ _ _ hEB.out
          have hTl : T.length ≤ 1048576 := by have := hDP.out.e; omega
          clear hjj hb2
          by_cases hz : xt.length = 0
          · have hzb : ((xt.length : Int) == 0) = true := by simp; exact List.eq_nil_of_length_eq_zero hz
            have HDZ := Lib.hid (show DP es N (k + 1) (fO O hd) (fT O T hd) from by
              have h1 := hDP.out.zero (by rw [HL.out]; exact hlt) (by rw [HTL.out, List.eq_nil_of_length_eq_zero hz]; rfl) (by rw [HHD.out]; exact hdN)
              rw [HHD.out] at h1; exact h1)
            clear hz
            go_wp2_with (go_at_call 30; refine (found_any (w := w) (b := w.heap.size) hd hdN hTl hDH.out).mono ?_; rintro e w2 ⟨rfl, tv2, hD2⟩; have HD2 := Lib.hid hD2; clear hD2)
            exact ⟨⟨k + 1, _, _, V, L, tv2, _, by omega, by go_num, HD2, HDZ, HU2, HMI2, HB2⟩, by simp [intOf]; omega⟩
          · have hzb : ((xt.length : Int) == 0) = false := by simp; intro e; exact hz (by rw [e]; rfl)
            have HDZ := Lib.hid (hDP.out.skip (by rw [HTL.out]; intro e; exact hz (by have := congrArg List.length e; simpa using this)))
            clear hz
            go_wp2_with fail
            exact ⟨⟨k + 1, O, _, V, L, tv, T, by omega, by go_num, hDH, HDZ, HU2, HMI2, HB2⟩, by simp [intOf]; omega⟩
    · have hkn : k = n := by omega
      subst hkn
      have HLC := Lib.hid (show ∀ v, v < N → ∀ i, i < k → (L v).count i = (tl es i).count v from fun v hv i hi => by rw [hUO.out v hv i, if_pos hi])
      have HDI := Lib.hid (show DI es N k L O T Mi from by
        have h1 := DP.phase (L := L) (Mi := Mi) (es := es) (N := N) (O := O) (T := T) (by rw [HL.out]; exact hDP.out) (by rw [HL.out]; exact hMi.out)
        rwa [HL.out] at h1)
      have HLB := hLb
      have HLI := Lib.hid (show ∀ v, v < N → ∀ i, i ∈ L v → i < k from fun v hv i hi => by
        have h1 := hUO.out v hv i
        have h2 := List.count_pos_iff.2 hi
        by_cases e : i < k
        · exact e
        · rw [if_neg e] at h1
          by_cases e2 : i = k
          · rw [if_pos e2] at h1; simp at h1; omega
          · rw [if_neg e2] at h1; omega)
      clear hDP hUO hMi hLb hlt hk
      go_wp2_with fail
      go_loopw [12] (fun _ wr => ∃ (O : Nat → Bool) (Mi : Nat → Nat) (tv : Value) (T : List Nat), Hid (DH w w.heap.size N k A c wr O Mi V L tv T) ∧ Hid (DI es N k L O T Mi)) (fun _ wr => 2 * nFw wr (w.heap.size + 1) N + (match wr.cell? ⟨w.heap.size + 5, 0, none⟩ with | some v => lenOf v | none => 0))
      case atStart => exact ⟨O, Mi, tv, T, hDH, HDI⟩
      case round =>
        clear hDH HDI O Mi T tv
        obtain ⟨O, Mi, tv, T, hDH, hDI⟩ := hrel
        have htb := cell_of_one hDH.out.tbox
        have htf := free_of_one hDH.out.tbox
        have hob := hDH.out.obox
        rcases List.eq_nil_or_concat T with rfl | ⟨T', v, rfl⟩
        · obtain ⟨ta, tc, rfl, _⟩ := hDH.out.todo.form
          go_wp2_with fail
          go_ret
          refine ⟨_, rfl, ?_, hDH.out.fut⟩
          rw [derL_eq (O := O) (fun i _ => DI.all (L := L) (Mi := Mi) (by rw [HL.out]; exact hDI.out) i)]
          exact rd_row hDH.out.out
        · rw [List.concat_eq_append] at hDI hDH
          obtain ⟨ta, tc, htv, hta⟩ := hDH.out.todo.form
          obtain ⟨g, rfl⟩ : ∃ g, ta = some ⟨g, 0, none⟩ := by
            rcases hta with ⟨_, h⟩ | h
            · simp at h
            · exact h
          obtain ⟨m, hm⟩ : ∃ m, T'.length = m := ⟨_, rfl⟩
          have htv2 := htv.trans (show _ = Value.slice (some ⟨g, 0, none⟩) (m + 1) tc from by simp [hm])
          clear htv hta
          subst htv2
          have hcell : wr.cell? ⟨g, m, none⟩ = some (.int .i64 v) := by
            obtain ⟨_, h1⟩ := hDH.out.todo.rd
            obtain ⟨b, o, e1, h2⟩ := h1 m v (by rw [← hm]; simp)
            injection e1 with e1
            injection e1 with e1 e2
            subst e1 e2
            rw [Nat.zero_add] at h2; exact h2
          have hvN := (hDI.out.b v (by simp)).1
          have hmb : m ≤ 2097152 := by have := hDI.out.e; simp only [List.length_append, List.length_cons, List.length_nil] at this; omega
          have hcap := hDH.out.todo.cap
          have HP := Lib.hid (hDH.out.setTodo _ T' hDH.out.todo.cut.1 (fun i hi q hq => hDH.out.sep i hi q hq))
          have HJ0 := Lib.hid (hDI.out.pop)
          have HMW := Lib.hid (show 2 * nFw wr (w.heap.size + 1) N + (m + 1) = 2 * nF N O + (T' ++ [v]).length from by rw [nFw_eq hDH.out.out]; simp [hm])
          obtain ⟨M, hM⟩ : ∃ M, 2 * nF N O + (T' ++ [v]).length = M := ⟨_, rfl⟩
          rw [hM] at HJ0 HMW
          clear hM
          have hcu := HP.out.use.row.cell hvN
          obtain ⟨A2, c2, hV2, hA2⟩ := (HP.out.use.own v hvN).form
          rw [hV2] at hcu
          have hll : (L v).length ≤ 2000000 := Nat.le_trans (HLB.out v hvN) HTOT.out
          have HV2 := Lib.hid hV2
          clear hV2 hA2
          obtain ⟨wo, rfl⟩ : ∃ x, x = wr := ⟨_, rfl⟩
          go_wp2_with fail
          have HTB := Lib.hid htb
          clear hcell hcu htb htf hob
          go_loopw [86] (fun i wr => ∃ (p : Nat) (O : Nat → Bool) (Mi : Nat → Nat) (tv : Value) (T : List Nat), p ≤ (L v).length ∧ i = .int .i64 p ∧ Hid (DH w w.heap.size N k A c wr O Mi V L tv T) ∧ Hid (DJ es N k v p M (L v) O T Mi)) (fun i _ => (L v).length - (intOf i).toNat)
          case atStart => exact ⟨0, O, Mi, _, T', Nat.zero_le _, rfl, HP, HJ0⟩
          case round =>
            clear HP HJ0 hDH hDI hcap hm O Mi T'
            obtain ⟨p, O, Mi, tv, T, hp, rfl, hDH, hDJ⟩ := hrel
            by_cases hpl : p < (L v).length
            · obtain ⟨i, hi⟩ := get_lt rfl hpl
              have hik := HLI.out v hvN i (List.mem_of_getElem? hi)
              obtain ⟨x, hx⟩ := get_lt HL.out hik
              have hrd := hDH.out.use.own v hvN
              rw [HV2.out] at hrd
              obtain ⟨b3, o3, rfl, hcell⟩ := hrd.rd.2 p i hi
              obtain ⟨b, o, rfl, hc⟩ := HR.out.1 i x hx
              have c0 := hDH.out.fut.cell (hc 0 _ (by decide) rfl)
              have hxh := HV.out x (List.mem_of_getElem? hx)
              have hha := headAt_of hx
              obtain ⟨xh, xt, xc, xl0, xl1, xA, xk⟩ := x
              obtain ⟨hd, rfl⟩ : ∃ m : Nat, xh = m := Int.eq_ofNat_of_zero_le hxh.1
              have hdN : hd < N := by have := hxh.2; simp only at this; omega
              simp only [Nat.add_zero] at c0
              have hbx := hDH.out.hbox
              have hmc := hDH.out.mis.cell hik
              have hmf := hDH.out.mis.frozen i
              obtain ⟨hs1, hs2, hs3⟩ := hDJ.out.step hi hik (by rw [HL.out]; exact Nat.le_refl _) (HLC.out v hvN)
              obtain ⟨q, hq⟩ : ∃ q, Mi i = q + 1 := ⟨Mi i - 1, by omega⟩
              have hqb : q ≤ 2000000 := by
                have h1 := hDJ.out.mi i hik
                have h2 : (tl es i).countP (fun t => wt O T t || t == v) ≤ (tl es i).length := List.countP_le_length
                have h3 := sumT_mono es (show i + 1 ≤ k by omega)
                rw [sumT_succ] at h3
                have := HTOT.out
                omega
              rw [hq] at hmc
              have hmc2 : wr.cell? ⟨w.heap.size + 3, i, none⟩ = some (.int .i64 ((q : Int) + 1)) := hmc
              have hTl : T.length ≤ 1048576 := by have := hDJ.out.e; omega
              have hD1 := hDH.out.setMis i q
              have hmc3 := hD1.mis.cell hik
              simp only [upd_same] at hmc3
              have hbx3 := hD1.hbox
              have c3 : (wr.setCell ⟨w.heap.size + 3, i, none⟩ (nv q)).cell? ⟨b, o + i * 5, none⟩ = some (.int .i64 hd) := hD1.fut.cell (by have := hc 0 _ (by decide) rfl; simpa only [Nat.add_zero] using this)
              have HD1 := Lib.hid hD1
              have HQ := Lib.hid hq
              have HHD := Lib.hid (show headAt es i = hd from hha)
              have HS2 := Lib.hid hs2
              have HS3 := Lib.hid hs3
              clear hi hx hrd hc hxh hha hmc hq hs1 hs2 hs3 hD1
              obtain ⟨wi, rfl⟩ : ∃ x, x = wr := ⟨_, rfl⟩
              by_cases hq0 : q = 0
              · have hqb0 : ((q : Int) == 0) = true := by simp [hq0]
                have HJ2 := Lib.hid (show DJ es N k v (p + 1) M (L v) (fO O hd) (fT O T hd) (upd Mi i q) from by
                  have h1 := HS2.out (by rw [HQ.out, hq0]) (by rw [HHD.out]; exact hdN)
                  rw [HHD.out] at h1; rw [hq0]; exact h1)
                clear hq0
                go_wp2_with (go_at_call 30; refine (found_any (w := w) (b := w.heap.size) hd hdN hTl HD1.out).mono ?_; rintro e w2 ⟨rfl, tv2, hD2⟩; have HD2 := Lib.hid hD2; clear hD2)
                exact ⟨⟨p + 1, _, _, tv2, _, by omega, by go_num, HD2, HJ2⟩, by simp [intOf]; omega⟩
              · have hqb0 : ((q : Int) == 0) = false := by simp; omega
                have HJ2 := Lib.hid (show DJ es N k v (p + 1) M (L v) O T (upd Mi i q) from by
                  have h1 := HS3.out (by rw [HQ.out]; omega)
                  rw [HQ.out] at h1; exact h1)
                clear hq0
                go_wp2_with fail
                exact ⟨⟨p + 1, _, _, tv, _, by omega, by go_num, HD1, HJ2⟩, by simp [intOf]; omega⟩
            · have HI2 := Lib.hid (hDJ.out.done (by omega) (HLC.out v hvN))
              have HMS := Lib.hid (show 2 * nFw wr (w.heap.size + 1) N + (match wr.cell? ⟨w.heap.size + 5, 0, none⟩ with | some v => lenOf v | none => 0) < 2 * nFw wo (w.heap.size + 1) N + (match wo.cell? ⟨w.heap.size + 5, 0, none⟩ with | some v => lenOf v | none => 0) from by
                rw [cell_of_one hDH.out.tbox, HTB.out, nFw_eq hDH.out.out]
                obtain ⟨ta, tc2, htv, _⟩ := hDH.out.todo.form
                rw [htv]
                have h1 := HMW.out
                have h2 := hDJ.out.m
                simp only [lenOf]
                omega)
              go_wp2_with fail
              exact ⟨⟨O, Mi, tv, T, hDH, HI2⟩, HMS.out⟩
end Go.Proofs.Ytjoejkfchnooaaa
