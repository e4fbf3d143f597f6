/-
  The cost of a parse.
-/
import Derived.Test.YtleapckcihcpaaaN16
namespace Go.Proofs.Ytleapckcihcpaaa
open Go.RowKit Go.Deep PK
attribute [local go_sem] Oper.lit Oper.litS fut_fut fut_drew World.cell?_alloc_some
theorem sumCs_take (es : List EE) : ∀ (k : List DT) (j : Nat) (d : DT), k[j]? = some d → sumCs es (k.take (j + 1)) = sumCs es (k.take j) + sumC es d ∧ sizDs (k.take (j + 1)) = sizDs (k.take j) + sizD d
  | [], j, d, h => by simp at h
  | x :: k, 0, d, h => by
    simp at h; subst h
    simp only [List.take_succ_cons, List.take_zero, sumCs, sizDs]
    omega
  | x :: k, j + 1, d, h => by
    obtain ⟨h1, h2⟩ := sumCs_take es k j d (by simpa using h)
    simp only [List.take_succ_cons, sumCs, sizDs, h1, h2]
    omega
theorem sumCs_nonneg {es : List EE} (hes : ∀ e ∈ es, PK.okE e) : ∀ (k : List DT), 0 ≤ sumCs es k
  | [] => by rw [sumCs]; omega
  | x :: k => by
    rw [sumCs]
    have := sumC_pos hes x
    have := sumCs_nonneg hes k
    omega
theorem sums_le {es : List EE} (hes : ∀ e ∈ es, PK.okE e) (k : List DT) (j : Nat) : 0 ≤ sumCs es (k.take j) ∧ sumCs es (k.take j) ≤ sumCs es k ∧ 0 ≤ sizDs (k.take j) ∧ sizDs (k.take j) ≤ sizDs k := by
  refine ⟨sumCs_nonneg hes _, ?_, sizDs_nonneg _ (fun x _ => sizD_pos x), ?_⟩
  · induction k generalizing j with
    | nil => simp
    | cons x k ih =>
      cases j with
      | zero => rw [List.take_zero, sumCs]; exact sumCs_nonneg hes _
      | succ j =>
        rw [List.take_succ_cons, sumCs, sumCs]
        have := ih j
        omega
  · induction k generalizing j with
    | nil => simp
    | cons x k ih =>
      cases j with
      | zero => rw [List.take_zero, sizDs]; exact sizDs_nonneg _ (fun x _ => sizD_pos x)
      | succ j =>
        rw [List.take_succ_cons, sizDs, sizDs]
        have := ih j
        omega
/-- the order of the region that adds up: the loads of what is written where they stand -/
def o_cost9 : Sched := .hoist 0 (.hoist 2 (.hoist 5 (.hoist 7 (.hoist 3 (.hoist 8 (.two 1 (.hoist 4 (.one 6 (.hoist 9 (.hoist 10 (.one 11 (.hoist 12 (.one 13 .done))))))) 6 (.hoist 9 (.one 1 (.hoist 4 (.hoist 10 (.one 11 (.hoist 12 (.one 13 .done)))))))))))))
theorem cost_res : Try.f19.results = #[.cell 6 40] := by kernel_rfl
set_option maxHeartbeats 12800000 in
set_option maxRecDepth 4000 in
theorem cost_any (T N st : Int) (A : Option Addr) (n c : Nat) (rs : List NR) (B : Option Addr) (mi di : Nat) (ins : List Int) (hl : rs.length = n) (hil : ins.length = mi) (hmi : mi ≤ maxLen) (hvd : validN T N st rs = true) (hp : pricesB T ins = true) (d : DI) : ∀ (r : Int) w, validD (grE ins rs) (toDT d) r = true → sizD (toDT d) ≤ 1000000 → RdN w A rs → Rd1 w B (.int .i64 ·) ins → RdD w d →
    Calls Try.prog 19 #[nmv T N st A n c, .slice B mi di, dv d] w fun q w' => q = .returned (vv ⟨sumC (grE ins rs) (toDT d), sizD (toDT d)⟩) ∧ Below w.heap.size w w' := by
  have hmi63 : mi ≤ 9223372036854775807 := hmi
  have HL := Lib.hid hl
  have HIL := Lib.hid hil
  have HVN := Lib.hid (validN_parts hvd)
  have HPP := Lib.hid (prices_parts hp)
  have HES := Lib.hid (grE_ok hvd hp)
  have HCO := Lib.hid (grE_cost hvd hp)
  have hn6 : n ≤ 600 := by rw [← hl]; exact HVN.out.2.2.2.2.1
  clear hl hil hmi hvd hp
  induction d using DI.ind with
  | h e D dc k ih =>
    intro r w hval hsz hR hI hRD
    obtain ⟨hS, hkl, hK⟩ := hRD.parts
    rw [toDT_eq] at hval hsz ⊢
    obtain ⟨E, hE, _, hlen, hkv⟩ := (validD_iff _ _ _ _).1 hval
    have HSB := Lib.hid (sumC_bd (es := grE ins rs) (B := 61000) (by decide) HCO.out (.node e (k.map toDT)))
    have HSUM := Lib.hid (show E.c + sumCs (grE ins rs) (k.map toDT) = sumC (grE ins rs) (.node e (k.map toDT)) ∧ 1 + sizDs (k.map toDT) = sizD (.node e (k.map toDT)) from by rw [sumC, ecost_some hE, sizD]; exact ⟨rfl, rfl⟩)
    obtain ⟨q, rfl, hqE⟩ := edge_some hE
    have hEc := HES.out E (edge_mem hE)
    unfold grE at hqE
    rw [List.getElem?_map] at hqE
    obtain ⟨x, hx, rfl⟩ := Option.map_eq_some_iff.1 hqE
    have hq : q < n := by
      have := (List.getElem?_eq_some_iff.1 hx).1
      rw [HL.out] at this; exact this
    obtain ⟨b, o, rfl, hc⟩ := hR q x hx
    have HO := Lib.hid (okN_parts (HVN.out.2.2.2.2.2 x (List.mem_of_getElem? hx)))
    generalize hSC : sumC (grE ins rs) (.node (q : Int) (k.map toDT)) = SC at *
    generalize hSS : sizD (.node (q : Int) (k.map toDT)) = SS at *
    clear hSC hSS
    have HSZ2 := Lib.hid (show sizDs (k.map toDT) ≤ 1000000 from by have := HSUM.out.2; omega)
    have HSC := Lib.hid (show sumCs (grE ins rs) (k.map toDT) ≤ 61000000000 from by
      have h1 := HSUM.out.1
      have h2 := HSB.out
      have h3 := hEc.1
      omega)
    have HR := Lib.hid hR
    have HII := Lib.hid hI
    have HS := Lib.hid hS
    have HK := Lib.hid hK
    have HI := Lib.hid ih
    have HKV := Lib.hid hkv
    obtain ⟨km, hkm⟩ : ∃ km, k.length = km := ⟨_, rfl⟩
    have hkm63 : km ≤ 9223372036854775807 := hkm ▸ hkl
    have HKM := Lib.hid hkm
    rw [List.length_map, hkm] at hlen
    have HLN := Lib.hid hlen
    simp only [dv, DI.e, DI.A, DI.c, DI.k, hkm]
    have c0 := hc 0 _ (by decide) rfl
    have c1 := hc 1 _ (by decide) rfl
    have c2 := hc 2 _ (by decide) rfl
    have c3 := hc 3 _ (by decide) rfl
    have c4 := hc 4 _ (by decide) rfl
    have c5 := hc 5 _ (by decide) rfl
    simp only [Nat.add_zero] at c0
    have HGC := Lib.hid (show (gE ins x).c = costN ins x from rfl)
    generalize hEE : gE ins x = E at *
    obtain ⟨kd, h, ra, rb, p, ox⟩ := x
    simp only at c0 c1 c2 c3 c4 c5
    have hp1 : 0 ≤ p ∧ p ≤ 1000 := ⟨HO.out.2.2.1, HO.out.2.2.2.1⟩
    obtain ⟨cst, hcst⟩ : ∃ cst, E.c = cst := ⟨_, rfl⟩
    rw [hcst] at HSUM
    have HCS := Lib.hid (show 0 ≤ cst ∧ cst ≤ 61000 from by
      have h1 := HCO.out E (edge_mem hE)
      have h2 := hEc.1
      rw [hcst] at h1 h2
      exact ⟨h2, h1⟩)
    rw [hcst] at HGC
    clear ih hR hI hS hK hkl hRD hval hE hlen hkv hx hc hqE hkm hsz hEc hEE hcst
    by_cases k2 : kd = 2
    · subst k2
      obtain ⟨h1, h2⟩ := (show 0 ≤ ra ∧ ra < T from HO.out.2.2.2.2.1 rfl)
      obtain ⟨an, rfl⟩ : ∃ an : Nat, ra = an := ⟨ra.toNat, by omega⟩
      have ham : an < mi := by
        have := HPP.out.1
        rw [HIL.out] at this
        omega
      obtain ⟨v, hvx⟩ := get_lt HIL.out ham
      obtain ⟨b1, o1, rfl, hcv⟩ := HII.out an v hvx
      have hv1 := HPP.out.2 v (List.mem_of_getElem? hvx)
      have HCE := Lib.hid (show p + v = cst from by
        have := HGC.out
        simp [costN, hvx] at this
        omega)
      obtain ⟨wb, hwb⟩ : ∃ wb, wb = (((((w.alloc (.cells #[.int .i64 T, .int .i64 N, .int .i64 st, .slice (some ⟨b, o, none⟩) n c] 24)).alloc (.cells #[.int .i64 (q : Int), .slice D km dc] 33)).alloc (.cells #[.int .i64 0, .int .i64 0] 40)).alloc (.cells #[.int .i64 2, .int .i64 h, .int .i64 (an : Int), .int .i64 rb, .int .i64 p, .int .i64 ox] 47)).alloc (.cells #[.int .i64 p, .int .i64 1] 40)) := ⟨_, rfl⟩
      have HF := Lib.hid (show Fut w wb from by rw [hwb]; exact (((((Fut.refl w).alloc _).alloc _).alloc _).alloc _).alloc _)
      have HB := Lib.hid (show Blk wb w.heap.size 24 #[.int .i64 T, .int .i64 N, .int .i64 st, .slice (some ⟨b, o, none⟩) n c] from by rw [hwb]; (repeat (first | exact heap_new' _ _ _ (by first | rfl | (simp only [World.size_alloc])) | refine (blk_alloc_lt _ _ _ (by first | omega | (simp only [World.size_alloc]; omega))).trans ?_)))
      have HD := Lib.hid (show Blk wb (w.heap.size + 1) 33 #[.int .i64 (q : Int), .slice D km dc] from by rw [hwb]; (repeat (first | exact heap_new' _ _ _ (by first | rfl | (simp only [World.size_alloc])) | refine (blk_alloc_lt _ _ _ (by first | omega | (simp only [World.size_alloc]; omega))).trans ?_)))
      have HZ := Lib.hid (show Blk wb (w.heap.size + 1 + 1) 40 #[.int .i64 0, .int .i64 0] from by rw [hwb]; (repeat (first | exact heap_new' _ _ _ (by first | rfl | (simp only [World.size_alloc])) | refine (blk_alloc_lt _ _ _ (by first | omega | (simp only [World.size_alloc]; omega))).trans ?_)))
      have HRC := Lib.hid (show Blk wb (w.heap.size + 1 + 1 + 1) 47 #[.int .i64 2, .int .i64 h, .int .i64 (an : Int), .int .i64 rb, .int .i64 p, .int .i64 ox] from by rw [hwb]; (repeat (first | exact heap_new' _ _ _ (by first | rfl | (simp only [World.size_alloc])) | refine (blk_alloc_lt _ _ _ (by first | omega | (simp only [World.size_alloc]; omega))).trans ?_)))
      have HV := Lib.hid (show Blk wb (w.heap.size + 1 + 1 + 1 + 1) 40 #[.int .i64 p, .int .i64 1] from by rw [hwb]; (repeat (first | exact heap_new' _ _ _ (by first | rfl | (simp only [World.size_alloc])) | refine (blk_alloc_lt _ _ _ (by first | omega | (simp only [World.size_alloc]; omega))).trans ?_)))
      have HF3 := Lib.hid (show Fut w (((w.alloc (.cells #[.int .i64 T, .int .i64 N, .int .i64 st, .slice (some ⟨b, o, none⟩) n c] 24)).alloc (.cells #[.int .i64 (q : Int), .slice D km dc] 33)).alloc (.cells #[.int .i64 0, .int .i64 0] 40)) from (((Fut.refl w).alloc _).alloc _).alloc _)
      have b3 := (show Blk (((w.alloc (.cells #[.int .i64 T, .int .i64 N, .int .i64 st, .slice (some ⟨b, o, none⟩) n c] 24)).alloc (.cells #[.int .i64 (q : Int), .slice D km dc] 33)).alloc (.cells #[.int .i64 0, .int .i64 0] 40)) w.heap.size 24 #[.int .i64 T, .int .i64 N, .int .i64 st, .slice (some ⟨b, o, none⟩) n c] from by (repeat (first | exact heap_new' _ _ _ (by first | rfl | (simp only [World.size_alloc])) | refine (blk_alloc_lt _ _ _ (by first | omega | (simp only [World.size_alloc]; omega))).trans ?_))).cell (i := 3) rfl
      have d0 := (show Blk (((w.alloc (.cells #[.int .i64 T, .int .i64 N, .int .i64 st, .slice (some ⟨b, o, none⟩) n c] 24)).alloc (.cells #[.int .i64 (q : Int), .slice D km dc] 33)).alloc (.cells #[.int .i64 0, .int .i64 0] 40)) (w.heap.size + 1) 33 #[.int .i64 (q : Int), .slice D km dc] from by (repeat (first | exact heap_new' _ _ _ (by first | rfl | (simp only [World.size_alloc])) | refine (blk_alloc_lt _ _ _ (by first | omega | (simp only [World.size_alloc]; omega))).trans ?_))).cell (i := 0) rfl
      have e0 := HF3.out.cell c0
      have e1 := HF3.out.cell c1
      have e2 := HF3.out.cell c2
      have e3 := HF3.out.cell c3
      have e4 := HF3.out.cell c4
      have e5 := HF3.out.cell c5
      have r0 := HRC.out.cell (i := 0) rfl
      rw [hwb] at r0
      clear c0 c1 c2 c3 c4 c5
      go_enter Try.func19, Try.ntmps19
      go_wp2_with fail
      rw [← hwb]
      clear hwb b3 d0 e0 e1 e2 e3 e4 e5 r0
      have hw1 : IntKind.i64.wrap (p + v) = p + v := by simp [IntKind.wrap, IntKind.signed, IntKind.bits]; omega
      have hw2 : wrap64 (p + v) = p + v := IntWalk.wrap64_in _ ⟨by omega, by omega⟩
      have r2 := cell_fut (HRC.out.cell (i := 2) rfl)
      have v0 := cell_fut (HV.out.cell (i := 0) rfl)
      have v0' : wb.drew.cell? ⟨(w.heap.size + 1 + 1 + 1 + 1), 0, none⟩ = some (.int .i64 p) := HV.out.cell (i := 0) rfl
      have f0 : wb.frozen? ⟨(w.heap.size + 1 + 1 + 1 + 1), 0, none⟩ = false := HV.out.fz 0
      have f0' : wb.drew.frozen? ⟨(w.heap.size + 1 + 1 + 1 + 1), 0, none⟩ = false := HV.out.fz 0
      have i2 := cell_fut (HF.out.cell hcv)
      clear hvx h1 h2 hcv
      refine wp_region_M o_emendateref38_Cost_4 (by kernel_rfl) (by kernel_rfl) (by intro c a d v w h; cases d <;> exact h) ?_; unfold o_emendateref38_Cost_4
      iterate 9 (refine wpF_h rfl rfl (fun K hK => ?_); go_simp; refine hK _ _ ?_; clear hK K)
      refine wpF_o rfl rfl (fun K hK => ?_)
      go_simp
      refine hK _ _ (.inl (by kernel_rfl)) ?_
      clear hK K r2 v0 v0' f0 f0' i2
      refine wpF_nil ?_
      rw [HCE.out]
      have HF0 := Lib.hid (show Fut w ((wb.setCell ⟨(w.heap.size + 1 + 1 + 1 + 1), 0, none⟩ (.int .i64 cst)).drew) from (HF.out.setCell (p := ⟨(w.heap.size + 1 + 1 + 1 + 1), 0, none⟩) (by simp only; omega) _).drew)
      have HB0 := Lib.hid (show Blk ((wb.setCell ⟨(w.heap.size + 1 + 1 + 1 + 1), 0, none⟩ (.int .i64 cst)).drew) w.heap.size 24 #[.int .i64 T, .int .i64 N, .int .i64 st, .slice (some ⟨b, o, none⟩) n c] from (HB.out.setOther (a := ⟨(w.heap.size + 1 + 1 + 1 + 1), 0, none⟩) (by simp only; omega) _).drew)
      have HD0 := Lib.hid (show Blk ((wb.setCell ⟨(w.heap.size + 1 + 1 + 1 + 1), 0, none⟩ (.int .i64 cst)).drew) (w.heap.size + 1) 33 #[.int .i64 (q : Int), .slice D km dc] from (HD.out.setOther (a := ⟨(w.heap.size + 1 + 1 + 1 + 1), 0, none⟩) (by simp only; omega) _).drew)
      have HZ0 := Lib.hid (show Blk ((wb.setCell ⟨(w.heap.size + 1 + 1 + 1 + 1), 0, none⟩ (.int .i64 cst)).drew) (w.heap.size + 1 + 1) 40 #[.int .i64 0, .int .i64 0] from (HZ.out.setOther (a := ⟨(w.heap.size + 1 + 1 + 1 + 1), 0, none⟩) (by simp only; omega) _).drew)
      have HV0 := Lib.hid (show Blk ((wb.setCell ⟨(w.heap.size + 1 + 1 + 1 + 1), 0, none⟩ (.int .i64 cst)).drew) (w.heap.size + 1 + 1 + 1 + 1) 40 #[.int .i64 cst, .int .i64 1] from (HV.out.set 0 (.int .i64 cst)).drew)
      clear HF HB HD HZ HRC HV hw1 hw2
      generalize (wb.setCell ⟨(w.heap.size + 1 + 1 + 1 + 1), 0, none⟩ (.int .i64 cst)).drew = w0 at *
      go_wp2_with fail
      go_loopw [9] (fun i wr => ∃ j : Nat, j ≤ km ∧ i = .int .i64 j ∧ Blk wr (w.heap.size + 1 + 1 + 1 + 1) 40 #[.int .i64 (cst + sumCs (grE ins rs) ((k.map toDT).take j)), .int .i64 (1 + sizDs ((k.map toDT).take j))] ∧ FutS (fun k => k == (w.heap.size + 1 + 1 + 1 + 1)) w0 wr) (fun i _ => km - (intOf i).toNat)
      case atStart => exact ⟨0, Nat.zero_le _, rfl, by simpa [sumCs, sizDs] using HV0.out, FutS.refl _⟩
      case round =>
        obtain ⟨j, hj, rfl, hV, hF⟩ := hrel
        have HF2 := Lib.hid hF
        have HFW := Lib.hid (hF.fut HF0.out (fun k hk => by
          have := beq_iff_eq.1 hk
          omega))
        have HVR := Lib.hid hV
        have hbn := HB0.out.futS hF (beq_eq_false_iff_ne.2 (by omega))
        have hdn := HD0.out.futS hF (beq_eq_false_iff_ne.2 (by omega))
        have HBR := Lib.hid hbn
        have HDR := Lib.hid hdn
        have k9 := hdn.cell (i := 1) rfl
        by_cases hlt : j < km
        · obtain ⟨y, hy⟩ := get_lt HKM.out hlt
          obtain ⟨b1, o1, rfl, hd⟩ := HS.out j y hy
          obtain ⟨t, hty⟩ : ∃ t, E.t[j]? = some t := ⟨_, List.getElem?_eq_getElem (by rw [HLN.out]; omega)⟩
          have hyt : (k.map toDT)[j]? = some (toDT y) := by rw [List.getElem?_map, hy]; rfl
          have HTK := Lib.hid (sumCs_take (grE ins rs) (k.map toDT) j (toDT y) hyt)
          have hsl := sums_le HES.out (k.map toDT) (j + 1)
          have hsl0 := sums_le HES.out (k.map toDT) j
          have hsz9 := sizD_pos (toDT y)
          have hcz9 := sumC_pos HES.out (toDT y)
          have HCL := Lib.hid (fun w' (hf : Fut wr w') => HI.out y (List.mem_of_getElem? hy) (t : Int) w' (HKV.out j (toDT y) t hyt hty) (by have := HTK.out.2; have := HSZ2.out; omega) (RdS.fut HR.out (HFW.out.trans hf)) (HII.out.fut (HFW.out.trans hf)) ((HK.out y (List.mem_of_getElem? hy)).fut (HFW.out.trans hf)))
          have hb1 := HTK.out.1
          have hb2 := HTK.out.2
          obtain ⟨zc, hzc⟩ : ∃ zc, sumC (grE ins rs) (toDT y) = zc := ⟨_, rfl⟩
          obtain ⟨zs, hzs⟩ : ∃ zs, sizD (toDT y) = zs := ⟨_, rfl⟩
          rw [hzc] at HCL hb1 hcz9
          rw [hzs] at HCL hb2 hsz9
          obtain ⟨cu, hcu⟩ : ∃ cu, cst + sumCs (grE ins rs) ((k.map toDT).take j) = cu := ⟨_, rfl⟩
          obtain ⟨su, hsu⟩ : ∃ su, 1 + sizDs ((k.map toDT).take j) = su := ⟨_, rfl⟩
          rw [hcu, hsu] at HVR
          have HSU := Lib.hid (show cu + zc = cst + sumCs (grE ins rs) ((k.map toDT).take (j + 1)) ∧ su + zs = 1 + sizDs ((k.map toDT).take (j + 1)) from by omega)
          have hcs9 := HCS.out
          have hsz8 := HSZ2.out
          have hsc8 := HSC.out
          have hw1 : IntKind.i64.wrap (cu + zc) = cu + zc := by simp [IntKind.wrap, IntKind.signed, IntKind.bits]; omega
          have hw2 : wrap64 (cu + zc) = cu + zc := IntWalk.wrap64_in _ ⟨by omega, by omega⟩
          have hw3 : IntKind.i64.wrap (su + zs) = su + zs := by simp [IntKind.wrap, IntKind.signed, IntKind.bits]; omega
          have hw4 : wrap64 (su + zs) = su + zs := IntWalk.wrap64_in _ ⟨by omega, by omega⟩
          have d0 := cell_fut (HFW.out.cell (hd 0 _ (by decide) rfl))
          have d1 := cell_fut (HFW.out.cell (hd 1 _ (by decide) rfl))
          simp only [Nat.add_zero] at d0
          have q0 := cell_fut (HBR.out.cell (i := 0) rfl)
          have q1 := cell_fut (HBR.out.cell (i := 1) rfl)
          have q2 := cell_fut (HBR.out.cell (i := 2) rfl)
          have q3 := cell_fut (HBR.out.cell (i := 3) rfl)
          obtain ⟨ye, yA, yc, yk⟩ := y
          simp only [DI.e, DI.A, DI.c, DI.k] at d0 d1
          simp only [dv, DI.e, DI.A, DI.c, DI.k] at HCL
          clear hy hd hty hyt hV hF hbn hdn hsl hsl0 hsz9 hcz9 hb1 hb2 hzc hzs hcu hsu hcs9 hsz8 hsc8
          go_wp2_with fail
          have k9 := cell_fut k9
          refine wp_region_M o_emendateref38_Cost_8 (by kernel_rfl) (by kernel_rfl) (by intro c a d v w h; cases d <;> exact h) ?_; unfold o_emendateref38_Cost_8
          iterate 7 (refine wpF_h rfl rfl (fun K hK => ?_); go_simp; refine hK _ _ ?_; clear hK K)
          refine wpF_two rfl rfl (fun K hK => ?_) (fun K hK => ?_)
          · go_simp
            go_at_call 19
            refine (HCL.out _ (Fut.refl wr).drew).mono ?_
            rintro r wc ⟨rfl, hb⟩
            have fc : Fut wr wc := (Fut.refl wr).drew.trans hb
            have hkb0 : wr.heap.size ≤ wc.heap.size := fc.size
            refine hK _ _ (.inr hb) ?_
            clear hK K hb
            refine wpF_o rfl rfl (fun K hK => ?_)
            go_simp
            refine hK _ _ (.inr ((Fut.refl _).alloc _)) ?_
            clear hK K
            refine wpF_o rfl rfl (fun K hK => ?_)
            go_simp
            refine hK _ _ (.inl (by kernel_rfl)) ?_
            clear hK K
            refine wpF_nil ?_
            have BK := Lib.hid (show Blk (wc.alloc (.cells #[.int .i64 zc, .int .i64 zs] 40)) wc.heap.size 40 #[.int .i64 zc, .int .i64 zs] from heap_new' _ _ _ rfl)
            have hwk : Fut wr (wc.alloc (.cells #[.int .i64 zc, .int .i64 zs] 40)) := fc.alloc _
            clear fc
            generalize wc.alloc (.cells #[.int .i64 zc, .int .i64 zs] 40) = wk at *
            have hkb : wr.heap.size ≤ wc.heap.size := hkb0
            generalize wc.heap.size = kb at *
            have HWK := Lib.hid hwk
            clear hwk
            have HVK := Lib.hid (HVR.out.fut HWK.out)
            have hb4 := HVR.out.lt
            obtain ⟨S, hS9⟩ : ∃ S : Nat → Bool, S = fun k => k == (w.heap.size + 1 + 1 + 1 + 1) := ⟨_, rfl⟩
            have HS4 := Lib.hid (show S (w.heap.size + 1 + 1 + 1 + 1) = true from by rw [hS9]; exact beq_self_eq_true _)
            have HSK : S kb = false := by rw [hS9]; exact beq_eq_false_iff_ne.2 (by omega)
            have v0 := HVK.out.cell (i := 0) rfl
            have v1 := HVK.out.cell (i := 1) rfl
            have v0' : wk.drew.cell? ⟨(w.heap.size + 1 + 1 + 1 + 1), 0, none⟩ = some (.int .i64 cu) := HVK.out.cell (i := 0) rfl
            have v1' : wk.drew.cell? ⟨(w.heap.size + 1 + 1 + 1 + 1), 1, none⟩ = some (.int .i64 su) := HVK.out.cell (i := 1) rfl
            have k0 := cell_futS (BK.out.cell (i := 0) rfl) HSK
            have k1 := cell_futS (BK.out.cell (i := 1) rfl) HSK
            have f0 : wk.frozen? ⟨(w.heap.size + 1 + 1 + 1 + 1), 0, none⟩ = false := HVK.out.fz 0
            have f0' : wk.drew.frozen? ⟨(w.heap.size + 1 + 1 + 1 + 1), 0, none⟩ = false := HVK.out.fz 0
            clear q0 q1 q2 q3 d0 d1 k9 hb4 HSK hS9
            go_wp2_with fail
            refine wp_region_MG (relS S) o_cost9 (by kernel_rfl) (by kernel_rfl) (by intro c a d v w h; cases d <;> exact h) ?_; unfold o_cost9
            iterate 6 (refine wpS_h rfl rfl (fun K hK => ?_); go_simp; refine hK _ _ ?_; clear hK K)
            refine wpG_two' rfl rfl (fun K hK => ?_) (fun K hK => ?_)
            · go_simp
              refine hK _ _ (.inr ((relS S).refl _)) ?_
              clear hK K
              (refine wpS_h rfl rfl (fun K hK => ?_); go_simp; refine hK _ _ ?_; clear hK K)
              refine wpG_o rfl rfl (fun K hK => ?_)
              go_simp
              refine hK _ _ (.inr ((relS S).refl _)) ?_
              clear hK K
              (refine wpS_h rfl rfl (fun K hK => ?_); go_simp; refine hK _ _ ?_; clear hK K)
              (refine wpS_h rfl rfl (fun K hK => ?_); go_simp; refine hK _ _ ?_; clear hK K)
              refine wpG_o rfl rfl (fun K hK => ?_)
              go_simp
              refine hK _ _ (.inr (show FutS S wk.drew _ from futS_set wk.drew ⟨(w.heap.size + 1 + 1 + 1 + 1), 0, none⟩ _ HS4.out)) ?_
              clear hK K v0 v1 v0' v1' k0 k1 f0 f0'
              have HS1 := Lib.hid (show Blk ((wk.setCell ⟨(w.heap.size + 1 + 1 + 1 + 1), 0, none⟩ (.int .i64 (cu + zc))).drew) (w.heap.size + 1 + 1 + 1 + 1) 40 #[.int .i64 (cu + zc), .int .i64 su] from (HVK.out.set 0 (.int .i64 (cu + zc))).drew)
              have HS2 := Lib.hid (show FutS (fun k => k == (w.heap.size + 1 + 1 + 1 + 1)) wk ((wk.setCell ⟨(w.heap.size + 1 + 1 + 1 + 1), 0, none⟩ (.int .i64 (cu + zc))).drew) from (futS_set wk ⟨(w.heap.size + 1 + 1 + 1 + 1), 0, none⟩ _ (by simp)).drew)
              generalize (wk.setCell ⟨(w.heap.size + 1 + 1 + 1 + 1), 0, none⟩ (.int .i64 (cu + zc))).drew = wm at *
              (refine wpS_h rfl rfl (fun K hK => ?_); go_simp; refine hK _ _ ?_; clear hK K)
              have s1 := HS1.out.cell (i := 1) rfl
              have s2 := HS1.out.fz 1
              refine wpG_o rfl rfl (fun K hK => ?_)
              go_simp
              refine hK _ _ (.inl (by kernel_rfl)) ?_
              clear hK K s1 s2
              refine wpG_nil ?_
              go_wp2_with fail
              have HE9 := HSU.out
              exact ⟨⟨j + 1, by omega, by go_num, by rw [← HE9.1, ← HE9.2]; exact HS1.out.set 1 _, ((HF2.out.then HWK.out).trans HS2.out).setCell (.inl (by simp)) _⟩, by simp [intOf]; omega⟩
            · go_simp
              refine hK _ _ (.inr ((relS S).refl _)) ?_
              clear hK K
              (refine wpS_h rfl rfl (fun K hK => ?_); go_simp; refine hK _ _ ?_; clear hK K)
              refine wpG_o rfl rfl (fun K hK => ?_)
              go_simp
              refine hK _ _ (.inr ((relS S).refl _)) ?_
              clear hK K
              (refine wpS_h rfl rfl (fun K hK => ?_); go_simp; refine hK _ _ ?_; clear hK K)
              (refine wpS_h rfl rfl (fun K hK => ?_); go_simp; refine hK _ _ ?_; clear hK K)
              refine wpG_o rfl rfl (fun K hK => ?_)
              go_simp
              refine hK _ _ (.inr (show FutS S wk.drew _ from futS_set wk.drew ⟨(w.heap.size + 1 + 1 + 1 + 1), 0, none⟩ _ HS4.out)) ?_
              clear hK K v0 v1 v0' v1' k0 k1 f0 f0'
              have HS1 := Lib.hid (show Blk ((wk.setCell ⟨(w.heap.size + 1 + 1 + 1 + 1), 0, none⟩ (.int .i64 (cu + zc))).drew) (w.heap.size + 1 + 1 + 1 + 1) 40 #[.int .i64 (cu + zc), .int .i64 su] from (HVK.out.set 0 (.int .i64 (cu + zc))).drew)
              have HS2 := Lib.hid (show FutS (fun k => k == (w.heap.size + 1 + 1 + 1 + 1)) wk ((wk.setCell ⟨(w.heap.size + 1 + 1 + 1 + 1), 0, none⟩ (.int .i64 (cu + zc))).drew) from (futS_set wk ⟨(w.heap.size + 1 + 1 + 1 + 1), 0, none⟩ _ (by simp)).drew)
              generalize (wk.setCell ⟨(w.heap.size + 1 + 1 + 1 + 1), 0, none⟩ (.int .i64 (cu + zc))).drew = wm at *
              (refine wpS_h rfl rfl (fun K hK => ?_); go_simp; refine hK _ _ ?_; clear hK K)
              have s1 := HS1.out.cell (i := 1) rfl
              have s2 := HS1.out.fz 1
              refine wpG_o rfl rfl (fun K hK => ?_)
              go_simp
              refine hK _ _ (.inl (by kernel_rfl)) ?_
              clear hK K s1 s2
              refine wpG_nil ?_
              go_wp2_with fail
              have HE9 := HSU.out
              exact ⟨⟨j + 1, by omega, by go_num, by rw [← HE9.1, ← HE9.2]; exact HS1.out.set 1 _, ((HF2.out.then HWK.out).trans HS2.out).setCell (.inl (by simp)) _⟩, by simp [intOf]; omega⟩
          · go_simp
            refine hK _ _ (.inr ((Fut.refl _).alloc _)) ?_
            clear hK K
            have BK1 : Blk ((wr.alloc (.cells #[.int .i64 0, .int .i64 0] 40)).drew) wr.heap.size 40 #[.int .i64 0, .int .i64 0] := heap_new' _ _ _ rfl
            have HWA := Lib.hid (show Fut wr ((wr.alloc (.cells #[.int .i64 0, .int .i64 0] 40)).drew) from ((Fut.refl wr).alloc _).drew)
            refine wpF_o rfl rfl (fun K hK => ?_)
            go_simp
            generalize (wr.alloc (.cells #[.int .i64 0, .int .i64 0] 40)).drew = wa at *
            go_at_call 19
            refine (HCL.out _ HWA.out).mono ?_
            rintro r wc ⟨rfl, hb⟩
            have fc : Fut wr wc := HWA.out.trans hb
            have BK0 := BK1.fut hb
            refine hK _ _ (.inr hb) ?_
            clear hK K hb BK1
            have z0 := BK0.cell (i := 0) rfl
            have z1 := BK0.cell (i := 1) rfl
            have z2 := BK0.fz 0
            have z3 := BK0.fz 1
            refine wpF_o rfl rfl (fun K hK => ?_)
            go_simp
            refine hK _ _ (.inl (by kernel_rfl)) ?_
            clear hK K z0 z1 z2 z3
            refine wpF_nil ?_
            have BK := Lib.hid ((BK0.set 0 (.int .i64 zc)).set 1 (.int .i64 zs))
            have hwk : Fut wr ((wc.setCell ⟨wr.heap.size, 0, none⟩ (.int .i64 zc)).setCell ⟨wr.heap.size, 1, none⟩ (.int .i64 zs)) := (fc.setCell (p := ⟨wr.heap.size, 0, none⟩) (Nat.le_refl _) _).setCell (p := ⟨wr.heap.size, 1, none⟩) (Nat.le_refl _) _
            clear fc BK0 HWA
            generalize (wc.setCell ⟨wr.heap.size, 0, none⟩ (.int .i64 zc)).setCell ⟨wr.heap.size, 1, none⟩ (.int .i64 zs) = wk at *
            have HWK := Lib.hid hwk
            clear hwk
            have HVK := Lib.hid (HVR.out.fut HWK.out)
            have hb4 := HVR.out.lt
            obtain ⟨S, hS9⟩ : ∃ S : Nat → Bool, S = fun k => k == (w.heap.size + 1 + 1 + 1 + 1) := ⟨_, rfl⟩
            have HS4 := Lib.hid (show S (w.heap.size + 1 + 1 + 1 + 1) = true from by rw [hS9]; exact beq_self_eq_true _)
            have HSK : S wr.heap.size = false := by rw [hS9]; exact beq_eq_false_iff_ne.2 (by omega)
            have v0 := HVK.out.cell (i := 0) rfl
            have v1 := HVK.out.cell (i := 1) rfl
            have v0' : wk.drew.cell? ⟨(w.heap.size + 1 + 1 + 1 + 1), 0, none⟩ = some (.int .i64 cu) := HVK.out.cell (i := 0) rfl
            have v1' : wk.drew.cell? ⟨(w.heap.size + 1 + 1 + 1 + 1), 1, none⟩ = some (.int .i64 su) := HVK.out.cell (i := 1) rfl
            have k0 := cell_futS (BK.out.cell (i := 0) rfl) HSK
            have k1 := cell_futS (BK.out.cell (i := 1) rfl) HSK
            have f0 : wk.frozen? ⟨(w.heap.size + 1 + 1 + 1 + 1), 0, none⟩ = false := HVK.out.fz 0
            have f0' : wk.drew.frozen? ⟨(w.heap.size + 1 + 1 + 1 + 1), 0, none⟩ = false := HVK.out.fz 0
            clear q0 q1 q2 q3 d0 d1 k9 hb4 HSK hS9
            go_wp2_with fail
            refine wp_region_MG (relS S) o_cost9 (by kernel_rfl) (by kernel_rfl) (by intro c a d v w h; cases d <;> exact h) ?_; unfold o_cost9
            iterate 6 (refine wpS_h rfl rfl (fun K hK => ?_); go_simp; refine hK _ _ ?_; clear hK K)
            refine wpG_two' rfl rfl (fun K hK => ?_) (fun K hK => ?_)
            · go_simp
              refine hK _ _ (.inr ((relS S).refl _)) ?_
              clear hK K
              (refine wpS_h rfl rfl (fun K hK => ?_); go_simp; refine hK _ _ ?_; clear hK K)
              refine wpG_o rfl rfl (fun K hK => ?_)
              go_simp
              refine hK _ _ (.inr ((relS S).refl _)) ?_
              clear hK K
              (refine wpS_h rfl rfl (fun K hK => ?_); go_simp; refine hK _ _ ?_; clear hK K)
              (refine wpS_h rfl rfl (fun K hK => ?_); go_simp; refine hK _ _ ?_; clear hK K)
              refine wpG_o rfl rfl (fun K hK => ?_)
              go_simp
              refine hK _ _ (.inr (show FutS S wk.drew _ from futS_set wk.drew ⟨(w.heap.size + 1 + 1 + 1 + 1), 0, none⟩ _ HS4.out)) ?_
              clear hK K v0 v1 v0' v1' k0 k1 f0 f0'
              have HS1 := Lib.hid (show Blk ((wk.setCell ⟨(w.heap.size + 1 + 1 + 1 + 1), 0, none⟩ (.int .i64 (cu + zc))).drew) (w.heap.size + 1 + 1 + 1 + 1) 40 #[.int .i64 (cu + zc), .int .i64 su] from (HVK.out.set 0 (.int .i64 (cu + zc))).drew)
              have HS2 := Lib.hid (show FutS (fun k => k == (w.heap.size + 1 + 1 + 1 + 1)) wk ((wk.setCell ⟨(w.heap.size + 1 + 1 + 1 + 1), 0, none⟩ (.int .i64 (cu + zc))).drew) from (futS_set wk ⟨(w.heap.size + 1 + 1 + 1 + 1), 0, none⟩ _ (by simp)).drew)
              generalize (wk.setCell ⟨(w.heap.size + 1 + 1 + 1 + 1), 0, none⟩ (.int .i64 (cu + zc))).drew = wm at *
              (refine wpS_h rfl rfl (fun K hK => ?_); go_simp; refine hK _ _ ?_; clear hK K)
              have s1 := HS1.out.cell (i := 1) rfl
              have s2 := HS1.out.fz 1
              refine wpG_o rfl rfl (fun K hK => ?_)
              go_simp
              refine hK _ _ (.inl (by kernel_rfl)) ?_
              clear hK K s1 s2
              refine wpG_nil ?_
              go_wp2_with fail
              have HE9 := HSU.out
              exact ⟨⟨j + 1, by omega, by go_num, by rw [← HE9.1, ← HE9.2]; exact HS1.out.set 1 _, ((HF2.out.then HWK.out).trans HS2.out).setCell (.inl (by simp)) _⟩, by simp [intOf]; omega⟩
            · go_simp
              refine hK _ _ (.inr ((relS S).refl _)) ?_
              clear hK K
              (refine wpS_h rfl rfl (fun K hK => ?_); go_simp; refine hK _ _ ?_; clear hK K)
              refine wpG_o rfl rfl (fun K hK => ?_)
              go_simp
              refine hK _ _ (.inr ((relS S).refl _)) ?_
              clear hK K
              (refine wpS_h rfl rfl (fun K hK => ?_); go_simp; refine hK _ _ ?_; clear hK K)
              (refine wpS_h rfl rfl (fun K hK => ?_); go_simp; refine hK _ _ ?_; clear hK K)
              refine wpG_o rfl rfl (fun K hK => ?_)
              go_simp
              refine hK _ _ (.inr (show FutS S wk.drew _ from futS_set wk.drew ⟨(w.heap.size + 1 + 1 + 1 + 1), 0, none⟩ _ HS4.out)) ?_
              clear hK K v0 v1 v0' v1' k0 k1 f0 f0'
              have HS1 := Lib.hid (show Blk ((wk.setCell ⟨(w.heap.size + 1 + 1 + 1 + 1), 0, none⟩ (.int .i64 (cu + zc))).drew) (w.heap.size + 1 + 1 + 1 + 1) 40 #[.int .i64 (cu + zc), .int .i64 su] from (HVK.out.set 0 (.int .i64 (cu + zc))).drew)
              have HS2 := Lib.hid (show FutS (fun k => k == (w.heap.size + 1 + 1 + 1 + 1)) wk ((wk.setCell ⟨(w.heap.size + 1 + 1 + 1 + 1), 0, none⟩ (.int .i64 (cu + zc))).drew) from (futS_set wk ⟨(w.heap.size + 1 + 1 + 1 + 1), 0, none⟩ _ (by simp)).drew)
              generalize (wk.setCell ⟨(w.heap.size + 1 + 1 + 1 + 1), 0, none⟩ (.int .i64 (cu + zc))).drew = wm at *
              (refine wpS_h rfl rfl (fun K hK => ?_); go_simp; refine hK _ _ ?_; clear hK K)
              have s1 := HS1.out.cell (i := 1) rfl
              have s2 := HS1.out.fz 1
              refine wpG_o rfl rfl (fun K hK => ?_)
              go_simp
              refine hK _ _ (.inl (by kernel_rfl)) ?_
              clear hK K s1 s2
              refine wpG_nil ?_
              go_wp2_with fail
              have HE9 := HSU.out
              exact ⟨⟨j + 1, by omega, by go_num, by rw [← HE9.1, ← HE9.2]; exact HS1.out.set 1 _, ((HF2.out.then HWK.out).trans HS2.out).setCell (.inl (by simp)) _⟩, by simp [intOf]; omega⟩
        · have hjn : j = km := by omega
          obtain rfl := hjn
          have hz := HZ0.out.futS hF (beq_eq_false_iff_ne.2 (by omega))
          have g2 := hz.fz 0
          have g3 := hz.fz 1
          have g4 := hz.cell (i := 0) rfl
          have g5 := hz.cell (i := 1) rfl
          rw [List.take_of_length_le (by rw [List.length_map, HKM.out]; omega)] at HVR
          rw [HSUM.out.1, HSUM.out.2] at HVR
          have v0 := HVR.out.cell (i := 0) rfl
          have v1 := HVR.out.cell (i := 1) rfl
          have HZ3 := Lib.hid hz
          clear hz hV hF hbn hdn
          go_wp2_with fail
          refine bodyPost_ret (results_cell_row cost_res _ _ (w.heap.size + 1 + 1) _ _ _ _ rfl ((HZ3.out.set 0 (.int .i64 SC)).set 1 (.int .i64 SS)) Try.underlying40 rfl (by kernel_rfl)) rfl ?_
          exact ⟨rfl, (HFW.out.setCell (p := ⟨w.heap.size + 1 + 1, 0, none⟩) (by simp only; omega) _).setCell (p := ⟨w.heap.size + 1 + 1, 1, none⟩) (by simp only; omega) _⟩
    · have HCE := Lib.hid (show p = cst from by
        have := HGC.out
        simp [costN, k2] at this
        omega)
      obtain ⟨y1, y2, y3⟩ := cmpF_no k2
      clear k2
      obtain ⟨wb, hwb⟩ : ∃ wb, wb = (((((w.alloc (.cells #[.int .i64 T, .int .i64 N, .int .i64 st, .slice (some ⟨b, o, none⟩) n c] 24)).alloc (.cells #[.int .i64 (q : Int), .slice D km dc] 33)).alloc (.cells #[.int .i64 0, .int .i64 0] 40)).alloc (.cells #[.int .i64 kd, .int .i64 h, .int .i64 ra, .int .i64 rb, .int .i64 p, .int .i64 ox] 47)).alloc (.cells #[.int .i64 p, .int .i64 1] 40)) := ⟨_, rfl⟩
      have HF := Lib.hid (show Fut w wb from by rw [hwb]; exact (((((Fut.refl w).alloc _).alloc _).alloc _).alloc _).alloc _)
      have HB := Lib.hid (show Blk wb w.heap.size 24 #[.int .i64 T, .int .i64 N, .int .i64 st, .slice (some ⟨b, o, none⟩) n c] from by rw [hwb]; (repeat (first | exact heap_new' _ _ _ (by first | rfl | (simp only [World.size_alloc])) | refine (blk_alloc_lt _ _ _ (by first | omega | (simp only [World.size_alloc]; omega))).trans ?_)))
      have HD := Lib.hid (show Blk wb (w.heap.size + 1) 33 #[.int .i64 (q : Int), .slice D km dc] from by rw [hwb]; (repeat (first | exact heap_new' _ _ _ (by first | rfl | (simp only [World.size_alloc])) | refine (blk_alloc_lt _ _ _ (by first | omega | (simp only [World.size_alloc]; omega))).trans ?_)))
      have HZ := Lib.hid (show Blk wb (w.heap.size + 1 + 1) 40 #[.int .i64 0, .int .i64 0] from by rw [hwb]; (repeat (first | exact heap_new' _ _ _ (by first | rfl | (simp only [World.size_alloc])) | refine (blk_alloc_lt _ _ _ (by first | omega | (simp only [World.size_alloc]; omega))).trans ?_)))
      have HRC := Lib.hid (show Blk wb (w.heap.size + 1 + 1 + 1) 47 #[.int .i64 kd, .int .i64 h, .int .i64 ra, .int .i64 rb, .int .i64 p, .int .i64 ox] from by rw [hwb]; (repeat (first | exact heap_new' _ _ _ (by first | rfl | (simp only [World.size_alloc])) | refine (blk_alloc_lt _ _ _ (by first | omega | (simp only [World.size_alloc]; omega))).trans ?_)))
      have HV := Lib.hid (show Blk wb (w.heap.size + 1 + 1 + 1 + 1) 40 #[.int .i64 p, .int .i64 1] from by rw [hwb]; (repeat (first | exact heap_new' _ _ _ (by first | rfl | (simp only [World.size_alloc])) | refine (blk_alloc_lt _ _ _ (by first | omega | (simp only [World.size_alloc]; omega))).trans ?_)))
      have HF3 := Lib.hid (show Fut w (((w.alloc (.cells #[.int .i64 T, .int .i64 N, .int .i64 st, .slice (some ⟨b, o, none⟩) n c] 24)).alloc (.cells #[.int .i64 (q : Int), .slice D km dc] 33)).alloc (.cells #[.int .i64 0, .int .i64 0] 40)) from (((Fut.refl w).alloc _).alloc _).alloc _)
      have b3 := (show Blk (((w.alloc (.cells #[.int .i64 T, .int .i64 N, .int .i64 st, .slice (some ⟨b, o, none⟩) n c] 24)).alloc (.cells #[.int .i64 (q : Int), .slice D km dc] 33)).alloc (.cells #[.int .i64 0, .int .i64 0] 40)) w.heap.size 24 #[.int .i64 T, .int .i64 N, .int .i64 st, .slice (some ⟨b, o, none⟩) n c] from by (repeat (first | exact heap_new' _ _ _ (by first | rfl | (simp only [World.size_alloc])) | refine (blk_alloc_lt _ _ _ (by first | omega | (simp only [World.size_alloc]; omega))).trans ?_))).cell (i := 3) rfl
      have d0 := (show Blk (((w.alloc (.cells #[.int .i64 T, .int .i64 N, .int .i64 st, .slice (some ⟨b, o, none⟩) n c] 24)).alloc (.cells #[.int .i64 (q : Int), .slice D km dc] 33)).alloc (.cells #[.int .i64 0, .int .i64 0] 40)) (w.heap.size + 1) 33 #[.int .i64 (q : Int), .slice D km dc] from by (repeat (first | exact heap_new' _ _ _ (by first | rfl | (simp only [World.size_alloc])) | refine (blk_alloc_lt _ _ _ (by first | omega | (simp only [World.size_alloc]; omega))).trans ?_))).cell (i := 0) rfl
      have e0 := HF3.out.cell c0
      have e1 := HF3.out.cell c1
      have e2 := HF3.out.cell c2
      have e3 := HF3.out.cell c3
      have e4 := HF3.out.cell c4
      have e5 := HF3.out.cell c5
      have r0 := HRC.out.cell (i := 0) rfl
      rw [hwb] at r0
      clear c0 c1 c2 c3 c4 c5
      go_enter Try.func19, Try.ntmps19
      go_wp2_with fail
      rw [← hwb]
      clear hwb b3 d0 e0 e1 e2 e3 e4 e5 r0
      obtain rfl := HCE.out
      have HF0 := HF
      have HB0 := HB
      have HD0 := HD
      have HZ0 := HZ
      have HV0 := HV
      clear HF HB HD HZ HRC HV
      generalize wb = w0 at *
      generalize p = cst at *
      clear HCE
      go_loopw [9] (fun i wr => ∃ j : Nat, j ≤ km ∧ i = .int .i64 j ∧ Blk wr (w.heap.size + 1 + 1 + 1 + 1) 40 #[.int .i64 (cst + sumCs (grE ins rs) ((k.map toDT).take j)), .int .i64 (1 + sizDs ((k.map toDT).take j))] ∧ FutS (fun k => k == (w.heap.size + 1 + 1 + 1 + 1)) w0 wr) (fun i _ => km - (intOf i).toNat)
      case atStart => exact ⟨0, Nat.zero_le _, rfl, by simpa [sumCs, sizDs] using HV0.out, FutS.refl _⟩
      case round =>
        obtain ⟨j, hj, rfl, hV, hF⟩ := hrel
        have HF2 := Lib.hid hF
        have HFW := Lib.hid (hF.fut HF0.out (fun k hk => by
          have := beq_iff_eq.1 hk
          omega))
        have HVR := Lib.hid hV
        have hbn := HB0.out.futS hF (beq_eq_false_iff_ne.2 (by omega))
        have hdn := HD0.out.futS hF (beq_eq_false_iff_ne.2 (by omega))
        have HBR := Lib.hid hbn
        have HDR := Lib.hid hdn
        have k9 := hdn.cell (i := 1) rfl
        by_cases hlt : j < km
        · obtain ⟨y, hy⟩ := get_lt HKM.out hlt
          obtain ⟨b1, o1, rfl, hd⟩ := HS.out j y hy
          obtain ⟨t, hty⟩ : ∃ t, E.t[j]? = some t := ⟨_, List.getElem?_eq_getElem (by rw [HLN.out]; omega)⟩
          have hyt : (k.map toDT)[j]? = some (toDT y) := by rw [List.getElem?_map, hy]; rfl
          have HTK := Lib.hid (sumCs_take (grE ins rs) (k.map toDT) j (toDT y) hyt)
          have hsl := sums_le HES.out (k.map toDT) (j + 1)
          have hsl0 := sums_le HES.out (k.map toDT) j
          have hsz9 := sizD_pos (toDT y)
          have hcz9 := sumC_pos HES.out (toDT y)
          have HCL := Lib.hid (fun w' (hf : Fut wr w') => HI.out y (List.mem_of_getElem? hy) (t : Int) w' (HKV.out j (toDT y) t hyt hty) (by have := HTK.out.2; have := HSZ2.out; omega) (RdS.fut HR.out (HFW.out.trans hf)) (HII.out.fut (HFW.out.trans hf)) ((HK.out y (List.mem_of_getElem? hy)).fut (HFW.out.trans hf)))
          have hb1 := HTK.out.1
          have hb2 := HTK.out.2
          obtain ⟨zc, hzc⟩ : ∃ zc, sumC (grE ins rs) (toDT y) = zc := ⟨_, rfl⟩
          obtain ⟨zs, hzs⟩ : ∃ zs, sizD (toDT y) = zs := ⟨_, rfl⟩
          rw [hzc] at HCL hb1 hcz9
          rw [hzs] at HCL hb2 hsz9
          obtain ⟨cu, hcu⟩ : ∃ cu, cst + sumCs (grE ins rs) ((k.map toDT).take j) = cu := ⟨_, rfl⟩
          obtain ⟨su, hsu⟩ : ∃ su, 1 + sizDs ((k.map toDT).take j) = su := ⟨_, rfl⟩
          rw [hcu, hsu] at HVR
          have HSU := Lib.hid (show cu + zc = cst + sumCs (grE ins rs) ((k.map toDT).take (j + 1)) ∧ su + zs = 1 + sizDs ((k.map toDT).take (j + 1)) from by omega)
          have hcs9 := HCS.out
          have hsz8 := HSZ2.out
          have hsc8 := HSC.out
          have hw1 : IntKind.i64.wrap (cu + zc) = cu + zc := by simp [IntKind.wrap, IntKind.signed, IntKind.bits]; omega
          have hw2 : wrap64 (cu + zc) = cu + zc := IntWalk.wrap64_in _ ⟨by omega, by omega⟩
          have hw3 : IntKind.i64.wrap (su + zs) = su + zs := by simp [IntKind.wrap, IntKind.signed, IntKind.bits]; omega
          have hw4 : wrap64 (su + zs) = su + zs := IntWalk.wrap64_in _ ⟨by omega, by omega⟩
          have d0 := cell_fut (HFW.out.cell (hd 0 _ (by decide) rfl))
          have d1 := cell_fut (HFW.out.cell (hd 1 _ (by decide) rfl))
          simp only [Nat.add_zero] at d0
          have q0 := cell_fut (HBR.out.cell (i := 0) rfl)
          have q1 := cell_fut (HBR.out.cell (i := 1) rfl)
          have q2 := cell_fut (HBR.out.cell (i := 2) rfl)
          have q3 := cell_fut (HBR.out.cell (i := 3) rfl)
          obtain ⟨ye, yA, yc, yk⟩ := y
          simp only [DI.e, DI.A, DI.c, DI.k] at d0 d1
          simp only [dv, DI.e, DI.A, DI.c, DI.k] at HCL
          clear hy hd hty hyt hV hF hbn hdn hsl hsl0 hsz9 hcz9 hb1 hb2 hzc hzs hcu hsu hcs9 hsz8 hsc8
          go_wp2_with fail
          have k9 := cell_fut k9
          refine wp_region_M o_emendateref38_Cost_8 (by kernel_rfl) (by kernel_rfl) (by intro c a d v w h; cases d <;> exact h) ?_; unfold o_emendateref38_Cost_8
          iterate 7 (refine wpF_h rfl rfl (fun K hK => ?_); go_simp; refine hK _ _ ?_; clear hK K)
          refine wpF_two rfl rfl (fun K hK => ?_) (fun K hK => ?_)
          · go_simp
            go_at_call 19
            refine (HCL.out _ (Fut.refl wr).drew).mono ?_
            rintro r wc ⟨rfl, hb⟩
            have fc : Fut wr wc := (Fut.refl wr).drew.trans hb
            have hkb0 : wr.heap.size ≤ wc.heap.size := fc.size
            refine hK _ _ (.inr hb) ?_
            clear hK K hb
            refine wpF_o rfl rfl (fun K hK => ?_)
            go_simp
            refine hK _ _ (.inr ((Fut.refl _).alloc _)) ?_
            clear hK K
            refine wpF_o rfl rfl (fun K hK => ?_)
            go_simp
            refine hK _ _ (.inl (by kernel_rfl)) ?_
            clear hK K
            refine wpF_nil ?_
            have BK := Lib.hid (show Blk (wc.alloc (.cells #[.int .i64 zc, .int .i64 zs] 40)) wc.heap.size 40 #[.int .i64 zc, .int .i64 zs] from heap_new' _ _ _ rfl)
            have hwk : Fut wr (wc.alloc (.cells #[.int .i64 zc, .int .i64 zs] 40)) := fc.alloc _
            clear fc
            generalize wc.alloc (.cells #[.int .i64 zc, .int .i64 zs] 40) = wk at *
            have hkb : wr.heap.size ≤ wc.heap.size := hkb0
            generalize wc.heap.size = kb at *
            have HWK := Lib.hid hwk
            clear hwk
            have HVK := Lib.hid (HVR.out.fut HWK.out)
            have hb4 := HVR.out.lt
            obtain ⟨S, hS9⟩ : ∃ S : Nat → Bool, S = fun k => k == (w.heap.size + 1 + 1 + 1 + 1) := ⟨_, rfl⟩
            have HS4 := Lib.hid (show S (w.heap.size + 1 + 1 + 1 + 1) = true from by rw [hS9]; exact beq_self_eq_true _)
            have HSK : S kb = false := by rw [hS9]; exact beq_eq_false_iff_ne.2 (by omega)
            have v0 := HVK.out.cell (i := 0) rfl
            have v1 := HVK.out.cell (i := 1) rfl
            have v0' : wk.drew.cell? ⟨(w.heap.size + 1 + 1 + 1 + 1), 0, none⟩ = some (.int .i64 cu) := HVK.out.cell (i := 0) rfl
            have v1' : wk.drew.cell? ⟨(w.heap.size + 1 + 1 + 1 + 1), 1, none⟩ = some (.int .i64 su) := HVK.out.cell (i := 1) rfl
            have k0 := cell_futS (BK.out.cell (i := 0) rfl) HSK
            have k1 := cell_futS (BK.out.cell (i := 1) rfl) HSK
            have f0 : wk.frozen? ⟨(w.heap.size + 1 + 1 + 1 + 1), 0, none⟩ = false := HVK.out.fz 0
            have f0' : wk.drew.frozen? ⟨(w.heap.size + 1 + 1 + 1 + 1), 0, none⟩ = false := HVK.out.fz 0
            clear q0 q1 q2 q3 d0 d1 k9 hb4 HSK hS9
            go_wp2_with fail
            refine wp_region_MG (relS S) o_cost9 (by kernel_rfl) (by kernel_rfl) (by intro c a d v w h; cases d <;> exact h) ?_; unfold o_cost9
            iterate 6 (refine wpS_h rfl rfl (fun K hK => ?_); go_simp; refine hK _ _ ?_; clear hK K)
            refine wpG_two' rfl rfl (fun K hK => ?_) (fun K hK => ?_)
            · go_simp
              refine hK _ _ (.inr ((relS S).refl _)) ?_
              clear hK K
              (refine wpS_h rfl rfl (fun K hK => ?_); go_simp; refine hK _ _ ?_; clear hK K)
              refine wpG_o rfl rfl (fun K hK => ?_)
              go_simp
              refine hK _ _ (.inr ((relS S).refl _)) ?_
              clear hK K
              (refine wpS_h rfl rfl (fun K hK => ?_); go_simp; refine hK _ _ ?_; clear hK K)
              (refine wpS_h rfl rfl (fun K hK => ?_); go_simp; refine hK _ _ ?_; clear hK K)
              refine wpG_o rfl rfl (fun K hK => ?_)
              go_simp
              refine hK _ _ (.inr (show FutS S wk.drew _ from futS_set wk.drew ⟨(w.heap.size + 1 + 1 + 1 + 1), 0, none⟩ _ HS4.out)) ?_
              clear hK K v0 v1 v0' v1' k0 k1 f0 f0'
              have HS1 := Lib.hid (show Blk ((wk.setCell ⟨(w.heap.size + 1 + 1 + 1 + 1), 0, none⟩ (.int .i64 (cu + zc))).drew) (w.heap.size + 1 + 1 + 1 + 1) 40 #[.int .i64 (cu + zc), .int .i64 su] from (HVK.out.set 0 (.int .i64 (cu + zc))).drew)
              have HS2 := Lib.hid (show FutS (fun k => k == (w.heap.size + 1 + 1 + 1 + 1)) wk ((wk.setCell ⟨(w.heap.size + 1 + 1 + 1 + 1), 0, none⟩ (.int .i64 (cu + zc))).drew) from (futS_set wk ⟨(w.heap.size + 1 + 1 + 1 + 1), 0, none⟩ _ (by simp)).drew)
              generalize (wk.setCell ⟨(w.heap.size + 1 + 1 + 1 + 1), 0, none⟩ (.int .i64 (cu + zc))).drew = wm at *
              (refine wpS_h rfl rfl (fun K hK => ?_); go_simp; refine hK _ _ ?_; clear hK K)
              have s1 := HS1.out.cell (i := 1) rfl
              have s2 := HS1.out.fz 1
              refine wpG_o rfl rfl (fun K hK => ?_)
              go_simp
              refine hK _ _ (.inl (by kernel_rfl)) ?_
              clear hK K s1 s2
              refine wpG_nil ?_
              go_wp2_with fail
              have HE9 := HSU.out
              exact ⟨⟨j + 1, by omega, by go_num, by rw [← HE9.1, ← HE9.2]; exact HS1.out.set 1 _, ((HF2.out.then HWK.out).trans HS2.out).setCell (.inl (by simp)) _⟩, by simp [intOf]; omega⟩
            · go_simp
              refine hK _ _ (.inr ((relS S).refl _)) ?_
              clear hK K
              (refine wpS_h rfl rfl (fun K hK => ?_); go_simp; refine hK _ _ ?_; clear hK K)
              refine wpG_o rfl rfl (fun K hK => ?_)
              go_simp
              refine hK _ _ (.inr ((relS S).refl _)) ?_
              clear hK K
              (refine wpS_h rfl rfl (fun K hK => ?_); go_simp; refine hK _ _ ?_; clear hK K)
              (refine wpS_h rfl rfl (fun K hK => ?_); go_simp; refine hK _ _ ?_; clear hK K)
              refine wpG_o rfl rfl (fun K hK => ?_)
              go_simp
              refine hK _ _ (.inr (show FutS S wk.drew _ from futS_set wk.drew ⟨(w.heap.size + 1 + 1 + 1 + 1), 0, none⟩ _ HS4.out)) ?_
              clear hK K v0 v1 v0' v1' k0 k1 f0 f0'
              have HS1 := Lib.hid (show Blk ((wk.setCell ⟨(w.heap.size + 1 + 1 + 1 + 1), 0, none⟩ (.int .i64 (cu + zc))).drew) (w.heap.size + 1 + 1 + 1 + 1) 40 #[.int .i64 (cu + zc), .int .i64 su] from (HVK.out.set 0 (.int .i64 (cu + zc))).drew)
              have HS2 := Lib.hid (show FutS (fun k => k == (w.heap.size + 1 + 1 + 1 + 1)) wk ((wk.setCell ⟨(w.heap.size + 1 + 1 + 1 + 1), 0, none⟩ (.int .i64 (cu + zc))).drew) from (futS_set wk ⟨(w.heap.size + 1 + 1 + 1 + 1), 0, none⟩ _ (by simp)).drew)
              generalize (wk.setCell ⟨(w.heap.size + 1 + 1 + 1 + 1), 0, none⟩ (.int .i64 (cu + zc))).drew = wm at *
              (refine wpS_h rfl rfl (fun K hK => ?_); go_simp; refine hK _ _ ?_; clear hK K)
              have s1 := HS1.out.cell (i := 1) rfl
              have s2 := HS1.out.fz 1
              refine wpG_o rfl rfl (fun K hK => ?_)
              go_simp
              refine hK _ _ (.inl (by kernel_rfl)) ?_
              clear hK K s1 s2
              refine wpG_nil ?_
              go_wp2_with fail
              have HE9 := HSU.out
              exact ⟨⟨j + 1, by omega, by go_num, by rw [← HE9.1, ← HE9.2]; exact HS1.out.set 1 _, ((HF2.out.then HWK.out).trans HS2.out).setCell (.inl (by simp)) _⟩, by simp [intOf]; omega⟩
          · go_simp
            refine hK _ _ (.inr ((Fut.refl _).alloc _)) ?_
            clear hK K
            have BK1 : Blk ((wr.alloc (.cells #[.int .i64 0, .int .i64 0] 40)).drew) wr.heap.size 40 #[.int .i64 0, .int .i64 0] := heap_new' _ _ _ rfl
            have HWA := Lib.hid (show Fut wr ((wr.alloc (.cells #[.int .i64 0, .int .i64 0] 40)).drew) from ((Fut.refl wr).alloc _).drew)
            refine wpF_o rfl rfl (fun K hK => ?_)
            go_simp
            generalize (wr.alloc (.cells #[.int .i64 0, .int .i64 0] 40)).drew = wa at *
            go_at_call 19
            refine (HCL.out _ HWA.out).mono ?_
            rintro r wc ⟨rfl, hb⟩
            have fc : Fut wr wc := HWA.out.trans hb
            have BK0 := BK1.fut hb
            refine hK _ _ (.inr hb) ?_
            clear hK K hb BK1
            have z0 := BK0.cell (i := 0) rfl
            have z1 := BK0.cell (i := 1) rfl
            have z2 := BK0.fz 0
            have z3 := BK0.fz 1
            refine wpF_o rfl rfl (fun K hK => ?_)
            go_simp
            refine hK _ _ (.inl (by kernel_rfl)) ?_
            clear hK K z0 z1 z2 z3
            refine wpF_nil ?_
            have BK := Lib.hid ((BK0.set 0 (.int .i64 zc)).set 1 (.int .i64 zs))
            have hwk : Fut wr ((wc.setCell ⟨wr.heap.size, 0, none⟩ (.int .i64 zc)).setCell ⟨wr.heap.size, 1, none⟩ (.int .i64 zs)) := (fc.setCell (p := ⟨wr.heap.size, 0, none⟩) (Nat.le_refl _) _).setCell (p := ⟨wr.heap.size, 1, none⟩) (Nat.le_refl _) _
            clear fc BK0 HWA
            generalize (wc.setCell ⟨wr.heap.size, 0, none⟩ (.int .i64 zc)).setCell ⟨wr.heap.size, 1, none⟩ (.int .i64 zs) = wk at *
            have HWK := Lib.hid hwk
            clear hwk
            have HVK := Lib.hid (HVR.out.fut HWK.out)
            have hb4 := HVR.out.lt
            obtain ⟨S, hS9⟩ : ∃ S : Nat → Bool, S = fun k => k == (w.heap.size + 1 + 1 + 1 + 1) := ⟨_, rfl⟩
            have HS4 := Lib.hid (show S (w.heap.size + 1 + 1 + 1 + 1) = true from by rw [hS9]; exact beq_self_eq_true _)
            have HSK : S wr.heap.size = false := by rw [hS9]; exact beq_eq_false_iff_ne.2 (by omega)
            have v0 := HVK.out.cell (i := 0) rfl
            have v1 := HVK.out.cell (i := 1) rfl
            have v0' : wk.drew.cell? ⟨(w.heap.size + 1 + 1 + 1 + 1), 0, none⟩ = some (.int .i64 cu) := HVK.out.cell (i := 0) rfl
            have v1' : wk.drew.cell? ⟨(w.heap.size + 1 + 1 + 1 + 1), 1, none⟩ = some (.int .i64 su) := HVK.out.cell (i := 1) rfl
            have k0 := cell_futS (BK.out.cell (i := 0) rfl) HSK
            have k1 := cell_futS (BK.out.cell (i := 1) rfl) HSK
            have f0 : wk.frozen? ⟨(w.heap.size + 1 + 1 + 1 + 1), 0, none⟩ = false := HVK.out.fz 0
            have f0' : wk.drew.frozen? ⟨(w.heap.size + 1 + 1 + 1 + 1), 0, none⟩ = false := HVK.out.fz 0
            clear q0 q1 q2 q3 d0 d1 k9 hb4 HSK hS9
            go_wp2_with fail
            refine wp_region_MG (relS S) o_cost9 (by kernel_rfl) (by kernel_rfl) (by intro c a d v w h; cases d <;> exact h) ?_; unfold o_cost9
            iterate 6 (refine wpS_h rfl rfl (fun K hK => ?_); go_simp; refine hK _ _ ?_; clear hK K)
            refine wpG_two' rfl rfl (fun K hK => ?_) (fun K hK => ?_)
            · go_simp
              refine hK _ _ (.inr ((relS S).refl _)) ?_
              clear hK K
              (refine wpS_h rfl rfl (fun K hK => ?_); go_simp; refine hK _ _ ?_; clear hK K)
              refine wpG_o rfl rfl (fun K hK => ?_)
              go_simp
              refine hK _ _ (.inr ((relS S).refl _)) ?_
              clear hK K
              (refine wpS_h rfl rfl (fun K hK => ?_); go_simp; refine hK _ _ ?_; clear hK K)
              (refine wpS_h rfl rfl (fun K hK => ?_); go_simp; refine hK _ _ ?_; clear hK K)
              refine wpG_o rfl rfl (fun K hK => ?_)
              go_simp
              refine hK _ _ (.inr (show FutS S wk.drew _ from futS_set wk.drew ⟨(w.heap.size + 1 + 1 + 1 + 1), 0, none⟩ _ HS4.out)) ?_
              clear hK K v0 v1 v0' v1' k0 k1 f0 f0'
              have HS1 := Lib.hid (show Blk ((wk.setCell ⟨(w.heap.size + 1 + 1 + 1 + 1), 0, none⟩ (.int .i64 (cu + zc))).drew) (w.heap.size + 1 + 1 + 1 + 1) 40 #[.int .i64 (cu + zc), .int .i64 su] from (HVK.out.set 0 (.int .i64 (cu + zc))).drew)
              have HS2 := Lib.hid (show FutS (fun k => k == (w.heap.size + 1 + 1 + 1 + 1)) wk ((wk.setCell ⟨(w.heap.size + 1 + 1 + 1 + 1), 0, none⟩ (.int .i64 (cu + zc))).drew) from (futS_set wk ⟨(w.heap.size + 1 + 1 + 1 + 1), 0, none⟩ _ (by simp)).drew)
              generalize (wk.setCell ⟨(w.heap.size + 1 + 1 + 1 + 1), 0, none⟩ (.int .i64 (cu + zc))).drew = wm at *
              (refine wpS_h rfl rfl (fun K hK => ?_); go_simp; refine hK _ _ ?_; clear hK K)
              have s1 := HS1.out.cell (i := 1) rfl
              have s2 := HS1.out.fz 1
              refine wpG_o rfl rfl (fun K hK => ?_)
              go_simp
              refine hK _ _ (.inl (by kernel_rfl)) ?_
              clear hK K s1 s2
              refine wpG_nil ?_
              go_wp2_with fail
              have HE9 := HSU.out
              exact ⟨⟨j + 1, by omega, by go_num, by rw [← HE9.1, ← HE9.2]; exact HS1.out.set 1 _, ((HF2.out.then HWK.out).trans HS2.out).setCell (.inl (by simp)) _⟩, by simp [intOf]; omega⟩
            · go_simp
              refine hK _ _ (.inr ((relS S).refl _)) ?_
              clear hK K
              (refine wpS_h rfl rfl (fun K hK => ?_); go_simp; refine hK _ _ ?_; clear hK K)
              refine wpG_o rfl rfl (fun K hK => ?_)
              go_simp
              refine hK _ _ (.inr ((relS S).refl _)) ?_
              clear hK K
              (refine wpS_h rfl rfl (fun K hK => ?_); go_simp; refine hK _ _ ?_; clear hK K)
              (refine wpS_h rfl rfl (fun K hK => ?_); go_simp; refine hK _ _ ?_; clear hK K)
              refine wpG_o rfl rfl (fun K hK => ?_)
              go_simp
              refine hK _ _ (.inr (show FutS S wk.drew _ from futS_set wk.drew ⟨(w.heap.size + 1 + 1 + 1 + 1), 0, none⟩ _ HS4.out)) ?_
              clear hK K v0 v1 v0' v1' k0 k1 f0 f0'
              have HS1 := Lib.hid (show Blk ((wk.setCell ⟨(w.heap.size + 1 + 1 + 1 + 1), 0, none⟩ (.int .i64 (cu + zc))).drew) (w.heap.size + 1 + 1 + 1 + 1) 40 #[.int .i64 (cu + zc), .int .i64 su] from (HVK.out.set 0 (.int .i64 (cu + zc))).drew)
              have HS2 := Lib.hid (show FutS (fun k => k == (w.heap.size + 1 + 1 + 1 + 1)) wk ((wk.setCell ⟨(w.heap.size + 1 + 1 + 1 + 1), 0, none⟩ (.int .i64 (cu + zc))).drew) from (futS_set wk ⟨(w.heap.size + 1 + 1 + 1 + 1), 0, none⟩ _ (by simp)).drew)
              generalize (wk.setCell ⟨(w.heap.size + 1 + 1 + 1 + 1), 0, none⟩ (.int .i64 (cu + zc))).drew = wm at *
              (refine wpS_h rfl rfl (fun K hK => ?_); go_simp; refine hK _ _ ?_; clear hK K)
              have s1 := HS1.out.cell (i := 1) rfl
              have s2 := HS1.out.fz 1
              refine wpG_o rfl rfl (fun K hK => ?_)
              go_simp
              refine hK _ _ (.inl (by kernel_rfl)) ?_
              clear hK K s1 s2
              refine wpG_nil ?_
              go_wp2_with fail
              have HE9 := HSU.out
              exact ⟨⟨j + 1, by omega, by go_num, by rw [← HE9.1, ← HE9.2]; exact HS1.out.set 1 _, ((HF2.out.then HWK.out).trans HS2.out).setCell (.inl (by simp)) _⟩, by simp [intOf]; omega⟩
        · have hjn : j = km := by omega
          obtain rfl := hjn
          have hz := HZ0.out.futS hF (beq_eq_false_iff_ne.2 (by omega))
          have g2 := hz.fz 0
          have g3 := hz.fz 1
          have g4 := hz.cell (i := 0) rfl
          have g5 := hz.cell (i := 1) rfl
          rw [List.take_of_length_le (by rw [List.length_map, HKM.out]; omega)] at HVR
          rw [HSUM.out.1, HSUM.out.2] at HVR
          have v0 := HVR.out.cell (i := 0) rfl
          have v1 := HVR.out.cell (i := 1) rfl
          have HZ3 := Lib.hid hz
          clear hz hV hF hbn hdn
          go_wp2_with fail
          refine bodyPost_ret (results_cell_row cost_res _ _ (w.heap.size + 1 + 1) _ _ _ _ rfl ((HZ3.out.set 0 (.int .i64 SC)).set 1 (.int .i64 SS)) Try.underlying40 rfl (by kernel_rfl)) rfl ?_
          exact ⟨rfl, (HFW.out.setCell (p := ⟨w.heap.size + 1 + 1, 0, none⟩) (by simp only; omega) _).setCell (p := ⟨w.heap.size + 1 + 1, 1, none⟩) (by simp only; omega) _⟩
end Go.Proofs.Ytleapckcihcpaaa
