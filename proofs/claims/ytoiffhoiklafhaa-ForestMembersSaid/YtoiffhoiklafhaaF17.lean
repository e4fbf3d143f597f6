/-
  The law of the derivations of a forest, walked.
-/
import Derived.Test.YtoiffhoiklafhaaF17p
import Derived.Test.YtoiffhoiklafhaaF15
namespace Go.Proofs.Ytoiffhoiklafhaa
open Go.RowKit Go.Deep PK
attribute [local go_sem] Oper.lit Oper.litS fut_fut fut_drew World.cell?_alloc_some
attribute [local go_sem] fut_base_drew
set_option maxHeartbeats 12800000 in
set_option maxRecDepth 4000 in
theorem law_fder (N : Int) (A : Option Addr) (n c : Nat) (es : List EI) (v8 : Int) (d : DI) (w : World) (hl : es.length = n) (hn : n ≤ maxLen) (hR : RdE w A es) (hD : RdD w d) (v8l : 0 ≤ v8) (v8h : v8 ≤ 255) :
    Calls Try.prog 8 #[hv N A n c, .int .u8 v8, dv d] w fun e w' => e = .returned (.bool true) ∧ Below w.heap.size w w' := by
  have HL := Lib.hid hl
  have HR := Lib.hid hR
  have HBO := Lib.hid (fun w' (hf : Fut w w') => bounded_any N A n c es w' hl hn (hR.fut hf))
  have HDR := Lib.hid hD
  have HFW := Lib.hid (fun w' (hf : Fut w w') => few_any d w' (hD.fut hf))
  obtain ⟨td, htd⟩ : ∃ td, toDT d = td := ⟨_, rfl⟩
  have HTD := Lib.hid htd
  rw [htd] at HFW
  obtain ⟨D, hD2⟩ : ∃ D, D = d := ⟨_, rfl⟩
  have HDD := Lib.hid hD2
  obtain ⟨de, dA, dc, dk⟩ := d
  obtain ⟨dn, hdn⟩ : ∃ dn, dk.length = dn := ⟨_, rfl⟩
  have HDV := Lib.hid (show dv D = .agg #[.int .i64 de, .slice dA dn dc] from by rw [hD2, ← hdn]; rfl)
  simp only [dv, DI.e, DI.A, DI.c, DI.k, hdn] at HFW ⊢
  clear hD htd hD2 hdn
  clear hl hn hR
  obtain ⟨wb, hwb⟩ : ∃ wb, wb = (w.alloc (.cells #[.int .i64 N, .slice A n c] 24)).alloc (.cells #[.int .i64 de, .slice dA dn dc] 36) := ⟨_, rfl⟩
  have HF := Lib.hid (show Fut w wb from by rw [hwb]; exact ((Fut.refl w).alloc _).alloc _)
  have HB := Lib.hid (show Blk wb w.heap.size 24 #[.int .i64 N, .slice A n c] from by rw [hwb]; (repeat (first | exact heap_new' _ _ _ (by first | rfl | (simp only [World.size_alloc])) | refine (blk_alloc_lt _ _ _ (by first | omega | (simp only [World.size_alloc]; omega))).trans ?_)))
  have HD := Lib.hid (show Blk wb (w.heap.size + 1) 36 #[.int .i64 de, .slice dA dn dc] from by rw [hwb]; (repeat (first | exact heap_new' _ _ _ (by first | rfl | (simp only [World.size_alloc])) | refine (blk_alloc_lt _ _ _ (by first | omega | (simp only [World.size_alloc]; omega))).trans ?_)))
  go_enter Try.func8, Try.ntmps8
  go_wp2_with fail
  rw [← hwb]
  clear hwb
  refine (HBO.out _ HF.out).mono ?_
  rintro x w1 ⟨⟨bo, rfl, hbo⟩, hb⟩
  have HF1 := Lib.hid (show Fut wb w1 from hb)
  have HBT := Lib.hid hbo
  clear hb hbo HBO
  cases bo with
  | false =>
    go_wp2_with fail
    refine (awake_any _).mono ?_
    rintro x w2 ⟨rfl, hb⟩
    have HF2 := Lib.hid (HF1.out.trans (show Fut w1 w2 from hb))
    clear hb
    go_wp2_with fail
    go_ret
    exact ⟨rfl, HF.out.trans HF2.out⟩
  | true =>
    obtain ⟨M, V, rfl, hsm, hsol, hsz⟩ := HBT.out rfl
    obtain ⟨h1, h2, h3, h4⟩ := smallB_parts hsm
    have HSO := Lib.hid hsol
    have HSZ := Lib.hid hsz
    have HVD := Lib.hid h4
    have HTL := Lib.hid h3
    have HSM := Lib.hid hsm
    have hM : M ≤ 30 := by omega
    have hM1 : 1 ≤ M := by have := (validB_parts h4).1; omega
    have hn60 : n ≤ 60 := by have := HL.out; omega
    clear h1 h2 h3 h4 hsm hsol hsz HBT
    have d0 := (HD.out.fut HF1.out).cell (i := 0) rfl
    have d1 := (HD.out.fut HF1.out).cell (i := 1) rfl
    go_wp2_with fail
    refine (HFW.out _ (HF.out.trans HF1.out)).mono ?_
    rintro x wz ⟨rfl, hb⟩
    have HF2 := Lib.hid (HF1.out.trans (show Fut w1 wz from hb))
    obtain ⟨fw, hfw⟩ : ∃ fw, decide (0 ≤ leftF td 0 201) = fw := ⟨_, rfl⟩
    have HFE := Lib.hid hfw
    rw [hfw]
    clear hb hfw d0 d1 HFW
    cases fw with
    | false =>
      go_wp2_with fail
      refine (awake_any _).mono ?_
      rintro x w3 ⟨rfl, hb⟩
      have HF3 := Lib.hid (HF2.out.trans (show Fut wz w3 from hb))
      clear hb
      go_wp2_with fail
      go_ret
      exact ⟨rfl, HF.out.trans HF3.out⟩
    | true =>
      have HSD := Lib.hid (show sizD (toDT D) ≤ 201 from by
        have h1 := few_size (of_decide_eq_true HFE.out)
        rw [← HTD.out, ← HDD.out] at h1
        exact h1)
      have HRD := Lib.hid (show RdD w D from by rw [HDD.out]; exact HDR.out)
      have hwm : 0 ≤ v8 % (M : Int) ∧ v8 % (M : Int) < M := ⟨Int.emod_nonneg _ (by omega), Int.emod_lt_of_pos _ (by omega)⟩
      have q0 := (HB.out.fut HF2.out).cell (i := 0) rfl
      have q1 := (HB.out.fut HF2.out).cell (i := 1) rfl
      go_wp2_with fail
      obtain ⟨rt, hi⟩ : ∃ rt : Nat, v8 % (M : Int) = rt := ⟨(v8 % (M : Int)).toNat, by omega⟩
      rw [hi] at hwm ⊢
      have hrt : rt < M := by omega
      clear hi hwm q0 q1
      have HVP := Lib.hid (validB_parts HVD.out).2.2
      have HFT := Lib.hid (fun w' (hf : Fut w w') => fTight_any M A n c es rt w' V HSO.out HL.out (by omega) HVD.out HTL.out (HR.out.fut hf))
      obtain ⟨m, hm⟩ : ∃ m, (fP M V es (rt : Int)).length = m := ⟨_, rfl⟩
      have hml : (fE M V es (rt : Int)).length = m := by unfold fE; rw [List.length_map, hm]
      have hmi : (fI M V es (rt : Int)).length = m := by unfold fI; rw [List.length_map, hm]
      have hmn : m ≤ 1000 := by rw [← hml]; exact Nat.le_trans (fE_le M V es rt) (by have := HL.out; omega)
      have hm63 : m ≤ 9223372036854775807 := by omega
      have HVG := Lib.hid (forest_valid (r := (rt : Int)) (V := V) HVD.out)
      have HTG := Lib.hid (show ∀ e ∈ fE M V es (rt : Int), e.t.length ≤ 4 from fun e he => HTL.out e (mem_fE.1 he).1)
      have HVA := Lib.hid (fun XA Xc w' (hr : RdE w' XA (fE M V es (rt : Int))) => rValid_any M XA m Xc (fE M V es (rt : Int)) w' hml (by unfold maxLen; omega) hr)
      rw [HVG.out] at HVA
      have HRV := Lib.hid (fun XA Xc w' (hr : RdE w' XA (fE M V es (rt : Int))) (hd : RdD w' D) => rvalue_any M XA m Xc (fE M V es (rt : Int)) hml (by unfold maxLen; omega) HVG.out HTG.out D rt 500 w' (by have := HSD.out; omega) (by decide) hr hd)
      have HMP := Lib.hid (fun FA Fc w' (hr : Rd1 w' FA nv (fI M V es (rt : Int))) (hd : RdD w' D) => rmap_any ((fI M V es (rt : Int)).map (fun k : Nat => (k : Int))) FA m Fc (by rw [List.length_map, hmi]) hmn D w' (by have := HSD.out; omega) (rd_nv hr) hd)
      have HC2 := Lib.hid (fun (y : DI) w' (hf : Fut w w') (hd : RdD w' y) => fcont_any M A n c es rt y w' V HSO.out HL.out (by omega) HVD.out HTL.out (HR.out.fut hf) hd)
      obtain ⟨ok, hok⟩ : ∃ ok, PK.validD (EEs (fE M V es (rt : Int))) (toDT D) (rt : Int) = ok := ⟨_, rfl⟩
      have HOK := Lib.hid (fun (h : ok = true) => map_forest (N := M) (V := V) (es := es) (r := (rt : Int)) (fun e he => ⟨(okE_parts (HVP.out e he)).1, fun t ht => ((okE_parts (HVP.out e he)).2.2.2.2 t ht).1⟩) (toDT D) rt (hok.trans h))
      rw [hok, HDV.out] at HRV
      rw [HDV.out] at HMP
      rw [hm] at HFT
      clear hm hml hmi hok
      refine (HFT.out _ (HF.out.trans HF2.out)).mono ?_
      rintro x w3 ⟨⟨XA, Xc, GA, Gc, rfl, hre, hrf⟩, hb⟩
      have f3 := (show Fut wz w3 from hb).alloc (.cells #[.int .i64 M, .slice XA m Xc] 24)
      have HF3 := Lib.hid (HF2.out.trans f3)
      have HE3 := Lib.hid (hre.fut ((Fut.refl w3).alloc (.cells #[.int .i64 M, .slice XA m Xc] 24)))
      have HG3 := Lib.hid (hrf.fut ((Fut.refl w3).alloc (.cells #[.int .i64 M, .slice XA m Xc] 24)))
      have HBG := Lib.hid (show Blk (w3.alloc (.cells #[.int .i64 M, .slice XA m Xc] 24)) w3.heap.size 24 #[.int .i64 M, .slice XA m Xc] from heap_new' _ _ _ rfl)
      have q0 := (HB.out.fut HF3.out).cell (i := 0) rfl
      have q1 := (HB.out.fut HF3.out).cell (i := 1) rfl
      clear hb hre hrf HFT f3
      go_wp2_with fail
      generalize w3.alloc (.cells #[.int .i64 M, .slice XA m Xc] 24) = wk at *
      refine (HVA.out XA Xc wk HE3.out).mono ?_
      rintro x w4 ⟨rfl, hb⟩
      have f4 : Fut wk w4 := hb
      have HF4 := Lib.hid (HF3.out.trans f4)
      have g0 := (HBG.out.fut f4).cell (i := 0) rfl
      have g1 := (HBG.out.fut f4).cell (i := 1) rfl
      have d0 := (HD.out.fut HF4.out).cell (i := 0) rfl
      have d1 := (HD.out.fut HF4.out).cell (i := 1) rfl
      clear hb HVA q0 q1
      go_wp2_with fail
      refine (HRV.out XA Xc w4 (HE3.out.fut f4) (HRD.out.fut (HF.out.trans HF4.out))).mono ?_
      rintro x w5 ⟨⟨⟨yc, ys⟩, rfl, _⟩, hb⟩
      have f5 := (f4.trans hb).alloc (.cells #[.int .i64 yc, .int .i64 ys] 46)
      have HF5 := Lib.hid (HF3.out.trans f5)
      have d0 := (HD.out.fut HF5.out).cell (i := 0) rfl
      have d1 := (HD.out.fut HF5.out).cell (i := 1) rfl
      clear hb HRV g0 g1
      go_wp2_with fail
      refine (HMP.out GA Gc _ (HG3.out.fut f5) (HRD.out.fut (HF.out.trans HF5.out))).mono ?_
      rintro x w6 ⟨⟨dz, bz, rfl, hzf, hzt⟩, hb⟩
      have HZF := Lib.hid hzf
      have HZT := Lib.hid hzt
      obtain ⟨dq, hdq⟩ : ∃ dq, dq = dz := ⟨_, rfl⟩
      rw [← hdq] at HZF HZT
      obtain ⟨ze, zA, zc, zk⟩ := dz
      simp only [dv, DI.e, DI.A, DI.c, DI.k]
      obtain ⟨zn, hzn⟩ : ∃ zn, zk.length = zn := ⟨_, rfl⟩
      rw [hzn]
      have HQV := Lib.hid (show dv dq = .agg #[.int .i64 ze, .slice zA zn zc] from by rw [hdq, ← hzn]; rfl)
      have f6 : Fut wk (w6.alloc (.cells #[.int .i64 ze, .slice zA zn zc] 36)) := (f5.trans hb).alloc _
      have HF6 := Lib.hid (HF3.out.trans f6)
      have HBQ := Lib.hid (show Blk (w6.alloc (.cells #[.int .i64 ze, .slice zA zn zc] 36)) w6.heap.size 36 #[.int .i64 ze, .slice zA zn zc] from heap_new' _ _ _ rfl)
      have f66 := (Fut.refl w6).alloc (.cells #[.int .i64 ze, .slice zA zn zc] 36)
      clear hb hzf hzt hdq hzn HMP d0 d1
      cases ok with
      | true =>
        obtain ⟨d', p1, p2, p3, p4⟩ := HOK.out rfl
        cases bz with
        | false =>
          have := (HZF.out rfl).1
          rw [p1] at this
          cases this
        | true =>
          obtain ⟨z1, z2⟩ := HZT.out rfl
          rw [p1] at z1
          obtain rfl := Option.some.inj z1
          have hil : isL M V es (rt : Int) (toDT dq) = true := by
            unfold isL
            rw [p2, p3, Int.toNat_natCast, decide_eq_true p4]
            simp
            omega
          have HCD := Lib.hid (fun w' (hf : Fut w w') (hd : RdD w' dq) => HC2.out dq w' hf hd)
          rw [hil, HQV.out] at HCD
          have HRQ := Lib.hid (z2.rd.fut f66)
          clear p1 p2 p3 p4 z1 z2 hil HC2 f66
          go_wp2_with fail
          generalize w6.alloc (.cells #[.int .i64 ze, .slice zA zn zc] 36) = w7 at *
          refine (awake_any _).mono ?_
          rintro x w8 ⟨rfl, hb⟩
          have f8 : Fut w7 w8 := hb
          have HF8 := Lib.hid (HF6.out.trans f8)
          have q0 := (HB.out.fut HF8.out).cell (i := 0) rfl
          have q1 := (HB.out.fut HF8.out).cell (i := 1) rfl
          have z0 := (HBQ.out.fut f8).cell (i := 0) rfl
          have z1 := (HBQ.out.fut f8).cell (i := 1) rfl
          clear hb
          go_wp2_with fail
          refine (HCD.out _ (HF.out.trans HF8.out) (HRQ.out.fut f8)).mono ?_
          rintro x w9 ⟨rfl, hb⟩
          have HF9 := Lib.hid (HF8.out.trans (show Fut w8 w9 from hb))
          clear hb q0 q1 z0 z1
          go_wp2_with fail
          go_ret
          exact ⟨rfl, HF.out.trans HF9.out⟩
      | false =>
        go_wp2_with fail
        generalize w6.alloc (.cells #[.int .i64 ze, .slice zA zn zc] 36) = w7 at *
        refine (awake_any _).mono ?_
        rintro x w8 ⟨rfl, hb⟩
        have HF8 := Lib.hid (HF6.out.trans (show Fut w7 w8 from hb))
        clear hb
        go_wp2_with fail
        go_ret
        exact ⟨rfl, HF.out.trans HF8.out⟩
end Go.Proofs.Ytoiffhoiklafhaa
