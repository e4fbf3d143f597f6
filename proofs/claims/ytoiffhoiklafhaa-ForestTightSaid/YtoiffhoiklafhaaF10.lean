/-
  The law of forests, walked.
-/
import Derived.Test.YtoiffhoiklafhaaBJ
import Derived.Test.YtoiffhoiklafhaaBK
import Derived.Test.YtoiffhoiklafhaaBL
namespace Go.Proofs.Ytoiffhoiklafhaa
open Go.RowKit Go.Deep PK
attribute [local go_sem] Oper.lit Oper.litS fut_fut fut_drew World.cell?_alloc_some
attribute [local go_sem] fut_base_drew
set_option maxHeartbeats 12800000 in
set_option maxRecDepth 4000 in
theorem law_ftight (N : Int) (A : Option Addr) (n c : Nat) (es : List EI) (r : Int) (w : World) (hl : es.length = n) (hn : n ≤ maxLen) (hR : RdE w A es) :
    Calls Try.prog 3 #[hv N A n c, .int .i64 r] w fun e w' => e = .returned (.bool true) ∧ Below w.heap.size w w' := by
  have HL := Lib.hid hl
  have HR := Lib.hid hR
  have HBO := Lib.hid (fun w' (hf : Fut w w') => bounded_any N A n c es w' hl hn (hR.fut hf))
  clear hl hn hR
  obtain ⟨wb, hwb⟩ : ∃ wb, wb = w.alloc (.cells #[.int .i64 N, .slice A n c] 24) := ⟨_, rfl⟩
  have HF := Lib.hid (show Fut w wb from by rw [hwb]; exact (Fut.refl w).alloc _)
  have HB := Lib.hid (show Blk wb w.heap.size 24 #[.int .i64 N, .slice A n c] from by rw [hwb]; (repeat (first | exact heap_new' _ _ _ (by first | rfl | (simp only [World.size_alloc])) | refine (blk_alloc_lt _ _ _ (by first | omega | (simp only [World.size_alloc]; omega))).trans ?_)))
  go_enter Try.func3, Try.ntmps3
  go_wp2_with fail
  rw [← hwb]
  clear hwb
  refine (HBO.out _ HF.out).mono ?_
  rintro x w1 ⟨⟨bo, rfl, hbo⟩, hb⟩
  have HF1 := Lib.hid (show Fut wb w1 from hb)
  have HBT := Lib.hid hbo
  clear hb hbo HBO
  cases bo with
  | false =>
    go_wp2_with fail
    refine (awake_any _).mono ?_
    rintro x w2 ⟨rfl, hb⟩
    have HF2 := Lib.hid (HF1.out.trans (show Fut w1 w2 from hb))
    clear hb
    go_wp2_with fail
    go_ret
    exact ⟨rfl, HF.out.trans HF2.out⟩
  | true =>
    obtain ⟨M, V, rfl, hsm, hsol, hsz⟩ := HBT.out rfl
    obtain ⟨h1, h2, h3, h4⟩ := smallB_parts hsm
    have HSO := Lib.hid hsol
    have HSZ := Lib.hid hsz
    have HVD := Lib.hid h4
    have HTL := Lib.hid h3
    have HSM := Lib.hid hsm
    have hM : M ≤ 30 := by omega
    have hM1 : 1 ≤ M := by have := (validB_parts h4).1; omega
    have hn60 : n ≤ 60 := by have := HL.out; omega
    clear h1 h2 h3 h4 hsm hsol hsz HBT
    have HT1 := Lib.hid (fun w' (hf : Fut w w') => fTight_any M A n c es r w' V HSO.out HL.out (by omega) HVD.out HTL.out (HR.out.fut hf))
    have HT2 := Lib.hid (fun w' (hf : Fut w w') => rTight_any M A n c es r w' V HSO.out HL.out (by omega) HVD.out HTL.out (HR.out.fut hf))
    have hml := fE_len M V es r
    have hml2 : (fP M V es r).length = (fE M V es r).length := by simp [fE]
    have hmn : (fE M V es r).length ≤ 1000 := by have := fE_le M V es r; have := HL.out; omega
    obtain ⟨m, hm⟩ : ∃ m, (fE M V es r).length = m := ⟨_, rfl⟩
    rw [hml2, hm] at HT1 HT2
    rw [hm] at hml hmn
    have HTF := Lib.hid (show ∀ e ∈ fE M V es r, e.t.length ≤ 4 from fun e he => HTL.out e (mem_fE.1 he).1)
    have HSA := Lib.hid (fun XA Xc YA Yc w' (h1 : RdE w' XA (fE M V es r)) (h2 : RdE w' YA (fE M V es r)) => same_any (M : Int) XA YA m Xc Yc (fE M V es r) w' hm hmn HTF.out h1 h2)
    have HSI := Lib.hid (fun GA Gc ZA Zc w' (h1 : Rd1 w' GA nv (fI M V es r)) (h2 : Rd1 w' ZA nv (fI M V es r)) => sameInts_any GA ZA m Gc m Zc ((fI M V es r).map (fun k : Nat => (k : Int))) ((fI M V es r).map (fun k : Nat => (k : Int))) w' (by rw [List.length_map, ← hml]) (by rw [List.length_map, ← hml]) (by unfold maxLen; omega) (by unfold maxLen; omega) (rd_nv h1) (rd_nv h2))
    simp only [decide_true] at HSI
    clear hml hml2 hm hmn
    have q0 := (HB.out.fut HF1.out).cell (i := 0) rfl
    have q1 := (HB.out.fut HF1.out).cell (i := 1) rfl
    go_wp2_with fail
    refine (HT1.out _ (HF.out.trans HF1.out)).mono ?_
    rintro x w2 ⟨⟨XA, Xc, GA, Gc, rfl, hre, hrf⟩, hb⟩
    have HF2 := Lib.hid (HF1.out.trans (show Fut w1 w2 from hb))
    have HE2 := Lib.hid hre
    have HG2 := Lib.hid hrf
    have q0 := (HB.out.fut HF2.out).cell (i := 0) rfl
    have q1 := (HB.out.fut HF2.out).cell (i := 1) rfl
    have q0 := ((Fut.refl w2).alloc (.cells #[.int .i64 M, .slice XA m Xc] 24)).cell q0
    have q1 := ((Fut.refl w2).alloc (.cells #[.int .i64 M, .slice XA m Xc] 24)).cell q1
    clear hb hre hrf HT1
    go_wp2_with fail
    have HFX := Lib.hid (show Fut wb (w2.alloc (.cells #[.int .i64 M, .slice XA m Xc] 24)) from HF2.out.alloc _)
    have HBX := Lib.hid (show Blk (w2.alloc (.cells #[.int .i64 M, .slice XA m Xc] 24)) w2.heap.size 24 #[.int .i64 M, .slice XA m Xc] from heap_new' _ _ _ rfl)
    have HE2 := Lib.hid (HE2.out.fut ((Fut.refl w2).alloc (.cells #[.int .i64 M, .slice XA m Xc] 24)))
    have HG2 := Lib.hid (HG2.out.fut ((Fut.refl w2).alloc (.cells #[.int .i64 M, .slice XA m Xc] 24)))
    generalize w2.alloc (.cells #[.int .i64 M, .slice XA m Xc] 24) = wc at *
    clear q0 q1
    refine (HT2.out _ (HF.out.trans HFX.out)).mono ?_
    rintro x w3 ⟨⟨YA, Yc, ZA, Zc, rfl, hre, hrf⟩, hb⟩
    have f3 : Fut wc w3 := hb
    have f4 : Fut wc (w3.alloc (.cells #[.int .i64 M, .slice YA m Yc] 24)) := f3.alloc _
    have HE3 := Lib.hid (hre.fut ((Fut.refl w3).alloc (.cells #[.int .i64 M, .slice YA m Yc] 24)))
    have HG3 := Lib.hid (hrf.fut ((Fut.refl w3).alloc (.cells #[.int .i64 M, .slice YA m Yc] 24)))
    have HF4 := Lib.hid f4
    have HBY := Lib.hid (show Blk (w3.alloc (.cells #[.int .i64 M, .slice YA m Yc] 24)) w3.heap.size 24 #[.int .i64 M, .slice YA m Yc] from heap_new' _ _ _ rfl)
    clear hb hre hrf HT2 f3 f4
    go_wp2_with fail
    generalize w3.alloc (.cells #[.int .i64 M, .slice YA m Yc] 24) = wd at *
    refine (awake_any _).mono ?_
    rintro x w5 ⟨rfl, hb⟩
    have HF5 := Lib.hid (show Fut wd w5 from hb)
    have HFC := Lib.hid (HF4.out.trans HF5.out)
    have x0 := (HBX.out.fut HFC.out).cell (i := 0) rfl
    have x1 := (HBX.out.fut HFC.out).cell (i := 1) rfl
    have y0 := (HBY.out.fut HF5.out).cell (i := 0) rfl
    have y1 := (HBY.out.fut HF5.out).cell (i := 1) rfl
    clear hb
    go_wp2_with fail
    refine (HSA.out XA Xc YA Yc w5 (HE2.out.fut HFC.out) (HE3.out.fut HF5.out)).mono ?_
    rintro x w6 ⟨rfl, hb⟩
    have HF6 := Lib.hid (show Fut w5 w6 from hb)
    clear hb x0 x1 y0 y1
    go_wp2_with fail
    refine (HSI.out GA Gc ZA Zc w6 ((HG2.out.fut HFC.out).fut HF6.out) ((HG3.out.fut HF5.out).fut HF6.out)).mono ?_
    rintro x w7 ⟨rfl, hb⟩
    have HF7 := Lib.hid (show Fut w6 w7 from hb)
    clear hb
    go_wp2_with fail
    go_ret
    exact ⟨rfl, HF.out.trans (HFX.out.trans (HFC.out.trans (HF6.out.trans HF7.out)))⟩
end Go.Proofs.Ytoiffhoiklafhaa
