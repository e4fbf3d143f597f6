/-
  The law TopDiffAndRelex: its walk.
-/
import Derived.Test.YtlgpacpebjechaaGreatDoorCtr4
import Derived.Test.YtlgpacpebjechaaGreatDoorTd4
import Derived.Test.YtlgpacpebjechaaGreatDoorTe8
namespace Go.Proofs.YtlgpacpebjechaaGreatDoor
open Go.RowKit Go.Deep Ev PLX
attribute [local go_sem] Oper.lit Oper.litS fut_fut fut_drew World.cell?_alloc_some
theorem bl_same {a b : ByteArray} (h : bl a = bl b) : a = b := by
  have h1 : a.data.toList = b.data.toList := List.map_inj_right (fun x y hxy => UInt8.toNat_inj.1 hxy) |>.1 h
  exact ByteArray.ext (Array.toList_inj.1 h1)
theorem tok_inj {s t : TK} (h : s.tok = t.tok) : s = t := by
  obtain ⟨a, b, c, d⟩ := s
  obtain ⟨a', b', c', d'⟩ := t
  simp only [TK.tok, Tok.mk.injEq] at h
  obtain ⟨rfl, rfl, h3, rfl⟩ := h
  rw [bl_same h3]
theorem toks_inj {M : AU} {x : List Nat} {L L' : List TK} (h : Lx M 0 x (L.map TK.tok)) (h' : Lx M 0 x (L'.map TK.tok)) : L' = L :=
  List.map_inj_right (fun _ _ hxy => tok_inj hxy) |>.1 (Lx.unique M h' _ h)
theorem toks_text {M : AU} {x : List Nat} {L : List TK} (h : Lx M 0 x (L.map TK.tok)) : (L.map TK.tok).flatMap (·.text) = x := Lx.text M h
theorem store3p {S : Nat → Bool} (w : World) (b : Nat) (x y z : Value) {p q r : Value} (hS : S b = true) (_hB : Blk w b 53 #[p, q, r]) :
    FutS S w (((w.setCell ⟨b, 0, none⟩ x).setCell ⟨b, 1, none⟩ y).setCell ⟨b, 2, none⟩ z) ∧ FutS (fun k => k == b) w (((w.setCell ⟨b, 0, none⟩ x).setCell ⟨b, 1, none⟩ y).setCell ⟨b, 2, none⟩ z) :=
  ⟨(((FutS.refl w).setCell (.inl hS) x).setCell (.inl hS) y).setCell (.inl hS) z, (((FutS.refl w).setCell (.inl (by simp)) x).setCell (.inl (by simp)) y).setCell (.inl (by simp)) z⟩
set_option maxRecDepth 100000 in
set_option maxHeartbeats 6400000 in
theorem law4_any (a b : ByteArray) (w : World) (hG : GW w) : Calls Tryz.prog 4 #[.string a, .string b] w fun e w' => e = .returned (.bool true) ∧ Fut w w' := by
  have HG := Lib.hid hG
  clear hG
  go_enter Tryz.func4, Tryz.ntmps4
  go_wp2_with fail
  refine (awake_any HG.out).mono ?_
  rintro e w1 ⟨rfl, hf1⟩
  have HF1 := Lib.hid hf1
  have HG1 := Lib.hid (HG.out.fut hf1)
  clear hf1
  by_cases hla : a.size ≤ 40
  · have hla1 : ((40 : Int) < a.size) = False := eq_false (by omega)
    by_cases hlb : b.size ≤ 40
    · have hlb1 : ((40 : Int) < b.size) = False := eq_false (by omega)
      go_wp2_with fail
      refine (words_any HG1.out).mono ?_
      rintro e w2 ⟨gd, cd, σ, rfl, hr2, hv2, hf2⟩
      have HF2 := Lib.hid (HF1.out.trans hf2)
      have HC := Lib.hid (compile_any hr2 (Fut.refl w2) hv2)
      clear hr2 hv2 hf2
      go_wp2_with fail
      refine HC.out.mono ?_
      rintro e w3 ⟨p, rfl, _, hR, hf3⟩
      have HF3 := Lib.hid (show Fut w w3 from hf3.fut HF2.out (fun k hk => by
        have h1 := HF1.out.size
        simp only [Bool.and_eq_true, decide_eq_true_eq] at hk
        omega))
      have HR3 := Lib.hid (hR.fut ((Fut.refl w3).alloc (.cells #[.slice (some ⟨p.C, 0, none⟩) 256 p.cc, .slice (some ⟨p.N, 0, none⟩) 8 p.cn, .slice (some ⟨p.A, 0, none⟩) 8 p.ca] 30)))
      have HB3 := Lib.hid (Blk.new w3 30 #[.slice (some ⟨p.C, 0, none⟩) 256 p.cc, .slice (some ⟨p.N, 0, none⟩) 8 p.cn, .slice (some ⟨p.A, 0, none⟩) 8 p.ca])
      have HF3a := Lib.hid (HF3.out.alloc (.cells #[.slice (some ⟨p.C, 0, none⟩) 256 p.cc, .slice (some ⟨p.N, 0, none⟩) 8 p.cn, .slice (some ⟨p.A, 0, none⟩) 8 p.ca] 30))
      clear hR hf3 HC
      go_wp2_with fail
      obtain ⟨wd, hwd⟩ : ∃ q, q = w3.alloc (.cells #[.slice (some ⟨p.C, 0, none⟩) 256 p.cc, .slice (some ⟨p.N, 0, none⟩) 8 p.cn, .slice (some ⟨p.A, 0, none⟩) 8 p.ca] 30) := ⟨_, rfl⟩
      rw [← hwd] at HR3 HB3 HF3a ⊢
      clear hwd
      refine (lex_any p D0 D0_ok a _ (by omega) HR3.out).mono ?_
      rintro e w4 ⟨L0, A0, c0, rfl, hLx, hLl, hOT, hf4⟩
      have HF4 := Lib.hid (HF3a.out.trans hf4)
      have HFD := Lib.hid hf4
      have HT4 := Lib.hid hOT.rd
      have HCP := Lib.hid hOT.cap
      have HLX := Lib.hid hLx
      clear hf4 hOT hLx hLl
      go_wp2_with fail
      refine (diff_any a b _ _ rfl rfl (by omega) (by omega) _).mono ?_
      rintro e w5 ⟨l, A1, c1, rfl, hD, hll, hRE, hf5⟩
      have HF5 := Lib.hid (HF4.out.trans hf5)
      have HFE := Lib.hid (HFD.out.trans hf5)
      have HT5 := Lib.hid (HT4.out.fut hf5)
      have HRE := Lib.hid hRE
      have HDC := Lib.hid hD
      have HIN := Lib.hid (show inss (l.map EI.ed) ≤ 80 from by
        have := hD.inss
        rw [bl_len, bl_len] at this
        omega)
      obtain ⟨n, hn⟩ : ∃ n, l.length = n := ⟨_, rfl⟩
      have HN := Lib.hid hn
      have hn80 : n ≤ 80 := by omega
      rw [hn]
      clear hf5 hD hRE hn hll
      have hwn : IntKind.i64.wrap ((n : Int) - 1) = (n : Int) - 1 := by rw [IntKind.wrap_i64]; omega
      go_wp2_with fail
      go_loopw [7, 9] (fun v i wr => ∃ (q : Nat) (L : List TK) (A : Option Addr) (c : Nat), v = .slice A L.length c ∧ i = .int .i64 ((q : Int) - 1) ∧ q ≤ n ∧ Hid (Lx D0.au 0 (apR ((l.map EI.ed).drop q) (bl a)) (L.map TK.tok)) ∧ Hid (RdS wr A 4 encT L) ∧ Hid (L.length ≤ c) ∧ Hid (Fut w5 wr)) (fun _ i _ => (intOf i + 1).toNat)
      case atStart => exact ⟨n, L0, A0, c0, rfl, rfl, Nat.le_refl _, Lib.hid (by rw [List.drop_eq_nil_of_le (by rw [List.length_map, HN.out]; exact Nat.le_refl _)]; exact HLX.out), HT5, HCP, Lib.hid (Fut.refl _)⟩
      case round =>
        obtain ⟨q, L, A, c, rfl, rfl, hq, HL, HRL, HLC, HFL⟩ := hrel
        rcases q with _ | q
        · have hq1 : (0 ≤ ((0 : Nat) : Int) - 1) = False := eq_false (by omega)
          have hfin : apR ((l.map EI.ed).drop 0) (bl a) = bl b := DiffC.fin (by rw [bl_len, bl_len]; exact HDC.out)
          have HLB := Lib.hid (show Lx D0.au 0 (bl b) (L.map TK.tok) from by have h := HL.out; rw [hfin] at h; exact h)
          have hmany := Lx.many HLB.out
          have hwhole := Lx.whole HLB.out
          rw [List.length_map, bl_len] at hmany
          rw [bl_len] at hwhole
          obtain ⟨m, hm⟩ : ∃ m, L.length = m := ⟨_, rfl⟩
          have HMM := Lib.hid hm
          have HTX := Lib.hid (text_any L A m c wr hm (by omega) (by omega) HRL.out)
          rw [hm]
          have hm40 : m ≤ 40 := by omega
          clear hfin hm hwhole HL
          go_wp2_with fail
          refine HTX.out.mono ?_
          rintro r w6 ⟨y, rfl, hy, hf6⟩
          obtain rfl : y = b := bl_same (hy.trans (toks_text HLB.out))
          have HF6 := Lib.hid (HFL.out.trans hf6)
          have HR6 := Lib.hid (HRL.out.fut hf6)
          have hbd := HB3.out.fut (HFE.out.trans HF6.out)
          have x0 := hbd.cell (i := 0) rfl
          have x1 := hbd.cell (i := 1) rfl
          have x2 := hbd.cell (i := 2) rfl
          clear hy hf6 hbd HTX
          go_wp2_with fail
          refine (lex_any p D0 D0_ok y _ (by omega) (HR3.out.fut (HFE.out.trans HF6.out))).mono ?_
          rintro r w7 ⟨L2, A2, c2, rfl, hLx2, _, hOT2, hf7⟩
          obtain rfl : L2 = L := toks_inj HLB.out hLx2
          have HSM := Lib.hid (same_any L2 A A2 m c c2 w7 HMM.out (by omega) (HR6.out.fut hf7) hOT2.rd)
          have HF7 := Lib.hid (HF6.out.trans hf7)
          rw [HMM.out]
          clear hf7 hOT2 hLx2 x0 x1 x2
          go_wp2_with fail
          refine HSM.out.mono ?_
          rintro r w8 ⟨rfl, hf8⟩
          have HF8 := Lib.hid (HF5.out.trans (HF7.out.trans hf8))
          clear hf8
          go_wp2_with fail
          go_ret
          exact ⟨rfl, HF8.out⟩
        · have hq0 : (((q + 1 : Nat) : Int) - 1) = (q : Int) := by omega
          have hq1 : (0 ≤ (q : Int)) = True := eq_true (by omega)
          rw [hq0]
          obtain ⟨⟨ea, ed, es⟩, he⟩ := get_lt HN.out (show q < n by omega)
          have hst := apR_step (a := bl a) (by rw [bl_len]; exact HDC.out.1) (k := q) (e := EI.ed ⟨ea, ed, es⟩) (by rw [List.getElem?_map, he]; rfl)
          rw [bl_len] at hst
          obtain ⟨hs1, hs2, hs3, hs4⟩ := hst
          have hes : es.size ≤ 80 := by
            have h1 : (bl es).length ≤ _ := hs4
            rw [bl_len] at h1
            exact Nat.le_trans h1 HIN.out
          have HS1 := Lib.hid hs1
          obtain ⟨b1, o1, rfl, hc⟩ := HRE.out q _ he
          obtain ⟨m, hm⟩ : ∃ m, L.length = m := ⟨_, rfl⟩
          have HUP := Lib.hid (fun (wy : World) (hf : Fut wr wy) => update_any p D0 D0_ok (apR ((l.map EI.ed).drop (q + 1)) (bl a)) L A m c ⟨ea, ed, es⟩ wy hm HL.out (by have := HIN.out; omega) (by simp only; omega) hs2 (HR3.out.fut ((HFE.out.trans HFL.out).trans hf)) (HRL.out.fut hf) (by have := HLC.out; omega))
          obtain ⟨S, hS⟩ : ∃ S : Nat → Bool, S = fun kk => decide (wr.heap.size ≤ kk) := ⟨_, rfl⟩
          have hlt1 : ((q : Int) < n) = True := eq_true (by omega)
          have hw5s := HFL.out.size
          have hbd := HB3.out.fut (HFE.out.trans HFL.out)
          have x0 := cell_futS (S := S) (hbd.cell (i := 0) rfl) (by rw [hS]; exact decide_eq_false (by have := hbd.lt; simp only; omega))
          have x1 := cell_futS (S := S) (hbd.cell (i := 1) rfl) (by rw [hS]; exact decide_eq_false (by have := hbd.lt; simp only; omega))
          have x2 := cell_futS (S := S) (hbd.cell (i := 2) rfl) (by rw [hS]; exact decide_eq_false (by have := hbd.lt; simp only; omega))
          have y0 := HFL.out.cell (hc 0 _ (by omega) rfl)
          have y1 := HFL.out.cell (hc 1 _ (by omega) rfl)
          have y2 := HFL.out.cell (hc 2 _ (by omega) rfl)
          have hyb := World.block_lt_of_cell? _ _ y0
          have z0 := cell_futS (S := S) y0 (by rw [hS]; exact decide_eq_false (by simp only at hyb ⊢; omega))
          have z1 := cell_futS (S := S) y1 (by rw [hS]; exact decide_eq_false (by simp only at hyb ⊢; omega))
          have z2 := cell_futS (S := S) y2 (by rw [hS]; exact decide_eq_false (by simp only at hyb ⊢; omega))
          rw [Nat.add_zero] at z0
          have HSS := Lib.hid (show ∀ kk, wr.heap.size ≤ kk → S kk = true from fun kk h => by rw [hS]; exact decide_eq_true h)
          have HSU := Lib.hid (show ∀ kk, S kk = true → wr.heap.size ≤ kk from fun kk h => by rw [hS] at h; exact of_decide_eq_true h)
          rw [hm]
          have HMM := Lib.hid hm
          clear hS hbd y0 y1 y2 hyb hc he hs1 hs2 hs3 hs4 hm
          go_wp2_with fail
          refine wp_region_MG (relS S) o_emendatetop_TopDiffAndRelex_13 (by kernel_rfl) (by kernel_rfl) (by intro c a d v w h; cases d <;> exact h) ?_; unfold o_emendatetop_TopDiffAndRelex_13
          iterate 6 (refine wpS_h rfl rfl (fun K hK => ?_); go_simp; refine hK _ _ ?_; clear hK K)
          refine wpG_two' rfl rfl (fun K hK => ?_) (fun K hK => ?_)
          ·
            go_simp
            go_at_call 12
            refine (HUP.out _ (Fut.refl wr).drew).mono ?_
            rintro r w6 ⟨L', A', c', x1, x2, x3, rfl, hL6, hc6, hO6, hf6⟩
            refine hK _ _ (.inr (FutS.of hf6)) ?_
            clear hK K
            have HF6 := Lib.hid ((Fut.refl wr).drew.trans hf6)
            have HLX6 := Lib.hid hL6
            have HC6 := Lib.hid hc6
            have hsz6 := HF6.out.size
            have HO6 := Lib.hid (hO6.alloc (.cells #[.int .i64 0, .int .i64 0, .int .i64 0] 53))
            have HOB := Lib.hid (show ∀ kk, (Value.slice A' L'.length c').ownBlock = some kk → kk ≠ w6.heap.size from fun kk hkk => by have := (hO6.lt kk hkk).2; omega)
            clear hL6 hc6 hO6 hf6 HUP
            iterate 4 (refine wpS_h rfl rfl (fun K hK => ?_); go_simp; refine hK _ _ ?_; clear hK K)
            refine wpG_o rfl rfl (fun K hK => ?_)
            go_simp
            refine hK _ _ (.inr (FutS.of ((Fut.refl _).alloc _))) ?_
            clear hK K
            have HBQ := Lib.hid (Blk.new w6 53 #[.int .i64 0, .int .i64 0, .int .i64 0])
            have HFQ := Lib.hid (HF6.out.alloc (.cells #[.int .i64 0, .int .i64 0, .int .i64 0] 53))
            generalize w6.alloc (.cells #[.int .i64 0, .int .i64 0, .int .i64 0] 53) = wq at HBQ HFQ HO6 ⊢
            (refine wpS_h rfl rfl (fun K hK => ?_); go_simp; refine hK _ _ ?_; clear hK K)
            have t0 := HBQ.out.cell (i := 0) rfl
            have t1 := HBQ.out.cell (i := 1) rfl
            have t2 := HBQ.out.cell (i := 2) rfl
            have f0 := HBQ.out.fz 0
            have f1 := HBQ.out.fz 1
            have f2 := HBQ.out.fz 2
            refine wpG_o rfl rfl (fun K hK => ?_)
            go_simp
            have h3 := store3p (S := S) wq w6.heap.size (.int .i64 x1) (.int .i64 x2) (.int .i64 x3) (HSS.out _ (by omega)) HBQ.out
            refine hK _ _ (.inr h3.1) ?_
            clear hK K t0 t1 t2 f0 f1 f2
            have HRZ := Lib.hid (OwnT.rd (HO6.out.futS h3.2 (fun kk hkk => beq_eq_false_iff_ne.2 (by have := HO6.out.lt kk hkk; have := HOB.out kk hkk; omega))))
            have HWZ := Lib.hid (show Fut wr _ from h3.1.fut HFQ.out HSU.out)
            clear h3
            generalize (((wq).setCell ⟨w6.heap.size, 0, none⟩ (.int .i64 x1)).setCell ⟨w6.heap.size, 1, none⟩ (.int .i64 x2)).setCell ⟨w6.heap.size, 2, none⟩ (.int .i64 x3) = wz at HRZ HWZ ⊢
            (refine wpS_h rfl rfl (fun K hK => ?_); go_simp; refine hK _ _ ?_; clear hK K)
            refine wpG_nil ?_
            have HFZ := Lib.hid (show Fut w5 wz from HFL.out.trans HWZ.out)
            clear HWZ
            go_wp2_with fail
            exact ⟨⟨q, L', A', c', rfl, by go_num, by omega, Lib.hid (by rw [HS1.out]; exact HLX6.out), HRZ, HC6, HFZ⟩, by simp [intOf]⟩
          ·
            go_simp
            refine hK _ _ (.inr (FutS.of ((Fut.refl _).alloc _))) ?_
            clear hK K
            have HBP := Lib.hid (Blk.new wr 53 #[.int .i64 0, .int .i64 0, .int .i64 0]).drew
            have HFP := Lib.hid ((Fut.refl wr).alloc (.cells #[.int .i64 0, .int .i64 0, .int .i64 0] 53)).drew
            have HZP := Lib.hid (show wr.heap.size + 1 ≤ ((wr.alloc (.cells #[.int .i64 0, .int .i64 0, .int .i64 0] 53)).drew).heap.size from by simp only [World.size_alloc, World.size_drew]; omega)
            generalize (wr.alloc (.cells #[.int .i64 0, .int .i64 0, .int .i64 0] 53)).drew = wp at HBP HFP HZP ⊢
            refine wpG_o rfl rfl (fun K hK => ?_)
            go_simp
            go_at_call 12
            refine (HUP.out _ HFP.out).mono ?_
            rintro r w6 ⟨L', A', c', x1, x2, x3, rfl, hL6, hc6, hO6, hf6⟩
            refine hK _ _ (.inr (FutS.of hf6)) ?_
            clear hK K
            have HFQ := Lib.hid (HFP.out.trans hf6)
            have HLX6 := Lib.hid hL6
            have HC6 := Lib.hid hc6
            have HO6 := Lib.hid hO6
            have HBQ := Lib.hid (show Blk w6 wr.heap.size 53 #[.int .i64 0, .int .i64 0, .int .i64 0] from Blk.fut HBP.out hf6)
            have HOB := Lib.hid (show ∀ kk, (Value.slice A' L'.length c').ownBlock = some kk → kk ≠ wr.heap.size from fun kk hkk => by have := (hO6.lt kk hkk).1; have := HZP.out; omega)
            clear hL6 hc6 hO6 hf6 HUP
            iterate 5 (refine wpS_h rfl rfl (fun K hK => ?_); go_simp; refine hK _ _ ?_; clear hK K)
            have t0 := HBQ.out.cell (i := 0) rfl
            have t1 := HBQ.out.cell (i := 1) rfl
            have t2 := HBQ.out.cell (i := 2) rfl
            have f0 := HBQ.out.fz 0
            have f1 := HBQ.out.fz 1
            have f2 := HBQ.out.fz 2
            refine wpG_o rfl rfl (fun K hK => ?_)
            go_simp
            have h3 := store3p (S := S) w6 wr.heap.size (.int .i64 x1) (.int .i64 x2) (.int .i64 x3) (HSS.out _ (by omega)) HBQ.out
            refine hK _ _ (.inr h3.1) ?_
            clear hK K t0 t1 t2 f0 f1 f2
            have HRZ := Lib.hid (OwnT.rd (HO6.out.futS h3.2 (fun kk hkk => beq_eq_false_iff_ne.2 (by have := HO6.out.lt kk hkk; have := HOB.out kk hkk; omega))))
            have HWZ := Lib.hid (show Fut wr _ from h3.1.fut HFQ.out HSU.out)
            clear h3
            generalize (((w6).setCell ⟨wr.heap.size, 0, none⟩ (.int .i64 x1)).setCell ⟨wr.heap.size, 1, none⟩ (.int .i64 x2)).setCell ⟨wr.heap.size, 2, none⟩ (.int .i64 x3) = wz at HRZ HWZ ⊢
            (refine wpS_h rfl rfl (fun K hK => ?_); go_simp; refine hK _ _ ?_; clear hK K)
            refine wpG_nil ?_
            have HFZ := Lib.hid (show Fut w5 wz from HFL.out.trans HWZ.out)
            clear HWZ
            go_wp2_with fail
            exact ⟨⟨q, L', A', c', rfl, by go_num, by omega, Lib.hid (by rw [HS1.out]; exact HLX6.out), HRZ, HC6, HFZ⟩, by simp [intOf]⟩
    · have hlb1 : ((40 : Int) < b.size) = True := eq_true (by omega)
      go_wp2_with fail
      go_ret
      exact ⟨rfl, HF1.out⟩
  · have hla1 : ((40 : Int) < a.size) = True := eq_true (by omega)
    go_wp2_with fail
    go_ret
    exact ⟨rfl, HF1.out⟩
end Go.Proofs.YtlgpacpebjechaaGreatDoor
