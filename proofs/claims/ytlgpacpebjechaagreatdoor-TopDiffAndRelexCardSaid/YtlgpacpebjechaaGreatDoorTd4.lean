/-
  The difference of two texts: what Diff returns turns the first text to the second.
-/
import Derived.Test.YtlgpacpebjechaaGreatDoorTd2
import Derived.Test.YtlgpacpebjechaaGreatDoorTd3
import Derived.Test.YtlgpacpebjechaaGreatDoorBN
import Derived.Deep.DeepCutAuto
namespace Go.Proofs.YtlgpacpebjechaaGreatDoor
open Go.RowKit Go.Deep PLX
attribute [local go_sem] Oper.lit Oper.litS fut_fut fut_drew World.cell?_alloc_some
theorem bl_one {s : ByteArray} {j : Nat} (h : j < s.size) : bl (s.extract j (j + 1)) = [(s[j]'h).toNat] := by
  have h2 := bl_at h
  obtain ⟨h3, e⟩ := List.getElem?_eq_some_iff.1 h2
  rw [bl_extract _ _ _ (by omega), List.drop_eq_getElem_cons h3, e, Nat.add_sub_cancel_left]
  rfl
theorem store57 (w : World) (b : Nat) (x y z : Value) : FutS (fun k => k == b) w (((w.setCell ⟨b, 0, none⟩ x).setCell ⟨b, 1, none⟩ y).setCell ⟨b, 2, none⟩ z) :=
  (((FutS.refl w).setCell (.inl (by simp)) x).setCell (.inl (by simp)) y).setCell (.inl (by simp)) z
theorem blk57 {w : World} {b : Nat} {p q r : Value} (h : Blk w b 57 #[p, q, r]) (x y z : Value) : Blk (((w.setCell ⟨b, 0, none⟩ x).setCell ⟨b, 1, none⟩ y).setCell ⟨b, 2, none⟩ z) b 57 #[x, y, z] := ((h.set 0 x).set 1 y).set 2 z
/-- what the loop knows of its edits -/
def DS (a b : ByteArray) (ob : Bool) (L : List EI) (e : EI) (i j : Nat) : Prop := if ob = true then DiffO (bl a) (bl b) (L.map EI.ed) e.ed i j else DiffC (bl a) (bl b) (L.map EI.ed) i j
theorem DS.c {a b : ByteArray} {L : List EI} {e : EI} {i j : Nat} (h : DS a b false L e i j) : DiffC (bl a) (bl b) (L.map EI.ed) i j := h
theorem DS.o {a b : ByteArray} {L : List EI} {e : EI} {i j : Nat} (h : DS a b true L e i j) : DiffO (bl a) (bl b) (L.map EI.ed) e.ed i j := h
theorem ds_close {a b : ByteArray} {L : List EI} {e : EI} {i j : Nat} (h : DS a b true L e i j) : DiffC (bl a) (bl b) ((L ++ [e]).map EI.ed) i j := by
  rw [List.map_append]; exact h.o.close
theorem ds_opens {a b : ByteArray} {L : List EI} {e : EI} {i j : Nat} (h : DS a b false L e i j) : DS a b true L ⟨i, 0, ⟨#[]⟩⟩ i j := h.c.opens
theorem ds_del {a b : ByteArray} {L : List EI} {p d i j : Nat} {s : ByteArray} (h : DS a b true L ⟨p, d, s⟩ i j) (hi : i < a.size) : DS a b true L ⟨p, d + 1, s⟩ (i + 1) j := h.o.del (by rw [bl_len]; exact hi)
theorem ds_ins {a b : ByteArray} {L : List EI} {p d i j : Nat} {s : ByteArray} (h : DS a b true L ⟨p, d, s⟩ i j) (hj : j < b.size) : DS a b true L ⟨p, d, s ++ b.extract j (j + 1)⟩ i (j + 1) := by
  have := h.o.ins (bl_at hj)
  show DiffO _ _ _ ⟨p, d, bl (s ++ b.extract j (j + 1))⟩ _ _
  rw [bl_append, bl_one hj]
  exact this
set_option maxHeartbeats 6400000 in
set_option maxRecDepth 100000 in
theorem diff_any (a b : ByteArray) (n m : Nat) (hn : a.size = n) (hm : b.size = m) (hn1 : n ≤ 1000) (hm1 : m ≤ 1000) (w : World) :
    Calls Tryz.prog 11 #[.string a, .string b] w fun e w' => ∃ (l : List EI) (A : Option Addr) (c : Nat), e = .returned (.slice A l.length c) ∧ DiffC (bl a) (bl b) (l.map EI.ed) n m ∧ l.length ≤ n + m ∧ RdS w' A 3 encE l ∧ Fut w w' := by
  have HOF := Lib.hid (fun wy => of_any a b n m hn hm hn1 hm1 wy)
  have HNA := Lib.hid hn
  have HMB := Lib.hid hm
  go_enter Tryz.func11, Tryz.ntmps11
  go_wp2_with fail
  refine (HOF.out _).mono ?_
  rintro e w1 ⟨bt, g, rfl, hB, hRT, hf1⟩
  have HAT := Lib.hid (fun (wy : World) (hf : Fut w1 wy) (i j : Nat) (hi : i ≤ n) (hj : j ≤ m) => at_any a b n m bt g i j hm hn1 hm1 hi hj wy (hB.fut hf) (hRT.fut hf))
  have HF1 := Lib.hid hf1
  have HB1 := Lib.hid (Blk.new w1 57 #[.int .i64 0, .int .i64 0, .string ⟨#[]⟩])
  clear hB hRT hf1 HOF
  go_wp2_with fail
  go_loopw [6, 8, 9, 10] (fun v o i j wr => ∃ (ii jj : Nat) (ob : Bool) (L : List EI) (ea ed : Nat) (es : ByteArray), o = .bool ob ∧ i = .int .i64 ii ∧ j = .int .i64 jj ∧ ii ≤ n ∧ jj ≤ m ∧ ed ≤ ii ∧ es.size ≤ jj ∧ Hid (DS a b ob L ⟨ea, ed, es⟩ ii jj) ∧ Hid (L.length + (if ob = true then 1 else 0) ≤ ii + jj) ∧ Hid (OwnE wr (w1.heap.size + 1) v L) ∧ Hid (Blk wr w1.heap.size 57 #[.int .i64 ea, .int .i64 ed, .string es]) ∧ Hid (Fut w1 wr)) (fun _ _ i j _ => (n - (intOf i).toNat) + (m - (intOf j).toNat))
  case atStart => exact ⟨0, 0, false, [], 0, 0, ⟨#[]⟩, rfl, rfl, rfl, Nat.zero_le _, Nat.zero_le _, Nat.zero_le _, Nat.le_refl _, Lib.hid DiffC.start, Lib.hid (Nat.le_refl _), Lib.hid (OwnE.nil _ _), HB1, Lib.hid ((Fut.refl w1).alloc _)⟩
  case round =>
    obtain ⟨ii, jj, ob, L, ea, ed, es, rfl, rfl, rfl, hi, hj, hxd, hxs, HDI, HLL, HOW, HBX, HF⟩ := hrel
    have hwi : IntKind.i64.wrap ((ii : Int) + 1) = (ii : Int) + 1 := by rw [IntKind.wrap_i64]; omega
    have hwj : IntKind.i64.wrap ((jj : Int) + 1) = (jj : Int) + 1 := by rw [IntKind.wrap_i64]; omega
    by_cases hiN : ii < n
    · have hli : ((ii : Int) < n) = True := eq_true (by omega)
      have hgi : (0 ≤ (ii : Int)) = True := eq_true (by omega)
      have hia : ii < a.size := by omega
      by_cases hjM : jj < m
      · have hlj : ((jj : Int) < m) = True := eq_true (by omega)
        have hgj : (0 ≤ (jj : Int)) = True := eq_true (by omega)
        have hjb : jj < b.size := by omega
        have hca := bl_at hia
        have hcb := bl_at hjb
        obtain ⟨ca, hca1⟩ : ∃ c, (a[ii]'hia).toNat = c := ⟨_, rfl⟩
        obtain ⟨cb, hcb1⟩ : ∃ c, (b[jj]'hjb).toNat = c := ⟨_, rfl⟩
        rw [hca1] at hca
        rw [hcb1] at hcb
        have HCA := Lib.hid hca
        have HCB := Lib.hid hcb
        clear hca hcb
        by_cases hE : ca = cb
        · subst hE
          go_wp2_with fail
          refine wp_region_M o_textdiff_Diff_7 (by kernel_rfl) (by kernel_rfl) (by intro c a d v w h; cases d <;> exact h) ?_; unfold o_textdiff_Diff_7
          iterate 19 (first | ((refine wpF_h rfl rfl (fun K hK => ?_); go_simp; refine hK _ _ ?_; clear hK K)) | ((refine wpF_hs2 rfl rfl (fun K hK => ?_); go_simp; refine hK _ _ ?_; clear hK K)))
          refine wpF_nil ?_
          cases ob
          · go_wp2_with fail
            refine ⟨⟨ii + 1, jj + 1, false, L, ea, ed, es, rfl, by go_num, by go_num, by omega, by omega, by omega, by omega, Lib.hid (HDI.out.c.same HCA.out HCB.out), Lib.hid (by have := HLL.out; simp only [Bool.false_eq_true, if_false] at this ⊢; omega), Lib.hid (HOW.out.fut (Fut.refl wr).drew), Lib.hid HBX.out.drew, Lib.hid HF.out.drew⟩, by simp [intOf]; omega⟩
          ·
            have b0 := (HBX.out.drew).cell (i := 0) rfl
            have b1 := (HBX.out.drew).cell (i := 1) rfl
            have b2 := (HBX.out.drew).cell (i := 2) rfl
            have hws := (HF.out.drew).size
            go_wp2_with (refine wpList_pushE rfl (.tmp 44) (.tmp 46) rfl (w1.heap.size + 1) u6 L rfl (OwnE.alloc (HOW.out.fut (Fut.refl wr).drew) (.cells #[.int .i64 ea, .int .i64 ed, .string es] 57)) wr.heap.size ⟨ea, ed, es⟩ rfl (heap_new' _ _ _ rfl) (by have := HLL.out; omega) (by have := HBX.out.lt; simp only [World.size_alloc, World.size_drew]; omega) ?_)
            intro gg cap w7 k1 k2 k3
            have HOW7 := Lib.hid k1
            have HB7 := Lib.hid (((HBX.out.drew).alloc (.cells #[.int .i64 ea, .int .i64 ed, .string es] 57)).grown k2 (fun e9 => by have := (HOW.out.lt _ e9.symm).1; omega))
            have HF7 := Lib.hid (show Fut w1 w7 from Below.grown ((HF.out.drew).alloc (.cells #[.int .i64 ea, .int .i64 ed, .string es] 57)) k2 (by simp only [World.size_alloc, World.size_drew]; have := HF.out.size; omega) (fun kk hkk => by have := (HOW.out.lt kk hkk).1; omega))
            clear k1 k2 k3 b0 b1 b2 hws
            go_wp2_with fail
            refine ⟨⟨ii + 1, jj + 1, false, L ++ [⟨ea, ed, es⟩], ea, ed, es, rfl, by go_num, by go_num, by omega, by omega, by omega, by omega, Lib.hid (show DS a b false (L ++ [⟨ea, ed, es⟩]) ⟨ea, ed, es⟩ (ii + 1) (jj + 1) from (ds_close HDI.out).same HCA.out HCB.out), Lib.hid (by have := HLL.out; simp only [if_true, Bool.false_eq_true, if_false, List.length_append, List.length_singleton] at this ⊢; omega), HOW7, HB7, HF7⟩, by simp [intOf]; omega⟩
        · have hE1 : ((ca : Int) = cb) = False := eq_false (by omega)
          have hE2 : (ca = cb) = False := eq_false hE
          have hE3 : ((ca : Int) == cb) = false := beq_eq_false_iff_ne.2 (by omega)
          go_wp2_with fail
          refine wp_region_M o_textdiff_Diff_7 (by kernel_rfl) (by kernel_rfl) (by intro c a d v w h; cases d <;> exact h) ?_; unfold o_textdiff_Diff_7
          iterate 19 (first | ((refine wpF_h rfl rfl (fun K hK => ?_); go_simp; refine hK _ _ ?_; clear hK K)) | ((refine wpF_hs2 rfl rfl (fun K hK => ?_); go_simp; refine hK _ _ ?_; clear hK K)))
          refine wpF_nil ?_
          go_upto_if 53 with fail
          go_cut [8] (fun o wx => o = .bool true ∧ ∃ (ea ed : Nat) (es : ByteArray), ed ≤ ii ∧ es.size ≤ jj ∧ Hid (DS a b true L ⟨ea, ed, es⟩ ii jj) ∧ Hid (OwnE wx (w1.heap.size + 1) u6 L) ∧ Hid (Blk wx w1.heap.size 57 #[.int .i64 ea, .int .i64 ed, .string es]) ∧ Hid (Fut w1 wx))
          case first =>
            cases ob
            · have b0 := HBX.out.cell (i := 0) rfl
              have b1 := HBX.out.cell (i := 1) rfl
              have b2 := HBX.out.cell (i := 2) rfl
              have z0 := HBX.out.fz 0
              have z1 := HBX.out.fz 1
              have z2 := HBX.out.fz 2
              go_wp2_with fail
              go_meet
              exact ⟨rfl, ii, 0, ⟨#[]⟩, Nat.zero_le _, Nat.zero_le _, Lib.hid (ds_opens HDI.out), Lib.hid (HOW.out.futS (S := fun k => k == w1.heap.size) (store57 wr w1.heap.size _ _ _).drew (fun kk hkk => beq_eq_false_iff_ne.2 (by have := (HOW.out.lt kk hkk).1; omega))), Lib.hid (blk57 HBX.out _ _ _).drew, Lib.hid ((store57 wr w1.heap.size _ _ _).fut HF.out (fun k hk => by rw [beq_iff_eq.1 hk]; exact Nat.le_refl _)).drew⟩
            · go_wp2_with fail
              go_meet
              exact ⟨rfl, ea, ed, es, hxd, hxs, HDI, Lib.hid (HOW.out.fut (Fut.refl wr).drew), Lib.hid HBX.out.drew, Lib.hid HF.out.drew⟩
          case rest =>
            obtain ⟨rfl, ea2, ed2, es2, hxd2, hxs2, HDI2, HOW2, HBX2, HF2⟩ := hcut
            have hc2 := HAT.out wc HF2.out (ii + 1) jj (by omega) (by omega)
            have hc3 := Lib.hid (fun (wy : World) (hf : Fut w1 wy) => HAT.out wy hf ii (jj + 1) (by omega) (by omega))
            push_cast at hc2 hc3
            have hjm1 : ((jj : Int) = m) = False := eq_false (by omega)
            have hjm2 : ((jj : Int) == m) = false := beq_eq_false_iff_ne.2 (by omega)
            have hwd : IntKind.i64.wrap ((ed2 : Int) + 1) = (ed2 : Int) + 1 := by rw [IntKind.wrap_i64]; omega
            go_wp2_with fail
            refine hc2.mono ?_
            rintro e w4 ⟨x, rfl, hx, hf4⟩
            have HF4 := Lib.hid (HF2.out.trans hf4)
            have HOW4 := Lib.hid (HOW2.out.fut hf4)
            have HBX4 := Lib.hid (HBX2.out.fut hf4)
            clear hf4 hc2 hx
            go_wp2_with fail
            refine (hc3.out w4 HF4.out).mono ?_
            rintro e w5 ⟨y, rfl, hy, hf5⟩
            have HF5 := Lib.hid (HF4.out.trans hf5)
            have HOW5 := Lib.hid (HOW4.out.fut hf5)
            have HBX5 := Lib.hid (HBX4.out.fut hf5)
            clear hf5 hc3 hy
            by_cases hxy : x ≤ y
            · have hxy1 : ((x : Int) ≤ y) = True := eq_true (by omega)
              have b1 := HBX5.out.cell (i := 1) rfl
              have z1 := HBX5.out.fz 1
              go_wp2_with fail
              refine ⟨⟨ii + 1, jj, true, L, ea2, ed2 + 1, es2, rfl, by go_num, rfl, by omega, by omega, by omega, by omega, Lib.hid (ds_del HDI2.out hia), Lib.hid (by have := HLL.out; cases ob <;> simp_all <;> omega), Lib.hid (HOW5.out.futS (S := fun k => k == w1.heap.size) (futS_set _ _ _ (by simp)) (fun kk hkk => beq_eq_false_iff_ne.2 (by have := (HOW5.out.lt kk hkk).1; omega))), Lib.hid (HBX5.out.set 1 (.int .i64 ((ed2 : Int) + 1))), Lib.hid (HF5.out.setCell (p := ⟨w1.heap.size, 1, none⟩) (Nat.le_refl _) _)⟩, by simp [intOf]; omega⟩

            · have hxy1 : ((x : Int) ≤ y) = False := eq_false (by omega)
              have b2 := cell_fut (HBX5.out.cell (i := 2) rfl)
              have b2' := HBX5.out.cell (i := 2) rfl
              have z2 := HBX5.out.fz 2
              have hg1 : (0 ≤ (jj : Int) + 1) = True := eq_true (by omega)
              have hg2 : ((jj : Int) + 1 ≤ m) = True := eq_true (by omega)
              have hg3 : ((jj : Int) ≤ (jj : Int) + 1) = True := eq_true (by omega)
              have hg4 : ((jj : Int) + 1).toNat = jj + 1 := by omega
              have hqq : (9223372036854775807 < es2.size + (min (jj + 1) m - jj)) = False := eq_false (by omega)
              have hex := size_extract b jj (jj + 1) (by omega)
              have HEX := Lib.hid hex
              clear hex
              go_wp2_with fail
              refine wp_region_M o_textdiff_Diff_17 (by kernel_rfl) (by kernel_rfl) (by intro c a d v w h; cases d <;> exact h) ?_; unfold o_textdiff_Diff_17
              iterate 9 (refine wpF_h rfl rfl (fun K hK => ?_); go_simp; refine hK _ _ ?_; clear hK K)
              refine wpF_ol rfl (by kernel_rfl) rfl (fun K hK => ?_)
              go_simp
              refine hK _ _ ?_
              clear hK K
              refine wpF_nil ?_
              go_wp2_with fail
              refine ⟨⟨ii, jj + 1, true, L, ea2, ed2, es2 ++ b.extract jj (jj + 1), rfl, rfl, by go_num, by omega, by omega, by omega, by rw [ByteArray.size_append, HEX.out]; omega, Lib.hid (ds_ins HDI2.out hjb), Lib.hid (by have := HLL.out; cases ob <;> simp_all <;> omega), Lib.hid (HOW5.out.futS (S := fun k => k == w1.heap.size) (futS_set _ _ _ (by simp)).drew (fun kk hkk => beq_eq_false_iff_ne.2 (by have := (HOW5.out.lt kk hkk).1; omega))), Lib.hid (HBX5.out.set 2 (.string (es2 ++ b.extract jj (jj + 1)))).drew, Lib.hid (HF5.out.setCell (p := ⟨w1.heap.size, 2, none⟩) (Nat.le_refl _) _).drew⟩, by simp [intOf]; omega⟩
      · have hjm0 : m = jj := by omega
        subst hjm0
        go_wp2_with fail
        refine wp_region_M o_textdiff_Diff_7 (by kernel_rfl) (by kernel_rfl) (by intro c a d v w h; cases d <;> exact h) ?_; unfold o_textdiff_Diff_7
        iterate 19 (first | ((refine wpF_h rfl rfl (fun K hK => ?_); go_simp; refine hK _ _ ?_; clear hK K)) | ((refine wpF_hs2 rfl rfl (fun K hK => ?_); go_simp; refine hK _ _ ?_; clear hK K)))
        refine wpF_nil ?_
        go_upto_if 53 with fail
        go_cut [8] (fun o wx => o = .bool true ∧ ∃ (ea ed : Nat) (es : ByteArray), ed ≤ ii ∧ es.size ≤ m ∧ Hid (DS a b true L ⟨ea, ed, es⟩ ii m) ∧ Hid (OwnE wx (w1.heap.size + 1) u6 L) ∧ Hid (Blk wx w1.heap.size 57 #[.int .i64 ea, .int .i64 ed, .string es]) ∧ Hid (Fut w1 wx))
        case first =>
          cases ob
          · have b0 := HBX.out.cell (i := 0) rfl
            have b1 := HBX.out.cell (i := 1) rfl
            have b2 := HBX.out.cell (i := 2) rfl
            have z0 := HBX.out.fz 0
            have z1 := HBX.out.fz 1
            have z2 := HBX.out.fz 2
            go_wp2_with fail
            go_meet
            exact ⟨rfl, ii, 0, ⟨#[]⟩, Nat.zero_le _, Nat.zero_le _, Lib.hid (ds_opens HDI.out), Lib.hid (HOW.out.futS (S := fun k => k == w1.heap.size) (store57 wr w1.heap.size _ _ _).drew (fun kk hkk => beq_eq_false_iff_ne.2 (by have := (HOW.out.lt kk hkk).1; omega))), Lib.hid (blk57 HBX.out _ _ _).drew, Lib.hid ((store57 wr w1.heap.size _ _ _).fut HF.out (fun k hk => by rw [beq_iff_eq.1 hk]; exact Nat.le_refl _)).drew⟩
          · go_wp2_with fail
            go_meet
            exact ⟨rfl, ea, ed, es, hxd, hxs, HDI, Lib.hid (HOW.out.fut (Fut.refl wr).drew), Lib.hid HBX.out.drew, Lib.hid HF.out.drew⟩
        case rest =>
          obtain ⟨rfl, ea2, ed2, es2, hxd2, hxs2, HDI2, HOW2, HBX2, HF2⟩ := hcut
          have hwd : IntKind.i64.wrap ((ed2 : Int) + 1) = (ed2 : Int) + 1 := by rw [IntKind.wrap_i64]; omega

          have b1 := HBX2.out.cell (i := 1) rfl
          have z1 := HBX2.out.fz 1
          go_wp2_with fail
          refine ⟨⟨ii + 1, m, true, L, ea2, ed2 + 1, es2, rfl, by go_num, rfl, by omega, by omega, by omega, by omega, Lib.hid (ds_del HDI2.out hia), Lib.hid (by have := HLL.out; cases ob <;> simp_all <;> omega), Lib.hid (HOW2.out.futS (S := fun k => k == w1.heap.size) (futS_set _ _ _ (by simp)) (fun kk hkk => beq_eq_false_iff_ne.2 (by have := (HOW2.out.lt kk hkk).1; omega))), Lib.hid (HBX2.out.set 1 (.int .i64 ((ed2 : Int) + 1))), Lib.hid (HF2.out.setCell (p := ⟨w1.heap.size, 1, none⟩) (Nat.le_refl _) _)⟩, by simp [intOf]; omega⟩
    · have hin0 : n = ii := by omega
      subst hin0
      by_cases hjM : jj < m
      · have hlj : ((jj : Int) < m) = True := eq_true (by omega)
        have hgj : (0 ≤ (jj : Int)) = True := eq_true (by omega)
        have hjb : jj < b.size := by omega
        have hjm1 : ((jj : Int) = m) = False := eq_false (by omega)
        have hjm2 : ((jj : Int) == m) = false := beq_eq_false_iff_ne.2 (by omega)
        go_wp2_with fail
        refine wp_region_M o_textdiff_Diff_7 (by kernel_rfl) (by kernel_rfl) (by intro c a d v w h; cases d <;> exact h) ?_; unfold o_textdiff_Diff_7
        iterate 19 (first | ((refine wpF_h rfl rfl (fun K hK => ?_); go_simp; refine hK _ _ ?_; clear hK K)) | ((refine wpF_hs2 rfl rfl (fun K hK => ?_); go_simp; refine hK _ _ ?_; clear hK K)))
        refine wpF_nil ?_
        go_upto_if 53 with fail
        go_cut [8] (fun o wx => o = .bool true ∧ ∃ (ea ed : Nat) (es : ByteArray), ed ≤ n ∧ es.size ≤ jj ∧ Hid (DS a b true L ⟨ea, ed, es⟩ n jj) ∧ Hid (OwnE wx (w1.heap.size + 1) u6 L) ∧ Hid (Blk wx w1.heap.size 57 #[.int .i64 ea, .int .i64 ed, .string es]) ∧ Hid (Fut w1 wx))
        case first =>
          cases ob
          · have b0 := HBX.out.cell (i := 0) rfl
            have b1 := HBX.out.cell (i := 1) rfl
            have b2 := HBX.out.cell (i := 2) rfl
            have z0 := HBX.out.fz 0
            have z1 := HBX.out.fz 1
            have z2 := HBX.out.fz 2
            go_wp2_with fail
            go_meet
            exact ⟨rfl, n, 0, ⟨#[]⟩, Nat.zero_le _, Nat.zero_le _, Lib.hid (ds_opens HDI.out), Lib.hid (HOW.out.futS (S := fun k => k == w1.heap.size) (store57 wr w1.heap.size _ _ _).drew (fun kk hkk => beq_eq_false_iff_ne.2 (by have := (HOW.out.lt kk hkk).1; omega))), Lib.hid (blk57 HBX.out _ _ _).drew, Lib.hid ((store57 wr w1.heap.size _ _ _).fut HF.out (fun k hk => by rw [beq_iff_eq.1 hk]; exact Nat.le_refl _)).drew⟩
          · go_wp2_with fail
            go_meet
            exact ⟨rfl, ea, ed, es, hxd, hxs, HDI, Lib.hid (HOW.out.fut (Fut.refl wr).drew), Lib.hid HBX.out.drew, Lib.hid HF.out.drew⟩
        case rest =>
          obtain ⟨rfl, ea2, ed2, es2, hxd2, hxs2, HDI2, HOW2, HBX2, HF2⟩ := hcut
          have b2 := cell_fut (HBX2.out.cell (i := 2) rfl)
          have b2' := HBX2.out.cell (i := 2) rfl
          have z2 := HBX2.out.fz 2
          have hg1 : (0 ≤ (jj : Int) + 1) = True := eq_true (by omega)
          have hg2 : ((jj : Int) + 1 ≤ m) = True := eq_true (by omega)
          have hg3 : ((jj : Int) ≤ (jj : Int) + 1) = True := eq_true (by omega)
          have hg4 : ((jj : Int) + 1).toNat = jj + 1 := by omega
          have hqq : (9223372036854775807 < es2.size + (min (jj + 1) m - jj)) = False := eq_false (by omega)
          have hex := size_extract b jj (jj + 1) (by omega)
          have HEX := Lib.hid hex
          clear hex
          go_wp2_with fail
          refine wp_region_M o_textdiff_Diff_17 (by kernel_rfl) (by kernel_rfl) (by intro c a d v w h; cases d <;> exact h) ?_; unfold o_textdiff_Diff_17
          iterate 9 (refine wpF_h rfl rfl (fun K hK => ?_); go_simp; refine hK _ _ ?_; clear hK K)
          refine wpF_ol rfl (by kernel_rfl) rfl (fun K hK => ?_)
          go_simp
          refine hK _ _ ?_
          clear hK K
          refine wpF_nil ?_
          go_wp2_with fail
          refine ⟨⟨n, jj + 1, true, L, ea2, ed2, es2 ++ b.extract jj (jj + 1), rfl, rfl, by go_num, by omega, by omega, by omega, by rw [ByteArray.size_append, HEX.out]; omega, Lib.hid (ds_ins HDI2.out hjb), Lib.hid (by have := HLL.out; cases ob <;> simp_all <;> omega), Lib.hid (HOW2.out.futS (S := fun k => k == w1.heap.size) (futS_set _ _ _ (by simp)).drew (fun kk hkk => beq_eq_false_iff_ne.2 (by have := (HOW2.out.lt kk hkk).1; omega))), Lib.hid (HBX2.out.set 2 (.string (es2 ++ b.extract jj (jj + 1)))).drew, Lib.hid (HF2.out.setCell (p := ⟨w1.heap.size, 2, none⟩) (Nat.le_refl _) _).drew⟩, by simp [intOf]; omega⟩
      · have hjm0 : m = jj := by omega
        subst hjm0
        cases ob
        · obtain ⟨A, c, rfl⟩ := HOW.out.form
          go_wp2_with fail
          go_ret
          exact ⟨L, A, c, rfl, HDI.out.c, by have := HLL.out; omega, HOW.out.rd, HF1.out.trans HF.out⟩
        ·
          have b0 := (HBX.out).cell (i := 0) rfl
          have b1 := (HBX.out).cell (i := 1) rfl
          have b2 := (HBX.out).cell (i := 2) rfl
          have hws := (HF.out).size
          go_wp2_with (refine wpList_pushE rfl (.tmp 97) (.tmp 99) rfl (w1.heap.size + 1) u6 L rfl (OwnE.alloc HOW.out (.cells #[.int .i64 ea, .int .i64 ed, .string es] 57)) wr.heap.size ⟨ea, ed, es⟩ rfl (heap_new' _ _ _ rfl) (by have := HLL.out; omega) (by have := HBX.out.lt; simp only [World.size_alloc]; omega) ?_)
          intro gg cap w7 k1 k2 k3
          have HOW7 := Lib.hid k1
          have HB7 := Lib.hid (((HBX.out).alloc (.cells #[.int .i64 ea, .int .i64 ed, .string es] 57)).grown k2 (fun e9 => by have := (HOW.out.lt _ e9.symm).1; omega))
          have HF7 := Lib.hid (show Fut w1 w7 from Below.grown ((HF.out).alloc (.cells #[.int .i64 ea, .int .i64 ed, .string es] 57)) k2 (by simp only [World.size_alloc]; have := HF.out.size; omega) (fun kk hkk => by have := (HOW.out.lt kk hkk).1; omega))
          clear k1 k2 k3 b0 b1 b2 hws
          go_wp2_with fail
          go_ret
          exact ⟨L ++ [⟨ea, ed, es⟩], _, cap, by rw [List.length_append, List.length_singleton]; rfl, ds_close HDI.out, by have := HLL.out; rw [List.length_append, List.length_singleton]; simp only [if_true] at this; omega, HOW7.out.rd, HF1.out.trans HF7.out⟩
end Go.Proofs.YtlgpacpebjechaaGreatDoor
