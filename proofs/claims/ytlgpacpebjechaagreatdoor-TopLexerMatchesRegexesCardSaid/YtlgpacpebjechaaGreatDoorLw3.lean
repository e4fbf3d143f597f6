/-
  The law TopLexerMatchesRegexes: its walk.
-/
import Derived.Test.YtlgpacpebjechaaGreatDoorCtr
namespace Go.Proofs.YtlgpacpebjechaaGreatDoor
open Go.RowKit Go.Deep Ev PLX
attribute [local go_sem] Oper.lit Oper.litS fut_fut fut_drew World.cell?_alloc_some
theorem lx_at {M : AU} : ∀ {i : Nat} {r : List Nat} {ts : List Tok} (_h : Lx M i r ts) (j : Nat) (t : Tok), ts[j]? = some t → t = PLX.tok M (i + tlen (ts.take j)) (r.drop (tlen (ts.take j))) ∧ tlen (ts.take j) < r.length := by
  intro i r ts h j t ht
  have hd := Lx.suf M (ts.take j) (ts.drop j) i r (by rw [List.take_append_drop]; exact h)
  rw [List.drop_eq_getElem_cons (List.getElem?_eq_some_iff.1 ht).1] at hd
  obtain ⟨hj, e⟩ := List.getElem?_eq_some_iff.1 ht
  rw [e] at hd
  generalize hr : r.drop (tlen (ts.take j)) = r' at hd
  cases hd with
  | cons hne _ =>
    refine ⟨rfl, ?_⟩
    rcases Nat.lt_or_ge (tlen (ts.take j)) r.length with h1 | h1
    · exact h1
    · rw [List.drop_eq_nil_of_le h1] at hr
      exact absurd hr.symm hne
theorem lx_len {M : AU} {r : List Nat} {ts : List Tok} (h : Lx M 0 r ts) : tlen ts = r.length := by
  have := congrArg List.length (Lx.text M h)
  rw [List.length_flatMap] at this
  exact this
theorem tlen_step (ts : List Tok) (j : Nat) (t : Tok) (h : ts[j]? = some t) : tlen (ts.take (j + 1)) = tlen (ts.take j) + t.text.length := by
  rw [List.take_add_one, h, tlen_append]
  simp [tlen]
theorem bl_inj {a b : ByteArray} (h : bl a = bl b) : a = b := by
  have h1 : a.data.toList = b.data.toList := List.map_inj_right (fun x y hxy => UInt8.toNat_inj.1 hxy) |>.1 h
  exact ByteArray.ext (Array.toList_inj.1 h1)
/-- what has been compared: expressions below k, and k up to e -/
abbrev upK (R k e : Nat) : Nat → Nat → Prop := fun k' e' => (k' < k ∧ 1 ≤ e' ∧ e' ≤ R) ∨ (k' = k ∧ 1 ≤ e' ∧ e' < e)
set_option maxRecDepth 100000 in
set_option maxHeartbeats 6400000 in
theorem law3_any (s : ByteArray) (w : World) (_hs : s.size ≤ maxLen) (hG : GW w) : Calls Tryz.prog 3 #[.string s] w fun e w' => e = .returned (.bool true) ∧ Fut w w' := by
  have HG := Lib.hid hG
  clear hG
  go_enter Tryz.func3, Tryz.ntmps3
  go_wp2_with fail
  refine (awake_any HG.out).mono ?_
  rintro e w1 ⟨rfl, hf1⟩
  have HF1 := Lib.hid hf1
  have HG1 := Lib.hid (HG.out.fut hf1)
  clear hf1
  by_cases hl : s.size ≤ 16
  · have hl1 : ((16 : Int) < s.size) = False := eq_false (by omega)
    go_wp2_with fail
    refine (words_any HG1.out).mono ?_
    rintro e w2 ⟨gd, cd, σ, rfl, hr2, hv2, hf2⟩
    have HF2 := Lib.hid (HF1.out.trans hf2)
    have HG2 := Lib.hid (HG1.out.fut hf2)
    have HC := Lib.hid (fun (wy : World) (hf : Fut w2 wy) => compile_any hr2 hf hv2)
    have HZ2 := Lib.hid hf2.size
    clear hr2 hv2 hf2
    go_wp2_with fail
    refine (HC.out _ ((Fut.refl w2).alloc _)).mono ?_
    rintro e w3 ⟨p, rfl, hpat, hR, hf3⟩
    have HB3 := Lib.hid (show Blk w3 w2.heap.size 25 #[.slice (some ⟨gd, 0, none⟩) 4 cd, .bool false, .int .i64 0, .int .i64 0] from (Blk.new w2 _ _).futS hf3 (by simp))
    have HF3 := Lib.hid (show Fut w w3 from hf3.fut (HF2.out.alloc _) (fun k hk => by
      have h1 := HF1.out.size
      simp only [Bool.and_eq_true, decide_eq_true_eq] at hk
      omega))
    have HP3 := Lib.hid hpat
    have HR3 := Lib.hid hR
    have HS3 := Lib.hid hf3.size
    clear hpat hR hf3 HC
    go_wp2_with fail
    refine (lex_any p D0 D0_ok s _ (by omega) (HR3.out.fut ((Fut.refl w3).alloc _))).mono ?_
    rintro e w4 ⟨L, A, c, rfl, hLx, hLl, hOT, hf4⟩
    have HF4 := Lib.hid ((HF3.out.alloc _).trans hf4)
    have HB4 := Lib.hid ((HB3.out.alloc _).fut hf4)
    have HP4 := Lib.hid (fun k (hk : k < 4) => hf4.cell (((Fut.refl w3).alloc (.cells #[.slice (some ⟨p.C, 0, none⟩) 256 p.cc, .slice (some ⟨p.N, 0, none⟩) 8 p.cn, .slice (some ⟨p.A, 0, none⟩) 8 p.ca] 30)).cell (HP3.out k hk)))
    have HG4 := Lib.hid (HG.out.fut HF4.out)
    have HT4 := Lib.hid hOT.rd
    have HLX := Lib.hid hLx
    have HLL := Lib.hid hLl
    obtain ⟨m, hm⟩ : ∃ m, L.length = m := ⟨_, rfl⟩
    have HM := Lib.hid hm
    rw [hm]
    have hm64 : m ≤ 16 := by omega
    clear hf4 hOT hLx hLl hm HB3 HP3 HR3 HF3 HS3 HZ2 HF2 HG2 HF1 HG1
    go_wp2_with fail
    go_loopw [7, 8] (fun a i wr => ∃ (i' at_ : Nat), i = .int .i64 i' ∧ a = .int .i64 at_ ∧ i' ≤ m ∧ Hid (at_ = tlen ((L.map TK.tok).take i')) ∧ Hid (Fut w4 wr)) (fun _ i _ => m - (intOf i).toNat)
    case atStart => exact ⟨0, 0, rfl, rfl, Nat.zero_le _, Lib.hid rfl, Lib.hid (Fut.refl _)⟩
    case round =>
      obtain ⟨i', at_, rfl, rfl, him, HAT, HFW⟩ := hrel
      by_cases hlt : i' < m
      · obtain ⟨T, hT⟩ := get_lt HM.out hlt
        have htk : (L.map TK.tok)[i']? = some T.tok := by rw [List.getElem?_map, hT]; rfl
        obtain ⟨h1, h2⟩ := lx_at HLX.out i' _ htk
        rw [← HAT.out, bl_len] at h2
        rw [Nat.zero_add, ← HAT.out] at h1
        have HTK := Lib.hid h1
        have HTS := Lib.hid (tlen_step _ _ _ htk)
        have HTC := Lib.hid (HT4.out i' T hT)
        clear htk h1 hT
        have hlt1 : ((i' : Int) < m) = True := eq_true (by omega)
        go_wp2_with fail
        obtain ⟨R, hR⟩ : ∃ R, s.size - at_ = R := ⟨_, rfl⟩
        obtain ⟨r, hr⟩ : ∃ r, (bl s).drop at_ = r := ⟨_, rfl⟩
        have HRr := Lib.hid hr
        have hRs : at_ + R = s.size := by omega
        have hR1 : 1 ≤ R ∧ R ≤ 16 := by omega
        clear hR
        obtain ⟨wo, rfl⟩ : ∃ x, x = wr := ⟨_, rfl⟩
        go_loopw [9, 10, 11] (fun a b k wr => ∃ (kind : Int) (nn kk : Nat), a = .int .i64 kind ∧ b = .int .i64 nn ∧ k = .int .i64 kk ∧ kk ≤ 4 ∧ Hid (Best r (upK R kk 1) kind nn) ∧ Hid (Fut w4 wr)) (fun _ _ k _ => 4 - (intOf k).toNat)
        case atStart => exact ⟨-1, 1, 0, rfl, rfl, rfl, by omega, Lib.hid ((Best.start r).congr (fun a b => ⟨fun h => h.elim, fun h => by rcases h with h | h <;> omega⟩)), HFW⟩
        case round =>
          obtain ⟨kind, nn, kk, rfl, rfl, rfl, hkk, HBE, HFW2⟩ := hrel
          have hb := HB4.out.fut HFW2.out
          have b0 := hb.cell (i := 0) rfl
          clear hb
          by_cases hk4 : kk < 4
          · have hk1 : ((kk : Int) < 4) = True := eq_true (by omega)
            have hp := HFW2.out.cell (HP4.out kk hk4)
            rw [Nat.mul_comm] at hp
            have HPA := Lib.hid (parse_any (HG4.out.fut HFW2.out) kk hk4)
            go_wp2_with fail
            refine HPA.out.mono ?_
            rintro e w5 ⟨x, z, rfl, hX, hf5⟩
            obtain ⟨x0, x1, x2, x3, x4, x5, x6, x7, rfl⟩ := hX.six (sta_ok kk hk4).1
            obtain ⟨S, hS⟩ : ∃ S : Nat → Bool, S = fun g => decide (wr.heap.size ≤ g) && g != w5.heap.size := ⟨_, rfl⟩
            have HX5 := Lib.hid ((hX.sub (T := S) (fun g hg hl => by
              have hg := of_decide_eq_true hg
              rw [hS]
              simp only [Bool.and_eq_true, decide_eq_true_eq, bne_iff_ne]
              omega)).fut ((Fut.refl w5).alloc (.cells #[.int .i64 x0, .int .u64 x1, .int .u64 x2, .int .u64 x3, .int .u64 x4, .slice x5 x6 x7] 41)))
            have HF5 := Lib.hid (HFW2.out.trans hf5)
            have HZ5 := Lib.hid hf5.size
            have HSS := Lib.hid hS
            have h0S : S w5.heap.size = false := by rw [hS]; simp
            clear hS
            have HB5 := Lib.hid (Blk.new w5 41 #[.int .i64 x0, .int .u64 x1, .int .u64 x2, .int .u64 x3, .int .u64 x4, .slice x5 x6 x7])
            clear hX hf5 HPA hp b0
            go_wp2_with fail
            obtain ⟨wq, rfl⟩ : ∃ x, x = wr := ⟨_, rfl⟩
            go_loopw [9, 10, 15] (fun a b k wr => ∃ (kind : Int) (nn ee : Nat), a = .int .i64 kind ∧ b = .int .i64 nn ∧ k = .int .i64 ((at_ + ee : Nat) : Int) ∧ (1 ≤ ee ∧ ee ≤ R + 1) ∧ Hid (Best r (upK R kk ee) kind nn) ∧ Hid (RepX wq.heap.size (sta kk) S wr (.agg #[.int .i64 x0, .int .u64 x1, .int .u64 x2, .int .u64 x3, .int .u64 x4, .slice x5 x6 x7]) (.agg #[.int .i64 x0, .int .u64 x1, .int .u64 x2, .int .u64 x3, .int .u64 x4, .slice x5 x6 x7])) ∧ Blk wr w5.heap.size 41 #[.int .i64 x0, .int .u64 x1, .int .u64 x2, .int .u64 x3, .int .u64 x4, .slice x5 x6 x7] ∧ Hid (w5.heap.size + 1 ≤ wr.heap.size) ∧ Hid (Fut w4 wr)) (fun _ _ k _ => at_ + R + 1 - (intOf k).toNat)
            case atStart =>
              refine ⟨kind, nn, 1, rfl, rfl, by go_num, by omega, HBE, Lib.hid ?_, HB5.out, Lib.hid (by simp only [World.size_alloc]; omega), Lib.hid (HF5.out.alloc _)⟩
              exact HX5.out
            case round =>
              obtain ⟨kind, nn, ee, rfl, rfl, rfl, hee, HBE, HXR, hB, HZR, HFR⟩ := hrel
              by_cases hle : ee ≤ R
              · have hle1 : ((at_ : Int) + ee ≤ s.size) = True := eq_true (by omega)
                have hg1 : (0 ≤ (at_ : Int) + ee) = True := eq_true (by omega)
                have hg3 : ((at_ : Int) ≤ (at_ : Int) + ee) = True := eq_true (by omega)
                have hg4 : ((at_ : Int) + ee).toNat = at_ + ee := by omega
                have hsub : IntKind.i64.wrap ((at_ : Int) + ee - at_) = ee := by rw [IntKind.wrap_i64]; omega
                have d0 := cell_futS (S := S) (hB.cell (i := 0) rfl) h0S
                have d1 := cell_futS (S := S) (hB.cell (i := 1) rfl) h0S
                have d2 := cell_futS (S := S) (hB.cell (i := 2) rfl) h0S
                have d3 := cell_futS (S := S) (hB.cell (i := 3) rfl) h0S
                have d4 := cell_futS (S := S) (hB.cell (i := 4) rfl) h0S
                have d5 := cell_futS (S := S) (hB.cell (i := 5) rfl) h0S
                have hblx : bl (s.extract at_ (at_ + ee)) = r.take ee := by rw [bl_extract _ _ _ (by omega), HRr.out, Nat.add_sub_cancel_left]
                have hszx : (s.extract at_ (at_ + ee)).size ≤ 1000000 := by rw [size_extract _ _ _ (by omega)]; omega
                obtain ⟨M, hM⟩ : ∃ M, mt kk (r.take ee) = M := ⟨_, rfl⟩
                have HMT := Lib.hid (fun (wy : World) (h : RepX wq.heap.size (sta kk) S wy (.agg #[.int .i64 x0, .int .u64 x1, .int .u64 x2, .int .u64 x3, .int .u64 x4, .slice x5 x6 x7]) (.agg #[.int .i64 x0, .int .u64 x1, .int .u64 x2, .int .u64 x3, .int .u64 x4, .slice x5 x6 x7])) (hz : ∀ g, wy.heap.size ≤ g → S g = true) (hn : wq.heap.size ≤ wy.heap.size) => (show Calls Tryz.prog 10 #[.agg #[.int .i64 x0, .int .u64 x1, .int .u64 x2, .int .u64 x3, .int .u64 x4, .slice x5 x6 x7], .string (s.extract at_ (at_ + ee))] wy fun e w' => e = .returned (.bool M) ∧ RepX wq.heap.size (sta kk) S w' (.agg #[.int .i64 x0, .int .u64 x1, .int .u64 x2, .int .u64 x3, .int .u64 x4, .slice x5 x6 x7]) (.agg #[.int .i64 x0, .int .u64 x1, .int .u64 x2, .int .u64 x3, .int .u64 x4, .slice x5 x6 x7]) ∧ FutS S wy w' from by
                  have := match_any wq.heap.size (sta kk) S (s.extract at_ (at_ + ee)) wy _ hszx (sta_ok kk hk4).1 (sta_ok kk hk4).2 h hz hn
                  rw [hblx] at this
                  rw [← hM]
                  exact this))
                have hmore := HBE.out.more (k := kk) (e := ee) (by omega) (fun k' e' hP => by rcases hP with hP | hP <;> omega)
                have hup : ∀ a b, (upK R kk ee a b ∨ (a = kk ∧ b = ee)) ↔ upK R kk (ee + 1) a b := fun a b => by simp only [upK]; omega
                rw [hM] at hmore
                have HBU := Lib.hid (hmore.congr hup)
                clear hblx hszx hM hmore hup
                have HB := Lib.hid hB
                clear hB
                have HC := Lib.hid (show ∀ g, w5.heap.size + 1 ≤ g → S g = true from fun g hg => by
                  rw [HSS.out]
                  have := HZ5.out
                  simp only [Bool.and_eq_true, decide_eq_true_eq, bne_iff_ne]
                  omega)
                go_wp2_with fail
                refine wp_region_MG (relS S) o_emendatetop_TopLexerMatchesRegexes_24 (by kernel_rfl) (by kernel_rfl) (by intro c a d v w h; cases d <;> exact h) ?_; unfold o_emendatetop_TopLexerMatchesRegexes_24
                iterate 5 (refine wpS_h rfl rfl (fun K hK => ?_); go_simp; refine hK _ _ ?_; clear hK K)
                refine wpG_o rfl rfl (fun K hK => ?_)
                go_simp
                go_at_call 10
                refine (HMT.out _ (HXR.out.fut (Fut.refl wr).drew) (fun g hg => HC.out g (by have := HZR.out; have h9 : wr.heap.size ≤ g := hg; omega)) (by have := HZR.out; have := HZ5.out; show _ ≤ wr.heap.size; omega)).mono ?_
                rintro e w6 ⟨rfl, hX6, hf6⟩
                refine hK _ _ (.inr hf6) ?_
                clear hK K
                have HX6 := Lib.hid hX6
                have HF6 := Lib.hid hf6
                clear hX6 hf6 HMT d0 d1 d2 d3 d4 d5
                have HK := Lib.hid (show Fut w4 w6 from HF6.out.fut HFR.out.drew (fun k hk => by
                  rw [HSS.out] at hk
                  have h1 := HFW2.out.size
                  have hk := (Bool.and_eq_true _ _ ▸ hk : _ ∧ _).1
                  have hk := of_decide_eq_true hk
                  exact Nat.le_trans h1 hk))
                have HZ6 := Lib.hid (show w5.heap.size + 1 ≤ w6.heap.size from Nat.le_trans HZR.out HF6.out.size)
                have hB6 : Blk w6 w5.heap.size 41 #[.int .i64 x0, .int .u64 x1, .int .u64 x2, .int .u64 x3, .int .u64 x4, .slice x5 x6 x7] := Blk.futS (Blk.futS HB.out ((FutS.refl wr).drew) h0S) HF6.out h0S
                have HB6 := Lib.hid hB6
                clear hB6 HB HFR HF6 HXR
                cases M
                · iterate 18 (first | ((refine wpS_h rfl rfl (fun K hK => ?_); go_simp; refine hK _ _ ?_; clear hK K)) | ((refine wpG_hs rfl rfl (fun K hK => ?_); go_simp; refine hK _ _ ?_; clear hK K)))
                  refine wpG_nil ?_
                  go_wp2_with fail
                  exact ⟨⟨kind, nn, ee + 1, rfl, rfl, by go_num, by omega, by simpa using HBU, HX6, HB6.out, HZ6, HK⟩, by simp [intOf]; omega⟩
                · by_cases hc1 : nn < ee
                  · have hd1 : ((nn : Int) < ee) = True := eq_true (by omega)
                    iterate 18 (first | ((refine wpS_h rfl rfl (fun K hK => ?_); go_simp; refine hK _ _ ?_; clear hK K)) | ((refine wpG_hs rfl rfl (fun K hK => ?_); go_simp; refine hK _ _ ?_; clear hK K)))
                    refine wpG_nil ?_
                    go_wp2_with fail
                    exact ⟨⟨kk, ee, ee + 1, rfl, rfl, by go_num, by omega, by simpa [hc1] using HBU, HX6, HB6.out, HZ6, HK⟩, by simp [intOf]; omega⟩
                  · have hd1 : ((nn : Int) < ee) = False := eq_false (by omega)
                    by_cases hc2 : ee = nn
                    · subst hc2
                      by_cases hc3 : kind < 0
                      · have hd3 : (kind < 0) = True := eq_true hc3
                        iterate 18 (first | ((refine wpS_h rfl rfl (fun K hK => ?_); go_simp; refine hK _ _ ?_; clear hK K)) | ((refine wpG_hs rfl rfl (fun K hK => ?_); go_simp; refine hK _ _ ?_; clear hK K)))
                        refine wpG_nil ?_
                        go_wp2_with fail
                        exact ⟨⟨kk, ee, ee + 1, rfl, rfl, by go_num, by omega, by simpa [hc3] using HBU, HX6, HB6.out, HZ6, HK⟩, by simp [intOf]; omega⟩
                      · have hd3 : (kind < 0) = False := eq_false hc3
                        iterate 18 (first | ((refine wpS_h rfl rfl (fun K hK => ?_); go_simp; refine hK _ _ ?_; clear hK K)) | ((refine wpG_hs rfl rfl (fun K hK => ?_); go_simp; refine hK _ _ ?_; clear hK K)))
                        refine wpG_nil ?_
                        go_wp2_with fail
                        exact ⟨⟨kind, ee, ee + 1, rfl, rfl, by go_num, by omega, by simpa [hc3] using HBU, HX6, HB6.out, HZ6, HK⟩, by simp [intOf]; omega⟩
                    · have hd2 : ((ee : Int) = nn) = False := eq_false (by omega)
                      have hd3 : (ee = nn) = False := eq_false hc2
                      have hd4 : ((ee : Int) == nn) = false := beq_eq_false_iff_ne.2 (by omega)
                      iterate 18 (first | ((refine wpS_h rfl rfl (fun K hK => ?_); go_simp; refine hK _ _ ?_; clear hK K)) | ((refine wpG_hs rfl rfl (fun K hK => ?_); go_simp; refine hK _ _ ?_; clear hK K)))
                      refine wpG_nil ?_
                      go_wp2_with fail
                      exact ⟨⟨kind, nn, ee + 1, rfl, rfl, by go_num, by omega, by simpa [hc1, hc2] using HBU, HX6, HB6.out, HZ6, HK⟩, by simp [intOf]; omega⟩
              · have hle1 : ((at_ : Int) + ee ≤ s.size) = False := eq_false (by omega)
                have hee1 : ee = R + 1 := by omega
                have HBE2 := Lib.hid (HBE.out.congr (P' := upK R (kk + 1) 1) (fun a b => by subst hee1; simp only [upK]; omega))
                clear hee hee1 hle HBE hB
                go_wp2_with fail
                exact ⟨⟨kind, nn, kk + 1, rfl, rfl, by go_num, by omega, HBE2, HFR⟩, by simp [intOf]; omega⟩
          · have hk1 : ((kk : Int) < 4) = False := eq_false (by omega)
            obtain rfl : kk = 4 := by omega
            have hrl : r.length = R := by rw [← hr, List.length_drop, bl_len]; omega
            have hrb : ∀ b ∈ r, b < 256 := fun b hb => bl_lt s b (List.mem_of_mem_drop (hr ▸ hb))
            have hsb := scan_best0 r hrb
            have hu := Best.unique (HBE.out.congr (P' := upto r.length) (fun a b => by simp only [upK, upto, hrl]; omega)) hsb
            have hsz := PLX.scan_size AU0 r 0 0 (-1) 1 (Nat.le_refl _) (.inr rfl)
            rw [← hu.2] at hsz
            have hnR : 1 ≤ nn ∧ nn ≤ R := by omega
            have htk := HTK.out
            rw [D0_au, hr] at htk
            unfold TK.tok PLX.tok at htk
            rw [← hu.1, ← hu.2] at htk
            simp only [Tok.mk.injEq] at htk
            obtain ⟨hk, ha, hts, hlk⟩ := htk
            have hts1 : T.s = s.extract at_ (at_ + nn) := bl_inj (by rw [hts, bl_extract _ _ _ (by omega), hr, Nat.add_sub_cancel_left])
            have HNX := Lib.hid (show tlen ((L.map TK.tok).take (i' + 1)) = at_ + nn by
              rw [HTS.out, ← HAT.out]
              show at_ + (bl T.s).length = _
              rw [hts, List.length_take, hrl]
              omega)
            obtain ⟨tb, to, rfl, hcl⟩ := HTC.out
            have c0 : ∀ dd os, (fut wr dd os).cell? ⟨tb, to + i' * 4, none⟩ = some (.int .i64 kind) := cell_fut (by rw [← hk]; exact HFW2.out.cell (hcl 0 _ (by omega) rfl))
            have c1 : ∀ dd os, (fut wr dd os).cell? ⟨tb, to + i' * 4 + 1, none⟩ = some (.int .i64 at_) := cell_fut (by rw [← ha]; exact HFW2.out.cell (hcl 1 _ (by omega) rfl))
            have c2 : ∀ dd os, (fut wr dd os).cell? ⟨tb, to + i' * 4 + 2, none⟩ = some (.string (s.extract at_ (at_ + nn))) := cell_fut (by rw [← hts1]; exact HFW2.out.cell (hcl 2 _ (by omega) rfl))
            have hg1 : ((s.size : Int) < (at_ : Int) + nn) = False := eq_false (by omega)
            have hg2 : (0 ≤ (at_ : Int) + nn) = True := eq_true (by omega)
            have hg3 : ((at_ : Int) ≤ (at_ : Int) + nn) = True := eq_true (by omega)
            have hg4 : ((at_ : Int) + nn ≤ s.size) = True := eq_true (by omega)
            have hg5 : ((at_ : Int) + nn).toNat = at_ + nn := by omega
            have hg6 : IntKind.i64.wrap ((at_ : Int) + nn) = at_ + nn := by rw [IntKind.wrap_i64]; omega
            have hg7 : decide ((s.size : Int) < (at_ : Int) + nn) = false := decide_eq_false (by omega)
            clear hrl hrb hsb hu hsz hk ha hts hlk hts1 hcl
            go_wp2_with fail
            refine wp_region_M o_emendatetop_TopLexerMatchesRegexes_26 (by kernel_rfl) (by kernel_rfl) (by intro c a d v w h; cases d <;> exact h) ?_; unfold o_emendatetop_TopLexerMatchesRegexes_26
            iterate 38 (first | ((refine wpF_h rfl rfl (fun K hK => ?_); go_simp; refine hK _ _ ?_; clear hK K)) | ((refine wpF_hs2 rfl rfl (fun K hK => ?_); go_simp; refine hK _ _ ?_; clear hK K)))
            refine wpF_nil ?_
            go_wp2_with fail
            exact ⟨⟨i' + 1, at_ + nn, by go_num, by go_num, by omega, Lib.hid HNX.out.symm, Lib.hid HFW2.out.drew⟩, by simp [intOf]; omega⟩
      · have hlt1 : ((i' : Int) < m) = False := eq_false (by omega)
        have him' : i' = m := by omega
        have hall : at_ = s.size := by
          rw [HAT.out, List.take_of_length_le (by rw [List.length_map, HM.out]; omega), lx_len HLX.out, bl_len]
        have hal1 : ((at_ : Int) = s.size) = True := eq_true (by omega)
        go_wp2_with fail
        go_ret
        exact ⟨rfl, HF4.out.trans HFW.out⟩
  · have hl1 : ((16 : Int) < s.size) = True := eq_true (by omega)
    go_wp2_with fail
    go_ret
    exact ⟨rfl, HF1.out⟩
end Go.Proofs.YtlgpacpebjechaaGreatDoor
