/-
  Texts joined: Where tokens end and begin; How many tokens stay ahead of an edit; An edit of a text; The text of tokens; Two slices of the same tokens; The scanner of a text: the function that is made.
-/
import Derived.Test.YtlgpacpebjechaaGreatDoorLx3
/-
  Where tokens end and begin.
-/
namespace Go.Proofs.YtlgpacpebjechaaGreatDoor
open Go.RowKit Go.Deep
attribute [local go_sem] Oper.lit Oper.litS fut_fut fut_drew World.cell?_alloc_some
set_option maxHeartbeats 6400000 in
theorem end_any (t : TK) (w : World) (h1 : t.a ≤ 1000000) (h2 : t.s.size ≤ 1000000) :
    Calls Tryz.prog 30 #[.agg #[.int .i64 t.k, .int .i64 t.a, .string t.s, .int .i64 t.l]] w fun e w' => e = .returned (.int .i64 ((t.a + t.s.size : Nat) : Int)) ∧ Fut w w' := by
  obtain ⟨k, a, s, l⟩ := t
  simp only at h1 h2
  have hw1 : IntKind.i64.wrap ((a : Int) + s.size) = ((a + s.size : Nat) : Int) := by rw [IntKind.wrap_i64]; omega
  go_enter Tryz.func30, Tryz.ntmps30
  go_wp2_with fail
  go_ret
  exact ⟨rfl, (Fut.refl w).alloc _⟩
/-- where token i begins, or the text ends -/
def startN (L : List TK) (i : Nat) : Nat := match L[i]? with
  | some t => t.a
  | none => match L[L.length - 1]? with
    | some t => t.a + t.s.size
    | none => 0
set_option maxHeartbeats 6400000 in
theorem start_any (L : List TK) (A : Option Addr) (n c i : Nat) (w : World) (hl : L.length = n) (hn : n ≤ 1000000) (_hi : i ≤ 1000000) (hs : ∀ t ∈ L, t.a ≤ 1000000 ∧ t.s.size ≤ 1000000) (hR : RdS w A 4 encT L) :
    Calls Tryz.prog 29 #[.slice A n c, .int .i64 i] w fun e w' => e = .returned (.int .i64 (startN L i : Nat)) ∧ Fut w w' := by
  by_cases hin : i < n
  · obtain ⟨t, ht⟩ := get_lt hl hin
    obtain ⟨b, o, rfl, hc⟩ := hR i t ht
    have c1 := hc 1 _ (by omega) rfl
    have e1 : startN L i = t.a := by unfold startN; rw [ht]
    have hin1 : ((i : Int) < n) = True := eq_true (by omega)
    rw [e1]
    clear hR hc
    go_enter Tryz.func29, Tryz.ntmps29
    go_wp2_with fail
    go_ret
    exact ⟨rfl, Fut.refl w⟩
  · have hin1 : ((i : Int) < n) = False := eq_false (by omega)
    have hno : L[i]? = none := List.getElem?_eq_none (by omega)
    rcases Nat.eq_zero_or_pos n with h0 | h0
    · subst h0
      have e1 : startN L i = 0 := by unfold startN; rw [hno, List.getElem?_eq_none (by omega)]
      rw [e1]
      clear hR
      go_enter Tryz.func29, Tryz.ntmps29
      go_wp2_with fail
      go_ret
      exact ⟨rfl, Fut.refl w⟩
    · have h01 : ((n : Int) = 0) = False := eq_false (by omega)
      have h02 : (n = 0) = False := eq_false (by omega)
      have h03 : ((n : Int) == 0) = false := beq_eq_false_iff_ne.2 (by omega)
      obtain ⟨t, ht⟩ := get_lt hl (show n - 1 < n by omega)
      obtain ⟨b, o, rfl, hc⟩ := hR (n - 1) t ht
      have e1 : startN L i = t.a + t.s.size := by unfold startN; rw [hno, hl, ht]
      have hts := hs t (List.mem_of_getElem? ht)
      have HE := Lib.hid (end_any t w hts.1 hts.2)
      rw [e1]
      have c0 := hc 0 _ (by omega) rfl
      have c1 := hc 1 _ (by omega) rfl
      have c2 := hc 2 _ (by omega) rfl
      have c3 := hc 3 _ (by omega) rfl
      obtain ⟨r, hr⟩ : ∃ r, n - 1 = r := ⟨_, rfl⟩
      rw [hr] at c0 c1 c2 c3
      rw [Nat.add_zero] at c0
      have hw : IntKind.i64.wrap ((n : Int) - 1) = (r : Int) := by rw [IntKind.wrap_i64]; omega
      have hrn : ((r : Int) < n) = True := eq_true (by omega)
      clear hR hc ht hs hts
      go_enter Tryz.func29, Tryz.ntmps29
      go_wp2_with fail
      refine HE.out.mono ?_
      rintro e w' ⟨rfl, hf⟩
      have HF := Lib.hid hf
      clear hf
      go_wp2_with fail
      go_ret
      exact ⟨rfl, HF.out⟩
end Go.Proofs.YtlgpacpebjechaaGreatDoor
/-
  How many tokens stay ahead of an edit.
-/
namespace Go.Proofs.YtlgpacpebjechaaGreatDoor
open Go.RowKit Go.Deep
attribute [local go_sem] Oper.lit Oper.litS fut_fut fut_drew World.cell?_alloc_some
set_option maxHeartbeats 6400000 in
theorem prefix_any (L : List TK) (A : Option Addr) (n c p : Nat) (w : World) (hl : L.length = n) (hn : n ≤ 1000000) (_hp : p ≤ 1000000) (hs : ∀ t ∈ L, t.a ≤ 1000000 ∧ t.l ≤ 1000000) (hR : RdS w A 4 encT L) :
    Calls Tryz.prog 28 #[.slice A n c, .int .i64 p] w fun e w' => ∃ k : Nat, e = .returned (.int .i64 k) ∧ k ≤ n ∧ (∀ t ∈ L.take k, t.a + t.l ≤ p) ∧ Fut w w' := by
  have HR := Lib.hid hR
  have HS := Lib.hid hs
  have HL := Lib.hid hl
  clear hR hs hl
  go_enter Tryz.func28, Tryz.ntmps28
  go_wp2_with fail
  go_loopw [5] (fun k wr => ∃ k' : Nat, k = .int .i64 k' ∧ k' ≤ n ∧ Hid (∀ t ∈ L.take k', t.a + t.l ≤ p) ∧ Hid (Fut w wr)) (fun k _ => n - (intOf k).toNat)
  case atStart => exact ⟨0, rfl, Nat.zero_le _, Lib.hid (fun t ht => by simp at ht), Lib.hid (Fut.refl _)⟩
  case round =>
    obtain ⟨k, rfl, hk, HK, HF⟩ := hrel
    by_cases hkn : k < n
    · have hkn1 : ((k : Int) < n) = True := eq_true (by omega)
      obtain ⟨t, ht⟩ := get_lt HL.out hkn
      obtain ⟨b, o, rfl, hc⟩ := HR.out k t ht
      have hts := HS.out t (List.mem_of_getElem? ht)
      have HT := Lib.hid ht
      have c1 : ∀ dd os, (fut wr dd os).cell? ⟨b, o + k * 4 + 1, none⟩ = some (.int .i64 t.a) := cell_fut (HF.out.cell (hc 1 _ (by omega) rfl))
      have c3 : ∀ dd os, (fut wr dd os).cell? ⟨b, o + k * 4 + 3, none⟩ = some (.int .i64 t.l) := cell_fut (HF.out.cell (hc 3 _ (by omega) rfl))
      have hw1 : IntKind.i64.wrap ((t.a : Int) + t.l) = (t.a : Int) + t.l := by rw [IntKind.wrap_i64]; omega
      clear ht hc
      by_cases hle : t.a + t.l ≤ p
      · have hle1 : ((t.a : Int) + t.l ≤ p) = True := eq_true (by omega)
        go_wp2_with fail
        refine wp_region_M o_relex_prefix_2 (by kernel_rfl) (by kernel_rfl) (by intro c a d v w h; cases d <;> exact h) ?_; unfold o_relex_prefix_2
        iterate 19 (first | ((refine wpF_h rfl rfl (fun K hK => ?_); go_simp; refine hK _ _ ?_; clear hK K)) | ((refine wpF_hs2 rfl rfl (fun K hK => ?_); go_simp; refine hK _ _ ?_; clear hK K)))
        refine wpF_nil ?_
        go_wp2_with fail
        exact ⟨⟨k + 1, by go_num, by omega, Lib.hid (fun t' ht' => by
          rw [List.take_add_one, HT.out, List.mem_append] at ht'
          rcases ht' with h | h
          · exact HK.out t' h
          · obtain rfl : t' = t := by simpa using h
            exact hle), Lib.hid HF.out.drew⟩, by simp [intOf]; omega⟩
      · have hle1 : ((t.a : Int) + t.l ≤ p) = False := eq_false (by omega)
        go_wp2_with fail
        refine wp_region_M o_relex_prefix_2 (by kernel_rfl) (by kernel_rfl) (by intro c a d v w h; cases d <;> exact h) ?_; unfold o_relex_prefix_2
        iterate 19 (first | ((refine wpF_h rfl rfl (fun K hK => ?_); go_simp; refine hK _ _ ?_; clear hK K)) | ((refine wpF_hs2 rfl rfl (fun K hK => ?_); go_simp; refine hK _ _ ?_; clear hK K)))
        refine wpF_nil ?_
        go_wp2_with fail
        go_ret
        exact ⟨k, rfl, hk, HK.out, HF.out.drew⟩
    · have hkn1 : ((k : Int) < n) = False := eq_false (by omega)
      go_wp2_with fail
      refine wp_region_M o_relex_prefix_2 (by kernel_rfl) (by kernel_rfl) (by intro c a d v w h; cases d <;> exact h) ?_; unfold o_relex_prefix_2
      iterate 19 (first | ((refine wpF_h rfl rfl (fun K hK => ?_); go_simp; refine hK _ _ ?_; clear hK K)) | ((refine wpF_hs2 rfl rfl (fun K hK => ?_); go_simp; refine hK _ _ ?_; clear hK K)))
      refine wpF_nil ?_
      go_wp2_with fail
      go_ret
      exact ⟨k, rfl, hk, HK.out, HF.out.drew⟩
end Go.Proofs.YtlgpacpebjechaaGreatDoor
/-
  An edit of a text.
-/
namespace Go.Proofs.YtlgpacpebjechaaGreatDoor
open Go.RowKit Go.Deep
attribute [local go_sem] Oper.lit Oper.litS fut_fut fut_drew World.cell?_alloc_some
/-- an edit -/
structure EI where
  a : Nat
  d : Nat
  s : ByteArray
abbrev encE (e : EI) : List Value := [.int .i64 e.a, .int .i64 e.d, .string e.s]
abbrev edv (e : EI) : Value := .agg #[.int .i64 e.a, .int .i64 e.d, .string e.s]
set_option maxHeartbeats 6400000 in
theorem fits_any (n : Nat) (e : EI) (w : World) (hn : n ≤ 1000000) (he : e.a + e.d ≤ n) :
    Calls Tryz.prog 47 #[.int .i64 n, edv e] w fun r w' => r = .returned (.bool true) ∧ Fut w w' := by
  obtain ⟨a, d, s⟩ := e
  simp only at he
  have h1 : ((0 : Int) ≤ a) = True := eq_true (by omega)
  have h2 : ((0 : Int) ≤ d) = True := eq_true (by omega)
  have h3 : ((a : Int) ≤ n) = True := eq_true (by omega)
  have hw : IntKind.i64.wrap ((n : Int) - a) = ((n - a : Nat) : Int) := by rw [IntKind.wrap_i64]; omega
  have h4 : ((d : Int) ≤ ((n - a : Nat) : Int)) = True := eq_true (by omega)
  go_enter Tryz.func47, Tryz.ntmps47
  go_wp2_with fail
  go_ret
  exact ⟨by simp, (Fut.refl w).alloc _⟩
set_option maxHeartbeats 6400000 in
theorem apply_any (x : ByteArray) (e : EI) (w : World) (hn : x.size ≤ 1000000) (hs : e.s.size ≤ 1000000) (he : e.a + e.d ≤ x.size) :
    Calls Tryz.prog 26 #[.string x, edv e] w fun r w' => r = .returned (.tuple #[.string (x.extract 0 e.a ++ e.s ++ x.extract (e.a + e.d) x.size), .int .i64 0]) ∧ Fut w w' := by
  obtain ⟨a, d, s⟩ := e
  simp only at he hs ⊢
  obtain ⟨n, hxn⟩ : ∃ n, x.size = n := ⟨_, rfl⟩
  have HFT := Lib.hid (fun (wy : World) => fits_any n ⟨a, d, s⟩ wy (by omega) (by simp only; omega))
  have hw : IntKind.i64.wrap ((a : Int) + d) = (a : Int) + d := by rw [IntKind.wrap_i64]; omega
  have hg1 : ((0 : Int) ≤ a) = True := eq_true (by omega)
  have hg2 : ((a : Int) ≤ n) = True := eq_true (by omega)
  have hg3 : ((0 : Int) ≤ (a : Int) + d) = True := eq_true (by omega)
  have hg4 : ((a : Int) + d ≤ n) = True := eq_true (by omega)
  have hg5 : ((a : Int) + d).toNat = a + d := by omega
  have hq1 : (9223372036854775807 < min a n + s.size) = False := eq_false (by omega)
  have hq2 : (9223372036854775807 < min a n + s.size + (n - (a + d))) = False := eq_false (by omega)
  have hq3 : (9223372036854775807 < min a n + s.size + (min n n - (a + d))) = False := eq_false (by omega)
  go_enter Tryz.func26, Tryz.ntmps26
  go_wp2_with fail
  refine (HFT.out _).mono ?_
  rintro r w1 ⟨rfl, hf1⟩
  have hB : Blk w1 w.heap.size 57 #[.int .i64 a, .int .i64 d, .string s] := (Blk.new w _ _).fut hf1
  have d0 := cell_fut (hB.cell (i := 0) rfl)
  have d1 := cell_fut (hB.cell (i := 1) rfl)
  have d2 := cell_fut (hB.cell (i := 2) rfl)
  have HF1 := Lib.hid (show Fut w w1 from ((Fut.refl w).alloc _).trans hf1)
  clear hB hf1
  go_wp2_with fail
  refine wp_region_M o_textedit_Apply_3 (by kernel_rfl) (by kernel_rfl) (by intro c a d v w h; cases d <;> exact h) ?_; unfold o_textedit_Apply_3
  iterate 17 (refine wpF_h rfl rfl (fun K hK => ?_); go_simp; refine hK _ _ ?_; clear hK K)
  refine wpF_nil ?_
  go_wp2_with fail
  go_returns
  exact ⟨by rw [hxn]; rfl, HF1.out.drew⟩
end Go.Proofs.YtlgpacpebjechaaGreatDoor
/-
  The text of tokens.
-/
namespace Go.Proofs.YtlgpacpebjechaaGreatDoor
open Go.RowKit Go.Deep PLX
attribute [local go_sem] Oper.lit Oper.litS fut_fut fut_drew World.cell?_alloc_some
theorem bl_append (a b : ByteArray) : bl (a ++ b) = bl a ++ bl b := by
  unfold bl
  rw [ByteArray.data_append, Array.toList_append, List.map_append]
set_option maxHeartbeats 6400000 in
theorem text_any (L : List TK) (A : Option Addr) (n c : Nat) (w : World) (hl : L.length = n) (hn : n ≤ 1000000) (hs : tlen (L.map TK.tok) ≤ 1000000) (hR : RdS w A 4 encT L) :
    Calls Tryz.prog 13 #[.slice A n c] w fun e w' => ∃ x : ByteArray, e = .returned (.string x) ∧ bl x = (L.map TK.tok).flatMap (·.text) ∧ Fut w w' := by
  have HR := Lib.hid hR
  have HL := Lib.hid hl
  have HS := Lib.hid hs
  clear hR hl hs
  go_enter Tryz.func13, Tryz.ntmps13
  go_wp2_with fail
  go_loopw [3, 5, 8] (fun x _ k wr => ∃ (k' : Nat) (y : ByteArray), k = .int .i64 k' ∧ x = .string y ∧ k' ≤ n ∧ Hid (bl y = ((L.map TK.tok).take k').flatMap (·.text)) ∧ Hid (Fut w wr)) (fun _ _ k _ => n - (intOf k).toNat)
  case atStart => exact ⟨0, ⟨#[]⟩, rfl, rfl, Nat.zero_le _, Lib.hid (by simp [bl]), Lib.hid (Fut.refl _)⟩
  case round =>
    obtain ⟨k, y, rfl, rfl, hk, HY, HF⟩ := hrel
    by_cases hkn : k < n
    · have hkn1 : ((k : Int) < n) = True := eq_true (by omega)
      obtain ⟨t, ht⟩ := get_lt HL.out hkn
      obtain ⟨b, o, rfl, hc⟩ := HR.out k t ht
      have htk : (L.map TK.tok)[k]? = some t.tok := by rw [List.getElem?_map, ht]; rfl
      have HT := Lib.hid htk
      have hyz : y.size + t.s.size ≤ 1000000 := by
        have h1 := HS.out
        rw [← List.take_append_drop (k + 1) (L.map TK.tok), tlen_append, List.take_add_one, htk, tlen_append] at h1
        have h2 : (bl y).length = tlen ((L.map TK.tok).take k) := by rw [HY.out, List.length_flatMap]; rfl
        rw [bl_len] at h2
        have h3 : tlen (some t.tok).toList = t.s.size := by simp [tlen, TK.tok, bl_len]
        omega
      have c0 := HF.out.cell (hc 0 _ (by omega) rfl)
      have c1 := HF.out.cell (hc 1 _ (by omega) rfl)
      have c2 := HF.out.cell (hc 2 _ (by omega) rfl)
      have c3 := HF.out.cell (hc 3 _ (by omega) rfl)
      rw [Nat.add_zero] at c0
      have hq1 : (9223372036854775807 < y.size + t.s.size) = False := eq_false (by omega)
      clear ht hc htk
      go_wp2_with fail
      exact ⟨⟨k + 1, y ++ t.s, by go_num, rfl, by omega, Lib.hid (by
        rw [bl_append, HY.out, List.take_add_one, HT.out, List.flatMap_append]
        simp [TK.tok]), Lib.hid (HF.out.alloc _)⟩, by simp [intOf]; omega⟩
    · have hkn1 : ((k : Int) < n) = False := eq_false (by omega)
      go_wp2_with fail
      go_ret
      exact ⟨y, rfl, by rw [HY.out, List.take_of_length_le (by rw [List.length_map, HL.out]; omega)], HF.out⟩
end Go.Proofs.YtlgpacpebjechaaGreatDoor
/-
  Two slices of the same tokens.
-/
namespace Go.Proofs.YtlgpacpebjechaaGreatDoor
open Go.RowKit Go.Deep PLX
attribute [local go_sem] Oper.lit Oper.litS fut_fut fut_drew World.cell?_alloc_some
set_option maxHeartbeats 6400000 in
theorem same_any (L : List TK) (A B : Option Addr) (n c c' : Nat) (w : World) (hl : L.length = n) (hn : n ≤ 1000000) (hR : RdS w A 4 encT L) (hR' : RdS w B 4 encT L) :
    Calls Tryz.prog 14 #[.slice A n c, .slice B n c'] w fun e w' => e = .returned (.bool true) ∧ Fut w w' := by
  have HR := Lib.hid hR
  have HR2 := Lib.hid hR'
  have HL := Lib.hid hl
  clear hR hl hR'
  go_enter Tryz.func14, Tryz.ntmps14
  go_wp2_with fail
  go_loopw [5] (fun k wr => ∃ k' : Nat, k = .int .i64 k' ∧ k' ≤ n ∧ Hid (Fut w wr)) (fun k _ => n - (intOf k).toNat)
  case atStart => exact ⟨0, rfl, Nat.zero_le _, Lib.hid (Fut.refl _)⟩
  case round =>
    obtain ⟨k, rfl, hk, HF⟩ := hrel
    by_cases hkn : k < n
    · have hkn1 : ((k : Int) < n) = True := eq_true (by omega)
      obtain ⟨t, ht⟩ := get_lt HL.out hkn
      obtain ⟨b, o, rfl, hc⟩ := HR.out k t ht
      obtain ⟨b2, o2, rfl, hc2⟩ := HR2.out k t ht
      have c0 : ∀ dd os, (fut wr dd os).cell? ⟨b, o + k * 4, none⟩ = some (.int .i64 t.k) := cell_fut (HF.out.cell (hc 0 _ (by omega) rfl))
      have c1 : ∀ dd os, (fut wr dd os).cell? ⟨b, o + k * 4 + 1, none⟩ = some (.int .i64 t.a) := cell_fut (HF.out.cell (hc 1 _ (by omega) rfl))
      have c2 : ∀ dd os, (fut wr dd os).cell? ⟨b, o + k * 4 + 2, none⟩ = some (.string t.s) := cell_fut (HF.out.cell (hc 2 _ (by omega) rfl))
      have c3 : ∀ dd os, (fut wr dd os).cell? ⟨b, o + k * 4 + 3, none⟩ = some (.int .i64 t.l) := cell_fut (HF.out.cell (hc 3 _ (by omega) rfl))
      have d0 : ∀ dd os, (fut wr dd os).cell? ⟨b2, o2 + k * 4, none⟩ = some (.int .i64 t.k) := cell_fut (HF.out.cell (hc2 0 _ (by omega) rfl))
      have d1 : ∀ dd os, (fut wr dd os).cell? ⟨b2, o2 + k * 4 + 1, none⟩ = some (.int .i64 t.a) := cell_fut (HF.out.cell (hc2 1 _ (by omega) rfl))
      have d2 : ∀ dd os, (fut wr dd os).cell? ⟨b2, o2 + k * 4 + 2, none⟩ = some (.string t.s) := cell_fut (HF.out.cell (hc2 2 _ (by omega) rfl))
      have d3 : ∀ dd os, (fut wr dd os).cell? ⟨b2, o2 + k * 4 + 3, none⟩ = some (.int .i64 t.l) := cell_fut (HF.out.cell (hc2 3 _ (by omega) rfl))
      clear ht hc hc2
      go_wp2_with fail
      refine wp_region_M o_emendateref12_Same_6 (by kernel_rfl) (by kernel_rfl) (by intro c a d v w h; cases d <;> exact h) ?_; unfold o_emendateref12_Same_6
      iterate 9 (refine wpF_h rfl rfl (fun K hK => ?_); go_simp; refine hK _ _ ?_; clear hK K)
      refine wpF_nil ?_
      go_wp2_with fail
      exact ⟨⟨k + 1, by go_num, by omega, Lib.hid HF.out.drew⟩, by simp [intOf]; omega⟩
    · have hkn1 : ((k : Int) < n) = False := eq_false (by omega)
      go_wp2_with fail
      go_ret
      exact ⟨rfl, HF.out⟩
end Go.Proofs.YtlgpacpebjechaaGreatDoor
/-
  The scanner of a text: the function that is made.
-/
namespace Go.Proofs.YtlgpacpebjechaaGreatDoor
open Go.RowKit Go.Deep PLX
attribute [local go_sem] Oper.lit Oper.litS fut_fut fut_drew World.cell?_alloc_some
set_option maxHeartbeats 6400000 in
theorem scanner_any (p : DP) (n : Nat) (s : ByteArray) (w : World) :
    Calls Tryz.prog 27 #[dval p n, .string s] w fun e w' => e = .returned (.func (.func 48) #[] #[.pointer (some ⟨w.heap.size + 1, 0, none⟩), .pointer (some ⟨w.heap.size, 0, none⟩)]) ∧ Blk w' w.heap.size 30 #[.slice (some ⟨p.C, 0, none⟩) 256 p.cc, .slice (some ⟨p.N, 0, none⟩) n p.cn, .slice (some ⟨p.A, 0, none⟩) n p.ca] ∧ Blk w' (w.heap.size + 1) 9 #[.string s] ∧ Fut w w' ∧ w.heap.size + 2 ≤ w'.heap.size := by
  go_enter Tryz.func27, Tryz.ntmps27
  go_wp2_with fail
  go_ret
  exact ⟨rfl, by (repeat (first | exact heap_new' _ _ _ (by first | rfl | (simp only [World.size_alloc])) | refine (blk_alloc_lt _ _ _ (by first | omega | (simp only [World.size_alloc]; omega))).trans ?_)), by (repeat (first | exact heap_new' _ _ _ (by first | rfl | (simp only [World.size_alloc])) | refine (blk_alloc_lt _ _ _ (by first | omega | (simp only [World.size_alloc]; omega))).trans ?_)), ((Fut.refl w).alloc _).alloc _, by simp only [World.size_alloc]; omega⟩
end Go.Proofs.YtlgpacpebjechaaGreatDoor
