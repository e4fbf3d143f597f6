/-
  Validity of parses.
-/
import Derived.Test.YtleapckcihcpaaaN15
namespace Go.Proofs.Ytleapckcihcpaaa
open Go.RowKit Go.Deep PK
attribute [local go_sem] Oper.lit Oper.litS fut_fut fut_drew World.cell?_alloc_some
def eN (ins : List Int) (r : NR) : EI := ⟨r.h, tailsN r, costN ins r, 0, 0, none, 0⟩
def esN (ins : List Int) (rs : List NR) : List EI := rs.map (eN ins)
theorem esN_gr (ins : List Int) (rs : List NR) : GR ins rs (esN ins rs) := by
  refine ⟨by simp [esN], fun i r e h1 h2 => ?_⟩
  unfold esN at h2
  rw [List.getElem?_map, h1] at h2
  obtain rfl := Option.some.inj h2
  exact ⟨rfl, rfl, rfl⟩
theorem esN_at {ins : List Int} {rs : List NR} {j : Nat} {x : NR} (h : rs[j]? = some x) : (esN ins rs)[j]? = some (eN ins x) := by
  unfold esN
  rw [List.getElem?_map, h]; rfl
theorem esN_len (ins : List Int) (rs : List NR) : (esN ins rs).length = rs.length := by simp [esN]
set_option maxHeartbeats 6400000 in
theorem vpar_any (T N st : Int) (A : Option Addr) (n c : Nat) (rs : List NR) (ins : List Int) (hl : rs.length = n) (hn : n ≤ maxLen) (hvd : validN T N st rs = true) (hp : pricesB T ins = true) (d : DI) : ∀ (r : Int) w, RdN w A rs → RdD w d →
    Calls Try.prog 18 #[nmv T N st A n c, .int .i64 r, dv d] w fun q w' => q = .returned (.bool (validD (grE ins rs) (toDT d) r)) ∧ Below w.heap.size w w' := by
  have hn63 : n ≤ 9223372036854775807 := hn
  have HL := Lib.hid hl
  have HVB := Lib.hid ((esN_gr ins rs).valid hvd hp)
  have HEE := Lib.hid (esN_gr ins rs).EEs
  have HVN := Lib.hid (validN_parts hvd)
  clear hl hn hvd hp
  induction d using DI.ind with
  | h e D dc k ih =>
    intro r w hR hRD
    obtain ⟨hS, hkl, hK⟩ := hRD.parts
    have HR := Lib.hid hR
    have HS := Lib.hid hS
    have HK := Lib.hid hK
    have HI := Lib.hid ih
    obtain ⟨m, hm⟩ : ∃ m, k.length = m := ⟨_, rfl⟩
    have hm63 : m ≤ 9223372036854775807 := hm ▸ hkl
    have HM := Lib.hid hm
    simp only [dv, DI.e, DI.A, DI.c, DI.k, hm]
    rw [toDT_eq]
    clear hS hK hR ih hkl hm hRD
    obtain ⟨wb, hwb⟩ : ∃ wb, wb = (w.alloc (.cells #[.int .i64 T, .int .i64 N, .int .i64 st, .slice A n c] 24)).alloc (.cells #[.int .i64 e, .slice D m dc] 33) := ⟨_, rfl⟩
    have HF := Lib.hid (show Fut w wb from by rw [hwb]; exact ((Fut.refl w).alloc _).alloc _)
    have HB := Lib.hid (show Blk wb w.heap.size 24 #[.int .i64 T, .int .i64 N, .int .i64 st, .slice A n c] from by rw [hwb]; (repeat (first | exact heap_new' _ _ _ (by first | rfl | (simp only [World.size_alloc])) | refine (blk_alloc_lt _ _ _ (by first | omega | (simp only [World.size_alloc]; omega))).trans ?_)))
    have HD := Lib.hid (show Blk wb (w.heap.size + 1) 33 #[.int .i64 e, .slice D m dc] from by rw [hwb]; (repeat (first | exact heap_new' _ _ _ (by first | rfl | (simp only [World.size_alloc])) | refine (blk_alloc_lt _ _ _ (by first | omega | (simp only [World.size_alloc]; omega))).trans ?_)))
    by_cases hin : 0 ≤ e ∧ e < (n : Int)
    · obtain ⟨q, rfl⟩ : ∃ q : Nat, e = q := ⟨e.toNat, by omega⟩
      have hq : q < n := by omega
      obtain ⟨x, hx⟩ := get_lt HL.out hq
      obtain ⟨b, o, rfl, hc⟩ := HR.out q x hx
      have HO := Lib.hid (okN_parts (HVN.out.2.2.2.2.2 x (List.mem_of_getElem? hx)))
      have HGD := Lib.hid (fun hl : (tailsN x).length = k.length => by
        have := validD_good (r := r) HVB.out (esN_at (ins := ins) hx) (k := k) hl
        rw [HEE.out] at this
        exact this)
      have HBD := Lib.hid (fun h => by
        have := validD_bad (r := r) (k := k.map toDT) (esN_at (ins := ins) hx) h
        rw [HEE.out] at this
        exact this)
      have c0 := HF.out.cell (hc 0 _ (by decide) rfl)
      have c1 := HF.out.cell (hc 1 _ (by decide) rfl)
      have c2 := HF.out.cell (hc 2 _ (by decide) rfl)
      have c3 := HF.out.cell (hc 3 _ (by decide) rfl)
      have c4 := HF.out.cell (hc 4 _ (by decide) rfl)
      have c5 := HF.out.cell (hc 5 _ (by decide) rfl)
      simp only [Nat.add_zero] at c0
      have HKT := Lib.hid (fun w' => kids_any x w')
      have HTL2 := Lib.hid (tailsN_len x)
      obtain ⟨xt, hxt⟩ : ∃ xt, tailsN x = xt := ⟨_, rfl⟩
      rw [hxt] at HGD HKT HTL2
      have HBD2 := Lib.hid (show ¬ x.h = r ∨ ¬ xt.length = k.length → validD (grE ins rs) (.node (q : Int) (k.map toDT)) r = false from fun h => HBD.out (by
        rcases h with h | h
        · left
          simp only [eN]
          have := HO.out.1
          omega
        · right
          simp only [eN, List.length_map, hxt]
          exact h))
      have HGD2 := Lib.hid (show xt.length = k.length → (validD (grE ins rs) (.node (q : Int) (k.map toDT)) r = true ↔ x.h = r ∧ ∀ (i : Nat) d t, k[i]? = some d → xt[i]? = some t → validD (grE ins rs) (toDT d) t = true) from fun h => by
        have := HGD.out h
        simp only [eN, hxt] at this
        exact this)
      obtain ⟨tl, htl⟩ : ∃ tl, xt.length = tl := ⟨_, rfl⟩
      rw [htl] at HKT HGD2 HBD2
      have hxh : x.h = x.h := rfl
      obtain ⟨kd, h, ra, rb, p, ox⟩ := x
      simp only at c0 c1 c2 c3 c4 c5 HGD2 HBD2
      simp only [rv] at HKT
      have HTL := Lib.hid htl
      have htl2 : tl ≤ 2 := by have := HTL2.out; rw [htl] at this; exact this
      generalize validD (grE ins rs) (.node (q : Int) (k.map toDT)) r = res at HGD2 HBD2 ⊢
      clear hin hx hc HGD HBD htl hxt hxh
      have hqn : ¬ ((q : Int) < 0) := by omega
      rw [hwb] at c0 c1 c2 c3 c4 c5
      have d0 := HD.out.cell (i := 0) rfl
      have d1 := HD.out.cell (i := 1) rfl
      have b3 := HB.out.cell (i := 3) rfl
      rw [hwb] at d0 d1 b3
      by_cases hr : h = r
      · subst hr
        go_enter Try.func18, Try.ntmps18
        go_wp2_with fail
        rw [← hwb]
        clear hwb c0 c1 c2 c3 c4 c5 d0 d1 b3
        refine (HKT.out _).mono ?_
        rintro u wt ⟨⟨tA, tk, rfl, hrt⟩, hb⟩
        have HFT := Lib.hid (show Fut wb wt from hb)
        have HRT := Lib.hid hrt.rd
        clear hb hrt HKT
        have d0 := (HD.out.fut HFT.out).cell (i := 0) rfl
        have d1 := (HD.out.fut HFT.out).cell (i := 1) rfl
        by_cases hlen : tl = m
        · subst hlen
          go_wp2_with fail
          clear d0 d1
          go_loopw [8] (fun i wr => ∃ j : Nat, j ≤ tl ∧ i = .int .i64 j ∧ Hid (∀ (i : Nat) d t, i < j → k[i]? = some d → xt[i]? = some t → validD (grE ins rs) (toDT d) t = true) ∧ Fut wt wr) (fun i _ => tl - (intOf i).toNat)
          case atStart => exact ⟨0, Nat.zero_le _, rfl, Lib.hid (fun i d t h => by omega), Fut.refl _⟩
          case round =>
            obtain ⟨j, hj, rfl, hall, hF⟩ := hrel
            have HF2 := Lib.hid (HFT.out.trans hF)
            have HF3 := Lib.hid hF
            clear hF
            by_cases hlt : j < tl
            · obtain ⟨y, hy⟩ := get_lt HM.out hlt
              obtain ⟨t, hty⟩ := get_lt HTL.out hlt
              obtain ⟨b1, o1, rfl, hd⟩ := HS.out j y hy
              obtain ⟨b2, o2, rfl, he⟩ := HRT.out j t hty
              have HY := Lib.hid hy
              have HTY := Lib.hid hty
              have d0 := cell_fut (HF2.out.cell (HF.out.cell (hd 0 _ (by decide) rfl)))
              have d1 := cell_fut (HF2.out.cell (HF.out.cell (hd 1 _ (by decide) rfl)))
              have e0 := cell_fut (HF3.out.cell he)
              simp only [Nat.add_zero] at d0
              have HC := Lib.hid (fun w' (hf : Fut wr w') => HI.out y (List.mem_of_getElem? hy) t w' (RdS.fut HR.out ((HF.out.trans HF2.out).trans hf)) ((HK.out y (List.mem_of_getElem? hy)).fut ((HF.out.trans HF2.out).trans hf)))
              have q0 := cell_fut ((HB.out.fut HF2.out).cell (i := 0) rfl)
              have q1 := cell_fut ((HB.out.fut HF2.out).cell (i := 1) rfl)
              have q2 := cell_fut ((HB.out.fut HF2.out).cell (i := 2) rfl)
              have q3 := cell_fut ((HB.out.fut HF2.out).cell (i := 3) rfl)
              have k1 := cell_fut ((HD.out.fut HF2.out).cell (i := 1) rfl)
              obtain ⟨bb, hbb⟩ : ∃ bb, validD (grE ins rs) (toDT y) t = bb := ⟨_, rfl⟩
              have HBB := Lib.hid hbb
              rw [hbb] at HC
              clear hy hty hd he hbb
              obtain ⟨ye, yA, yc, yk⟩ := y
              simp only [DI.e, DI.A, DI.c, DI.k] at d0 d1
              simp only [dv, DI.e, DI.A, DI.c, DI.k] at HC
              go_wp2_with fail
              cases bb with
              | true =>
                have HA := Lib.hid (show ∀ (i : Nat) d t, i < j + 1 → k[i]? = some d → xt[i]? = some t → validD (grE ins rs) (toDT d) t = true from fun i d u h1 h2 h3 => by
                  by_cases e9 : i = j
                  · subst e9
                    rw [HY.out] at h2
                    rw [HTY.out] at h3
                    obtain rfl := Option.some.inj h2
                    obtain rfl := Option.some.inj h3
                    exact HBB.out
                  · exact hall.out i d u (by omega) h2 h3)
                refine wp_region_M o_emendateref24_ValidParse_9 (by kernel_rfl) (by kernel_rfl) (by intro c a d v w h; cases d <;> exact h) ?_; unfold o_emendateref24_ValidParse_9
                iterate 10 (refine wpF_h rfl rfl (fun K hK => ?_); go_simp; refine hK _ _ ?_; clear hK K)
                (refine wpF_o rfl rfl (fun K hK => ?_); go_simp; first | (go_at_call 18; refine (HC.out _ (by show Fut _ _; repeat (first | (with_reducible assumption) | exact Fut.refl _ | exact Fut.fut _ _ _ | refine Fut.drew ?_ | refine Fut.alloc ?_ _ | refine Fut.trans ?_ (Fut.fut _ _ _) | refine Fut.trans ?_ (by assumption)))).mono ?_; rintro e w1 ⟨rfl, hb1⟩; have hf1 : Fut _ w1 := hb1; refine hK _ _ (.inr hf1) ?_; clear hK K hb1))
                (refine wpF_h rfl rfl (fun K hK => ?_); go_simp; refine hK _ _ ?_; clear hK K)
                refine wpF_nil ?_
                go_wp2_with fail
                exact ⟨⟨j + 1, by omega, by go_num, HA, HF3.out.trans (by show Fut _ _; repeat (first | (with_reducible assumption) | exact Fut.refl _ | exact Fut.fut _ _ _ | refine Fut.drew ?_ | refine Fut.alloc ?_ _ | refine Fut.trans ?_ (Fut.fut _ _ _) | refine Fut.trans ?_ (by assumption)))⟩, by simp [intOf]; omega⟩
              | false =>
                have HA := Lib.hid (show res = false from by
                  cases h9 : res with
                  | false => rfl
                  | true =>
                    have h8 := ((HGD2.out HM.out.symm).1 h9).2 j _ _ HY.out HTY.out
                    rw [HBB.out] at h8; cases h8)
                refine wp_region_M o_emendateref24_ValidParse_9 (by kernel_rfl) (by kernel_rfl) (by intro c a d v w h; cases d <;> exact h) ?_; unfold o_emendateref24_ValidParse_9
                iterate 10 (refine wpF_h rfl rfl (fun K hK => ?_); go_simp; refine hK _ _ ?_; clear hK K)
                (refine wpF_o rfl rfl (fun K hK => ?_); go_simp; first | (go_at_call 18; refine (HC.out _ (by show Fut _ _; repeat (first | (with_reducible assumption) | exact Fut.refl _ | exact Fut.fut _ _ _ | refine Fut.drew ?_ | refine Fut.alloc ?_ _ | refine Fut.trans ?_ (Fut.fut _ _ _) | refine Fut.trans ?_ (by assumption)))).mono ?_; rintro e w1 ⟨rfl, hb1⟩; have hf1 : Fut _ w1 := hb1; refine hK _ _ (.inr hf1) ?_; clear hK K hb1))
                (refine wpF_h rfl rfl (fun K hK => ?_); go_simp; refine hK _ _ ?_; clear hK K)
                refine wpF_nil ?_
                go_wp2_with fail
                go_ret
                exact ⟨by rw [HA.out]; rfl, HF.out.trans (HF2.out.trans (by show Fut _ _; repeat (first | (with_reducible assumption) | exact Fut.refl _ | exact Fut.fut _ _ _ | refine Fut.drew ?_ | refine Fut.alloc ?_ _ | refine Fut.trans ?_ (Fut.fut _ _ _) | refine Fut.trans ?_ (by assumption))))⟩
            · have HA := Lib.hid (show res = true from (HGD2.out HM.out.symm).2 ⟨by first | rfl | trivial, fun i d t h2 h3 => hall.out i d t (by
                have := (List.getElem?_eq_some_iff.1 h2).1
                rw [HM.out] at this; omega) h2 h3⟩)
              go_wp2_with fail
              go_ret
              exact ⟨by rw [HA.out]; rfl, HF.out.trans HF2.out⟩
        · have HA := Lib.hid (HBD2.out (.inr (by rw [HM.out]; exact hlen)))
          have hxx : ¬ (m : Int) = (tl : Int) := by omega
          obtain ⟨x1, x2, x3⟩ := cmpF_no hxx
          clear hxx hlen
          go_wp2_with fail
          go_ret
          exact ⟨by rw [HA.out]; rfl, HF.out.trans HFT.out⟩
      · have HA := Lib.hid (HBD2.out (.inl hr))
        obtain ⟨x1, x2, x3⟩ := cmpF_no hr
        clear hr
        go_enter Try.func18, Try.ntmps18
        go_wp2_with fail
        rw [← hwb]
        go_ret
        exact ⟨by rw [HA.out]; rfl, HF.out⟩
    · have HA := Lib.hid (show validD (grE ins rs) (.node e (k.map toDT)) r = false from by
        have := validD_out (r := r) (k := k.map toDT) (es := esN ins rs) (e := e) (by rw [esN_len, HL.out]; omega)
        rw [HEE.out] at this
        exact this)
      have hg : e < 0 ∨ (¬ e < 0 ∧ (n : Int) ≤ e) := by omega
      clear hin
      have d0 := HD.out.cell (i := 0) rfl
      have b3 := HB.out.cell (i := 3) rfl
      rw [hwb] at d0 b3
      rcases hg with h1 | ⟨h1, h2⟩
      all_goals
        go_enter Try.func18, Try.ntmps18
        go_wp2_with fail
        rw [← hwb]
        go_ret
        exact ⟨by rw [HA.out]; rfl, HF.out⟩
end Go.Proofs.Ytleapckcihcpaaa
