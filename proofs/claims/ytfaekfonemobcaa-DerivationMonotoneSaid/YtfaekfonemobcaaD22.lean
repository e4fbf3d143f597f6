/-
  The law of monotony, walked: it returns true and turns nothing that was there.
-/
import Derived.Test.YtfaekfonemobcaaD18
namespace Go.Proofs.Ytfaekfonemobcaa
open Go.RowKit Go.Deep PK
attribute [local go_sem] Oper.lit Oper.litS fut_fut fut_drew World.cell?_alloc_some
attribute [local go_sem] fut_base_drew
theorem fld_v (x y : Int) (w : World) : (Instr.field 34 (vv ⟨x, y⟩) 0).run Try.prog w = .ok (.int .i64 x) w := by kernel_rfl
attribute [local go_sem] fld_v
theorem mono_law {N : Int} {es : List EI} {root : Int} {ae : Int} {aA : Option Addr} {ac : Nat} {k0 : DI} {kr : List DI} (hs : Fair N es) (hv : validD (EEs es) (toDT (.node ae aA ac (k0 :: kr))) root = true) (hf : (val (EEs es) (toDT (.node ae aA ac (k0 :: kr)))).c < INF) :
    ∃ (q : Nat) (x : EI) (t : Int) (V : Nat → VV), ae = q ∧ es[q]? = some x ∧ x.t[0]? = some t ∧ x.t.length = kr.length + 1 ∧ (smallB N es = true ∧ Sol (EEs es) V ∧ ∀ i, (V i).s ≤ 1000) ∧
      ∀ d f, BestR N es V t d f → f = 0 ∧ ∀ A' c', validD (EEs es) (toDT (.node ae A' c' (d :: kr))) root = true ∧ cmpD (EEs es) (toDT (.node ae A' c' (d :: kr))) (toDT (.node ae aA ac (k0 :: kr))) = if eqD (toDT d) (toDT k0) = true then 0 else -1 := by
  have hvd := fair_valid hs
  obtain ⟨hsm, V, hS, hsz⟩ := hs
  have hes := EEs_ok hvd
  rw [toDT_eq] at hv hf
  obtain ⟨q, x, rfl, hx, hxr, hxl, hk⟩ := validD_parts hvd hv
  obtain ⟨t, ht⟩ : ∃ t, x.t[0]? = some t := ⟨_, List.getElem?_eq_getElem (by rw [hxl]; simp)⟩
  have ht5 := (okE_parts ((validB_parts hvd).2.2 x (List.mem_of_getElem? hx))).2.2.2.2 t (List.mem_of_getElem? ht)
  have hv0 := hk 0 k0 t rfl ht
  have hf0 : (val (EEs es) (toDT k0)).c < INF := kid_fin hes hf (by simp)
  have htn : ((t.toNat : Nat) : Int) = t := Int.toNat_of_nonneg ht5.1
  rw [← htn] at hv0
  refine ⟨q, x, t, V, rfl, hx, ht, by rw [hxl]; simp, ⟨hsm, hS, hsz⟩, fun d f hb => ?_⟩
  have hle := le_val hes hS hv0
  have hfin : (V t.toNat).c < INF := by unfold leV at hle; omega
  rcases hb with ⟨h, _⟩ | ⟨_, h, _⟩ | ⟨_, _, h, _⟩ | ⟨_, _, _, rfl, h⟩
  · rw [hvd] at h; cases h
  · exact absurd ht5 h
  · omega
  · obtain ⟨g1, g2⟩ := h.good hes hS hfin
    have hl := h.least hes hS hv0 hf0
    refine ⟨rfl, fun A' c' => ?_⟩
    rw [toDT_eq, toDT_eq]
    simp only [List.map_cons] at hv hf ⊢
    exact ⟨valid_first (edge_at hx) (by simp only [toEE]; rw [List.getElem?_map, ht]; rfl) hv g2, mono_first hes hv hl⟩
theorem rdS_tail {α : Type} {w : World} {b o sz : Nat} {enc : α → List Value} {x : α} {l : List α} (h : RdS w (some ⟨b, o, none⟩) sz enc (x :: l)) : RdS w (some ⟨b, o + sz, none⟩) sz enc l := by
  intro i a hi
  obtain ⟨b', o', e, hc⟩ := h (i + 1) a (by simpa using hi)
  injection e with e
  injection e with e1 e2
  subst e1 e2
  refine ⟨b, o + sz, rfl, fun j u hj hu => ?_⟩
  have := hc j u hj hu
  rwa [Nat.add_mul, Nat.one_mul, Nat.add_comm (i * sz) sz, ← Nat.add_assoc o sz] at this
theorem rdS_cut {w : World} {b o c m : Nat} {x : DI} {l : List DI} {A : Option Addr} (h : RdS w (some ⟨b, o, none⟩) 2 encD (x :: l)) (hl : l.length = m) (hc : m + 1 ≤ c) (hA : (if c = 1 then (some ⟨b, o, none⟩ : Option Addr) else some ⟨b, o + 2, none⟩) = A) : RdS w A 2 encD l := by
  subst hA
  split
  · have : l = [] := List.length_eq_zero_iff.1 (by omega)
    rw [this]; exact RdS.nil
  · exact rdS_tail h
theorem wpo_append_kids {w : World} {o : Oper} {a : Act} {K : Act → World → Prop} {Q : Exit → Act → World → Prop} (s x : Operand) (ho : o.op = .call { callee := .builtin .append, args := #[s, x], argTypes := #[25, 25] })
    (base g0 : Nat) (d : DI) (hs : a.eval s = .slice (some ⟨g0, 0, none⟩) 1 1) (hown : w.ownsRow base 27 2 (.slice (some ⟨g0, 0, none⟩) 1 1) 1 (encD d)) (A : Option Addr) (m c : Nat) (l : List DI) (hx : a.eval x = .slice A m c) (hA : ∃ b o, A = some ⟨b, o, none⟩) (hl : l.length = m) (hm : m ≤ 1000)
    (hR : RdS w A 2 encD l) (hbase : base ≤ w.heap.size)
    (h : ∀ g cap w', w'.ownsRow base 27 2 (.slice (some ⟨g, 0, none⟩) (1 + m) cap) (1 + m) ((d :: l).flatMap encD) → w.grownBy w' (some g0) → (g = g0 ∨ g = w.heap.size) → K (a.put o.dst (.slice (some ⟨g, 0, none⟩) (1 + m) cap)) w') : o.wp Try.prog a w K Q := by
  obtain ⟨b, o', rfl⟩ := hA
  obtain ⟨i, hi, hzz⟩ := Option.map_eq_some_iff.1 info_dd
  simp only [Prod.mk.injEq] at hzz
  obtain ⟨hz, hs1, hb1⟩ := hzz
  obtain ⟨v', w', hr, h2, h3, _, h5⟩ := run_append_own_at (P := Try.prog) w base 25 o.type 27 i _ 2 32 Try.underlying25 hi hz hs1 hb1 rfl (by decide) (.slice (some ⟨g0, 0, none⟩) 1 1) 1 (encD d) hown ⟨b, o', none⟩ m c (l.flatMap encD) (by rw [flat_len encD 2 encD_len, hl])
    (fun j u hu => by
      obtain ⟨i, j2, e, rfl, hj2, hi, hu2⟩ := flat_inv encD 2 encD_len l j u hu
      obtain ⟨b', o2, hA, hc⟩ := hR i e hi
      injection hA with hA
      injection hA with e1 e2
      subst e1 e2
      have e3 : (⟨b, o', none⟩ : Addr).add (i * 2 + j2) = ⟨b, o' + i * 2 + j2, none⟩ := by unfold Addr.add; split <;> simp_all [Nat.add_assoc]
      rw [e3]
      exact hc j2 u hj2 hu2)
    (fun u hu => by
      obtain ⟨e, _, he⟩ := List.mem_flatMap.1 hu
      simp only [encD, List.mem_cons, List.not_mem_nil, or_false] at he
      rcases he with rfl | rfl <;> rfl) (by unfold maxLen; omega) (by omega) hbase
  obtain ⟨g, cap, rfl, _, _⟩ := h2.form (by omega)
  unfold Oper.wp execOp
  simp only [ho, resolve, invoke, builtin, Sem.run_bind, Sem.run_pure, Result.andThen_ok, List.map_toArray, List.map_cons, List.map_nil, hs, hx, hr]
  refine h g cap w' (by simpa using h2) h3 ?_
  rcases h5 with h5 | h5
  · exact .inl (Option.some.inj h5)
  · exact .inr (Option.some.inj h5)
theorem one_own {w : World} {b base : Nat} {d : DI} (h : Blk w b 27 (encD d).toArray) (hb : base ≤ b) : w.ownsRow base 27 2 (.slice (some ⟨b, 0, none⟩) 1 1) 1 (encD d) :=
  ⟨rfl, .inr ⟨b, 1, _, rfl, hb, h, Nat.le_refl _, by decide, rfl, rfl⟩⟩
theorem fut_of_drew {a b : World} (h : Fut a b) : Fut a.drew b := ⟨h.os, h.tape, h.output, h.size, h.block⟩
theorem futS_own {S : Nat → Bool} {w w' : World} {g : Nat} (hg : w.grownBy w' (some g)) (hS : S g = true) : FutS S w w' := FutS.grownS hg (fun k hk => by rw [← Option.some.inj hk]; exact hS)
set_option maxHeartbeats 12800000 in
theorem law_dmono (N : Int) (A : Option Addr) (n c : Nat) (es : List EI) (root : Int) (a b d : DI) (w : World) (hl : es.length = n) (hn : n ≤ maxLen) (hR : RdE w A es) (ha : RdD w a) (hb : RdD w b) (hd : RdD w d) (hca : a.k.length ≤ a.c) (hcm : a.c ≤ maxLen) :
    Calls Try.prog 8 #[xv N A n c root a b d] w fun e w' => e = .returned (.bool true) ∧ Below w.heap.size w w' := by
  have HFA := Lib.hid (fun w' (hf : Fut w w') => fair_any N A n c es root a b d w' hl hn (hR.fut hf) (ha.fut hf) (hb.fut hf) (hd.fut hf))
  have HVA := Lib.hid (fun (hs : Fair N es) w' (hf : Fut w w') => rdvalid_any N A n c es hl hn (fair_valid hs) a root w' (hR.fut hf) (ha.fut hf))
  have HRW := Lib.hid (fun (hs : Fair N es) hv w' (hf : Fut w w') => rdvalue_any N A n c es hl hn (fair_valid hs) (fair_tl hs) a root w' hv (hR.fut hf) (ha.fut hf))
  have HBE0 := Lib.hid (fun (V : Nat → VV) hSV t w' (hf : Fut w w') => best_any N A n c es hl hn V hSV t w' (hR.fut hf))
  have HVX := Lib.hid (fun (hs : Fair N es) d w' (hf : Fut w w') hd => rdvalid_any N A n c es hl hn (fair_valid hs) d root w' (hR.fut hf) hd)
  have HCX := Lib.hid (fun (hs : Fair N es) d hvx hva w' (hf : Fut w w') hd => dcmp_any N A n c es hl hn (fair_valid hs) (fair_tl hs) d a root w' hvx hva (hR.fut hf) hd (ha.fut hf))
  have HRA := Lib.hid ha
  have HR := Lib.hid hR
  have HL := Lib.hid hl
  have hn63 : n ≤ 9223372036854775807 := hn
  clear hl hn hR ha hb hd
  obtain ⟨ae, aA, ac, ak⟩ := a
  obtain ⟨be, bA, bc, bk⟩ := b
  obtain ⟨de, dA, dc, dk⟩ := d
  have hac63 : ac ≤ 9223372036854775807 := hcm
  simp only [DI.k, DI.c] at hca
  obtain ⟨am, ham⟩ : ∃ am, ak.length = am := ⟨_, rfl⟩
  have HAM := Lib.hid ham
  obtain ⟨oa, hoa⟩ : ∃ oa, validD (EEs es) (toDT (.node ae aA ac ak)) root = oa := ⟨_, rfl⟩
  have HOA := Lib.hid hoa
  obtain ⟨va, hva⟩ : ∃ va, val (EEs es) (toDT (.node ae aA ac ak)) = va := ⟨_, rfl⟩
  have HVV := Lib.hid hva
  rw [hoa] at HVA HRW
  rw [hva] at HRW
  rw [ham] at hca
  obtain ⟨v1, v2⟩ := va
  simp only [xv, dv, DI.e, DI.A, DI.c, DI.k, ham] at HFA HVA HRW ⊢
  clear ham hoa hva hcm
  generalize bk.length = bm at *
  generalize dk.length = dm at *
  obtain ⟨wb, hwb⟩ : ∃ wb, wb = w.alloc (.cells #[.int .i64 N, .slice A n c, .int .i64 root, .int .i64 ae, .slice aA am ac, .int .i64 be, .slice bA bm bc, .int .i64 de, .slice dA dm dc] 29) := ⟨_, rfl⟩
  have HF := Lib.hid (show Fut w wb from by rw [hwb]; exact (Fut.refl w).alloc _)
  have HB := Lib.hid (show Blk wb w.heap.size 29 #[.int .i64 N, .slice A n c, .int .i64 root, .int .i64 ae, .slice aA am ac, .int .i64 be, .slice bA bm bc, .int .i64 de, .slice dA dm dc] from by rw [hwb]; exact heap_new' _ _ _ rfl)
  go_enter Try.func8, Try.ntmps8
  go_wp2_with fail
  rw [← hwb]
  clear hwb
  refine (awake_any _).mono ?_
  rintro r w1 ⟨rfl, hb⟩
  have HF1 := Lib.hid (show Fut wb w1 from hb)
  clear hb
  have q0 := (HB.out.fut HF1.out).cell (i := 0) rfl
  have q1 := (HB.out.fut HF1.out).cell (i := 1) rfl
  have q2 := (HB.out.fut HF1.out).cell (i := 2) rfl
  have q3 := (HB.out.fut HF1.out).cell (i := 3) rfl
  have q4 := (HB.out.fut HF1.out).cell (i := 4) rfl
  have q5 := (HB.out.fut HF1.out).cell (i := 5) rfl
  have q6 := (HB.out.fut HF1.out).cell (i := 6) rfl
  have q7 := (HB.out.fut HF1.out).cell (i := 7) rfl
  have q8 := (HB.out.fut HF1.out).cell (i := 8) rfl
  go_wp2_with fail
  refine (HFA.out _ (HF.out.trans HF1.out)).mono ?_
  rintro r w2 ⟨⟨q, rfl, hq⟩, hb⟩
  have HF2 := Lib.hid (HF1.out.trans (show Fut w1 w2 from hb))
  have HQ := Lib.hid hq
  clear hb hq q0 q1 q2 q3 q4 q5 q6 q7 q8
  cases q with
  | false =>
    go_wp2_with fail
    go_ret
    exact ⟨rfl, HF.out.trans HF2.out⟩
  | true =>
    have hs := Lib.hid (HQ.out (by first | rfl | trivial))
    have q0 := (HB.out.fut HF2.out).cell (i := 0) rfl
    have q1 := (HB.out.fut HF2.out).cell (i := 1) rfl
    have q2 := (HB.out.fut HF2.out).cell (i := 2) rfl
    have q3 := (HB.out.fut HF2.out).cell (i := 3) rfl
    have q4 := (HB.out.fut HF2.out).cell (i := 4) rfl
    go_wp2_with fail
    refine (HVA.out hs.out _ (HF.out.trans HF2.out)).mono ?_
    rintro r w3 ⟨rfl, hb⟩
    have HF3 := Lib.hid (HF2.out.trans (show Fut w2 w3 from hb))
    clear hb q0 q1 q2 q3 q4
    cases oa with
    | false =>
      go_wp2_with fail
      go_ret
      exact ⟨rfl, HF.out.trans HF3.out⟩
    | true =>
      by_cases ham0 : am = 0
      · subst ham0
        have q4 := (HB.out.fut HF3.out).cell (i := 4) rfl
        go_wp2_with fail
        go_ret
        exact ⟨rfl, HF.out.trans HF3.out⟩
      · obtain ⟨m, rfl⟩ : ∃ m, am = m + 1 := ⟨am - 1, by omega⟩
        clear ham0
        have q0 := (HB.out.fut HF3.out).cell (i := 0) rfl
        have q1 := (HB.out.fut HF3.out).cell (i := 1) rfl
        have q3 := (HB.out.fut HF3.out).cell (i := 3) rfl
        have q4 := (HB.out.fut HF3.out).cell (i := 4) rfl
        have hm0 : ¬ ((m : Int) + 1 = 0) := by omega
        obtain ⟨x1, x2, x3⟩ := cmpF_no hm0
        clear hm0
        go_wp2_with fail
        refine (HRW.out hs.out (by first | rfl | trivial) _ (HF.out.trans HF3.out)).mono ?_
        rintro r w4 ⟨rfl, hb⟩
        have HF4 := Lib.hid (HF3.out.trans (show Fut w3 w4 from hb))
        clear hb q0 q1 q3 q4
        by_cases hinf : (1099511627776 : Int) ≤ v1
        · go_wp2_with fail
          go_ret
          exact ⟨rfl, HF.out.trans HF4.out⟩
        · have HLT := Lib.hid (show v1 < INF by unfold INF; omega)
          obtain ⟨k0, kr, rfl⟩ : ∃ k0 kr, ak = k0 :: kr := by
            cases ak with
            | nil => have := HAM.out; simp at this
            | cons k0 kr => exact ⟨k0, kr, rfl⟩
          have HKR := Lib.hid (show kr.length = m from by have := HAM.out; simp at this; exact this)
          obtain ⟨q, x, t, V, rfl, hx, ht, hxl, hSV, hpl⟩ := mono_law hs.out HOA.out (by rw [HVV.out]; exact HLT.out)
          have HPL := Lib.hid hpl
          have HBE := Lib.hid (HBE0.out V (fun _ => hSV))
          have hm4 : m + 1 ≤ 4 := by
            have := (smallB_parts hs.out.1).2.2.1 x (List.mem_of_getElem? hx)
            rw [hxl, HKR.out] at this; exact this
          obtain ⟨hS, _, hK⟩ := HRA.out.parts
          obtain ⟨ab, ao, rfl, hk0⟩ := hS 0 k0 rfl
          have HS := Lib.hid hS
          have HKD := Lib.hid hK
          have HK0 := Lib.hid (hK k0 (by simp))
          have D0 := Lib.hid (hk0 0 _ (by decide) rfl)
          have D1 := Lib.hid (hk0 1 _ (by decide) rfl)
          have hq : q < n := by
            have := (List.getElem?_eq_some_iff.1 hx).1
            rw [HL.out] at this; exact this
          obtain ⟨b, o, rfl, hc⟩ := HR.out.1 q x hx
          obtain ⟨htr, _⟩ := HR.out.2 x (List.mem_of_getElem? hx)
          have C1 := Lib.hid (hc 1 _ (by decide) rfl)
          obtain ⟨xh, xt, xc, xl0, xl1, xA, xk⟩ := x
          obtain ⟨b2, o2, hxA, he⟩ := htr 0 t ht
          simp only at C1 hxl hxA
          subst hxA
          rw [hxl, HKR.out] at C1
          have E0 := Lib.hid he
          simp only [Nat.add_zero, Nat.zero_mul] at E0 D0 D1
          clear hx ht hxl hSV hpl hS hK hk0 hc htr he HBE0
          have HW4 := Lib.hid (HF.out.trans HF4.out)
          obtain ⟨S, hS⟩ : ∃ S : Nat → Bool, S = fun k => decide (w4.heap.size ≤ k) := ⟨_, rfl⟩
          have hlow : ∀ q, q < w4.heap.size → S q = false := fun q hq => by rw [hS]; exact decide_eq_false (by omega)
          have HHI := Lib.hid (show ∀ q, w4.heap.size ≤ q → S q = true from fun q hq => by rw [hS]; exact decide_eq_true hq)
          clear hS
          have QQ := HB.out.fut HF4.out
          have g0 := cell_futS (QQ.cell (i := 0) rfl) (hlow _ (World.block_lt_of_cell? _ _ (QQ.cell (i := 0) rfl)))
          have g1 := cell_futS (QQ.cell (i := 1) rfl) (hlow _ (World.block_lt_of_cell? _ _ (QQ.cell (i := 1) rfl)))
          have g3 := cell_futS (QQ.cell (i := 3) rfl) (hlow _ (World.block_lt_of_cell? _ _ (QQ.cell (i := 3) rfl)))
          have x3 := cell_futS (HW4.out.cell C1.out) (hlow _ (World.block_lt_of_cell? _ _ (HW4.out.cell C1.out)))
          have x4 := cell_futS (HW4.out.cell E0.out) (hlow _ (World.block_lt_of_cell? _ _ (HW4.out.cell E0.out)))
          clear hlow QQ
          go_wp2_with fail
          refine wp_region_MG (relS S) o_emendatelaw30_DerivationMonotone_5 (by kernel_rfl) (by kernel_rfl) (by intro c a d v w h; cases d <;> exact h) ?_; unfold o_emendatelaw30_DerivationMonotone_5
          iterate 13 (refine wpS_h rfl rfl (fun K hK => ?_); go_simp; refine hK _ _ ?_; clear hK K)
          refine wpG_two' rfl rfl (fun K hK => ?_) (fun K hK => ?_)
          · go_simp
            go_at_call 21
            refine (HBE.out t _ (HW4.out.trans (by show Fut _ _; repeat (first | (with_reducible assumption) | exact Fut.refl _ | exact Fut.fut _ _ _ | refine Fut.drew ?_ | refine Fut.alloc ?_ _ | refine Fut.trans ?_ (Fut.fut _ _ _) | refine Fut.trans ?_ (by assumption))))).mono ?_
            rintro r wc ⟨⟨⟨ke, kA, kc, kk⟩, f, rfl, hrd, hbr⟩, hb⟩
            have hwc : Fut w4.drew wc := hb
            refine hK _ _ (.inr ((relS S).of_fut hwc)) ?_
            clear hK K
            have HWC := Lib.hid (show Fut w4 wc from (Fut.refl w4).drew.trans hwc)
            have hsz : w4.heap.size ≤ wc.heap.size := hwc.size
            have HBK := Lib.hid hbr
            simp only [dv, DI.e, DI.A, DI.c, DI.k]
            obtain ⟨kn, hkn⟩ : ∃ kn, kk.length = kn := ⟨_, rfl⟩
            rw [hkn]
            have HKN := Lib.hid hkn
            have HRW := Lib.hid (hrd.keep (ok' := fun b => w4.heap.size ≤ b ∧ b < wc.heap.size) (w' := wc) (fun b hb hlt => ⟨rfl, hb, hlt⟩))
            clear hb hrd hbr hwc hkn
            iterate 3 (refine wpS_h rfl rfl (fun K hK => ?_); go_simp; refine hK _ _ ?_; clear hK K)
            refine wpG_o rfl rfl (fun K hK => ?_)
            go_simp
            refine hK _ _ (.inr ((relS S).of_fut ((Fut.refl _).alloc _))) ?_
            clear hK K
            have BK0 : Blk (wc.alloc (.cells #[.int .i64 0, .slice none 0 0] 27)) wc.heap.size 27 #[.int .i64 0, .slice none 0 0] := heap_new' _ _ _ rfl
            have HWD := Lib.hid ((Fut.refl wc).alloc (.cells #[.int .i64 0, .slice none 0 0] 27))
            refine wpG_o rfl rfl (fun K hK => ?_)
            generalize wc.alloc (.cells #[.int .i64 0, .slice none 0 0] 27) = wd at *
            have z0 := BK0.cell (i := 0) rfl
            have z1 := BK0.cell (i := 1) rfl
            have z2 := BK0.fz 0
            have z3 := BK0.fz 1
            go_simp
            refine hK _ _ (.inr ((relS S).trans (futS_set _ _ _ (HHI.out _ hsz)) (futS_set _ _ _ (HHI.out _ hsz)))) ?_
            clear hK K z0 z1 z2 z3
            (refine wpS_h rfl rfl (fun K hK => ?_); go_simp; refine hK _ _ ?_; clear hK K)
            refine wpG_nil ?_
            have BK := Lib.hid ((BK0.set 0 (.int .i64 ke)).set 1 (.slice kA kn kc))
            have HGK := Lib.hid (show Fut w4 ((wd.setCell ⟨wc.heap.size, 0, none⟩ (.int .i64 ke)).setCell ⟨wc.heap.size, 1, none⟩ (.slice kA kn kc)) from ((HWC.out.trans HWD.out).setCell (p := ⟨wc.heap.size, 0, none⟩) (HWC.out.size) _).setCell (p := ⟨wc.heap.size, 1, none⟩) (HWC.out.size) _)
            have HK := Lib.hid ((HRW.out.keep (ok' := fun _ => True) (w' := (wd.setCell ⟨wc.heap.size, 0, none⟩ (.int .i64 ke)).setCell ⟨wc.heap.size, 1, none⟩ (.slice kA kn kc)) (fun b hb hlt => ⟨(blk_setCell_other _ _ _ _ (by simp only; omega)).trans ((blk_setCell_other _ _ _ _ (by simp only; omega)).trans (HWD.out.block b hlt)), trivial⟩)).rd)
            generalize (wd.setCell ⟨wc.heap.size, 0, none⟩ (.int .i64 ke)).setCell ⟨wc.heap.size, 1, none⟩ (.slice kA kn kc) = wk at *
            generalize wc.heap.size = kb at *
            clear BK0 HRW HWD
            obtain ⟨rfl, hpk⟩ := HPL.out _ _ HBK.out
            have HPK := Lib.hid hpk
            clear hpk g0 g1 g3 x3 x4
            go_wp2_with fail
            obtain ⟨T, hT⟩ : ∃ T : Nat → Bool, T = fun k => decide (wk.heap.size ≤ k) := ⟨_, rfl⟩
            have hlow : ∀ q, q < wk.heap.size → T q = false := fun q hq => by rw [hT]; exact decide_eq_false (by omega)
            have HTI := Lib.hid (show ∀ q, wk.heap.size ≤ q → T q = true from fun q hq => by rw [hT]; exact decide_eq_true hq)
            clear hT
            have QQ := HB.out.fut (HF4.out.trans HGK.out)
            have g3 := cell_futS (QQ.cell (i := 3) rfl) (hlow _ (World.block_lt_of_cell? _ _ (QQ.cell (i := 3) rfl)))
            have g4 := cell_futS (QQ.cell (i := 4) rfl) (hlow _ (World.block_lt_of_cell? _ _ (QQ.cell (i := 4) rfl)))
            have k0 := cell_futS (BK.out.cell (i := 0) rfl) (hlow _ (World.block_lt_of_cell? _ _ (BK.out.cell (i := 0) rfl)))
            have k1 := cell_futS (BK.out.cell (i := 1) rfl) (hlow _ (World.block_lt_of_cell? _ _ (BK.out.cell (i := 1) rfl)))
            clear hlow QQ
            obtain ⟨A3, hA3⟩ : ∃ A3, (if ac = 1 then (some ⟨ab, ao, none⟩ : Option Addr) else some ⟨ab, ao + 2, none⟩) = A3 := ⟨_, rfl⟩
            have HA3 := Lib.hid hA3
            have gle : ((1 : Int) ≤ (m : Int) + 1) = True := eq_true (by omega)
            refine wp_region_MG (relS T) o_emendatelaw30_DerivationMonotone_8 (by kernel_rfl) (by kernel_rfl) (by intro c a d v w h; cases d <;> exact h) ?_; unfold o_emendatelaw30_DerivationMonotone_8
            iterate 8 (refine wpS_h rfl rfl (fun K hK => ?_); go_simp; refine hK _ _ ?_; clear hK K)
            have hA3x : ∃ b o, A3 = some ⟨b, o, none⟩ := by
              rw [← HA3.out]
              split
              · exact ⟨_, _, rfl⟩
              · exact ⟨_, _, rfl⟩
            have HXA := Lib.hid hA3x
            have HKS := Lib.hid (rdS_cut (HS.out.fut (HW4.out.trans HGK.out)) HKR.out hca HA3.out)
            have HEN := Lib.hid (show encD (.node ke kA kc kk) = [.int .i64 ke, .slice kA kn kc] from by simp only [encD, DI.e, DI.A, DI.c, DI.k, HKN.out])
            clear hA3x
            refine wpG_two' rfl rfl (fun K hK => ?_) (fun K hK => ?_)
            · go_simp
              refine hK _ _ (.inr ((relS T).of_fut ((Fut.refl _).alloc _))) ?_
              clear hK K
              have BY : Blk ((wk.alloc (.cells #[.int .i64 ke, .slice kA kn kc] 27)).drew) wk.heap.size 27 #[.int .i64 ke, .slice kA kn kc] := heap_new' _ _ _ rfl
              have hs1 : ((wk.alloc (.cells #[.int .i64 ke, .slice kA kn kc] 27)).drew).heap.size = wk.heap.size + 1 := (World.size_drew _).trans (World.size_alloc _ _)
              have HF1 := Lib.hid (show Fut wk ((wk.alloc (.cells #[.int .i64 ke, .slice kA kn kc] 27)).drew) from ((Fut.refl wk).alloc _).drew)
              generalize ((wk.alloc (.cells #[.int .i64 ke, .slice kA kn kc] 27)).drew) = p1 at *
              refine wpG_two' rfl rfl (fun K hK => ?_) (fun K hK => ?_)
              · refine wpo_append_kids (.tmp 61) (.tmp 65) rfl wk.heap.size wk.heap.size (.node ke kA kc kk) rfl (one_own (show Blk p1 _ 27 (encD (.node ke kA kc kk)).toArray from by rw [HEN.out]; exact BY) (by omega)) A3 m (ac - 1) kr rfl HXA.out HKR.out (by omega) (HKS.out.fut HF1.out) (by omega) ?_
                intro g cap p9 h1 h2 h3
                refine hK _ _ (.inr (futS_own h2 (HTI.out _ (Nat.le_refl _)))) ?_
                clear hK K
                have HF9 := Lib.hid ((FutS.grownS (S := fun k => decide (wk.heap.size ≤ k)) h2 (fun k hk => by rw [← Option.some.inj hk]; exact decide_eq_true (Nat.le_refl _))).fut HF1.out (fun k hk => of_decide_eq_true hk))
                have hs9 : p1.heap.size ≤ p9.heap.size := h2.size
                (refine wpS_h rfl rfl (fun K hK => ?_); go_simp; refine hK _ _ ?_; clear hK K)
                refine wpG_o rfl rfl (fun K hK => ?_)
                go_simp
                refine hK _ _ (.inr ((relS T).of_fut ((Fut.refl _).alloc _))) ?_
                clear hK K
                have BZ : Blk (p9.alloc (.cells #[.int .i64 0, .slice none 0 0] 27)) p9.heap.size 27 #[.int .i64 0, .slice none 0 0] := heap_new' _ _ _ rfl
                have HFZ := Lib.hid (HF9.out.alloc (.cells #[.int .i64 0, .slice none 0 0] 27))
                have hg9 : g < p9.heap.size := (World.ownsRow.lt h1 g rfl).2
                replace h1 := own_keep (w' := p9.alloc (.cells #[.int .i64 0, .slice none 0 0] 27)) h1 (fun k hk => by
                  have h9 : (some g : Option Nat) = some k := hk
                  obtain rfl := Option.some.inj h9
                  exact ((Fut.refl p9).alloc _).block _ hg9)
                generalize p9.alloc (.cells #[.int .i64 0, .slice none 0 0] 27) = p3 at *
                refine wpG_o rfl rfl (fun K hK => ?_)
                have z0 := BZ.cell (i := 0) rfl
                have z1 := BZ.cell (i := 1) rfl
                have z2 := BZ.fz 0
                have z3 := BZ.fz 1
                go_simp
                have hbz : wk.heap.size ≤ p9.heap.size := by omega
                refine hK _ _ (.inr ((relS T).trans (futS_set _ _ _ (HTI.out _ hbz)) (futS_set _ _ _ (HTI.out _ hbz)))) ?_
                clear hK K z0 z1 z2 z3
                refine wpG_nil ?_
                have BB := Lib.hid ((BZ.set 0 (.int .i64 q)).set 1 (.slice (some ⟨g, 0, none⟩) (1 + m) cap))
                have HGZ := Lib.hid (show Fut wk ((p3.setCell ⟨p9.heap.size, 0, none⟩ (.int .i64 q)).setCell ⟨p9.heap.size, 1, none⟩ (.slice (some ⟨g, 0, none⟩) (1 + m) cap)) from (HFZ.out.setCell (p := ⟨p9.heap.size, 0, none⟩) (by first | omega | (simp only; omega)) _).setCell (p := ⟨p9.heap.size, 1, none⟩) (by first | omega | (simp only; omega)) _)
                have hrow := own_keep (w' := (p3.setCell ⟨p9.heap.size, 0, none⟩ (.int .i64 q)).setCell ⟨p9.heap.size, 1, none⟩ (.slice (some ⟨g, 0, none⟩) (1 + m) cap)) h1 (fun k hk => by
                  have h9 : (some g : Option Nat) = some k := hk
                  obtain rfl := Option.some.inj h9
                  exact (blk_setCell_other _ _ _ _ (by first | omega | (simp only; omega))).trans (blk_setCell_other _ _ _ _ (by first | omega | (simp only; omega))))
                have HBX := Lib.hid (show RdD ((p3.setCell ⟨p9.heap.size, 0, none⟩ (.int .i64 q)).setCell ⟨p9.heap.size, 1, none⟩ (.slice (some ⟨g, 0, none⟩) (1 + m) cap)) (.node q (some ⟨g, 0, none⟩) cap (.node ke kA kc kk :: kr)) from .mk (RdS.of_own (enc := encD) encD_len (by decide) hrow) (by rw [List.length_cons, HKR.out]; unfold maxLen; omega) (fun x hx => by
                  rcases List.mem_cons.1 hx with rfl | hx
                  · exact HK.out.fut HGZ.out
                  · exact (HKD.out x (List.mem_cons_of_mem _ hx)).fut (HW4.out.trans (HGK.out.trans HGZ.out))))
                generalize (p3.setCell ⟨p9.heap.size, 0, none⟩ (.int .i64 q)).setCell ⟨p9.heap.size, 1, none⟩ (.slice (some ⟨g, 0, none⟩) (1 + m) cap) = wz at *
                obtain ⟨bb, hbb⟩ : ∃ bb, p9.heap.size = bb := ⟨_, rfl⟩
                rw [hbb] at BB ⊢
                clear hrow BZ h1 h2 h3 hbb g3 g4 k0 k1
                have HLW := Lib.hid (HW4.out.trans (HGK.out.trans HGZ.out))
                have HFW := Lib.hid (HF4.out.trans (HGK.out.trans HGZ.out))
                have HPA := Lib.hid (HPK.out (some ⟨g, 0, none⟩) cap)
                have hlen : (DI.node ke kA kc kk :: kr).length = 1 + m := by rw [List.length_cons, HKR.out]; omega
                have HE := Lib.hid (fun w' (hf : Fut wz w') => equal_any (.node ke kA kc kk) k0 w' (HK.out.fut (HGZ.out.trans hf)) (HK0.out.fut (HLW.out.trans hf)))
                have HV9 := Lib.hid (fun w' (hf : Fut wz w') => HVX.out hs.out (.node q (some ⟨g, 0, none⟩) cap (.node ke kA kc kk :: kr)) w' (HLW.out.trans hf) (HBX.out.fut hf))
                have HC9 := Lib.hid (fun w' (hf : Fut wz w') => HCX.out hs.out (.node q (some ⟨g, 0, none⟩) cap (.node ke kA kc kk :: kr)) HPA.out.1 HOA.out w' (HLW.out.trans hf) (HBX.out.fut hf))
                rw [HPA.out.1] at HV9
                rw [HPA.out.2] at HC9
                generalize eqD (toDT (.node ke kA kc kk)) (toDT k0) = eb at HE HC9
                obtain ⟨k0e, k0A, k0c, k0k⟩ := k0
                simp only [DI.e, DI.A, DI.c, DI.k] at D0 D1
                simp only [dv, DI.e, DI.A, DI.c, DI.k, hlen, HKN.out] at HE HV9
                simp only [dv, DI.e, DI.A, DI.c, DI.k, hlen, HAM.out] at HC9
                clear hlen HPA
                have y0 := cell_fut ((BK.out.fut HGZ.out).cell (i := 0) rfl)
                have y1 := cell_fut ((BK.out.fut HGZ.out).cell (i := 1) rfl)
                have y4 := cell_fut ((HB.out.fut HFW.out).cell (i := 4) rfl)
                have d0 := cell_fut (HLW.out.cell D0.out)
                have d1 := cell_fut (HLW.out.cell D1.out)
                go_wp2_with fail
                cases eb with
                | true =>
                  refine wp_region_M o_emendatelaw30_DerivationMonotone_10 (by kernel_rfl) (by kernel_rfl) (by intro c a d v w h; cases d <;> exact h) ?_; unfold o_emendatelaw30_DerivationMonotone_10
                  iterate 6 (refine wpF_h rfl rfl (fun K hK => ?_); go_simp; refine hK _ _ ?_; clear hK K)
                  (refine wpF_o rfl rfl (fun K hK => ?_); go_simp; first | (go_at_call 18; refine (HE.out _ (by show Fut _ _; repeat (first | (with_reducible assumption) | exact Fut.refl _ | exact Fut.fut _ _ _ | refine Fut.drew ?_ | refine Fut.alloc ?_ _ | refine Fut.trans ?_ (Fut.fut _ _ _) | refine Fut.trans ?_ (by assumption)))).mono ?_; rintro e w1 ⟨rfl, hb1⟩; have hf1 : Fut _ w1 := hb1; refine hK _ _ (.inr hf1) ?_; clear hK K hb1))
                  (refine wpF_h rfl rfl (fun K hK => ?_); go_simp; refine hK _ _ ?_; clear hK K)
                  refine wpF_nil ?_
                  have HFE := Lib.hid (show Fut wz w1 from (by show Fut _ _; repeat (first | (with_reducible assumption) | exact Fut.refl _ | exact Fut.fut _ _ _ | refine Fut.drew ?_ | refine Fut.alloc ?_ _ | refine Fut.trans ?_ (Fut.fut _ _ _) | refine Fut.trans ?_ (by assumption))))
                  clear y0 y1 y4 d0 d1
                  have y0 := (BB.out.fut HFE.out).cell (i := 0) rfl
                  have y1 := (BB.out.fut HFE.out).cell (i := 1) rfl
                  have q0 := (HB.out.fut (HFW.out.trans HFE.out)).cell (i := 0) rfl
                  have q1 := (HB.out.fut (HFW.out.trans HFE.out)).cell (i := 1) rfl
                  have q2 := (HB.out.fut (HFW.out.trans HFE.out)).cell (i := 2) rfl
                  go_wp2_with fail
                  refine (HV9.out _ HFE.out).mono ?_
                  rintro r u1 ⟨rfl, hb⟩
                  have HU1 := Lib.hid (HFE.out.trans (show Fut _ u1 from hb))
                  clear hb y0 y1 q0 q1 q2
                  have y0 := (BB.out.fut HU1.out).cell (i := 0) rfl
                  have y1 := (BB.out.fut HU1.out).cell (i := 1) rfl
                  have q0 := (HB.out.fut (HFW.out.trans HU1.out)).cell (i := 0) rfl
                  have q1 := (HB.out.fut (HFW.out.trans HU1.out)).cell (i := 1) rfl
                  have q3 := (HB.out.fut (HFW.out.trans HU1.out)).cell (i := 3) rfl
                  have q4 := (HB.out.fut (HFW.out.trans HU1.out)).cell (i := 4) rfl
                  go_wp2_with fail
                  refine (HC9.out _ HU1.out).mono ?_
                  rintro r u2 ⟨rfl, hb⟩
                  have HU2 := Lib.hid (HU1.out.trans (show Fut _ u2 from hb))
                  clear hb y0 y1 q0 q1 q3 q4
                  go_wp2_with fail
                  go_ret
                  exact ⟨rfl, HLW.out.trans HU2.out⟩
                | false =>
                  refine wp_region_M o_emendatelaw30_DerivationMonotone_10 (by kernel_rfl) (by kernel_rfl) (by intro c a d v w h; cases d <;> exact h) ?_; unfold o_emendatelaw30_DerivationMonotone_10
                  iterate 6 (refine wpF_h rfl rfl (fun K hK => ?_); go_simp; refine hK _ _ ?_; clear hK K)
                  (refine wpF_o rfl rfl (fun K hK => ?_); go_simp; first | (go_at_call 18; refine (HE.out _ (by show Fut _ _; repeat (first | (with_reducible assumption) | exact Fut.refl _ | exact Fut.fut _ _ _ | refine Fut.drew ?_ | refine Fut.alloc ?_ _ | refine Fut.trans ?_ (Fut.fut _ _ _) | refine Fut.trans ?_ (by assumption)))).mono ?_; rintro e w1 ⟨rfl, hb1⟩; have hf1 : Fut _ w1 := hb1; refine hK _ _ (.inr hf1) ?_; clear hK K hb1))
                  (refine wpF_h rfl rfl (fun K hK => ?_); go_simp; refine hK _ _ ?_; clear hK K)
                  refine wpF_nil ?_
                  have HFE := Lib.hid (show Fut wz w1 from (by show Fut _ _; repeat (first | (with_reducible assumption) | exact Fut.refl _ | exact Fut.fut _ _ _ | refine Fut.drew ?_ | refine Fut.alloc ?_ _ | refine Fut.trans ?_ (Fut.fut _ _ _) | refine Fut.trans ?_ (by assumption))))
                  clear y0 y1 y4 d0 d1
                  have y0 := (BB.out.fut HFE.out).cell (i := 0) rfl
                  have y1 := (BB.out.fut HFE.out).cell (i := 1) rfl
                  have q0 := (HB.out.fut (HFW.out.trans HFE.out)).cell (i := 0) rfl
                  have q1 := (HB.out.fut (HFW.out.trans HFE.out)).cell (i := 1) rfl
                  have q2 := (HB.out.fut (HFW.out.trans HFE.out)).cell (i := 2) rfl
                  go_wp2_with fail
                  refine (HV9.out _ HFE.out).mono ?_
                  rintro r u1 ⟨rfl, hb⟩
                  have HU1 := Lib.hid (HFE.out.trans (show Fut _ u1 from hb))
                  clear hb y0 y1 q0 q1 q2
                  have y0 := (BB.out.fut HU1.out).cell (i := 0) rfl
                  have y1 := (BB.out.fut HU1.out).cell (i := 1) rfl
                  have q0 := (HB.out.fut (HFW.out.trans HU1.out)).cell (i := 0) rfl
                  have q1 := (HB.out.fut (HFW.out.trans HU1.out)).cell (i := 1) rfl
                  have q3 := (HB.out.fut (HFW.out.trans HU1.out)).cell (i := 3) rfl
                  have q4 := (HB.out.fut (HFW.out.trans HU1.out)).cell (i := 4) rfl
                  go_wp2_with fail
                  refine (HC9.out _ HU1.out).mono ?_
                  rintro r u2 ⟨rfl, hb⟩
                  have HU2 := Lib.hid (HU1.out.trans (show Fut _ u2 from hb))
                  clear hb y0 y1 q0 q1 q3 q4
                  go_wp2_with fail
                  go_ret
                  exact ⟨rfl, HLW.out.trans HU2.out⟩
              · go_simp
                refine hK _ _ (.inr ((relS T).of_fut ((Fut.refl _).alloc _))) ?_
                clear hK K
                have BZ0 : Blk (p1.alloc (.cells #[.int .i64 0, .slice none 0 0] 27)) (wk.heap.size + 1) 27 #[.int .i64 0, .slice none 0 0] := heap_new' _ _ _ hs1.symm
                have BY2 := BY.alloc (.cells #[.int .i64 0, .slice none 0 0] 27)
                have HF2 := Lib.hid (HF1.out.alloc (.cells #[.int .i64 0, .slice none 0 0] 27))
                have hs2 : (p1.alloc (.cells #[.int .i64 0, .slice none 0 0] 27)).heap.size = p1.heap.size + 1 := World.size_alloc _ _
                clear BY
                have BY := BY2
                clear BY2
                generalize p1.alloc (.cells #[.int .i64 0, .slice none 0 0] 27) = p2 at *
                refine wpG_o rfl rfl (fun K hK => ?_)
                refine wpo_append_kids (.tmp 61) (.tmp 65) rfl wk.heap.size wk.heap.size (.node ke kA kc kk) rfl (one_own (show Blk p2 _ 27 (encD (.node ke kA kc kk)).toArray from by rw [HEN.out]; exact BY) (by omega)) A3 m (ac - 1) kr rfl HXA.out HKR.out (by omega) (HKS.out.fut HF2.out) (by omega) ?_
                intro g cap p9 h1 h2 h3
                refine hK _ _ (.inr (futS_own h2 (HTI.out _ (Nat.le_refl _)))) ?_
                clear hK K
                have HFZ := Lib.hid ((FutS.grownS (S := fun k => decide (wk.heap.size ≤ k)) h2 (fun k hk => by rw [← Option.some.inj hk]; exact decide_eq_true (Nat.le_refl _))).fut HF2.out (fun k hk => of_decide_eq_true hk))
                have BZ := BZ0.grown h2 (fun e => by have := Option.some.inj e; omega)
                clear BZ0
                (refine wpS_h rfl rfl (fun K hK => ?_); go_simp; refine hK _ _ ?_; clear hK K)
                refine wpG_o rfl rfl (fun K hK => ?_)
                have z0 := BZ.cell (i := 0) rfl
                have z1 := BZ.cell (i := 1) rfl
                have z2 := BZ.fz 0
                have z3 := BZ.fz 1
                go_simp
                have hbz : wk.heap.size ≤ (wk.heap.size + 1) := by omega
                refine hK _ _ (.inr ((relS T).trans (futS_set _ _ _ (HTI.out _ hbz)) (futS_set _ _ _ (HTI.out _ hbz)))) ?_
                clear hK K z0 z1 z2 z3
                refine wpG_nil ?_
                have BB := Lib.hid ((BZ.set 0 (.int .i64 q)).set 1 (.slice (some ⟨g, 0, none⟩) (1 + m) cap))
                have HGZ := Lib.hid (show Fut wk ((p9.setCell ⟨(wk.heap.size + 1), 0, none⟩ (.int .i64 q)).setCell ⟨(wk.heap.size + 1), 1, none⟩ (.slice (some ⟨g, 0, none⟩) (1 + m) cap)) from (HFZ.out.setCell (p := ⟨(wk.heap.size + 1), 0, none⟩) (by first | omega | (simp only; omega)) _).setCell (p := ⟨(wk.heap.size + 1), 1, none⟩) (by first | omega | (simp only; omega)) _)
                have hrow := own_keep (w' := (p9.setCell ⟨(wk.heap.size + 1), 0, none⟩ (.int .i64 q)).setCell ⟨(wk.heap.size + 1), 1, none⟩ (.slice (some ⟨g, 0, none⟩) (1 + m) cap)) h1 (fun k hk => by
                  have h9 : (some g : Option Nat) = some k := hk
                  obtain rfl := Option.some.inj h9
                  exact (blk_setCell_other _ _ _ _ (by first | omega | (simp only; omega))).trans (blk_setCell_other _ _ _ _ (by first | omega | (simp only; omega))))
                have HBX := Lib.hid (show RdD ((p9.setCell ⟨(wk.heap.size + 1), 0, none⟩ (.int .i64 q)).setCell ⟨(wk.heap.size + 1), 1, none⟩ (.slice (some ⟨g, 0, none⟩) (1 + m) cap)) (.node q (some ⟨g, 0, none⟩) cap (.node ke kA kc kk :: kr)) from .mk (RdS.of_own (enc := encD) encD_len (by decide) hrow) (by rw [List.length_cons, HKR.out]; unfold maxLen; omega) (fun x hx => by
                  rcases List.mem_cons.1 hx with rfl | hx
                  · exact HK.out.fut HGZ.out
                  · exact (HKD.out x (List.mem_cons_of_mem _ hx)).fut (HW4.out.trans (HGK.out.trans HGZ.out))))
                generalize (p9.setCell ⟨(wk.heap.size + 1), 0, none⟩ (.int .i64 q)).setCell ⟨(wk.heap.size + 1), 1, none⟩ (.slice (some ⟨g, 0, none⟩) (1 + m) cap) = wz at *
                obtain ⟨bb, hbb⟩ : ∃ bb, (wk.heap.size + 1) = bb := ⟨_, rfl⟩
                rw [hbb] at BB ⊢
                clear hrow BZ h1 h2 h3 hbb g3 g4 k0 k1
                have HLW := Lib.hid (HW4.out.trans (HGK.out.trans HGZ.out))
                have HFW := Lib.hid (HF4.out.trans (HGK.out.trans HGZ.out))
                have HPA := Lib.hid (HPK.out (some ⟨g, 0, none⟩) cap)
                have hlen : (DI.node ke kA kc kk :: kr).length = 1 + m := by rw [List.length_cons, HKR.out]; omega
                have HE := Lib.hid (fun w' (hf : Fut wz w') => equal_any (.node ke kA kc kk) k0 w' (HK.out.fut (HGZ.out.trans hf)) (HK0.out.fut (HLW.out.trans hf)))
                have HV9 := Lib.hid (fun w' (hf : Fut wz w') => HVX.out hs.out (.node q (some ⟨g, 0, none⟩) cap (.node ke kA kc kk :: kr)) w' (HLW.out.trans hf) (HBX.out.fut hf))
                have HC9 := Lib.hid (fun w' (hf : Fut wz w') => HCX.out hs.out (.node q (some ⟨g, 0, none⟩) cap (.node ke kA kc kk :: kr)) HPA.out.1 HOA.out w' (HLW.out.trans hf) (HBX.out.fut hf))
                rw [HPA.out.1] at HV9
                rw [HPA.out.2] at HC9
                generalize eqD (toDT (.node ke kA kc kk)) (toDT k0) = eb at HE HC9
                obtain ⟨k0e, k0A, k0c, k0k⟩ := k0
                simp only [DI.e, DI.A, DI.c, DI.k] at D0 D1
                simp only [dv, DI.e, DI.A, DI.c, DI.k, hlen, HKN.out] at HE HV9
                simp only [dv, DI.e, DI.A, DI.c, DI.k, hlen, HAM.out] at HC9
                clear hlen HPA
                have y0 := cell_fut ((BK.out.fut HGZ.out).cell (i := 0) rfl)
                have y1 := cell_fut ((BK.out.fut HGZ.out).cell (i := 1) rfl)
                have y4 := cell_fut ((HB.out.fut HFW.out).cell (i := 4) rfl)
                have d0 := cell_fut (HLW.out.cell D0.out)
                have d1 := cell_fut (HLW.out.cell D1.out)
                go_wp2_with fail
                cases eb with
                | true =>
                  refine wp_region_M o_emendatelaw30_DerivationMonotone_10 (by kernel_rfl) (by kernel_rfl) (by intro c a d v w h; cases d <;> exact h) ?_; unfold o_emendatelaw30_DerivationMonotone_10
                  iterate 6 (refine wpF_h rfl rfl (fun K hK => ?_); go_simp; refine hK _ _ ?_; clear hK K)
                  (refine wpF_o rfl rfl (fun K hK => ?_); go_simp; first | (go_at_call 18; refine (HE.out _ (by show Fut _ _; repeat (first | (with_reducible assumption) | exact Fut.refl _ | exact Fut.fut _ _ _ | refine Fut.drew ?_ | refine Fut.alloc ?_ _ | refine Fut.trans ?_ (Fut.fut _ _ _) | refine Fut.trans ?_ (by assumption)))).mono ?_; rintro e w1 ⟨rfl, hb1⟩; have hf1 : Fut _ w1 := hb1; refine hK _ _ (.inr hf1) ?_; clear hK K hb1))
                  (refine wpF_h rfl rfl (fun K hK => ?_); go_simp; refine hK _ _ ?_; clear hK K)
                  refine wpF_nil ?_
                  have HFE := Lib.hid (show Fut wz w1 from (by show Fut _ _; repeat (first | (with_reducible assumption) | exact Fut.refl _ | exact Fut.fut _ _ _ | refine Fut.drew ?_ | refine Fut.alloc ?_ _ | refine Fut.trans ?_ (Fut.fut _ _ _) | refine Fut.trans ?_ (by assumption))))
                  clear y0 y1 y4 d0 d1
                  have y0 := (BB.out.fut HFE.out).cell (i := 0) rfl
                  have y1 := (BB.out.fut HFE.out).cell (i := 1) rfl
                  have q0 := (HB.out.fut (HFW.out.trans HFE.out)).cell (i := 0) rfl
                  have q1 := (HB.out.fut (HFW.out.trans HFE.out)).cell (i := 1) rfl
                  have q2 := (HB.out.fut (HFW.out.trans HFE.out)).cell (i := 2) rfl
                  go_wp2_with fail
                  refine (HV9.out _ HFE.out).mono ?_
                  rintro r u1 ⟨rfl, hb⟩
                  have HU1 := Lib.hid (HFE.out.trans (show Fut _ u1 from hb))
                  clear hb y0 y1 q0 q1 q2
                  have y0 := (BB.out.fut HU1.out).cell (i := 0) rfl
                  have y1 := (BB.out.fut HU1.out).cell (i := 1) rfl
                  have q0 := (HB.out.fut (HFW.out.trans HU1.out)).cell (i := 0) rfl
                  have q1 := (HB.out.fut (HFW.out.trans HU1.out)).cell (i := 1) rfl
                  have q3 := (HB.out.fut (HFW.out.trans HU1.out)).cell (i := 3) rfl
                  have q4 := (HB.out.fut (HFW.out.trans HU1.out)).cell (i := 4) rfl
                  go_wp2_with fail
                  refine (HC9.out _ HU1.out).mono ?_
                  rintro r u2 ⟨rfl, hb⟩
                  have HU2 := Lib.hid (HU1.out.trans (show Fut _ u2 from hb))
                  clear hb y0 y1 q0 q1 q3 q4
                  go_wp2_with fail
                  go_ret
                  exact ⟨rfl, HLW.out.trans HU2.out⟩
                | false =>
                  refine wp_region_M o_emendatelaw30_DerivationMonotone_10 (by kernel_rfl) (by kernel_rfl) (by intro c a d v w h; cases d <;> exact h) ?_; unfold o_emendatelaw30_DerivationMonotone_10
                  iterate 6 (refine wpF_h rfl rfl (fun K hK => ?_); go_simp; refine hK _ _ ?_; clear hK K)
                  (refine wpF_o rfl rfl (fun K hK => ?_); go_simp; first | (go_at_call 18; refine (HE.out _ (by show Fut _ _; repeat (first | (with_reducible assumption) | exact Fut.refl _ | exact Fut.fut _ _ _ | refine Fut.drew ?_ | refine Fut.alloc ?_ _ | refine Fut.trans ?_ (Fut.fut _ _ _) | refine Fut.trans ?_ (by assumption)))).mono ?_; rintro e w1 ⟨rfl, hb1⟩; have hf1 : Fut _ w1 := hb1; refine hK _ _ (.inr hf1) ?_; clear hK K hb1))
                  (refine wpF_h rfl rfl (fun K hK => ?_); go_simp; refine hK _ _ ?_; clear hK K)
                  refine wpF_nil ?_
                  have HFE := Lib.hid (show Fut wz w1 from (by show Fut _ _; repeat (first | (with_reducible assumption) | exact Fut.refl _ | exact Fut.fut _ _ _ | refine Fut.drew ?_ | refine Fut.alloc ?_ _ | refine Fut.trans ?_ (Fut.fut _ _ _) | refine Fut.trans ?_ (by assumption))))
                  clear y0 y1 y4 d0 d1
                  have y0 := (BB.out.fut HFE.out).cell (i := 0) rfl
                  have y1 := (BB.out.fut HFE.out).cell (i := 1) rfl
                  have q0 := (HB.out.fut (HFW.out.trans HFE.out)).cell (i := 0) rfl
                  have q1 := (HB.out.fut (HFW.out.trans HFE.out)).cell (i := 1) rfl
                  have q2 := (HB.out.fut (HFW.out.trans HFE.out)).cell (i := 2) rfl
                  go_wp2_with fail
                  refine (HV9.out _ HFE.out).mono ?_
                  rintro r u1 ⟨rfl, hb⟩
                  have HU1 := Lib.hid (HFE.out.trans (show Fut _ u1 from hb))
                  clear hb y0 y1 q0 q1 q2
                  have y0 := (BB.out.fut HU1.out).cell (i := 0) rfl
                  have y1 := (BB.out.fut HU1.out).cell (i := 1) rfl
                  have q0 := (HB.out.fut (HFW.out.trans HU1.out)).cell (i := 0) rfl
                  have q1 := (HB.out.fut (HFW.out.trans HU1.out)).cell (i := 1) rfl
                  have q3 := (HB.out.fut (HFW.out.trans HU1.out)).cell (i := 3) rfl
                  have q4 := (HB.out.fut (HFW.out.trans HU1.out)).cell (i := 4) rfl
                  go_wp2_with fail
                  refine (HC9.out _ HU1.out).mono ?_
                  rintro r u2 ⟨rfl, hb⟩
                  have HU2 := Lib.hid (HU1.out.trans (show Fut _ u2 from hb))
                  clear hb y0 y1 q0 q1 q3 q4
                  go_wp2_with fail
                  go_ret
                  exact ⟨rfl, HLW.out.trans HU2.out⟩
            · go_simp
              refine hK _ _ (.inr ((relS T).of_fut ((Fut.refl _).alloc _))) ?_
              clear hK K
              have BZ0 : Blk ((wk.alloc (.cells #[.int .i64 0, .slice none 0 0] 27)).drew) wk.heap.size 27 #[.int .i64 0, .slice none 0 0] := heap_new' _ _ _ rfl
              have hs1 : ((wk.alloc (.cells #[.int .i64 0, .slice none 0 0] 27)).drew).heap.size = wk.heap.size + 1 := (World.size_drew _).trans (World.size_alloc _ _)
              have HF1 := Lib.hid (show Fut wk ((wk.alloc (.cells #[.int .i64 0, .slice none 0 0] 27)).drew) from ((Fut.refl wk).alloc _).drew)
              refine wpG_o rfl rfl (fun K hK => ?_)
              go_simp
              refine hK _ _ (.inr ((relS T).of_fut (fut_of_drew (((Fut.refl (wk.alloc (.cells #[.int .i64 0, .slice none 0 0] 27))).alloc (.cells #[.int .i64 ke, .slice kA kn kc] 27)).drew)))) ?_
              clear hK K
              have BY : Blk ((wk.alloc (.cells #[.int .i64 0, .slice none 0 0] 27)).alloc (.cells #[.int .i64 ke, .slice kA kn kc] 27)).drew (wk.heap.size + 1) 27 #[.int .i64 ke, .slice kA kn kc] := heap_new' _ _ _ (World.size_alloc _ _).symm
              have BZ1 : Blk ((wk.alloc (.cells #[.int .i64 0, .slice none 0 0] 27)).alloc (.cells #[.int .i64 ke, .slice kA kn kc] 27)).drew wk.heap.size 27 #[.int .i64 0, .slice none 0 0] := BZ0.alloc (.cells #[.int .i64 ke, .slice kA kn kc] 27)
              have HF2 := Lib.hid (show Fut wk ((wk.alloc (.cells #[.int .i64 0, .slice none 0 0] 27)).alloc (.cells #[.int .i64 ke, .slice kA kn kc] 27)).drew from (((Fut.refl wk).alloc _).alloc _).drew)
              have hs2 : ((wk.alloc (.cells #[.int .i64 0, .slice none 0 0] 27)).alloc (.cells #[.int .i64 ke, .slice kA kn kc] 27)).drew.heap.size = wk.heap.size + 1 + 1 := (World.size_drew _).trans ((World.size_alloc _ _).trans (by rw [World.size_alloc]))
              clear BZ0 HF1 hs1
              generalize ((wk.alloc (.cells #[.int .i64 0, .slice none 0 0] 27)).alloc (.cells #[.int .i64 ke, .slice kA kn kc] 27)).drew = p2 at *
              refine wpG_o rfl rfl (fun K hK => ?_)
              refine wpo_append_kids (.tmp 61) (.tmp 65) rfl wk.heap.size (wk.heap.size + 1) (.node ke kA kc kk) rfl (one_own (show Blk p2 _ 27 (encD (.node ke kA kc kk)).toArray from by rw [HEN.out]; exact BY) (by omega)) A3 m (ac - 1) kr rfl HXA.out HKR.out (by omega) (HKS.out.fut HF2.out) (by omega) ?_
              intro g cap p9 h1 h2 h3
              refine hK _ _ (.inr (futS_own h2 (HTI.out _ (by omega)))) ?_
              clear hK K
              have HFZ := Lib.hid ((FutS.grownS (S := fun k => decide (wk.heap.size ≤ k)) h2 (fun k hk => by rw [← Option.some.inj hk]; exact decide_eq_true (by omega))).fut HF2.out (fun k hk => of_decide_eq_true hk))
              have BZ := BZ1.grown h2 (fun e => by have := Option.some.inj e; omega)
              clear BZ1
              (refine wpS_h rfl rfl (fun K hK => ?_); go_simp; refine hK _ _ ?_; clear hK K)
              refine wpG_o rfl rfl (fun K hK => ?_)
              have z0 := BZ.cell (i := 0) rfl
              have z1 := BZ.cell (i := 1) rfl
              have z2 := BZ.fz 0
              have z3 := BZ.fz 1
              go_simp
              have hbz : wk.heap.size ≤ wk.heap.size := by omega
              refine hK _ _ (.inr ((relS T).trans (futS_set _ _ _ (HTI.out _ hbz)) (futS_set _ _ _ (HTI.out _ hbz)))) ?_
              clear hK K z0 z1 z2 z3
              refine wpG_nil ?_
              have BB := Lib.hid ((BZ.set 0 (.int .i64 q)).set 1 (.slice (some ⟨g, 0, none⟩) (1 + m) cap))
              have HGZ := Lib.hid (show Fut wk ((p9.setCell ⟨wk.heap.size, 0, none⟩ (.int .i64 q)).setCell ⟨wk.heap.size, 1, none⟩ (.slice (some ⟨g, 0, none⟩) (1 + m) cap)) from (HFZ.out.setCell (p := ⟨wk.heap.size, 0, none⟩) (by first | omega | (simp only; omega)) _).setCell (p := ⟨wk.heap.size, 1, none⟩) (by first | omega | (simp only; omega)) _)
              have hrow := own_keep (w' := (p9.setCell ⟨wk.heap.size, 0, none⟩ (.int .i64 q)).setCell ⟨wk.heap.size, 1, none⟩ (.slice (some ⟨g, 0, none⟩) (1 + m) cap)) h1 (fun k hk => by
                have h9 : (some g : Option Nat) = some k := hk
                obtain rfl := Option.some.inj h9
                exact (blk_setCell_other _ _ _ _ (by first | omega | (simp only; omega))).trans (blk_setCell_other _ _ _ _ (by first | omega | (simp only; omega))))
              have HBX := Lib.hid (show RdD ((p9.setCell ⟨wk.heap.size, 0, none⟩ (.int .i64 q)).setCell ⟨wk.heap.size, 1, none⟩ (.slice (some ⟨g, 0, none⟩) (1 + m) cap)) (.node q (some ⟨g, 0, none⟩) cap (.node ke kA kc kk :: kr)) from .mk (RdS.of_own (enc := encD) encD_len (by decide) hrow) (by rw [List.length_cons, HKR.out]; unfold maxLen; omega) (fun x hx => by
                rcases List.mem_cons.1 hx with rfl | hx
                · exact HK.out.fut HGZ.out
                · exact (HKD.out x (List.mem_cons_of_mem _ hx)).fut (HW4.out.trans (HGK.out.trans HGZ.out))))
              generalize (p9.setCell ⟨wk.heap.size, 0, none⟩ (.int .i64 q)).setCell ⟨wk.heap.size, 1, none⟩ (.slice (some ⟨g, 0, none⟩) (1 + m) cap) = wz at *
              obtain ⟨bb, hbb⟩ : ∃ bb, wk.heap.size = bb := ⟨_, rfl⟩
              rw [hbb] at BB ⊢
              clear hrow BZ h1 h2 h3 hbb g3 g4 k0 k1
              have HLW := Lib.hid (HW4.out.trans (HGK.out.trans HGZ.out))
              have HFW := Lib.hid (HF4.out.trans (HGK.out.trans HGZ.out))
              have HPA := Lib.hid (HPK.out (some ⟨g, 0, none⟩) cap)
              have hlen : (DI.node ke kA kc kk :: kr).length = 1 + m := by rw [List.length_cons, HKR.out]; omega
              have HE := Lib.hid (fun w' (hf : Fut wz w') => equal_any (.node ke kA kc kk) k0 w' (HK.out.fut (HGZ.out.trans hf)) (HK0.out.fut (HLW.out.trans hf)))
              have HV9 := Lib.hid (fun w' (hf : Fut wz w') => HVX.out hs.out (.node q (some ⟨g, 0, none⟩) cap (.node ke kA kc kk :: kr)) w' (HLW.out.trans hf) (HBX.out.fut hf))
              have HC9 := Lib.hid (fun w' (hf : Fut wz w') => HCX.out hs.out (.node q (some ⟨g, 0, none⟩) cap (.node ke kA kc kk :: kr)) HPA.out.1 HOA.out w' (HLW.out.trans hf) (HBX.out.fut hf))
              rw [HPA.out.1] at HV9
              rw [HPA.out.2] at HC9
              generalize eqD (toDT (.node ke kA kc kk)) (toDT k0) = eb at HE HC9
              obtain ⟨k0e, k0A, k0c, k0k⟩ := k0
              simp only [DI.e, DI.A, DI.c, DI.k] at D0 D1
              simp only [dv, DI.e, DI.A, DI.c, DI.k, hlen, HKN.out] at HE HV9
              simp only [dv, DI.e, DI.A, DI.c, DI.k, hlen, HAM.out] at HC9
              clear hlen HPA
              have y0 := cell_fut ((BK.out.fut HGZ.out).cell (i := 0) rfl)
              have y1 := cell_fut ((BK.out.fut HGZ.out).cell (i := 1) rfl)
              have y4 := cell_fut ((HB.out.fut HFW.out).cell (i := 4) rfl)
              have d0 := cell_fut (HLW.out.cell D0.out)
              have d1 := cell_fut (HLW.out.cell D1.out)
              go_wp2_with fail
              cases eb with
              | true =>
                refine wp_region_M o_emendatelaw30_DerivationMonotone_10 (by kernel_rfl) (by kernel_rfl) (by intro c a d v w h; cases d <;> exact h) ?_; unfold o_emendatelaw30_DerivationMonotone_10
                iterate 6 (refine wpF_h rfl rfl (fun K hK => ?_); go_simp; refine hK _ _ ?_; clear hK K)
                (refine wpF_o rfl rfl (fun K hK => ?_); go_simp; first | (go_at_call 18; refine (HE.out _ (by show Fut _ _; repeat (first | (with_reducible assumption) | exact Fut.refl _ | exact Fut.fut _ _ _ | refine Fut.drew ?_ | refine Fut.alloc ?_ _ | refine Fut.trans ?_ (Fut.fut _ _ _) | refine Fut.trans ?_ (by assumption)))).mono ?_; rintro e w1 ⟨rfl, hb1⟩; have hf1 : Fut _ w1 := hb1; refine hK _ _ (.inr hf1) ?_; clear hK K hb1))
                (refine wpF_h rfl rfl (fun K hK => ?_); go_simp; refine hK _ _ ?_; clear hK K)
                refine wpF_nil ?_
                have HFE := Lib.hid (show Fut wz w1 from (by show Fut _ _; repeat (first | (with_reducible assumption) | exact Fut.refl _ | exact Fut.fut _ _ _ | refine Fut.drew ?_ | refine Fut.alloc ?_ _ | refine Fut.trans ?_ (Fut.fut _ _ _) | refine Fut.trans ?_ (by assumption))))
                clear y0 y1 y4 d0 d1
                have y0 := (BB.out.fut HFE.out).cell (i := 0) rfl
                have y1 := (BB.out.fut HFE.out).cell (i := 1) rfl
                have q0 := (HB.out.fut (HFW.out.trans HFE.out)).cell (i := 0) rfl
                have q1 := (HB.out.fut (HFW.out.trans HFE.out)).cell (i := 1) rfl
                have q2 := (HB.out.fut (HFW.out.trans HFE.out)).cell (i := 2) rfl
                go_wp2_with fail
                refine (HV9.out _ HFE.out).mono ?_
                rintro r u1 ⟨rfl, hb⟩
                have HU1 := Lib.hid (HFE.out.trans (show Fut _ u1 from hb))
                clear hb y0 y1 q0 q1 q2
                have y0 := (BB.out.fut HU1.out).cell (i := 0) rfl
                have y1 := (BB.out.fut HU1.out).cell (i := 1) rfl
                have q0 := (HB.out.fut (HFW.out.trans HU1.out)).cell (i := 0) rfl
                have q1 := (HB.out.fut (HFW.out.trans HU1.out)).cell (i := 1) rfl
                have q3 := (HB.out.fut (HFW.out.trans HU1.out)).cell (i := 3) rfl
                have q4 := (HB.out.fut (HFW.out.trans HU1.out)).cell (i := 4) rfl
                go_wp2_with fail
                refine (HC9.out _ HU1.out).mono ?_
                rintro r u2 ⟨rfl, hb⟩
                have HU2 := Lib.hid (HU1.out.trans (show Fut _ u2 from hb))
                clear hb y0 y1 q0 q1 q3 q4
                go_wp2_with fail
                go_ret
                exact ⟨rfl, HLW.out.trans HU2.out⟩
              | false =>
                refine wp_region_M o_emendatelaw30_DerivationMonotone_10 (by kernel_rfl) (by kernel_rfl) (by intro c a d v w h; cases d <;> exact h) ?_; unfold o_emendatelaw30_DerivationMonotone_10
                iterate 6 (refine wpF_h rfl rfl (fun K hK => ?_); go_simp; refine hK _ _ ?_; clear hK K)
                (refine wpF_o rfl rfl (fun K hK => ?_); go_simp; first | (go_at_call 18; refine (HE.out _ (by show Fut _ _; repeat (first | (with_reducible assumption) | exact Fut.refl _ | exact Fut.fut _ _ _ | refine Fut.drew ?_ | refine Fut.alloc ?_ _ | refine Fut.trans ?_ (Fut.fut _ _ _) | refine Fut.trans ?_ (by assumption)))).mono ?_; rintro e w1 ⟨rfl, hb1⟩; have hf1 : Fut _ w1 := hb1; refine hK _ _ (.inr hf1) ?_; clear hK K hb1))
                (refine wpF_h rfl rfl (fun K hK => ?_); go_simp; refine hK _ _ ?_; clear hK K)
                refine wpF_nil ?_
                have HFE := Lib.hid (show Fut wz w1 from (by show Fut _ _; repeat (first | (with_reducible assumption) | exact Fut.refl _ | exact Fut.fut _ _ _ | refine Fut.drew ?_ | refine Fut.alloc ?_ _ | refine Fut.trans ?_ (Fut.fut _ _ _) | refine Fut.trans ?_ (by assumption))))
                clear y0 y1 y4 d0 d1
                have y0 := (BB.out.fut HFE.out).cell (i := 0) rfl
                have y1 := (BB.out.fut HFE.out).cell (i := 1) rfl
                have q0 := (HB.out.fut (HFW.out.trans HFE.out)).cell (i := 0) rfl
                have q1 := (HB.out.fut (HFW.out.trans HFE.out)).cell (i := 1) rfl
                have q2 := (HB.out.fut (HFW.out.trans HFE.out)).cell (i := 2) rfl
                go_wp2_with fail
                refine (HV9.out _ HFE.out).mono ?_
                rintro r u1 ⟨rfl, hb⟩
                have HU1 := Lib.hid (HFE.out.trans (show Fut _ u1 from hb))
                clear hb y0 y1 q0 q1 q2
                have y0 := (BB.out.fut HU1.out).cell (i := 0) rfl
                have y1 := (BB.out.fut HU1.out).cell (i := 1) rfl
                have q0 := (HB.out.fut (HFW.out.trans HU1.out)).cell (i := 0) rfl
                have q1 := (HB.out.fut (HFW.out.trans HU1.out)).cell (i := 1) rfl
                have q3 := (HB.out.fut (HFW.out.trans HU1.out)).cell (i := 3) rfl
                have q4 := (HB.out.fut (HFW.out.trans HU1.out)).cell (i := 4) rfl
                go_wp2_with fail
                refine (HC9.out _ HU1.out).mono ?_
                rintro r u2 ⟨rfl, hb⟩
                have HU2 := Lib.hid (HU1.out.trans (show Fut _ u2 from hb))
                clear hb y0 y1 q0 q1 q3 q4
                go_wp2_with fail
                go_ret
                exact ⟨rfl, HLW.out.trans HU2.out⟩
          · go_simp
            refine hK _ _ (.inr ((relS S).of_fut ((Fut.refl _).alloc _))) ?_
            clear hK K
            have BK1 : Blk ((w4.alloc (.cells #[.int .i64 0, .slice none 0 0] 27)).drew) w4.heap.size 27 #[.int .i64 0, .slice none 0 0] := heap_new' _ _ _ rfl
            have HWA := Lib.hid (show Fut w4 ((w4.alloc (.cells #[.int .i64 0, .slice none 0 0] 27)).drew) from ((Fut.refl w4).alloc _).drew)
            have hsa : ((w4.alloc (.cells #[.int .i64 0, .slice none 0 0] 27)).drew).heap.size = w4.heap.size + 1 := (World.size_drew _).trans (World.size_alloc _ _)
            refine wpG_o rfl rfl (fun K hK => ?_)
            go_simp
            generalize (w4.alloc (.cells #[.int .i64 0, .slice none 0 0] 27)).drew = wa at *
            go_at_call 21
            refine (HBE.out t _ (HW4.out.trans HWA.out)).mono ?_
            rintro r wc ⟨⟨⟨ke, kA, kc, kk⟩, f, rfl, hrd, hbr⟩, hb⟩
            have hwc : Fut wa wc := hb
            refine hK _ _ (.inr ((relS S).of_fut hwc)) ?_
            clear hK K
            have HWC := Lib.hid (HWA.out.trans hwc)
            have HRK := Lib.hid (hrd.keep (ok' := fun _ => True) (w' := (wc.setCell ⟨w4.heap.size, 0, none⟩ (.int .i64 ke)).setCell ⟨w4.heap.size, 1, none⟩ (.slice kA kk.length kc)) (fun b hb _ => ⟨(blk_setCell_other _ _ _ _ (by simp only; omega)).trans (blk_setCell_other _ _ _ _ (by simp only; omega)), trivial⟩)).rd
            have BK0 := BK1.fut hwc
            have HBK := Lib.hid hbr
            simp only [dv, DI.e, DI.A, DI.c, DI.k]
            obtain ⟨kn, hkn⟩ : ∃ kn, kk.length = kn := ⟨_, rfl⟩
            rw [hkn] at HRK ⊢
            have HKN := Lib.hid hkn
            clear hb hrd hbr hwc hkn BK1
            iterate 3 (refine wpS_h rfl rfl (fun K hK => ?_); go_simp; refine hK _ _ ?_; clear hK K)
            refine wpG_o rfl rfl (fun K hK => ?_)
            have z0 := BK0.cell (i := 0) rfl
            have z1 := BK0.cell (i := 1) rfl
            have z2 := BK0.fz 0
            have z3 := BK0.fz 1
            go_simp
            refine hK _ _ (.inr ((relS S).trans (futS_set _ _ _ (HHI.out _ (Nat.le_refl _))) (futS_set _ _ _ (HHI.out _ (Nat.le_refl _))))) ?_
            clear hK K z0 z1 z2 z3
            (refine wpS_h rfl rfl (fun K hK => ?_); go_simp; refine hK _ _ ?_; clear hK K)
            refine wpG_nil ?_
            have BK := Lib.hid ((BK0.set 0 (.int .i64 ke)).set 1 (.slice kA kn kc))
            have HGK := Lib.hid (show Fut w4 ((wc.setCell ⟨w4.heap.size, 0, none⟩ (.int .i64 ke)).setCell ⟨w4.heap.size, 1, none⟩ (.slice kA kn kc)) from (HWC.out.setCell (p := ⟨w4.heap.size, 0, none⟩) (Nat.le_refl _) _).setCell (p := ⟨w4.heap.size, 1, none⟩) (Nat.le_refl _) _)
            have HK := Lib.hid HRK
            generalize (wc.setCell ⟨w4.heap.size, 0, none⟩ (.int .i64 ke)).setCell ⟨w4.heap.size, 1, none⟩ (.slice kA kn kc) = wk at *
            obtain ⟨kb, hkb⟩ : ∃ kb, w4.heap.size = kb := ⟨_, rfl⟩
            rw [hkb] at BK ⊢
            clear BK0 HRK hsa hkb
            obtain ⟨rfl, hpk⟩ := HPL.out _ _ HBK.out
            have HPK := Lib.hid hpk
            clear hpk g0 g1 g3 x3 x4
            go_wp2_with fail
            obtain ⟨T, hT⟩ : ∃ T : Nat → Bool, T = fun k => decide (wk.heap.size ≤ k) := ⟨_, rfl⟩
            have hlow : ∀ q, q < wk.heap.size → T q = false := fun q hq => by rw [hT]; exact decide_eq_false (by omega)
            have HTI := Lib.hid (show ∀ q, wk.heap.size ≤ q → T q = true from fun q hq => by rw [hT]; exact decide_eq_true hq)
            clear hT
            have QQ := HB.out.fut (HF4.out.trans HGK.out)
            have g3 := cell_futS (QQ.cell (i := 3) rfl) (hlow _ (World.block_lt_of_cell? _ _ (QQ.cell (i := 3) rfl)))
            have g4 := cell_futS (QQ.cell (i := 4) rfl) (hlow _ (World.block_lt_of_cell? _ _ (QQ.cell (i := 4) rfl)))
            have k0 := cell_futS (BK.out.cell (i := 0) rfl) (hlow _ (World.block_lt_of_cell? _ _ (BK.out.cell (i := 0) rfl)))
            have k1 := cell_futS (BK.out.cell (i := 1) rfl) (hlow _ (World.block_lt_of_cell? _ _ (BK.out.cell (i := 1) rfl)))
            clear hlow QQ
            obtain ⟨A3, hA3⟩ : ∃ A3, (if ac = 1 then (some ⟨ab, ao, none⟩ : Option Addr) else some ⟨ab, ao + 2, none⟩) = A3 := ⟨_, rfl⟩
            have HA3 := Lib.hid hA3
            have gle : ((1 : Int) ≤ (m : Int) + 1) = True := eq_true (by omega)
            refine wp_region_MG (relS T) o_emendatelaw30_DerivationMonotone_8 (by kernel_rfl) (by kernel_rfl) (by intro c a d v w h; cases d <;> exact h) ?_; unfold o_emendatelaw30_DerivationMonotone_8
            iterate 8 (refine wpS_h rfl rfl (fun K hK => ?_); go_simp; refine hK _ _ ?_; clear hK K)
            have hA3x : ∃ b o, A3 = some ⟨b, o, none⟩ := by
              rw [← HA3.out]
              split
              · exact ⟨_, _, rfl⟩
              · exact ⟨_, _, rfl⟩
            have HXA := Lib.hid hA3x
            have HKS := Lib.hid (rdS_cut (HS.out.fut (HW4.out.trans HGK.out)) HKR.out hca HA3.out)
            have HEN := Lib.hid (show encD (.node ke kA kc kk) = [.int .i64 ke, .slice kA kn kc] from by simp only [encD, DI.e, DI.A, DI.c, DI.k, HKN.out])
            clear hA3x
            refine wpG_two' rfl rfl (fun K hK => ?_) (fun K hK => ?_)
            · go_simp
              refine hK _ _ (.inr ((relS T).of_fut ((Fut.refl _).alloc _))) ?_
              clear hK K
              have BY : Blk ((wk.alloc (.cells #[.int .i64 ke, .slice kA kn kc] 27)).drew) wk.heap.size 27 #[.int .i64 ke, .slice kA kn kc] := heap_new' _ _ _ rfl
              have hs1 : ((wk.alloc (.cells #[.int .i64 ke, .slice kA kn kc] 27)).drew).heap.size = wk.heap.size + 1 := (World.size_drew _).trans (World.size_alloc _ _)
              have HF1 := Lib.hid (show Fut wk ((wk.alloc (.cells #[.int .i64 ke, .slice kA kn kc] 27)).drew) from ((Fut.refl wk).alloc _).drew)
              generalize ((wk.alloc (.cells #[.int .i64 ke, .slice kA kn kc] 27)).drew) = p1 at *
              refine wpG_two' rfl rfl (fun K hK => ?_) (fun K hK => ?_)
              · refine wpo_append_kids (.tmp 61) (.tmp 65) rfl wk.heap.size wk.heap.size (.node ke kA kc kk) rfl (one_own (show Blk p1 _ 27 (encD (.node ke kA kc kk)).toArray from by rw [HEN.out]; exact BY) (by omega)) A3 m (ac - 1) kr rfl HXA.out HKR.out (by omega) (HKS.out.fut HF1.out) (by omega) ?_
                intro g cap p9 h1 h2 h3
                refine hK _ _ (.inr (futS_own h2 (HTI.out _ (Nat.le_refl _)))) ?_
                clear hK K
                have HF9 := Lib.hid ((FutS.grownS (S := fun k => decide (wk.heap.size ≤ k)) h2 (fun k hk => by rw [← Option.some.inj hk]; exact decide_eq_true (Nat.le_refl _))).fut HF1.out (fun k hk => of_decide_eq_true hk))
                have hs9 : p1.heap.size ≤ p9.heap.size := h2.size
                (refine wpS_h rfl rfl (fun K hK => ?_); go_simp; refine hK _ _ ?_; clear hK K)
                refine wpG_o rfl rfl (fun K hK => ?_)
                go_simp
                refine hK _ _ (.inr ((relS T).of_fut ((Fut.refl _).alloc _))) ?_
                clear hK K
                have BZ : Blk (p9.alloc (.cells #[.int .i64 0, .slice none 0 0] 27)) p9.heap.size 27 #[.int .i64 0, .slice none 0 0] := heap_new' _ _ _ rfl
                have HFZ := Lib.hid (HF9.out.alloc (.cells #[.int .i64 0, .slice none 0 0] 27))
                have hg9 : g < p9.heap.size := (World.ownsRow.lt h1 g rfl).2
                replace h1 := own_keep (w' := p9.alloc (.cells #[.int .i64 0, .slice none 0 0] 27)) h1 (fun k hk => by
                  have h9 : (some g : Option Nat) = some k := hk
                  obtain rfl := Option.some.inj h9
                  exact ((Fut.refl p9).alloc _).block _ hg9)
                generalize p9.alloc (.cells #[.int .i64 0, .slice none 0 0] 27) = p3 at *
                refine wpG_o rfl rfl (fun K hK => ?_)
                have z0 := BZ.cell (i := 0) rfl
                have z1 := BZ.cell (i := 1) rfl
                have z2 := BZ.fz 0
                have z3 := BZ.fz 1
                go_simp
                have hbz : wk.heap.size ≤ p9.heap.size := by omega
                refine hK _ _ (.inr ((relS T).trans (futS_set _ _ _ (HTI.out _ hbz)) (futS_set _ _ _ (HTI.out _ hbz)))) ?_
                clear hK K z0 z1 z2 z3
                refine wpG_nil ?_
                have BB := Lib.hid ((BZ.set 0 (.int .i64 q)).set 1 (.slice (some ⟨g, 0, none⟩) (1 + m) cap))
                have HGZ := Lib.hid (show Fut wk ((p3.setCell ⟨p9.heap.size, 0, none⟩ (.int .i64 q)).setCell ⟨p9.heap.size, 1, none⟩ (.slice (some ⟨g, 0, none⟩) (1 + m) cap)) from (HFZ.out.setCell (p := ⟨p9.heap.size, 0, none⟩) (by first | omega | (simp only; omega)) _).setCell (p := ⟨p9.heap.size, 1, none⟩) (by first | omega | (simp only; omega)) _)
                have hrow := own_keep (w' := (p3.setCell ⟨p9.heap.size, 0, none⟩ (.int .i64 q)).setCell ⟨p9.heap.size, 1, none⟩ (.slice (some ⟨g, 0, none⟩) (1 + m) cap)) h1 (fun k hk => by
                  have h9 : (some g : Option Nat) = some k := hk
                  obtain rfl := Option.some.inj h9
                  exact (blk_setCell_other _ _ _ _ (by first | omega | (simp only; omega))).trans (blk_setCell_other _ _ _ _ (by first | omega | (simp only; omega))))
                have HBX := Lib.hid (show RdD ((p3.setCell ⟨p9.heap.size, 0, none⟩ (.int .i64 q)).setCell ⟨p9.heap.size, 1, none⟩ (.slice (some ⟨g, 0, none⟩) (1 + m) cap)) (.node q (some ⟨g, 0, none⟩) cap (.node ke kA kc kk :: kr)) from .mk (RdS.of_own (enc := encD) encD_len (by decide) hrow) (by rw [List.length_cons, HKR.out]; unfold maxLen; omega) (fun x hx => by
                  rcases List.mem_cons.1 hx with rfl | hx
                  · exact HK.out.fut HGZ.out
                  · exact (HKD.out x (List.mem_cons_of_mem _ hx)).fut (HW4.out.trans (HGK.out.trans HGZ.out))))
                generalize (p3.setCell ⟨p9.heap.size, 0, none⟩ (.int .i64 q)).setCell ⟨p9.heap.size, 1, none⟩ (.slice (some ⟨g, 0, none⟩) (1 + m) cap) = wz at *
                obtain ⟨bb, hbb⟩ : ∃ bb, p9.heap.size = bb := ⟨_, rfl⟩
                rw [hbb] at BB ⊢
                clear hrow BZ h1 h2 h3 hbb g3 g4 k0 k1
                have HLW := Lib.hid (HW4.out.trans (HGK.out.trans HGZ.out))
                have HFW := Lib.hid (HF4.out.trans (HGK.out.trans HGZ.out))
                have HPA := Lib.hid (HPK.out (some ⟨g, 0, none⟩) cap)
                have hlen : (DI.node ke kA kc kk :: kr).length = 1 + m := by rw [List.length_cons, HKR.out]; omega
                have HE := Lib.hid (fun w' (hf : Fut wz w') => equal_any (.node ke kA kc kk) k0 w' (HK.out.fut (HGZ.out.trans hf)) (HK0.out.fut (HLW.out.trans hf)))
                have HV9 := Lib.hid (fun w' (hf : Fut wz w') => HVX.out hs.out (.node q (some ⟨g, 0, none⟩) cap (.node ke kA kc kk :: kr)) w' (HLW.out.trans hf) (HBX.out.fut hf))
                have HC9 := Lib.hid (fun w' (hf : Fut wz w') => HCX.out hs.out (.node q (some ⟨g, 0, none⟩) cap (.node ke kA kc kk :: kr)) HPA.out.1 HOA.out w' (HLW.out.trans hf) (HBX.out.fut hf))
                rw [HPA.out.1] at HV9
                rw [HPA.out.2] at HC9
                generalize eqD (toDT (.node ke kA kc kk)) (toDT k0) = eb at HE HC9
                obtain ⟨k0e, k0A, k0c, k0k⟩ := k0
                simp only [DI.e, DI.A, DI.c, DI.k] at D0 D1
                simp only [dv, DI.e, DI.A, DI.c, DI.k, hlen, HKN.out] at HE HV9
                simp only [dv, DI.e, DI.A, DI.c, DI.k, hlen, HAM.out] at HC9
                clear hlen HPA
                have y0 := cell_fut ((BK.out.fut HGZ.out).cell (i := 0) rfl)
                have y1 := cell_fut ((BK.out.fut HGZ.out).cell (i := 1) rfl)
                have y4 := cell_fut ((HB.out.fut HFW.out).cell (i := 4) rfl)
                have d0 := cell_fut (HLW.out.cell D0.out)
                have d1 := cell_fut (HLW.out.cell D1.out)
                go_wp2_with fail
                cases eb with
                | true =>
                  refine wp_region_M o_emendatelaw30_DerivationMonotone_10 (by kernel_rfl) (by kernel_rfl) (by intro c a d v w h; cases d <;> exact h) ?_; unfold o_emendatelaw30_DerivationMonotone_10
                  iterate 6 (refine wpF_h rfl rfl (fun K hK => ?_); go_simp; refine hK _ _ ?_; clear hK K)
                  (refine wpF_o rfl rfl (fun K hK => ?_); go_simp; first | (go_at_call 18; refine (HE.out _ (by show Fut _ _; repeat (first | (with_reducible assumption) | exact Fut.refl _ | exact Fut.fut _ _ _ | refine Fut.drew ?_ | refine Fut.alloc ?_ _ | refine Fut.trans ?_ (Fut.fut _ _ _) | refine Fut.trans ?_ (by assumption)))).mono ?_; rintro e w1 ⟨rfl, hb1⟩; have hf1 : Fut _ w1 := hb1; refine hK _ _ (.inr hf1) ?_; clear hK K hb1))
                  (refine wpF_h rfl rfl (fun K hK => ?_); go_simp; refine hK _ _ ?_; clear hK K)
                  refine wpF_nil ?_
                  have HFE := Lib.hid (show Fut wz w1 from (by show Fut _ _; repeat (first | (with_reducible assumption) | exact Fut.refl _ | exact Fut.fut _ _ _ | refine Fut.drew ?_ | refine Fut.alloc ?_ _ | refine Fut.trans ?_ (Fut.fut _ _ _) | refine Fut.trans ?_ (by assumption))))
                  clear y0 y1 y4 d0 d1
                  have y0 := (BB.out.fut HFE.out).cell (i := 0) rfl
                  have y1 := (BB.out.fut HFE.out).cell (i := 1) rfl
                  have q0 := (HB.out.fut (HFW.out.trans HFE.out)).cell (i := 0) rfl
                  have q1 := (HB.out.fut (HFW.out.trans HFE.out)).cell (i := 1) rfl
                  have q2 := (HB.out.fut (HFW.out.trans HFE.out)).cell (i := 2) rfl
                  go_wp2_with fail
                  refine (HV9.out _ HFE.out).mono ?_
                  rintro r u1 ⟨rfl, hb⟩
                  have HU1 := Lib.hid (HFE.out.trans (show Fut _ u1 from hb))
                  clear hb y0 y1 q0 q1 q2
                  have y0 := (BB.out.fut HU1.out).cell (i := 0) rfl
                  have y1 := (BB.out.fut HU1.out).cell (i := 1) rfl
                  have q0 := (HB.out.fut (HFW.out.trans HU1.out)).cell (i := 0) rfl
                  have q1 := (HB.out.fut (HFW.out.trans HU1.out)).cell (i := 1) rfl
                  have q3 := (HB.out.fut (HFW.out.trans HU1.out)).cell (i := 3) rfl
                  have q4 := (HB.out.fut (HFW.out.trans HU1.out)).cell (i := 4) rfl
                  go_wp2_with fail
                  refine (HC9.out _ HU1.out).mono ?_
                  rintro r u2 ⟨rfl, hb⟩
                  have HU2 := Lib.hid (HU1.out.trans (show Fut _ u2 from hb))
                  clear hb y0 y1 q0 q1 q3 q4
                  go_wp2_with fail
                  go_ret
                  exact ⟨rfl, HLW.out.trans HU2.out⟩
                | false =>
                  refine wp_region_M o_emendatelaw30_DerivationMonotone_10 (by kernel_rfl) (by kernel_rfl) (by intro c a d v w h; cases d <;> exact h) ?_; unfold o_emendatelaw30_DerivationMonotone_10
                  iterate 6 (refine wpF_h rfl rfl (fun K hK => ?_); go_simp; refine hK _ _ ?_; clear hK K)
                  (refine wpF_o rfl rfl (fun K hK => ?_); go_simp; first | (go_at_call 18; refine (HE.out _ (by show Fut _ _; repeat (first | (with_reducible assumption) | exact Fut.refl _ | exact Fut.fut _ _ _ | refine Fut.drew ?_ | refine Fut.alloc ?_ _ | refine Fut.trans ?_ (Fut.fut _ _ _) | refine Fut.trans ?_ (by assumption)))).mono ?_; rintro e w1 ⟨rfl, hb1⟩; have hf1 : Fut _ w1 := hb1; refine hK _ _ (.inr hf1) ?_; clear hK K hb1))
                  (refine wpF_h rfl rfl (fun K hK => ?_); go_simp; refine hK _ _ ?_; clear hK K)
                  refine wpF_nil ?_
                  have HFE := Lib.hid (show Fut wz w1 from (by show Fut _ _; repeat (first | (with_reducible assumption) | exact Fut.refl _ | exact Fut.fut _ _ _ | refine Fut.drew ?_ | refine Fut.alloc ?_ _ | refine Fut.trans ?_ (Fut.fut _ _ _) | refine Fut.trans ?_ (by assumption))))
                  clear y0 y1 y4 d0 d1
                  have y0 := (BB.out.fut HFE.out).cell (i := 0) rfl
                  have y1 := (BB.out.fut HFE.out).cell (i := 1) rfl
                  have q0 := (HB.out.fut (HFW.out.trans HFE.out)).cell (i := 0) rfl
                  have q1 := (HB.out.fut (HFW.out.trans HFE.out)).cell (i := 1) rfl
                  have q2 := (HB.out.fut (HFW.out.trans HFE.out)).cell (i := 2) rfl
                  go_wp2_with fail
                  refine (HV9.out _ HFE.out).mono ?_
                  rintro r u1 ⟨rfl, hb⟩
                  have HU1 := Lib.hid (HFE.out.trans (show Fut _ u1 from hb))
                  clear hb y0 y1 q0 q1 q2
                  have y0 := (BB.out.fut HU1.out).cell (i := 0) rfl
                  have y1 := (BB.out.fut HU1.out).cell (i := 1) rfl
                  have q0 := (HB.out.fut (HFW.out.trans HU1.out)).cell (i := 0) rfl
                  have q1 := (HB.out.fut (HFW.out.trans HU1.out)).cell (i := 1) rfl
                  have q3 := (HB.out.fut (HFW.out.trans HU1.out)).cell (i := 3) rfl
                  have q4 := (HB.out.fut (HFW.out.trans HU1.out)).cell (i := 4) rfl
                  go_wp2_with fail
                  refine (HC9.out _ HU1.out).mono ?_
                  rintro r u2 ⟨rfl, hb⟩
                  have HU2 := Lib.hid (HU1.out.trans (show Fut _ u2 from hb))
                  clear hb y0 y1 q0 q1 q3 q4
                  go_wp2_with fail
                  go_ret
                  exact ⟨rfl, HLW.out.trans HU2.out⟩
              · go_simp
                refine hK _ _ (.inr ((relS T).of_fut ((Fut.refl _).alloc _))) ?_
                clear hK K
                have BZ0 : Blk (p1.alloc (.cells #[.int .i64 0, .slice none 0 0] 27)) (wk.heap.size + 1) 27 #[.int .i64 0, .slice none 0 0] := heap_new' _ _ _ hs1.symm
                have BY2 := BY.alloc (.cells #[.int .i64 0, .slice none 0 0] 27)
                have HF2 := Lib.hid (HF1.out.alloc (.cells #[.int .i64 0, .slice none 0 0] 27))
                have hs2 : (p1.alloc (.cells #[.int .i64 0, .slice none 0 0] 27)).heap.size = p1.heap.size + 1 := World.size_alloc _ _
                clear BY
                have BY := BY2
                clear BY2
                generalize p1.alloc (.cells #[.int .i64 0, .slice none 0 0] 27) = p2 at *
                refine wpG_o rfl rfl (fun K hK => ?_)
                refine wpo_append_kids (.tmp 61) (.tmp 65) rfl wk.heap.size wk.heap.size (.node ke kA kc kk) rfl (one_own (show Blk p2 _ 27 (encD (.node ke kA kc kk)).toArray from by rw [HEN.out]; exact BY) (by omega)) A3 m (ac - 1) kr rfl HXA.out HKR.out (by omega) (HKS.out.fut HF2.out) (by omega) ?_
                intro g cap p9 h1 h2 h3
                refine hK _ _ (.inr (futS_own h2 (HTI.out _ (Nat.le_refl _)))) ?_
                clear hK K
                have HFZ := Lib.hid ((FutS.grownS (S := fun k => decide (wk.heap.size ≤ k)) h2 (fun k hk => by rw [← Option.some.inj hk]; exact decide_eq_true (Nat.le_refl _))).fut HF2.out (fun k hk => of_decide_eq_true hk))
                have BZ := BZ0.grown h2 (fun e => by have := Option.some.inj e; omega)
                clear BZ0
                (refine wpS_h rfl rfl (fun K hK => ?_); go_simp; refine hK _ _ ?_; clear hK K)
                refine wpG_o rfl rfl (fun K hK => ?_)
                have z0 := BZ.cell (i := 0) rfl
                have z1 := BZ.cell (i := 1) rfl
                have z2 := BZ.fz 0
                have z3 := BZ.fz 1
                go_simp
                have hbz : wk.heap.size ≤ (wk.heap.size + 1) := by omega
                refine hK _ _ (.inr ((relS T).trans (futS_set _ _ _ (HTI.out _ hbz)) (futS_set _ _ _ (HTI.out _ hbz)))) ?_
                clear hK K z0 z1 z2 z3
                refine wpG_nil ?_
                have BB := Lib.hid ((BZ.set 0 (.int .i64 q)).set 1 (.slice (some ⟨g, 0, none⟩) (1 + m) cap))
                have HGZ := Lib.hid (show Fut wk ((p9.setCell ⟨(wk.heap.size + 1), 0, none⟩ (.int .i64 q)).setCell ⟨(wk.heap.size + 1), 1, none⟩ (.slice (some ⟨g, 0, none⟩) (1 + m) cap)) from (HFZ.out.setCell (p := ⟨(wk.heap.size + 1), 0, none⟩) (by first | omega | (simp only; omega)) _).setCell (p := ⟨(wk.heap.size + 1), 1, none⟩) (by first | omega | (simp only; omega)) _)
                have hrow := own_keep (w' := (p9.setCell ⟨(wk.heap.size + 1), 0, none⟩ (.int .i64 q)).setCell ⟨(wk.heap.size + 1), 1, none⟩ (.slice (some ⟨g, 0, none⟩) (1 + m) cap)) h1 (fun k hk => by
                  have h9 : (some g : Option Nat) = some k := hk
                  obtain rfl := Option.some.inj h9
                  exact (blk_setCell_other _ _ _ _ (by first | omega | (simp only; omega))).trans (blk_setCell_other _ _ _ _ (by first | omega | (simp only; omega))))
                have HBX := Lib.hid (show RdD ((p9.setCell ⟨(wk.heap.size + 1), 0, none⟩ (.int .i64 q)).setCell ⟨(wk.heap.size + 1), 1, none⟩ (.slice (some ⟨g, 0, none⟩) (1 + m) cap)) (.node q (some ⟨g, 0, none⟩) cap (.node ke kA kc kk :: kr)) from .mk (RdS.of_own (enc := encD) encD_len (by decide) hrow) (by rw [List.length_cons, HKR.out]; unfold maxLen; omega) (fun x hx => by
                  rcases List.mem_cons.1 hx with rfl | hx
                  · exact HK.out.fut HGZ.out
                  · exact (HKD.out x (List.mem_cons_of_mem _ hx)).fut (HW4.out.trans (HGK.out.trans HGZ.out))))
                generalize (p9.setCell ⟨(wk.heap.size + 1), 0, none⟩ (.int .i64 q)).setCell ⟨(wk.heap.size + 1), 1, none⟩ (.slice (some ⟨g, 0, none⟩) (1 + m) cap) = wz at *
                obtain ⟨bb, hbb⟩ : ∃ bb, (wk.heap.size + 1) = bb := ⟨_, rfl⟩
                rw [hbb] at BB ⊢
                clear hrow BZ h1 h2 h3 hbb g3 g4 k0 k1
                have HLW := Lib.hid (HW4.out.trans (HGK.out.trans HGZ.out))
                have HFW := Lib.hid (HF4.out.trans (HGK.out.trans HGZ.out))
                have HPA := Lib.hid (HPK.out (some ⟨g, 0, none⟩) cap)
                have hlen : (DI.node ke kA kc kk :: kr).length = 1 + m := by rw [List.length_cons, HKR.out]; omega
                have HE := Lib.hid (fun w' (hf : Fut wz w') => equal_any (.node ke kA kc kk) k0 w' (HK.out.fut (HGZ.out.trans hf)) (HK0.out.fut (HLW.out.trans hf)))
                have HV9 := Lib.hid (fun w' (hf : Fut wz w') => HVX.out hs.out (.node q (some ⟨g, 0, none⟩) cap (.node ke kA kc kk :: kr)) w' (HLW.out.trans hf) (HBX.out.fut hf))
                have HC9 := Lib.hid (fun w' (hf : Fut wz w') => HCX.out hs.out (.node q (some ⟨g, 0, none⟩) cap (.node ke kA kc kk :: kr)) HPA.out.1 HOA.out w' (HLW.out.trans hf) (HBX.out.fut hf))
                rw [HPA.out.1] at HV9
                rw [HPA.out.2] at HC9
                generalize eqD (toDT (.node ke kA kc kk)) (toDT k0) = eb at HE HC9
                obtain ⟨k0e, k0A, k0c, k0k⟩ := k0
                simp only [DI.e, DI.A, DI.c, DI.k] at D0 D1
                simp only [dv, DI.e, DI.A, DI.c, DI.k, hlen, HKN.out] at HE HV9
                simp only [dv, DI.e, DI.A, DI.c, DI.k, hlen, HAM.out] at HC9
                clear hlen HPA
                have y0 := cell_fut ((BK.out.fut HGZ.out).cell (i := 0) rfl)
                have y1 := cell_fut ((BK.out.fut HGZ.out).cell (i := 1) rfl)
                have y4 := cell_fut ((HB.out.fut HFW.out).cell (i := 4) rfl)
                have d0 := cell_fut (HLW.out.cell D0.out)
                have d1 := cell_fut (HLW.out.cell D1.out)
                go_wp2_with fail
                cases eb with
                | true =>
                  refine wp_region_M o_emendatelaw30_DerivationMonotone_10 (by kernel_rfl) (by kernel_rfl) (by intro c a d v w h; cases d <;> exact h) ?_; unfold o_emendatelaw30_DerivationMonotone_10
                  iterate 6 (refine wpF_h rfl rfl (fun K hK => ?_); go_simp; refine hK _ _ ?_; clear hK K)
                  (refine wpF_o rfl rfl (fun K hK => ?_); go_simp; first | (go_at_call 18; refine (HE.out _ (by show Fut _ _; repeat (first | (with_reducible assumption) | exact Fut.refl _ | exact Fut.fut _ _ _ | refine Fut.drew ?_ | refine Fut.alloc ?_ _ | refine Fut.trans ?_ (Fut.fut _ _ _) | refine Fut.trans ?_ (by assumption)))).mono ?_; rintro e w1 ⟨rfl, hb1⟩; have hf1 : Fut _ w1 := hb1; refine hK _ _ (.inr hf1) ?_; clear hK K hb1))
                  (refine wpF_h rfl rfl (fun K hK => ?_); go_simp; refine hK _ _ ?_; clear hK K)
                  refine wpF_nil ?_
                  have HFE := Lib.hid (show Fut wz w1 from (by show Fut _ _; repeat (first | (with_reducible assumption) | exact Fut.refl _ | exact Fut.fut _ _ _ | refine Fut.drew ?_ | refine Fut.alloc ?_ _ | refine Fut.trans ?_ (Fut.fut _ _ _) | refine Fut.trans ?_ (by assumption))))
                  clear y0 y1 y4 d0 d1
                  have y0 := (BB.out.fut HFE.out).cell (i := 0) rfl
                  have y1 := (BB.out.fut HFE.out).cell (i := 1) rfl
                  have q0 := (HB.out.fut (HFW.out.trans HFE.out)).cell (i := 0) rfl
                  have q1 := (HB.out.fut (HFW.out.trans HFE.out)).cell (i := 1) rfl
                  have q2 := (HB.out.fut (HFW.out.trans HFE.out)).cell (i := 2) rfl
                  go_wp2_with fail
                  refine (HV9.out _ HFE.out).mono ?_
                  rintro r u1 ⟨rfl, hb⟩
                  have HU1 := Lib.hid (HFE.out.trans (show Fut _ u1 from hb))
                  clear hb y0 y1 q0 q1 q2
                  have y0 := (BB.out.fut HU1.out).cell (i := 0) rfl
                  have y1 := (BB.out.fut HU1.out).cell (i := 1) rfl
                  have q0 := (HB.out.fut (HFW.out.trans HU1.out)).cell (i := 0) rfl
                  have q1 := (HB.out.fut (HFW.out.trans HU1.out)).cell (i := 1) rfl
                  have q3 := (HB.out.fut (HFW.out.trans HU1.out)).cell (i := 3) rfl
                  have q4 := (HB.out.fut (HFW.out.trans HU1.out)).cell (i := 4) rfl
                  go_wp2_with fail
                  refine (HC9.out _ HU1.out).mono ?_
                  rintro r u2 ⟨rfl, hb⟩
                  have HU2 := Lib.hid (HU1.out.trans (show Fut _ u2 from hb))
                  clear hb y0 y1 q0 q1 q3 q4
                  go_wp2_with fail
                  go_ret
                  exact ⟨rfl, HLW.out.trans HU2.out⟩
                | false =>
                  refine wp_region_M o_emendatelaw30_DerivationMonotone_10 (by kernel_rfl) (by kernel_rfl) (by intro c a d v w h; cases d <;> exact h) ?_; unfold o_emendatelaw30_DerivationMonotone_10
                  iterate 6 (refine wpF_h rfl rfl (fun K hK => ?_); go_simp; refine hK _ _ ?_; clear hK K)
                  (refine wpF_o rfl rfl (fun K hK => ?_); go_simp; first | (go_at_call 18; refine (HE.out _ (by show Fut _ _; repeat (first | (with_reducible assumption) | exact Fut.refl _ | exact Fut.fut _ _ _ | refine Fut.drew ?_ | refine Fut.alloc ?_ _ | refine Fut.trans ?_ (Fut.fut _ _ _) | refine Fut.trans ?_ (by assumption)))).mono ?_; rintro e w1 ⟨rfl, hb1⟩; have hf1 : Fut _ w1 := hb1; refine hK _ _ (.inr hf1) ?_; clear hK K hb1))
                  (refine wpF_h rfl rfl (fun K hK => ?_); go_simp; refine hK _ _ ?_; clear hK K)
                  refine wpF_nil ?_
                  have HFE := Lib.hid (show Fut wz w1 from (by show Fut _ _; repeat (first | (with_reducible assumption) | exact Fut.refl _ | exact Fut.fut _ _ _ | refine Fut.drew ?_ | refine Fut.alloc ?_ _ | refine Fut.trans ?_ (Fut.fut _ _ _) | refine Fut.trans ?_ (by assumption))))
                  clear y0 y1 y4 d0 d1
                  have y0 := (BB.out.fut HFE.out).cell (i := 0) rfl
                  have y1 := (BB.out.fut HFE.out).cell (i := 1) rfl
                  have q0 := (HB.out.fut (HFW.out.trans HFE.out)).cell (i := 0) rfl
                  have q1 := (HB.out.fut (HFW.out.trans HFE.out)).cell (i := 1) rfl
                  have q2 := (HB.out.fut (HFW.out.trans HFE.out)).cell (i := 2) rfl
                  go_wp2_with fail
                  refine (HV9.out _ HFE.out).mono ?_
                  rintro r u1 ⟨rfl, hb⟩
                  have HU1 := Lib.hid (HFE.out.trans (show Fut _ u1 from hb))
                  clear hb y0 y1 q0 q1 q2
                  have y0 := (BB.out.fut HU1.out).cell (i := 0) rfl
                  have y1 := (BB.out.fut HU1.out).cell (i := 1) rfl
                  have q0 := (HB.out.fut (HFW.out.trans HU1.out)).cell (i := 0) rfl
                  have q1 := (HB.out.fut (HFW.out.trans HU1.out)).cell (i := 1) rfl
                  have q3 := (HB.out.fut (HFW.out.trans HU1.out)).cell (i := 3) rfl
                  have q4 := (HB.out.fut (HFW.out.trans HU1.out)).cell (i := 4) rfl
                  go_wp2_with fail
                  refine (HC9.out _ HU1.out).mono ?_
                  rintro r u2 ⟨rfl, hb⟩
                  have HU2 := Lib.hid (HU1.out.trans (show Fut _ u2 from hb))
                  clear hb y0 y1 q0 q1 q3 q4
                  go_wp2_with fail
                  go_ret
                  exact ⟨rfl, HLW.out.trans HU2.out⟩
            · go_simp
              refine hK _ _ (.inr ((relS T).of_fut ((Fut.refl _).alloc _))) ?_
              clear hK K
              have BZ0 : Blk ((wk.alloc (.cells #[.int .i64 0, .slice none 0 0] 27)).drew) wk.heap.size 27 #[.int .i64 0, .slice none 0 0] := heap_new' _ _ _ rfl
              have hs1 : ((wk.alloc (.cells #[.int .i64 0, .slice none 0 0] 27)).drew).heap.size = wk.heap.size + 1 := (World.size_drew _).trans (World.size_alloc _ _)
              have HF1 := Lib.hid (show Fut wk ((wk.alloc (.cells #[.int .i64 0, .slice none 0 0] 27)).drew) from ((Fut.refl wk).alloc _).drew)
              refine wpG_o rfl rfl (fun K hK => ?_)
              go_simp
              refine hK _ _ (.inr ((relS T).of_fut (fut_of_drew (((Fut.refl (wk.alloc (.cells #[.int .i64 0, .slice none 0 0] 27))).alloc (.cells #[.int .i64 ke, .slice kA kn kc] 27)).drew)))) ?_
              clear hK K
              have BY : Blk ((wk.alloc (.cells #[.int .i64 0, .slice none 0 0] 27)).alloc (.cells #[.int .i64 ke, .slice kA kn kc] 27)).drew (wk.heap.size + 1) 27 #[.int .i64 ke, .slice kA kn kc] := heap_new' _ _ _ (World.size_alloc _ _).symm
              have BZ1 : Blk ((wk.alloc (.cells #[.int .i64 0, .slice none 0 0] 27)).alloc (.cells #[.int .i64 ke, .slice kA kn kc] 27)).drew wk.heap.size 27 #[.int .i64 0, .slice none 0 0] := BZ0.alloc (.cells #[.int .i64 ke, .slice kA kn kc] 27)
              have HF2 := Lib.hid (show Fut wk ((wk.alloc (.cells #[.int .i64 0, .slice none 0 0] 27)).alloc (.cells #[.int .i64 ke, .slice kA kn kc] 27)).drew from (((Fut.refl wk).alloc _).alloc _).drew)
              have hs2 : ((wk.alloc (.cells #[.int .i64 0, .slice none 0 0] 27)).alloc (.cells #[.int .i64 ke, .slice kA kn kc] 27)).drew.heap.size = wk.heap.size + 1 + 1 := (World.size_drew _).trans ((World.size_alloc _ _).trans (by rw [World.size_alloc]))
              clear BZ0 HF1 hs1
              generalize ((wk.alloc (.cells #[.int .i64 0, .slice none 0 0] 27)).alloc (.cells #[.int .i64 ke, .slice kA kn kc] 27)).drew = p2 at *
              refine wpG_o rfl rfl (fun K hK => ?_)
              refine wpo_append_kids (.tmp 61) (.tmp 65) rfl wk.heap.size (wk.heap.size + 1) (.node ke kA kc kk) rfl (one_own (show Blk p2 _ 27 (encD (.node ke kA kc kk)).toArray from by rw [HEN.out]; exact BY) (by omega)) A3 m (ac - 1) kr rfl HXA.out HKR.out (by omega) (HKS.out.fut HF2.out) (by omega) ?_
              intro g cap p9 h1 h2 h3
              refine hK _ _ (.inr (futS_own h2 (HTI.out _ (by omega)))) ?_
              clear hK K
              have HFZ := Lib.hid ((FutS.grownS (S := fun k => decide (wk.heap.size ≤ k)) h2 (fun k hk => by rw [← Option.some.inj hk]; exact decide_eq_true (by omega))).fut HF2.out (fun k hk => of_decide_eq_true hk))
              have BZ := BZ1.grown h2 (fun e => by have := Option.some.inj e; omega)
              clear BZ1
              (refine wpS_h rfl rfl (fun K hK => ?_); go_simp; refine hK _ _ ?_; clear hK K)
              refine wpG_o rfl rfl (fun K hK => ?_)
              have z0 := BZ.cell (i := 0) rfl
              have z1 := BZ.cell (i := 1) rfl
              have z2 := BZ.fz 0
              have z3 := BZ.fz 1
              go_simp
              have hbz : wk.heap.size ≤ wk.heap.size := by omega
              refine hK _ _ (.inr ((relS T).trans (futS_set _ _ _ (HTI.out _ hbz)) (futS_set _ _ _ (HTI.out _ hbz)))) ?_
              clear hK K z0 z1 z2 z3
              refine wpG_nil ?_
              have BB := Lib.hid ((BZ.set 0 (.int .i64 q)).set 1 (.slice (some ⟨g, 0, none⟩) (1 + m) cap))
              have HGZ := Lib.hid (show Fut wk ((p9.setCell ⟨wk.heap.size, 0, none⟩ (.int .i64 q)).setCell ⟨wk.heap.size, 1, none⟩ (.slice (some ⟨g, 0, none⟩) (1 + m) cap)) from (HFZ.out.setCell (p := ⟨wk.heap.size, 0, none⟩) (by first | omega | (simp only; omega)) _).setCell (p := ⟨wk.heap.size, 1, none⟩) (by first | omega | (simp only; omega)) _)
              have hrow := own_keep (w' := (p9.setCell ⟨wk.heap.size, 0, none⟩ (.int .i64 q)).setCell ⟨wk.heap.size, 1, none⟩ (.slice (some ⟨g, 0, none⟩) (1 + m) cap)) h1 (fun k hk => by
                have h9 : (some g : Option Nat) = some k := hk
                obtain rfl := Option.some.inj h9
                exact (blk_setCell_other _ _ _ _ (by first | omega | (simp only; omega))).trans (blk_setCell_other _ _ _ _ (by first | omega | (simp only; omega))))
              have HBX := Lib.hid (show RdD ((p9.setCell ⟨wk.heap.size, 0, none⟩ (.int .i64 q)).setCell ⟨wk.heap.size, 1, none⟩ (.slice (some ⟨g, 0, none⟩) (1 + m) cap)) (.node q (some ⟨g, 0, none⟩) cap (.node ke kA kc kk :: kr)) from .mk (RdS.of_own (enc := encD) encD_len (by decide) hrow) (by rw [List.length_cons, HKR.out]; unfold maxLen; omega) (fun x hx => by
                rcases List.mem_cons.1 hx with rfl | hx
                · exact HK.out.fut HGZ.out
                · exact (HKD.out x (List.mem_cons_of_mem _ hx)).fut (HW4.out.trans (HGK.out.trans HGZ.out))))
              generalize (p9.setCell ⟨wk.heap.size, 0, none⟩ (.int .i64 q)).setCell ⟨wk.heap.size, 1, none⟩ (.slice (some ⟨g, 0, none⟩) (1 + m) cap) = wz at *
              obtain ⟨bb, hbb⟩ : ∃ bb, wk.heap.size = bb := ⟨_, rfl⟩
              rw [hbb] at BB ⊢
              clear hrow BZ h1 h2 h3 hbb g3 g4 k0 k1
              have HLW := Lib.hid (HW4.out.trans (HGK.out.trans HGZ.out))
              have HFW := Lib.hid (HF4.out.trans (HGK.out.trans HGZ.out))
              have HPA := Lib.hid (HPK.out (some ⟨g, 0, none⟩) cap)
              have hlen : (DI.node ke kA kc kk :: kr).length = 1 + m := by rw [List.length_cons, HKR.out]; omega
              have HE := Lib.hid (fun w' (hf : Fut wz w') => equal_any (.node ke kA kc kk) k0 w' (HK.out.fut (HGZ.out.trans hf)) (HK0.out.fut (HLW.out.trans hf)))
              have HV9 := Lib.hid (fun w' (hf : Fut wz w') => HVX.out hs.out (.node q (some ⟨g, 0, none⟩) cap (.node ke kA kc kk :: kr)) w' (HLW.out.trans hf) (HBX.out.fut hf))
              have HC9 := Lib.hid (fun w' (hf : Fut wz w') => HCX.out hs.out (.node q (some ⟨g, 0, none⟩) cap (.node ke kA kc kk :: kr)) HPA.out.1 HOA.out w' (HLW.out.trans hf) (HBX.out.fut hf))
              rw [HPA.out.1] at HV9
              rw [HPA.out.2] at HC9
              generalize eqD (toDT (.node ke kA kc kk)) (toDT k0) = eb at HE HC9
              obtain ⟨k0e, k0A, k0c, k0k⟩ := k0
              simp only [DI.e, DI.A, DI.c, DI.k] at D0 D1
              simp only [dv, DI.e, DI.A, DI.c, DI.k, hlen, HKN.out] at HE HV9
              simp only [dv, DI.e, DI.A, DI.c, DI.k, hlen, HAM.out] at HC9
              clear hlen HPA
              have y0 := cell_fut ((BK.out.fut HGZ.out).cell (i := 0) rfl)
              have y1 := cell_fut ((BK.out.fut HGZ.out).cell (i := 1) rfl)
              have y4 := cell_fut ((HB.out.fut HFW.out).cell (i := 4) rfl)
              have d0 := cell_fut (HLW.out.cell D0.out)
              have d1 := cell_fut (HLW.out.cell D1.out)
              go_wp2_with fail
              cases eb with
              | true =>
                refine wp_region_M o_emendatelaw30_DerivationMonotone_10 (by kernel_rfl) (by kernel_rfl) (by intro c a d v w h; cases d <;> exact h) ?_; unfold o_emendatelaw30_DerivationMonotone_10
                iterate 6 (refine wpF_h rfl rfl (fun K hK => ?_); go_simp; refine hK _ _ ?_; clear hK K)
                (refine wpF_o rfl rfl (fun K hK => ?_); go_simp; first | (go_at_call 18; refine (HE.out _ (by show Fut _ _; repeat (first | (with_reducible assumption) | exact Fut.refl _ | exact Fut.fut _ _ _ | refine Fut.drew ?_ | refine Fut.alloc ?_ _ | refine Fut.trans ?_ (Fut.fut _ _ _) | refine Fut.trans ?_ (by assumption)))).mono ?_; rintro e w1 ⟨rfl, hb1⟩; have hf1 : Fut _ w1 := hb1; refine hK _ _ (.inr hf1) ?_; clear hK K hb1))
                (refine wpF_h rfl rfl (fun K hK => ?_); go_simp; refine hK _ _ ?_; clear hK K)
                refine wpF_nil ?_
                have HFE := Lib.hid (show Fut wz w1 from (by show Fut _ _; repeat (first | (with_reducible assumption) | exact Fut.refl _ | exact Fut.fut _ _ _ | refine Fut.drew ?_ | refine Fut.alloc ?_ _ | refine Fut.trans ?_ (Fut.fut _ _ _) | refine Fut.trans ?_ (by assumption))))
                clear y0 y1 y4 d0 d1
                have y0 := (BB.out.fut HFE.out).cell (i := 0) rfl
                have y1 := (BB.out.fut HFE.out).cell (i := 1) rfl
                have q0 := (HB.out.fut (HFW.out.trans HFE.out)).cell (i := 0) rfl
                have q1 := (HB.out.fut (HFW.out.trans HFE.out)).cell (i := 1) rfl
                have q2 := (HB.out.fut (HFW.out.trans HFE.out)).cell (i := 2) rfl
                go_wp2_with fail
                refine (HV9.out _ HFE.out).mono ?_
                rintro r u1 ⟨rfl, hb⟩
                have HU1 := Lib.hid (HFE.out.trans (show Fut _ u1 from hb))
                clear hb y0 y1 q0 q1 q2
                have y0 := (BB.out.fut HU1.out).cell (i := 0) rfl
                have y1 := (BB.out.fut HU1.out).cell (i := 1) rfl
                have q0 := (HB.out.fut (HFW.out.trans HU1.out)).cell (i := 0) rfl
                have q1 := (HB.out.fut (HFW.out.trans HU1.out)).cell (i := 1) rfl
                have q3 := (HB.out.fut (HFW.out.trans HU1.out)).cell (i := 3) rfl
                have q4 := (HB.out.fut (HFW.out.trans HU1.out)).cell (i := 4) rfl
                go_wp2_with fail
                refine (HC9.out _ HU1.out).mono ?_
                rintro r u2 ⟨rfl, hb⟩
                have HU2 := Lib.hid (HU1.out.trans (show Fut _ u2 from hb))
                clear hb y0 y1 q0 q1 q3 q4
                go_wp2_with fail
                go_ret
                exact ⟨rfl, HLW.out.trans HU2.out⟩
              | false =>
                refine wp_region_M o_emendatelaw30_DerivationMonotone_10 (by kernel_rfl) (by kernel_rfl) (by intro c a d v w h; cases d <;> exact h) ?_; unfold o_emendatelaw30_DerivationMonotone_10
                iterate 6 (refine wpF_h rfl rfl (fun K hK => ?_); go_simp; refine hK _ _ ?_; clear hK K)
                (refine wpF_o rfl rfl (fun K hK => ?_); go_simp; first | (go_at_call 18; refine (HE.out _ (by show Fut _ _; repeat (first | (with_reducible assumption) | exact Fut.refl _ | exact Fut.fut _ _ _ | refine Fut.drew ?_ | refine Fut.alloc ?_ _ | refine Fut.trans ?_ (Fut.fut _ _ _) | refine Fut.trans ?_ (by assumption)))).mono ?_; rintro e w1 ⟨rfl, hb1⟩; have hf1 : Fut _ w1 := hb1; refine hK _ _ (.inr hf1) ?_; clear hK K hb1))
                (refine wpF_h rfl rfl (fun K hK => ?_); go_simp; refine hK _ _ ?_; clear hK K)
                refine wpF_nil ?_
                have HFE := Lib.hid (show Fut wz w1 from (by show Fut _ _; repeat (first | (with_reducible assumption) | exact Fut.refl _ | exact Fut.fut _ _ _ | refine Fut.drew ?_ | refine Fut.alloc ?_ _ | refine Fut.trans ?_ (Fut.fut _ _ _) | refine Fut.trans ?_ (by assumption))))
                clear y0 y1 y4 d0 d1
                have y0 := (BB.out.fut HFE.out).cell (i := 0) rfl
                have y1 := (BB.out.fut HFE.out).cell (i := 1) rfl
                have q0 := (HB.out.fut (HFW.out.trans HFE.out)).cell (i := 0) rfl
                have q1 := (HB.out.fut (HFW.out.trans HFE.out)).cell (i := 1) rfl
                have q2 := (HB.out.fut (HFW.out.trans HFE.out)).cell (i := 2) rfl
                go_wp2_with fail
                refine (HV9.out _ HFE.out).mono ?_
                rintro r u1 ⟨rfl, hb⟩
                have HU1 := Lib.hid (HFE.out.trans (show Fut _ u1 from hb))
                clear hb y0 y1 q0 q1 q2
                have y0 := (BB.out.fut HU1.out).cell (i := 0) rfl
                have y1 := (BB.out.fut HU1.out).cell (i := 1) rfl
                have q0 := (HB.out.fut (HFW.out.trans HU1.out)).cell (i := 0) rfl
                have q1 := (HB.out.fut (HFW.out.trans HU1.out)).cell (i := 1) rfl
                have q3 := (HB.out.fut (HFW.out.trans HU1.out)).cell (i := 3) rfl
                have q4 := (HB.out.fut (HFW.out.trans HU1.out)).cell (i := 4) rfl
                go_wp2_with fail
                refine (HC9.out _ HU1.out).mono ?_
                rintro r u2 ⟨rfl, hb⟩
                have HU2 := Lib.hid (HU1.out.trans (show Fut _ u2 from hb))
                clear hb y0 y1 q0 q1 q3 q4
                go_wp2_with fail
                go_ret
                exact ⟨rfl, HLW.out.trans HU2.out⟩
end Go.Proofs.Ytfaekfonemobcaa
