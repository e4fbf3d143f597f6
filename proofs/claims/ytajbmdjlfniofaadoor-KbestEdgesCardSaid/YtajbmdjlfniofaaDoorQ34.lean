/-
  The law: without the last hyperedge.
-/
import Derived.Test.YtajbmdjlfniofaaDoorQ29
import Derived.Test.YtajbmdjlfniofaaDoorQ33
import Derived.Test.YtajbmdjlfniofaaDoorBG
namespace Go.Proofs.YtajbmdjlfniofaaDoor
open Go.RowKit Go.Deep PK
attribute [local go_sem] Oper.lit Oper.litS fut_fut fut_drew World.cell?_alloc_some
attribute [local go_sem] fut_base_drew
theorem fut_of_drew' {a b : World} (h : Fut a b) : Fut a.drew b := ⟨h.os, h.tape, h.output, h.size, h.block⟩
theorem EEs_take (es : List EI) (m : Nat) : EEs (es.take m) = (EEs es).take m := by unfold EEs; rw [List.map_take]
theorem valid_take' {N : Int} {es : List EI} (h : validB N es = true) (m : Nat) : validB N (es.take m) = true := by
  simp only [validB, Bool.and_eq_true, decide_eq_true_eq, List.all_eq_true] at h ⊢
  exact ⟨h.1, fun e he => h.2 e (List.mem_of_mem_take he)⟩
theorem RdE.take {w : World} {A : Option Addr} {es : List EI} (h : RdE w A es) (m : Nat) : RdE w A (es.take m) :=
  ⟨h.1.take m, fun e he => h.2 e (List.mem_of_mem_take he)⟩
/-- least values with fewer hyperedges -/
theorem sol_take {M : Nat} {A : Option Addr} {n : Nat} {es : List EI} {w : World} (hl : es.length = n) (hn : n ≤ 12) (hvd : validB M es = true) (hM : M ≤ 8) (htl : ∀ e ∈ es, e.t.length ≤ 3) (hR : RdE w A es) (m : Nat) (hm : m ≤ n) : ∃ V, Sol (EEs (es.take m)) V ∧ ∀ i, (V i).s < INF := by
  have hv := valid_take' hvd m
  obtain ⟨e, w', fr, ⟨⟨V, vb, eb, _, h1, _⟩, _⟩, _⟩ := (solve_any M A m 0 (es.take m) w (by rw [List.length_take]; omega) (by omega) hv (fun e he => by have := htl e (List.mem_of_mem_take he); omega) (hR.take m)) []
  refine ⟨V, h1, fun i => sol_small (EEs_ok hv) h1 hM (fun e he => ?_) i⟩
  obtain ⟨x, hx, rfl⟩ := List.mem_map.1 he
  have h2 := okE_parts ((validB_parts hv).2.2 x hx)
  refine ⟨by simp only [toEE, List.length_map]; exact htl x (List.mem_of_mem_take hx), fun t ht => ?_⟩
  simp only [toEE] at ht
  obtain ⟨y, hy, rfl⟩ := List.mem_map.1 ht
  have := h2.2.2.2.2 y hy
  omega
def keepP (m : Nat) (d : DI) : Bool := !usesD (toDT d) m
theorem keep_map (m : Nat) (ks : List DI) : (ks.filter (keepP m)).map toDT = (ks.map toDT).filter (fun d => !usesD d m) := by
  induction ks with
  | nil => rfl
  | cons a ks ih =>
    rw [List.filter_cons, List.map_cons, List.filter_cons]
    have : keepP m a = !usesD (toDT a) m := rfl
    rw [this]
    split
    · rw [List.map_cons, ih]
    · exact ih
theorem edges_same {F : List EI} {v k : Nat} {a W : List DI} (h : ListQ F v k a) (hk : W.length = k) (hp : PreD (EEs F) v (W.map toDT)) : a.map toDT = W.map toDT := by
  by_cases h0 : (0 : Int) < k
  · obtain ⟨h1, h2⟩ := h.2.2 h0
    have hl : a.length = W.length := by
      rcases h2 with h2 | h2
      · omega
      · have := h2.len h.1 hp
        rw [List.length_map, List.length_map] at this
        omega
    have := h.1.eq_take hp (by rw [List.length_map, List.length_map]; omega)
    rw [this, List.length_map, hl, ← List.length_map (f := toDT), List.take_length]
  · rw [h.2.1 (by omega), List.length_eq_zero_iff.1 (show W.length = 0 by omega)]
theorem edges_len {F : List EI} {v : Nat} {b W : List DI} (h : ListQ F v 9 b) (hW : W.length ≤ 8) (hp : PreD (EEs F) v (W.map toDT)) (hf : FullD (EEs F) v (W.map toDT)) : b.length = W.length := by
  obtain ⟨h1, h2⟩ := h.2.2 (by omega)
  have h3 := hf.len hp h.1
  rw [List.length_map, List.length_map] at h3
  rcases h2 with h2 | h2
  · omega
  · have := h2.len h.1 hp
    rw [List.length_map, List.length_map] at this
    omega
set_option maxHeartbeats 12800000 in
set_option maxRecDepth 4000 in
theorem law_edges (N : Int) (A : Option Addr) (n c : Nat) (es : List EI) (root : Int) (w : World) (hl : es.length = n) (hn : n ≤ maxLen) (hR : RdE w A es) (hnc : n ≤ c) :
    Calls Tryd.prog 9 #[hv N A n c, .int .i64 root] w fun e w' => e = .returned (.bool true) ∧ Fut w w' := by
  obtain ⟨w0, hw0⟩ : ∃ w0, w0 = w.alloc (.cells #[.int .i64 N, .slice A n c] 24) := ⟨_, rfl⟩
  have HF0 := Lib.hid (show Fut w w0 from by rw [hw0]; exact (Fut.refl w).alloc _)
  have HB0 := Lib.hid (show Blk w0 w.heap.size 24 #[.int .i64 N, .slice A n c] from by rw [hw0]; exact Blk.new _ _ _)
  have HR := Lib.hid hR
  have HL := Lib.hid hl
  have HN := Lib.hid hn
  clear hR hl hn
  go_enter Tryd.func9, Tryd.ntmps9
  go_wp2_with fail
  rw [← hw0]
  clear hw0
  refine (may_any N A n c es root w0 HL.out HN.out (HR.out.fut HF0.out)).mono ?_
  rintro r w1 ⟨⟨b, rfl, hb⟩, hf⟩
  have HM := Lib.hid hb
  have HF1 := Lib.hid hf
  clear hb hf
  cases b with
  | false =>
    go_wp2_with fail
    refine (awake_any _).mono ?_
    rintro r w2 ⟨rfl, hf⟩
    have HF2 := Lib.hid hf
    clear hf
    go_wp2_with fail
    go_returns
    exact ⟨rfl, HF0.out.trans (HF1.out.trans HF2.out)⟩
  | true =>
    obtain ⟨M, V, hm⟩ := HM.out rfl
    obtain rfl := hm.e
    obtain ⟨v, rfl⟩ : ∃ v : Nat, root = v := ⟨root.toNat, by have := hm.r0; omega⟩
    have hvM : v < M := by have := hm.r1; omega
    have HMO := Lib.hid hm
    have HVM := Lib.hid hvM
    have q0 := (HB0.out.fut HF1.out).cell (i := 0) rfl
    have q1 := (HB0.out.fut HF1.out).cell (i := 1) rfl
    clear hm hvM
    by_cases hn0 : n = 0
    · subst hn0
      go_wp2_with fail
      refine (awake_any _).mono ?_
      rintro r w9 ⟨rfl, hf⟩
      have HF9 := Lib.hid (show Fut w1 w9 from hf)
      clear hf
      go_wp2_with fail
      go_returns
      exact ⟨rfl, HF0.out.trans (HF1.out.trans HF9.out)⟩
    · obtain ⟨m, rfl⟩ : ∃ m, n = m + 1 := ⟨n - 1, by omega⟩
      have hz : ¬ ((m : Int) + 1 = 0) := by omega
      obtain ⟨z1, z2, z3⟩ := cmpF_no hz
      have hm12 : m ≤ 11 := by have := HMO.out.n12; omega
      have hwm : IntKind.i64.wrap (m : Int) = (m : Int) := by rw [IntKind.wrap_i64]; omega
      clear hn0 hz
      go_wp2_with fail
      refine (first_any M A (m + 1) c es w1 HL.out HMO.out.n12 HMO.out.vd HMO.out.m8 HMO.out.tl V HMO.out.S HMO.out.s (HR.out.fut (HF0.out.trans HF1.out)) v HVM.out 8 (by omega)).mono ?_
      rintro r w2 ⟨⟨oA, oc, ks, rfl, r1, r2, r3, r4, r5, -⟩, hb⟩
      have HF2 := Lib.hid (HF1.out.trans (show Fut w1 w2 from hb))
      have HK := Lib.hid (And.intro r1 (And.intro r2 (And.intro r3 (r5 (by omega)))))
      obtain ⟨kn, hkn⟩ : ∃ kn, ks.length = kn := ⟨_, rfl⟩
      have hk8 : (kn : Int) ≤ 8 := by have := (r5 (by omega)).1; omega
      have HLK := Lib.hid hkn
      rw [hkn]
      have HFA := Lib.hid (HF0.out.trans HF2.out)
      have HFB := Lib.hid (HB0.out.fut HF2.out)
      clear hb r1 r2 r3 r4 r5 q0 q1 hkn
      go_wp2_with fail
      go_loopw [7, 8] (fun x i wr => ∃ j : Nat, j ≤ kn ∧ i = .int .i64 j ∧ Hid (wr.ownsRow w2.heap.size 35 2 x ((ks.take j).filter (keepP m)).length (((ks.take j).filter (keepP m)).flatMap encD)) ∧ Fut w2 wr) (fun _ i _ => kn - (intOf i).toNat)
      case atStart => exact ⟨0, Nat.zero_le _, rfl, Lib.hid (World.ownsRow_nil _ _ _ _), Fut.refl _⟩
      case round =>
        obtain ⟨j, hj, rfl, HO, hF⟩ := hrel
        have HF3 := Lib.hid hF
        obtain ⟨XA, Xc, rfl⟩ := own_formK HO.out
        by_cases hlt : j < kn
        · obtain ⟨y, hy⟩ := get_lt HLK.out hlt
          obtain ⟨b, o, rfl, hc⟩ := HK.out.1 j y hy
          have HY := Lib.hid hy
          have c0 := hF.cell (hc 0 _ (by decide) rfl)
          have c1 := hF.cell (hc 1 _ (by decide) rfl)
          simp only [Nat.add_zero] at c0
          have HU := Lib.hid (uses_any y (m : Int) wr ((HK.out.2.1 y (List.mem_of_getElem? hy)).fut hF))
          have hln : ((ks.take j).filter (keepP m)).length ≤ 8 := Nat.le_trans (List.length_filter_le _ _) (by rw [List.length_take]; omega)
          obtain ⟨q, hq⟩ : ∃ q, ((ks.take j).filter (keepP m)).length = q := ⟨_, rfl⟩
          have HQ := Lib.hid hq
          rw [hq] at HO hln
          simp only [dv] at HU
          rw [hq]
          clear hy hc hF hq
          go_wp2_with fail
          refine HU.out.mono ?_
          rintro r w3 ⟨rfl, hb⟩
          have HF4 := Lib.hid (show Fut wr w3 from hb)
          obtain ⟨bb, hbb⟩ : ∃ bb, usesD (toDT y) (m : Int) = bb := ⟨_, rfl⟩
          rw [hbb]
          have HBB := Lib.hid hbb
          have HO3 := Lib.hid (own_fut HO.out HF4.out)
          have d0 := HF4.out.cell c0
          have d1 := HF4.out.cell c1
          clear hb hbb c0 c1
          cases bb with
          | true =>
            go_wp2_with fail
            refine ⟨⟨j + 1, by omega, by go_num, Lib.hid ?_, HF3.out.trans HF4.out⟩, by simp [intOf]; omega⟩
            rw [List.take_add_one, HY.out, List.filter_append, show (some y).toList.filter (keepP m) = [] from by simp [keepP, HBB.out], List.append_nil, HQ.out]
            exact HO3.out
          | false =>
            have HOW := Lib.hid (World.ownsRow.alloc HO3.out (.cells #[.int .i64 y.e, .slice y.A y.k.length y.c] 35))
            have HFO := Lib.hid (HF4.out.alloc (.cells #[.int .i64 y.e, .slice y.A y.k.length y.c] 35))
            go_wp2_with (at_builtin; refine wpList_push rfl 28 35 2 32 _ Tryd.underlying28 info_dr rfl (by decide) (by decide) (.tmp 41) (.tmp 46) rfl w2.heap.size (.slice XA q Xc) q _ rfl HOW.out w3.heap.size [.int .i64 y.e, .slice y.A y.k.length y.c] rfl (heap_new' _ _ _ rfl) rfl (by simp [Value.oneCell']) (by omega) (Nat.le_trans HF3.out.size HFO.out.size) ?_; intro g cap w' h1 h2 h3)
            refine ⟨⟨j + 1, by omega, by go_num, Lib.hid ?_, Below.grown (HF3.out.trans HFO.out) h2 (Nat.le_trans HF3.out.size HFO.out.size) (fun q hq => (World.ownsRow.lt HOW.out q hq).1)⟩, by simp [intOf]; omega⟩
            rw [List.take_add_one, HY.out, List.filter_append, show (some y).toList.filter (keepP m) = [y] from by simp [keepP, HBB.out], List.length_append, HQ.out, List.flatMap_append]
            simpa [encD] using h1
        · have hjk : j = kn := by omega
          subst hjk
          obtain ⟨W, hW⟩ : ∃ W, W = ks.filter (keepP m) := ⟨_, rfl⟩
          rw [List.take_of_length_le (by rw [HLK.out]; exact Nat.le_refl _), ← hW] at HO
          rw [List.take_of_length_le (by rw [HLK.out]; exact Nat.le_refl _), ← hW]
          have hWm : W.map toDT = (ks.map toDT).filter (fun d => !usesD d m) := by rw [hW]; exact keep_map m ks
          have hlen : (EEs es).length = m + 1 := by unfold EEs; rw [List.length_map]; exact HL.out
          obtain ⟨hp, hfp⟩ := pre_take hlen HK.out.2.2.1
          rw [← hWm, ← EEs_take] at hp hfp
          have hW8 : W.length ≤ j := by rw [hW, ← HLK.out]; exact List.length_filter_le _ _
          have HWD := Lib.hid (show RdS wr XA 2 encD W ∧ ∀ d ∈ W, RdD wr d from ⟨RdS.of_own (enc := encD) (fun _ => rfl) (by decide) HO.out, fun d hd => (HK.out.2.1 d (by rw [hW] at hd; exact (List.mem_filter.1 hd).1)).fut HF3.out⟩)
          have HP := Lib.hid (And.intro hp hfp)
          obtain ⟨V', hV1, hV2⟩ := sol_take HL.out HMO.out.n12 HMO.out.vd HMO.out.m8 HMO.out.tl HR.out m (by omega)
          have HV := Lib.hid (And.intro hV1 hV2)
          obtain ⟨x0, hx0⟩ := get_lt HL.out (show 0 < m + 1 by omega)
          obtain ⟨ab, ao, hA, _⟩ := HR.out.1 0 x0 hx0
          obtain ⟨q, hq⟩ : ∃ q, W.length = q := ⟨_, rfl⟩
          have HQ := Lib.hid hq
          rw [hq] at hW8 ⊢
          have s1 : ((0 : Int) ≤ (m : Int)) = True := eq_true (by omega)
          have s2 : ((m : Int) ≤ (c : Int)) = True := eq_true (by omega)
          obtain ⟨S, hS⟩ : ∃ S : Nat → Bool, S = fun k => decide (wr.heap.size ≤ k) := ⟨_, rfl⟩
          have hlow : ∀ q, q < wr.heap.size → S q = false := fun q hq => by rw [hS]; exact decide_eq_false (by omega)
          have HHI := Lib.hid (show ∀ q, wr.heap.size ≤ q → S q = true from fun q hq => by rw [hS]; exact decide_eq_true hq)
          clear hS
          have QQ := HFB.out.fut HF3.out
          have g0 := cell_futS (QQ.cell (i := 0) rfl) (hlow _ (World.block_lt_of_cell? _ _ (QQ.cell (i := 0) rfl)))
          have g1 := cell_futS (QQ.cell (i := 1) rfl) (hlow _ (World.block_lt_of_cell? _ _ (QQ.cell (i := 1) rfl)))
          have HQQ := Lib.hid QQ
          subst hA
          clear hlow QQ hp hfp hV1 hV2 hx0 hq hlen hWm hW hj hF
          go_wp2_with fail
          refine wp_region_MG (relS S) o_emendatelaw31_KbestEdges_11 (by kernel_rfl) (by kernel_rfl) (by intro c a d v w h; cases d <;> exact h) ?_; unfold o_emendatelaw31_KbestEdges_11
          iterate 7 (refine wpS_h rfl rfl (fun K hK => ?_); go_simp; refine hK _ _ ?_; clear hK K)
          refine wpG_o rfl rfl (fun K hK => ?_)
          go_simp
          have HFD := Lib.hid (show Fut wr ((wr.alloc (.cells #[.int .i64 0, .slice none 0 0] 24)).drew) from ((Fut.refl wr).alloc _).drew)
          have BK0 : Blk ((wr.alloc (.cells #[.int .i64 0, .slice none 0 0] 24)).drew) wr.heap.size 24 #[.int .i64 0, .slice none 0 0] := heap_new' _ _ _ rfl
          refine hK _ _ (.inr ((relS S).of_fut (fut_of_drew' HFD.out))) ?_
          clear hK K
          generalize (wr.alloc (.cells #[.int .i64 0, .slice none 0 0] 24)).drew = wd at *
          have z0 := BK0.cell (i := 0) rfl
          have z1 := BK0.cell (i := 1) rfl
          have z2 := BK0.fz 0
          have z3 := BK0.fz 1
          refine wpG_o rfl rfl (fun K hK => ?_)
          go_simp
          refine hK _ _ (.inr ((relS S).trans (futS_set _ _ _ (HHI.out _ (Nat.le_refl _))) (futS_set _ _ _ (HHI.out _ (Nat.le_refl _))))) ?_
          clear hK K z0 z1 z2 z3
          refine wpG_nil ?_
          have BX := Lib.hid ((BK0.set 0 (.int .i64 (M : Int))).set 1 (.slice (some ⟨ab, ao, none⟩) m c))
          have HFX := Lib.hid (show Fut wr ((wd.setCell ⟨wr.heap.size, 0, none⟩ (.int .i64 (M : Int))).setCell ⟨wr.heap.size, 1, none⟩ (.slice (some ⟨ab, ao, none⟩) m c)) from (HFD.out.setCell (p := ⟨wr.heap.size, 0, none⟩) (Nat.le_refl _) _).setCell (p := ⟨wr.heap.size, 1, none⟩) (Nat.le_refl _) _)
          generalize (wd.setCell ⟨wr.heap.size, 0, none⟩ (.int .i64 (M : Int))).setCell ⟨wr.heap.size, 1, none⟩ (.slice (some ⟨ab, ao, none⟩) m c) = wx at *
          clear BK0 HFD g0 g1
          have HAX := Lib.hid (HFA.out.trans (HF3.out.trans HFX.out))
          have HFI := Lib.hid (fun (k : Int) (hk : k ≤ 50) w' (hf : Fut wx w') => first_any M (some ⟨ab, ao, none⟩) m c (es.take m) w' (by rw [List.length_take, HL.out]; omega) (by omega) (valid_take' HMO.out.vd m) HMO.out.m8 (fun e he => HMO.out.tl e (List.mem_of_mem_take he)) V' HV.out.1 HV.out.2 ((HR.out.fut (HAX.out.trans hf)).take m) v HVM.out k hk)
          have HSM := Lib.hid (fun oA oc (ks' : List DI) w' (hf : Fut wx w') (hS : RdS w' oA 2 encD ks') (hD : ∀ d ∈ ks', RdD w' d) (hQ : ListQ (es.take m) v (q : Int) ks') => by
            have h8 := edges_same hQ HQ.out HP.out.1
            have h7 := congrArg List.length h8
            rw [List.length_map, List.length_map] at h7
            have h9 := same_any (M : Int) (some ⟨ab, ao, none⟩) m c oA oc XA Xc ks' W w' (by rw [h7]; have := HQ.out; unfold maxLen; omega) (by have := HQ.out; unfold maxLen; omega) hS hD (HWD.out.1.fut (HFX.out.trans hf)) (fun d hd => (HWD.out.2 d hd).fut (HFX.out.trans hf))
            rw [sameB_yes h8, HQ.out] at h9
            exact h9)
          have p0 := cell_fut (BX.out.cell (i := 0) rfl)
          have p1 := cell_fut (BX.out.cell (i := 1) rfl)
          go_wp2_with fail
          have f0 : Fut wx wx.drew := (Fut.refl wx).drew
          refine wp_region_M o_emendatelaw31_KbestEdges_12 (by kernel_rfl) (by kernel_rfl) (by intro c a d v w h; cases d <;> exact h) ?_; unfold o_emendatelaw31_KbestEdges_12
          refine wpF_o rfl rfl (fun K hK => ?_)
          go_simp
          go_at_call 11
          refine (awake_any _).mono ?_
          rintro r w4 ⟨rfl, hb⟩
          have f4 : Fut wx w4 := f0.trans hb
          refine hK _ _ (.inr hb) ?_
          clear hK K hb
          iterate 7 (refine wpF_h rfl rfl (fun K hK => ?_); go_simp; refine hK _ _ ?_; clear hK K)
          refine wpF_o rfl rfl (fun K hK => ?_)
          go_simp
          go_at_call 13
          refine (HFI.out (q : Int) (by omega) _ f4).mono ?_
          rintro r w5 ⟨⟨aA, ac, ka, rfl, a1, a2, a3, a4, a5, -⟩, hb⟩
          have f5 : Fut wx w5 := f4.trans hb
          have HA := Lib.hid (show RdS w5 aA 2 encD ka ∧ (∀ d ∈ ka, RdD w5 d) ∧ ListQ (es.take m) v q ka from ⟨a1, a2, a3, a4, a5⟩)
          refine hK _ _ (.inr hb) ?_
          clear hK K hb a1 a2 a3 a4 a5
          refine wpF_o rfl rfl (fun K hK => ?_)
          go_simp
          go_at_call 12
          refine (HSM.out aA ac ka _ f5 HA.out.1 HA.out.2.1 HA.out.2.2).mono ?_
          rintro r w6 ⟨rfl, hb⟩
          have f6 : Fut wx w6 := f5.trans hb
          refine hK _ _ (.inr hb) ?_
          clear hK K hb
          by_cases hj8 : j = 8
          · subst hj8
            iterate 6 (refine wpF_h rfl rfl (fun K hK => ?_); go_simp; refine hK _ _ ?_; clear hK K)
            iterate 4 (refine wpF_hs2 rfl rfl (fun K hK => ?_); go_simp; refine hK _ _ ?_; clear hK K)
            (refine wpF_os2 rfl rfl (fun K hK => ?_); go_simp; refine hK _ _ ?_; clear hK K)
            iterate 2 (refine wpF_hs2 rfl rfl (fun K hK => ?_); go_simp; refine hK _ _ ?_; clear hK K)
            iterate 3 (refine wpF_h rfl rfl (fun K hK => ?_); go_simp; refine hK _ _ ?_; clear hK K)
            refine wpF_nil ?_
            go_wp2_with fail
            go_returns
            exact ⟨rfl, HAX.out.trans f6⟩
          · obtain ⟨y1, y2, y3⟩ := cmpF_no (show ¬ (j : Int) = 8 by omega)
            iterate 10 (refine wpF_h rfl rfl (fun K hK => ?_); go_simp; refine hK _ _ ?_; clear hK K)
            refine wpF_o rfl rfl (fun K hK => ?_)
            go_simp
            go_at_call 13
            refine (HFI.out 9 (by omega) _ f6).mono ?_
            rintro r w7 ⟨⟨bA, bc, kb, rfl, a1, a2, a3, a4, a5, -⟩, hb⟩
            have f7 : Fut wx w7 := f6.trans hb
            have hbl : (kb.length : Int) = (q : Int) := by
              have h1 : FullD (EEs es) v (ks.map toDT) := by
                rcases HK.out.2.2.2.2 with h2 | h2
                · have := HLK.out; omega
                · exact h2
              have := edges_len ⟨a3, a4, a5⟩ (by have := HQ.out; omega) HP.out.1 (HP.out.2 h1)
              rw [this, HQ.out]
            refine hK _ _ (.inr hb) ?_
            clear hK K hb a1 a2 a3 a4 a5
            obtain ⟨u1, u2, u3⟩ := cmpF_yes hbl
            clear hbl
            iterate 5 (refine wpF_h rfl rfl (fun K hK => ?_); go_simp; refine hK _ _ ?_; clear hK K)
            refine wpF_nil ?_
            go_wp2_with fail
            go_returns
            exact ⟨rfl, HAX.out.trans f7⟩
end Go.Proofs.YtajbmdjlfniofaaDoor
