/-
  The law: the first k are the beginning of the first k + 1.
-/
import Derived.Test.YtajbmdjlfniofaaDoorBL
namespace Go.Proofs.YtajbmdjlfniofaaDoor
open Go.RowKit Go.Deep PK
attribute [local go_sem] Oper.lit Oper.litS fut_fut fut_drew World.cell?_alloc_some
attribute [local go_sem] fut_base_drew
theorem cmpF_yes {a b : Int} (h : a = b) : ((a = b) = True) ∧ (a == b) = true ∧ (a != b) = false := by subst h; simp
/-- what First answers -/
def ListQ (es : List EI) (v : Nat) (k : Int) (ks : List DI) : Prop := PreD (EEs es) v (ks.map toDT) ∧ (k ≤ 0 → ks = []) ∧ (0 < k → (ks.length : Int) ≤ k ∧ ((ks.length : Int) = k ∨ FullD (EEs es) v (ks.map toDT)))
theorem ListQ.len {es : List EI} {v : Nat} {k : Int} {ks : List DI} (h : ListQ es v k ks) (hk : 0 ≤ k) : (ks.length : Int) ≤ k := by
  by_cases h0 : 0 < k
  · exact (h.2.2 h0).1
  · rw [h.2.1 (by omega)]; simpa using hk
theorem ListQ.next {es : List EI} {v : Nat} {k : Int} {a b : List DI} (h : ListQ es v k a) (g : ListQ es v (k + 1) b) (hk : 0 ≤ k) : a.length ≤ b.length ∧ ((a.length : Int) = k ∨ b.length = a.length) ∧ a.map toDT = (b.take a.length).map toDT := by
  have hla := h.len hk
  have hlb := (g.2.2 (by omega)).1
  have key : a.length ≤ b.length := by
    rcases (g.2.2 (by omega)).2 with h1 | h1
    · omega
    · have := h1.len g.1 h.1
      rwa [List.length_map, List.length_map] at this
  refine ⟨key, ?_, ?_⟩
  · by_cases h0 : 0 < k
    · rcases (h.2.2 h0).2 with h1 | h1
      · exact .inl h1
      · right
        have := h1.len h.1 g.1
        rw [List.length_map, List.length_map] at this
        omega
    · left
      rw [h.2.1 (by omega)]
      simp only [List.length_nil]
      omega
  · have := h.1.eq_take g.1 (by rw [List.length_map, List.length_map]; exact key)
    rw [this, List.length_map, List.map_take]
theorem ListQ.same {es : List EI} {v : Nat} {k : Int} {a b : List DI} (h : ListQ es v k a) (g : ListQ es v k b) : a.map toDT = b.map toDT := by
  by_cases h0 : 0 < k
  · have hl : (a.map toDT).length = (b.map toDT).length := by
      have h1 := (h.2.2 h0)
      have h2 := (g.2.2 h0)
      rw [List.length_map, List.length_map]
      rcases h1.2 with h3 | h3
      · rcases h2.2 with h4 | h4
        · omega
        · have := h4.len g.1 h.1
          rw [List.length_map, List.length_map] at this
          omega
      · have := h3.len h.1 g.1
        rw [List.length_map, List.length_map] at this
        rcases h2.2 with h4 | h4
        · omega
        · have := h4.len g.1 h.1
          rw [List.length_map, List.length_map] at this
          omega
    have h1 := h.1.eq_take g.1 (by omega)
    rw [hl, List.take_length] at h1
    exact h1
  · rw [h.2.1 (by omega), g.2.1 (by omega)]
set_option maxHeartbeats 12800000 in
set_option maxRecDepth 4000 in
theorem law_prefix (N : Int) (A : Option Addr) (n c : Nat) (es : List EI) (root : Int) (j : Nat) (hj : j < 256) (w : World) (hl : es.length = n) (hn : n ≤ maxLen) (hR : RdE w A es) :
    Calls Tryd.prog 8 #[hv N A n c, .int .i64 root, .int .u8 (j : Int)] w fun e w' => e = .returned (.bool true) ∧ Fut w w' := by
  obtain ⟨w0, hw0⟩ : ∃ w0, w0 = w.alloc (.cells #[.int .i64 N, .slice A n c] 24) := ⟨_, rfl⟩
  have HF0 := Lib.hid (show Fut w w0 from by rw [hw0]; exact (Fut.refl w).alloc _)
  have HB0 := Lib.hid (show Blk w0 w.heap.size 24 #[.int .i64 N, .slice A n c] from by rw [hw0]; exact Blk.new _ _ _)
  have HR := Lib.hid hR
  have HL := Lib.hid hl
  have HN := Lib.hid hn
  clear hR hl hn
  go_enter Tryd.func8, Tryd.ntmps8
  go_wp2_with fail
  rw [← hw0]
  clear hw0
  refine (may_any N A n c es root w0 HL.out HN.out (HR.out.fut HF0.out)).mono ?_
  rintro r w1 ⟨⟨b, rfl, hb⟩, hf⟩
  have HM := Lib.hid hb
  have HF1 := Lib.hid hf
  clear hb hf
  cases b with
  | false =>
    go_wp2_with fail
    refine (awake_any _).mono ?_
    rintro r w2 ⟨rfl, hf⟩
    have HF2 := Lib.hid hf
    clear hf
    go_wp2_with fail
    go_returns
    exact ⟨rfl, HF0.out.trans (HF1.out.trans HF2.out)⟩
  | true =>
    obtain ⟨M, V, hm⟩ := HM.out rfl
    obtain rfl := hm.e
    obtain ⟨v, rfl⟩ : ∃ v : Nat, root = v := ⟨root.toNat, by have := hm.r0; omega⟩
    have hvM : v < M := by have := hm.r1; omega
    have HMO := Lib.hid hm
    have HVM := Lib.hid hvM
    have q0 := (HB0.out.fut HF1.out).cell (i := 0) rfl
    have q1 := (HB0.out.fut HF1.out).cell (i := 1) rfl
    clear hm hvM
    go_wp2_with fail
    have hq : ((j : Int) % 8) = ((j % 8 : Nat) : Int) := by omega
    have hq8 : j % 8 < 8 := Nat.mod_lt _ (by omega)
    rw [hq]
    clear hq
    generalize j % 8 = q at *
    have hwq : IntKind.i64.wrap ((q : Int) + 1) = (q : Int) + 1 := by rw [IntKind.wrap_i64]; omega
    have HFI := Lib.hid (fun (k : Int) (hk : k ≤ 50) w' (hf : Fut w1 w') => first_any M A n c es w' HL.out HMO.out.n12 HMO.out.vd HMO.out.m8 HMO.out.tl V HMO.out.S HMO.out.s (HR.out.fut ((HF0.out.trans HF1.out).trans hf)) v HVM.out k hk)
    clear q0 q1
    have q0 := cell_fut ((HB0.out.fut HF1.out).cell (i := 0) rfl)
    have q1 := cell_fut ((HB0.out.fut HF1.out).cell (i := 1) rfl)
    go_wp2_with fail
    have f0 : Fut w1 w1.drew := (Fut.refl w1).drew
    refine wp_region_M o_emendatelaw31_KbestPrefix_4 (by kernel_rfl) (by kernel_rfl) (by intro c a d v w h; cases d <;> exact h) ?_; unfold o_emendatelaw31_KbestPrefix_4
    iterate 7 (refine wpF_h rfl rfl (fun K hK => ?_); go_simp; refine hK _ _ ?_; clear hK K)
    refine wpF_o rfl rfl (fun K hK => ?_)
    go_simp
    go_at_call 13
    refine (HFI.out (q : Int) (by omega) _ f0).mono ?_
    rintro r w2 ⟨⟨aA, ac, ka, rfl, a1, a2, a3, a4, a5, a6⟩, hb⟩
    have f2 : Fut w1 w2 := f0.trans hb
    have HA := Lib.hid (show RdS w2 aA 2 encD ka ∧ (∀ d ∈ ka, RdD w2 d) ∧ ListQ es v q ka from ⟨a1, a2, a3, a4, a5⟩)
    refine hK _ _ (.inr hb) ?_
    clear hK K hb a1 a2 a3 a4 a5 a6
    refine wpF_o rfl rfl (fun K hK => ?_)
    go_simp
    go_at_call 13
    refine (HFI.out ((q : Int) + 1) (by omega) _ f2).mono ?_
    rintro r w3 ⟨⟨bA, bc, kb, rfl, a1, a2, a3, a4, a5, a6⟩, hb⟩
    have f3 : Fut w1 w3 := f2.trans hb
    have HB := Lib.hid (show RdS w3 bA 2 encD kb ∧ (∀ d ∈ kb, RdD w3 d) ∧ ListQ es v ((q : Int) + 1) kb from ⟨a1, a2, a3, a4, a5⟩)
    have HA3 := Lib.hid (show RdS w3 aA 2 encD ka ∧ (∀ d ∈ ka, RdD w3 d) from ⟨HA.out.1.fut hb, fun d hd => (HA.out.2.1 d hd).fut hb⟩)
    have HCB := Lib.hid a6
    refine hK _ _ (.inr hb) ?_
    clear hK K hb a1 a2 a3 a4 a5 a6
    iterate 2 (refine wpF_h rfl rfl (fun K hK => ?_); go_simp; refine hK _ _ ?_; clear hK K)
    refine wpF_nil ?_
    obtain ⟨hab, hor, hmap⟩ := HA.out.2.2.next HB.out.2.2 (by omega)
    have hla := HA.out.2.2.len (by omega)
    have hlb := HB.out.2.2.len (by omega)
    have HSM := Lib.hid (fun w' (hf : Fut w3 w') => by
      have h9 := same_any (M : Int) A n c aA ac bA bc ka (kb.take ka.length) w' (by unfold maxLen; omega) (by rw [List.length_take]; unfold maxLen; omega) (HA3.out.1.fut hf) (fun d hd => (HA3.out.2 d hd).fut hf) ((HB.out.1.take ka.length).fut hf) (fun d hd => (HB.out.2.1 d (List.mem_of_mem_take hd)).fut hf)
      rw [sameB_yes hmap, List.length_take, Nat.min_eq_left hab] at h9
      exact h9)
    have hcb := HCB.out
    clear hmap
    generalize ka.length = an at *
    generalize kb.length = bn at *
    have t1 : ((an : Int) ≤ (q : Int)) = True := eq_true hla
    have t2 : ((bn : Int) ≤ (q : Int) + 1) = True := eq_true hlb
    have t3 : ((an : Int) ≤ (bn : Int)) = True := eq_true (by omega)
    have t4 : ((0 : Int) ≤ (an : Int)) = True := eq_true (by omega)
    have t5 : ((an : Int) ≤ (bc : Int)) = True := eq_true (by omega)
    have p0 := cell_fut ((HB0.out.fut (HF1.out.trans f3)).cell (i := 0) rfl)
    have p1 := cell_fut ((HB0.out.fut (HF1.out.trans f3)).cell (i := 1) rfl)
    clear hla hlb hab q0 q1
    go_wp2_with fail
    have g3 : Fut w3 w3.drew := (Fut.refl w3).drew
    refine wp_region_M o_emendatelaw31_KbestPrefix_5 (by kernel_rfl) (by kernel_rfl) (by intro c a d v w h; cases d <;> exact h) ?_; unfold o_emendatelaw31_KbestPrefix_5
    refine wpF_o rfl rfl (fun K hK => ?_)
    go_simp
    go_at_call 11
    refine (awake_any _).mono ?_
    rintro r w4 ⟨rfl, hb⟩
    have f5 : Fut w3 w4 := g3.trans hb
    refine hK _ _ (.inr hb) ?_
    clear hK K hb
    by_cases haq : (an : Int) = (q : Int)
    · obtain ⟨x1, x2, x3⟩ := cmpF_yes haq
      clear haq
      iterate 26 (refine wpF_h rfl rfl (fun K hK => ?_); go_simp; refine hK _ _ ?_; clear hK K)
      iterate 5 (refine wpF_hs2 rfl rfl (fun K hK => ?_); go_simp; refine hK _ _ ?_; clear hK K)
      iterate 9 (refine wpF_h rfl rfl (fun K hK => ?_); go_simp; refine hK _ _ ?_; clear hK K)
      refine wpF_o rfl rfl (fun K hK => ?_)
      go_simp
      go_at_call 12
      refine (HSM.out _ f5).mono ?_
      rintro r w6 ⟨rfl, hb⟩
      have f6 : Fut w3 w6 := f5.trans hb
      refine hK _ _ (.inr hb) ?_
      clear hK K hb
      iterate 2 (refine wpF_h rfl rfl (fun K hK => ?_); go_simp; refine hK _ _ ?_; clear hK K)
      refine wpF_nil ?_
      go_wp2_with fail
      go_returns
      exact ⟨rfl, HF0.out.trans (HF1.out.trans (f3.trans f6))⟩
    · have hbq : (bn : Int) = (an : Int) := by omega
      obtain ⟨x1, x2, x3⟩ := cmpF_no haq
      obtain ⟨y1, y2, y3⟩ := cmpF_yes hbq
      clear haq hbq
      iterate 40 (refine wpF_h rfl rfl (fun K hK => ?_); go_simp; refine hK _ _ ?_; clear hK K)
      refine wpF_o rfl rfl (fun K hK => ?_)
      go_simp
      go_at_call 12
      refine (HSM.out _ f5).mono ?_
      rintro r w6 ⟨rfl, hb⟩
      have f6 : Fut w3 w6 := f5.trans hb
      refine hK _ _ (.inr hb) ?_
      clear hK K hb
      iterate 2 (refine wpF_h rfl rfl (fun K hK => ?_); go_simp; refine hK _ _ ?_; clear hK K)
      refine wpF_nil ?_
      go_wp2_with fail
      go_returns
      exact ⟨rfl, HF0.out.trans (HF1.out.trans (f3.trans f6))⟩
end Go.Proofs.YtajbmdjlfniofaaDoor
