/-
  The law: First returns what the reference returns.
-/
import Derived.Test.YtajbmdjlfniofaaDoorQ36
import Derived.Test.YtajbmdjlfniofaaDoorQ29
namespace Go.Proofs.YtajbmdjlfniofaaDoor
open Go.RowKit Go.Deep PK
attribute [local go_sem] Oper.lit Oper.litS fut_fut fut_drew World.cell?_alloc_some
attribute [local go_sem] fut_base_drew
set_option maxHeartbeats 6400000 in
theorem rfirst0_any (N : Int) (A : Option Addr) (n c : Nat) (root k : Int) (hk : k < 1) (w : World) :
  Calls Tryd.prog 14 #[hv N A n c, .int .i64 root, .int .i64 k] w fun r w' => r = .returned (.slice none 0 0) ∧ Fut w w' := by
 go_enter Tryd.func14, Tryd.ntmps14
 go_wp2_with fail
 go_returns
 exact ⟨rfl, (Fut.refl w).alloc _⟩
/-- what both answer, whatever the bound -/
theorem rfirstQ_any (N : Nat) (A : Option Addr) (n c : Nat) (es : List EI) (w : World) (hl : es.length = n) (hn : n ≤ 12) (hvd : validB N es = true) (hN8 : N ≤ 8) (htl : ∀ e ∈ es, e.t.length ≤ 3) (V : Nat → VV) (hS : Sol (EEs es) V) (hs : ∀ i, (V i).s < INF) (hR : RdE w A es) (root : Nat) (hroot : root < N) (k : Int) (hk8 : k ≤ 8) :
  Calls Tryd.prog 14 #[hv N A n c, .int .i64 (root : Int), .int .i64 k] w fun r w' => (∃ oA oc ks, r = .returned (.slice oA (ks : List DI).length oc) ∧ RdS w' oA 2 encD ks ∧ (∀ d ∈ ks, RdD w' d) ∧ ListQ es root k ks) ∧ Fut w w' := by
 by_cases h1 : k < 1
 ·
  refine (rfirst0_any N A n c root k h1 w).mono ?_
  rintro r w' ⟨rfl, hf⟩
  exact ⟨⟨none, 0, [], rfl, RdS.nil, fun d hd => by simp at hd, PreD.nil, fun _ => rfl, fun h => by omega⟩, hf⟩
 ·
  obtain ⟨m, rfl⟩ : ∃ m : Nat, k = m := ⟨k.toNat, by omega⟩
  have hex : ∀ v : Nat, ∃ L : List DT, v < N → FinL (EEs es) v m L := by
   intro v
   by_cases hv : v < N
   ·
    obtain ⟨e, w', fr, ⟨⟨oA, oc, ks, _, _, _, h3, _, h5, _⟩, _⟩, _⟩ := (first_any N A n c es w hl hn hvd hN8 htl V hS hs hR v hv (m : Int) (by omega)) []
    obtain ⟨h6, h7⟩ := h5 (by omega)
    refine ⟨ks.map toDT, fun _ => ⟨h3, by rw [List.length_map]; omega, ?_⟩⟩
    rcases h7 with h7 | h7
    ·
     left; rw [List.length_map]; omega
    ·
     exact .inr h7
   ·
    exact ⟨[], fun h => absurd h hv⟩
  obtain ⟨K, hK⟩ := Classical.axiomOfChoice hex
  refine (rfirst_any N A n c es w hl hn hvd hN8 htl hR root hroot m (by omega) (by omega) K hK).mono ?_
  rintro r w' ⟨⟨oA, oc, ks, rfl, g1, g2, g3⟩, hf⟩
  have h4 := hK root hroot
  rw [← g3] at h4
  refine ⟨⟨oA, oc, ks, rfl, g1, g2, h4.pre, fun h => by omega, fun _ => ⟨?_, ?_⟩⟩, hf⟩
  ·
   have := h4.len; rw [List.length_map] at this; omega
  ·
   rcases h4.full with h5 | h5
   ·
    left; rw [List.length_map] at h5; omega
   ·
    exact .inr h5
set_option maxHeartbeats 12800000 in
set_option maxRecDepth 4000 in
theorem law_first (N : Int) (A : Option Addr) (n c : Nat) (es : List EI) (root : Int) (j : Nat) (hj : j < 256) (w : World) (hl : es.length = n) (hn : n ≤ maxLen) (hR : RdE w A es) :
  Calls Tryd.prog 3 #[hv N A n c, .int .i64 root, .int .u8 (j : Int)] w fun e w' => e = .returned (.bool true) ∧ Fut w w' := by
 obtain ⟨w0, hw0⟩ : ∃ w0, w0 = w.alloc (.cells #[.int .i64 N, .slice A n c] 24) := ⟨_, rfl⟩
 have HF0 := Lib.hid (show Fut w w0 from by rw [hw0]; exact (Fut.refl w).alloc _)
 have HB0 := Lib.hid (show Blk w0 w.heap.size 24 #[.int .i64 N, .slice A n c] from by rw [hw0]; exact Blk.new _ _ _)
 have HR := Lib.hid hR
 have HL := Lib.hid hl
 have HN := Lib.hid hn
 clear hR hl hn
 go_enter Tryd.func3, Tryd.ntmps3
 go_wp2_with fail
 rw [← hw0]
 clear hw0
 refine (may_any N A n c es root w0 HL.out HN.out (HR.out.fut HF0.out)).mono ?_
 rintro r w1 ⟨⟨b, rfl, hb⟩, hf⟩
 have HM := Lib.hid hb
 have HF1 := Lib.hid hf
 clear hb hf
 cases b with
 | false =>
  go_wp2_with fail
  refine (awake_any _).mono ?_
  rintro r w2 ⟨rfl, hf⟩
  have HF2 := Lib.hid hf
  clear hf
  go_wp2_with fail
  go_returns
  exact ⟨rfl, HF0.out.trans (HF1.out.trans HF2.out)⟩
 | true =>
  obtain ⟨M, V, hm⟩ := HM.out rfl
  obtain rfl := hm.e
  obtain ⟨v, rfl⟩ : ∃ v : Nat, root = v := ⟨root.toNat, by have := hm.r0; omega⟩
  have hvM : v < M := by have := hm.r1; omega
  have HMO := Lib.hid hm
  have HVM := Lib.hid hvM
  have q0 := (HB0.out.fut HF1.out).cell (i := 0) rfl
  have q1 := (HB0.out.fut HF1.out).cell (i := 1) rfl
  clear hm hvM
  go_wp2_with fail
  have hq : ((j : Int) % 8) = ((j % 8 : Nat) : Int) := by omega
  have hq8 : j % 8 < 8 := Nat.mod_lt _ (by omega)
  rw [hq]
  clear hq
  generalize j % 8 = q at *
  have HFI := Lib.hid (fun (k : Int) (hk : k ≤ 50) w' (hf : Fut w1 w') => first_any M A n c es w' HL.out HMO.out.n12 HMO.out.vd HMO.out.m8 HMO.out.tl V HMO.out.S HMO.out.s (HR.out.fut ((HF0.out.trans HF1.out).trans hf)) v HVM.out k hk)
  have HRF := Lib.hid (fun (k : Int) (hk : k ≤ 8) w' (hf : Fut w1 w') => rfirstQ_any M A n c es w' HL.out HMO.out.n12 HMO.out.vd HMO.out.m8 HMO.out.tl V HMO.out.S HMO.out.s (HR.out.fut ((HF0.out.trans HF1.out).trans hf)) v HVM.out k hk)
  obtain ⟨z, hz⟩ : ∃ z : Int, z = (q : Int) - 1 := ⟨_, rfl⟩
  have hz8 : z ≤ 7 := by omega
  rw [← hz]
  clear hz q0 q1
  have q0 := cell_fut ((HB0.out.fut HF1.out).cell (i := 0) rfl)
  have q1 := cell_fut ((HB0.out.fut HF1.out).cell (i := 1) rfl)
  go_wp2_with fail
  have f0 : Fut w1 w1.drew := (Fut.refl w1).drew
  refine wp_region_M o_emendatelaw31_KbestFirst_4 (by kernel_rfl) (by kernel_rfl) (by intro c a d v w h; cases d <;> exact h) ?_; unfold o_emendatelaw31_KbestFirst_4
  refine wpF_o rfl rfl (fun K hK => ?_)
  go_simp
  go_at_call 11
  refine (awake_any _).mono ?_
  rintro r w2 ⟨rfl, hb⟩
  have f2 : Fut w1 w2 := f0.trans hb
  refine hK _ _ (.inr hb) ?_
  clear hK K hb
  iterate 8 (refine wpF_h rfl rfl (fun K hK => ?_); go_simp; refine hK _ _ ?_; clear hK K)
  refine wpF_o rfl rfl (fun K hK => ?_)
  go_simp
  go_at_call 13
  refine (HFI.out z (by omega) _ f2).mono ?_
  rintro r w3 ⟨⟨aA, ac, ka, rfl, a1, a2, a3, a4, a5, a6⟩, hb⟩
  have f3 : Fut w1 w3 := f2.trans hb
  have HA := Lib.hid (show RdS w3 aA 2 encD ka ∧ (∀ d ∈ ka, RdD w3 d) ∧ ListQ es v z ka from ⟨a1, a2, a3, a4, a5⟩)
  refine hK _ _ (.inr hb) ?_
  clear hK K hb a1 a2 a3 a4 a5 a6
  refine wpF_o rfl rfl (fun K hK => ?_)
  go_simp
  go_at_call 14
  refine (HRF.out z (by omega) _ f3).mono ?_
  rintro r w4 ⟨⟨bA, bc, kb, rfl, a1, a2, a3⟩, hb⟩
  have f4 : Fut w1 w4 := f3.trans hb
  have hb4 : Fut w3 w4 := hb
  refine hK _ _ (.inr hb) ?_
  clear hK K hb
  have hl1 : ka.length ≤ maxLen := by
   unfold maxLen
   by_cases h : 0 < z
   ·
    have := (HA.out.2.2.2.2 h).1; omega
   ·
    rw [HA.out.2.2.2.1 (by omega)]; exact Nat.zero_le _
  have hl2 : kb.length ≤ maxLen := by
   unfold maxLen
   by_cases h : 0 < z
   ·
    have := (a3.2.2 h).1; omega
   ·
    rw [a3.2.1 (by omega)]; exact Nat.zero_le _
  have h9 := same_any (M : Int) A n c aA ac bA bc ka kb w4 hl1 hl2 (HA.out.1.fut hb4) (fun d hd => (HA.out.2.1 d hd).fut hb4) a1 a2
  rw [sameB_yes (HA.out.2.2.same a3)] at h9
  refine wpF_o rfl rfl (fun K hK => ?_)
  go_simp
  go_at_call 12
  refine h9.mono ?_
  rintro r w5 ⟨rfl, hb⟩
  have f5 : Fut w1 w5 := f4.trans hb
  refine hK _ _ (.inr hb) ?_
  clear hK K hb h9 hl1 hl2 a1 a2 a3
  iterate 2 (refine wpF_h rfl rfl (fun K hK => ?_); go_simp; refine hK _ _ ?_; clear hK K)
  refine wpF_nil ?_
  go_wp2_with fail
  go_returns
  exact ⟨rfl, HF0.out.trans (HF1.out.trans f5)⟩
end Go.Proofs.YtajbmdjlfniofaaDoor
