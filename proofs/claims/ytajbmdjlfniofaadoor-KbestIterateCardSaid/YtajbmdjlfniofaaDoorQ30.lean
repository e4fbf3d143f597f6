/-
  The law: Iterate yields what First returns.
-/
import Derived.Test.YtajbmdjlfniofaaDoorQ29
namespace Go.Proofs.YtajbmdjlfniofaaDoor
open Go.RowKit Go.Deep PK
attribute [local go_sem] Oper.lit Oper.litS fut_fut fut_drew World.cell?_alloc_some
attribute [local go_sem] fut_base_drew
set_option maxHeartbeats 12800000 in
set_option maxRecDepth 4000 in
theorem law_iterate (N : Int) (A : Option Addr) (n c : Nat) (es : List EI) (root : Int) (j : Nat) (hj : j < 256) (w : World) (hl : es.length = n) (hn : n ≤ maxLen) (hR : RdE w A es) :
    Calls Tryd.prog 4 #[hv N A n c, .int .i64 root, .int .u8 (j : Int)] w fun e w' => e = .returned (.bool true) ∧ Fut w w' := by
  obtain ⟨w0, hw0⟩ : ∃ w0, w0 = w.alloc (.cells #[.int .i64 N, .slice A n c] 24) := ⟨_, rfl⟩
  have HF0 := Lib.hid (show Fut w w0 from by rw [hw0]; exact (Fut.refl w).alloc _)
  have HB0 := Lib.hid (show Blk w0 w.heap.size 24 #[.int .i64 N, .slice A n c] from by rw [hw0]; exact Blk.new _ _ _)
  have HR := Lib.hid hR
  have HL := Lib.hid hl
  have HN := Lib.hid hn
  clear hR hl hn
  go_enter Tryd.func4, Tryd.ntmps4
  go_wp2_with fail
  rw [← hw0]
  clear hw0
  refine (may_any N A n c es root w0 HL.out HN.out (HR.out.fut HF0.out)).mono ?_
  rintro r w1 ⟨⟨b, rfl, hb⟩, hf⟩
  have HM := Lib.hid hb
  have HF1 := Lib.hid hf
  clear hb hf
  cases b with
  | false =>
    go_wp2_with fail
    refine (awake_any _).mono ?_
    rintro r w2 ⟨rfl, hf⟩
    have HF2 := Lib.hid hf
    clear hf
    go_wp2_with fail
    go_returns
    exact ⟨rfl, HF0.out.trans (HF1.out.trans HF2.out)⟩
  | true =>
    obtain ⟨M, V, hm⟩ := HM.out rfl
    obtain rfl := hm.e
    obtain ⟨v, rfl⟩ : ∃ v : Nat, root = v := ⟨root.toNat, by have := hm.r0; omega⟩
    have hvM : v < M := by have := hm.r1; omega
    have HMO := Lib.hid hm
    have HVM := Lib.hid hvM
    have q0 := (HB0.out.fut HF1.out).cell (i := 0) rfl
    have q1 := (HB0.out.fut HF1.out).cell (i := 1) rfl
    clear hm hvM
    go_wp2_with fail
    have hq : ((j : Int) % 7) = ((j % 7 : Nat) : Int) := by omega
    have hq8 : j % 7 < 7 := Nat.mod_lt _ (by omega)
    rw [hq]
    clear hq
    generalize j % 7 = q at *
    have HFI := Lib.hid (fun w' (hf : Fut w1 w') => first_any M A n c es w' HL.out HMO.out.n12 HMO.out.vd HMO.out.m8 HMO.out.tl V HMO.out.S HMO.out.s (HR.out.fut ((HF0.out.trans HF1.out).trans hf)) v HVM.out (q : Int) (by omega))
    have HSO := Lib.hid (fun w' (hf : Fut w1 w') => some_any M A n c es w' HL.out HMO.out.n12 HMO.out.vd HMO.out.m8 HMO.out.tl V HMO.out.S HMO.out.s (HR.out.fut ((HF0.out.trans HF1.out).trans hf)) v HVM.out (q : Int) (by omega))
    refine (HSO.out _ (Fut.refl _)).mono ?_
    rintro r w2 ⟨⟨aA, ac, ka, rfl, a1, a2, a3, a4, a5, -⟩, hb⟩
    have HF2 := Lib.hid (show Fut w1 w2 from hb)
    have HA := Lib.hid (show RdS w2 aA 2 encD ka ∧ (∀ d ∈ ka, RdD w2 d) ∧ ListQ es v q ka from ⟨a1, a2, a3, a4, a5⟩)
    clear hb a1 a2 a3 a4 a5 q0 q1
    have q0 := (HB0.out.fut (HF1.out.trans HF2.out)).cell (i := 0) rfl
    have q1 := (HB0.out.fut (HF1.out.trans HF2.out)).cell (i := 1) rfl
    go_wp2_with fail
    refine (HSO.out _ HF2.out).mono ?_
    rintro r w3 ⟨⟨bA, bc, kb, rfl, a1, a2, a3, a4, a5, -⟩, hb⟩
    have hb' : Fut w2 w3 := hb
    have HF3 := Lib.hid (HF2.out.trans hb')
    have HA3 := Lib.hid (show RdS w3 aA 2 encD ka ∧ (∀ d ∈ ka, RdD w3 d) from ⟨HA.out.1.fut hb', fun d hd => (HA.out.2.1 d hd).fut hb'⟩)
    have HB := Lib.hid (show RdS w3 bA 2 encD kb ∧ (∀ d ∈ kb, RdD w3 d) ∧ ListQ es v q kb from ⟨a1, a2, a3, a4, a5⟩)
    clear hb hb' a1 a2 a3 a4 a5 q0 q1
    have q0 := (HB0.out.fut (HF1.out.trans HF3.out)).cell (i := 0) rfl
    have q1 := (HB0.out.fut (HF1.out.trans HF3.out)).cell (i := 1) rfl
    go_wp2_with fail
    refine (HFI.out _ HF3.out).mono ?_
    rintro r w4 ⟨⟨cA, cc, kc, rfl, a1, a2, a3, a4, a5, -⟩, hb⟩
    have hb' : Fut w3 w4 := hb
    have HF4 := Lib.hid (HF3.out.trans hb')
    have HA4 := Lib.hid (show RdS w4 aA 2 encD ka ∧ (∀ d ∈ ka, RdD w4 d) from ⟨HA3.out.1.fut hb', fun d hd => (HA3.out.2 d hd).fut hb'⟩)
    have HB4 := Lib.hid (show RdS w4 bA 2 encD kb ∧ (∀ d ∈ kb, RdD w4 d) from ⟨HB.out.1.fut hb', fun d hd => (HB.out.2.1 d hd).fut hb'⟩)
    have HC := Lib.hid (show RdS w4 cA 2 encD kc ∧ (∀ d ∈ kc, RdD w4 d) ∧ ListQ es v q kc from ⟨a1, a2, a3, a4, a5⟩)
    clear hb hb' a1 a2 a3 a4 a5 q0 q1
    have l1 := HA.out.2.2.len (by omega)
    have l2 := HB.out.2.2.len (by omega)
    have l3 := HC.out.2.2.len (by omega)
    have HS1 := Lib.hid (fun w' (hf : Fut w4 w') => by
      have h9 := same_any (M : Int) A n c aA ac cA cc ka kc w' (by unfold maxLen; omega) (by unfold maxLen; omega) (HA4.out.1.fut hf) (fun d hd => (HA4.out.2 d hd).fut hf) (HC.out.1.fut hf) (fun d hd => (HC.out.2.1 d hd).fut hf)
      rw [sameB_yes (HA.out.2.2.same HC.out.2.2)] at h9
      exact h9)
    have HS2 := Lib.hid (fun w' (hf : Fut w4 w') => by
      have h9 := same_any (M : Int) A n c bA bc cA cc kb kc w' (by unfold maxLen; omega) (by unfold maxLen; omega) (HB4.out.1.fut hf) (fun d hd => (HB4.out.2 d hd).fut hf) (HC.out.1.fut hf) (fun d hd => (HC.out.2.1 d hd).fut hf)
      rw [sameB_yes (HB.out.2.2.same HC.out.2.2)] at h9
      exact h9)
    go_wp2_with fail
    refine (awake_any _).mono ?_
    rintro r w5 ⟨rfl, hb⟩
    have HF5 := Lib.hid (show Fut w4 w5 from hb)
    clear hb
    have q0 := (HB0.out.fut (HF1.out.trans (HF4.out.trans HF5.out))).cell (i := 0) rfl
    have q1 := (HB0.out.fut (HF1.out.trans (HF4.out.trans HF5.out))).cell (i := 1) rfl
    go_wp2_with fail
    refine (HS1.out _ HF5.out).mono ?_
    rintro r w6 ⟨rfl, hb⟩
    have HF6 := Lib.hid (HF5.out.trans (show Fut w5 w6 from hb))
    clear hb q0 q1
    have q0 := (HB0.out.fut (HF1.out.trans (HF4.out.trans HF6.out))).cell (i := 0) rfl
    have q1 := (HB0.out.fut (HF1.out.trans (HF4.out.trans HF6.out))).cell (i := 1) rfl
    go_wp2_with fail
    refine (HS2.out _ HF6.out).mono ?_
    rintro r w7 ⟨rfl, hb⟩
    have HF7 := Lib.hid (HF6.out.trans (show Fut w6 w7 from hb))
    clear hb q0 q1
    go_wp2_with fail
    go_returns
    exact ⟨rfl, HF0.out.trans (HF1.out.trans (HF4.out.trans HF7.out))⟩
end Go.Proofs.YtajbmdjlfniofaaDoor
