/-
  The four expressions and their derivatives, as values over given memories.
-/
import Derived.Test.YtlgpacpebjechaaGreatDoorBL
import Derived.Test.YtlgpacpebjechaaGreatDoorPdt
namespace Go.Proofs.YtlgpacpebjechaaGreatDoor
namespace Ev
noncomputable def rV0 : AV := .agg [cI 4, cU 0, cU 0, cU 0, cU 0, cS 1 0 2 0]
noncomputable def rL0 : List LR := [(6, [cI 3, cU 0, cU 2199023255552, cU 0, cU 0, .nils, cI 3, cU 0, cU 274877906944, cU 0, cU 0, .nils])]
noncomputable def rV1 : AV := .agg [cI 1, cU 0, cU 0, cU 0, cU 0, .nils]
noncomputable def rL1 : List LR := [(6, [cI 3, cU 0, cU 2199023255552, cU 0, cU 0, .nils, cI 3, cU 0, cU 274877906944, cU 0, cU 0, .nils])]
noncomputable def rV2 : AV := .agg [cI 3, cU 0, cU 274877906944, cU 0, cU 0, .nils]
noncomputable def rL2 : List LR := [(6, [cI 3, cU 0, cU 2199023255552, cU 0, cU 0, .nils, cI 3, cU 0, cU 274877906944, cU 0, cU 0, .nils])]
noncomputable def rV3 : AV := .agg [cI 2, cU 0, cU 0, cU 0, cU 0, .nils]
noncomputable def rL3 : List LR := [(6, [cI 3, cU 0, cU 2199023255552, cU 0, cU 0, .nils, cI 3, cU 0, cU 274877906944, cU 0, cU 0, .nils])]
noncomputable def rV4 : AV := .agg [cI 4, cU 0, cU 0, cU 0, cU 0, cS 2 0 2 0]
noncomputable def rL4 : List LR := [(6, [cI 3, cU 0, cU 576460743713488896, cU 0, cU 0, .nils]),
  (6, [cI 3, cU 0, cU 576460743713488896, cU 0, cU 0, .nils, cI 6, cU 0, cU 0, cU 0, cU 0, cS 1 0 1 0])]
noncomputable def rV5 : AV := .agg [cI 1, cU 0, cU 0, cU 0, cU 0, .nils]
noncomputable def rL5 : List LR := [(6, [cI 3, cU 0, cU 576460743713488896, cU 0, cU 0, .nils]),
  (6, [cI 3, cU 0, cU 576460743713488896, cU 0, cU 0, .nils, cI 6, cU 0, cU 0, cU 0, cU 0, cS 1 0 1 0])]
noncomputable def rV6 : AV := .agg [cI 6, cU 0, cU 0, cU 0, cU 0, cS 1 0 1 0]
noncomputable def rL6 : List LR := [(6, [cI 3, cU 0, cU 576460743713488896, cU 0, cU 0, .nils]),
  (6, [cI 3, cU 0, cU 576460743713488896, cU 0, cU 0, .nils, cI 6, cU 0, cU 0, cU 0, cU 0, cS 1 0 1 0])]
noncomputable def rV7 : AV := .agg [cI 4, cU 0, cU 0, cU 0, cU 0, cS 7 0 2 0]
noncomputable def rL7 : List LR := [(6, [cI 3, cU 287948901175001088, cU 0, cU 0, cU 0, .nils]),
  (6, [cI 3, cU 287948901175001088, cU 0, cU 0, cU 0, .nils, cI 6, cU 0, cU 0, cU 0, cU 0, cS 1 0 1 0]),
  (6, [cI 3, cU 287948901175001088, cU 0, cU 0, cU 0, .nils]),
  (6, [cI 3, cU 287948901175001088, cU 0, cU 0, cU 0, .nils, cI 6, cU 0, cU 0, cU 0, cU 0, cS 3 0 1 0]),
  (6, [cI 3, cU 70368744177664, cU 0, cU 0, cU 0, .nils, cI 4, cU 0, cU 0, cU 0, cU 0, cS 4 0 2 0]),
  (6, [cI 4, cU 0, cU 0, cU 0, cU 0, cS 5 0 2 0, cI 2, cU 0, cU 0, cU 0, cU 0, .nils]),
  (6, [cI 4, cU 0, cU 0, cU 0, cU 0, cS 2 0 2 0, cI 5, cU 0, cU 0, cU 0, cU 0, cS 6 0 2 0])]
noncomputable def rV8 : AV := .agg [cI 1, cU 0, cU 0, cU 0, cU 0, .nils]
noncomputable def rL8 : List LR := [(6, [cI 3, cU 287948901175001088, cU 0, cU 0, cU 0, .nils]),
  (6, [cI 3, cU 287948901175001088, cU 0, cU 0, cU 0, .nils, cI 6, cU 0, cU 0, cU 0, cU 0, cS 1 0 1 0]),
  (6, [cI 3, cU 287948901175001088, cU 0, cU 0, cU 0, .nils]),
  (6, [cI 3, cU 287948901175001088, cU 0, cU 0, cU 0, .nils, cI 6, cU 0, cU 0, cU 0, cU 0, cS 3 0 1 0]),
  (6, [cI 3, cU 70368744177664, cU 0, cU 0, cU 0, .nils, cI 4, cU 0, cU 0, cU 0, cU 0, cS 4 0 2 0]),
  (6, [cI 4, cU 0, cU 0, cU 0, cU 0, cS 5 0 2 0, cI 2, cU 0, cU 0, cU 0, cU 0, .nils]),
  (6, [cI 4, cU 0, cU 0, cU 0, cU 0, cS 2 0 2 0, cI 5, cU 0, cU 0, cU 0, cU 0, cS 6 0 2 0])]
noncomputable def rV9 : AV := .agg [cI 4, cU 0, cU 0, cU 0, cU 0, cS 8 0 2 0]
noncomputable def rL9 : List LR := [(6, [cI 3, cU 287948901175001088, cU 0, cU 0, cU 0, .nils]),
  (6, [cI 3, cU 287948901175001088, cU 0, cU 0, cU 0, .nils, cI 6, cU 0, cU 0, cU 0, cU 0, cS 1 0 1 0]),
  (6, [cI 3, cU 287948901175001088, cU 0, cU 0, cU 0, .nils]),
  (6, [cI 3, cU 287948901175001088, cU 0, cU 0, cU 0, .nils, cI 6, cU 0, cU 0, cU 0, cU 0, cS 3 0 1 0]),
  (6, [cI 3, cU 70368744177664, cU 0, cU 0, cU 0, .nils, cI 4, cU 0, cU 0, cU 0, cU 0, cS 4 0 2 0]),
  (6, [cI 4, cU 0, cU 0, cU 0, cU 0, cS 5 0 2 0, cI 2, cU 0, cU 0, cU 0, cU 0, .nils]),
  (6, [cI 4, cU 0, cU 0, cU 0, cU 0, cS 2 0 2 0, cI 5, cU 0, cU 0, cU 0, cU 0, cS 6 0 2 0]),
  (6, [cI 6, cU 0, cU 0, cU 0, cU 0, cS 1 0 1 0, cI 5, cU 0, cU 0, cU 0, cU 0, cS 6 0 2 0])]
noncomputable def rV10 : AV := .agg [cI 4, cU 0, cU 0, cU 0, cU 0, cS 4 0 2 0]
noncomputable def rL10 : List LR := [(6, [cI 3, cU 287948901175001088, cU 0, cU 0, cU 0, .nils]),
  (6, [cI 3, cU 287948901175001088, cU 0, cU 0, cU 0, .nils, cI 6, cU 0, cU 0, cU 0, cU 0, cS 1 0 1 0]),
  (6, [cI 3, cU 287948901175001088, cU 0, cU 0, cU 0, .nils]),
  (6, [cI 3, cU 287948901175001088, cU 0, cU 0, cU 0, .nils, cI 6, cU 0, cU 0, cU 0, cU 0, cS 3 0 1 0]),
  (6, [cI 3, cU 70368744177664, cU 0, cU 0, cU 0, .nils, cI 4, cU 0, cU 0, cU 0, cU 0, cS 4 0 2 0]),
  (6, [cI 4, cU 0, cU 0, cU 0, cU 0, cS 5 0 2 0, cI 2, cU 0, cU 0, cU 0, cU 0, .nils]),
  (6, [cI 4, cU 0, cU 0, cU 0, cU 0, cS 2 0 2 0, cI 5, cU 0, cU 0, cU 0, cU 0, cS 6 0 2 0])]
noncomputable def rV11 : AV := .agg [cI 6, cU 0, cU 0, cU 0, cU 0, cS 3 0 1 0]
noncomputable def rL11 : List LR := [(6, [cI 3, cU 287948901175001088, cU 0, cU 0, cU 0, .nils]),
  (6, [cI 3, cU 287948901175001088, cU 0, cU 0, cU 0, .nils, cI 6, cU 0, cU 0, cU 0, cU 0, cS 1 0 1 0]),
  (6, [cI 3, cU 287948901175001088, cU 0, cU 0, cU 0, .nils]),
  (6, [cI 3, cU 287948901175001088, cU 0, cU 0, cU 0, .nils, cI 6, cU 0, cU 0, cU 0, cU 0, cS 3 0 1 0]),
  (6, [cI 3, cU 70368744177664, cU 0, cU 0, cU 0, .nils, cI 4, cU 0, cU 0, cU 0, cU 0, cS 4 0 2 0]),
  (6, [cI 4, cU 0, cU 0, cU 0, cU 0, cS 5 0 2 0, cI 2, cU 0, cU 0, cU 0, cU 0, .nils]),
  (6, [cI 4, cU 0, cU 0, cU 0, cU 0, cS 2 0 2 0, cI 5, cU 0, cU 0, cU 0, cU 0, cS 6 0 2 0])]
noncomputable def rV12 : AV := .agg [cI 4, cU 0, cU 0, cU 0, cU 0, cS 2 0 2 0]
noncomputable def rL12 : List LR := [(6, [cI 3, cU 4294967296, cU 0, cU 0, cU 0, .nils]),
  (6, [cI 3, cU 4294967296, cU 0, cU 0, cU 0, .nils, cI 6, cU 0, cU 0, cU 0, cU 0, cS 1 0 1 0])]
noncomputable def rV13 : AV := .agg [cI 1, cU 0, cU 0, cU 0, cU 0, .nils]
noncomputable def rL13 : List LR := [(6, [cI 3, cU 4294967296, cU 0, cU 0, cU 0, .nils]),
  (6, [cI 3, cU 4294967296, cU 0, cU 0, cU 0, .nils, cI 6, cU 0, cU 0, cU 0, cU 0, cS 1 0 1 0])]
noncomputable def rV14 : AV := .agg [cI 6, cU 0, cU 0, cU 0, cU 0, cS 1 0 1 0]
noncomputable def rL14 : List LR := [(6, [cI 3, cU 4294967296, cU 0, cU 0, cU 0, .nils]),
  (6, [cI 3, cU 4294967296, cU 0, cU 0, cU 0, .nils, cI 6, cU 0, cU 0, cU 0, cU 0, cS 1 0 1 0])]
noncomputable def rVs : List AV := [rV0, rV1, rV2, rV3, rV4, rV5, rV6, rV7, rV8, rV9, rV10, rV11, rV12, rV13, rV14]
noncomputable def rLs : List (List LR) := [rL0, rL1, rL2, rL3, rL4, rL5, rL6, rL7, rL8, rL9, rL10, rL11, rL12, rL13, rL14]
noncomputable def rV (i : Nat) : AV := rVs.getD i .bad
noncomputable def rL (i : Nat) : List LR := rLs.getD i []
noncomputable def pA0 : AV := .str [105, 102]
noncomputable def pV0 : AV := .tup [.agg [cI 4, cU 0, cU 0, cU 0, cU 0, cS 1 0 2 0], cI 0, cI 0]
noncomputable def pA1 : AV := .str [91, 97, 45, 122, 93, 43]
noncomputable def pV1 : AV := .tup [.agg [cI 4, cU 0, cU 0, cU 0, cU 0, cS 2 0 2 0], cI 0, cI 0]
noncomputable def pA2 : AV := .str [91, 48, 45, 57, 93, 43, 40, 92, 46, 91, 48, 45, 57, 93, 43, 41, 63]
noncomputable def pV2 : AV := .tup [.agg [cI 4, cU 0, cU 0, cU 0, cU 0, cS 7 0 2 0], cI 0, cI 0]
noncomputable def pA3 : AV := .str [32, 43]
noncomputable def pV3 : AV := .tup [.agg [cI 4, cU 0, cU 0, cU 0, cU 0, cS 2 0 2 0], cI 0, cI 0]
noncomputable def allB (n _m : Nat) (rv : AV) (l : List LR) (lv : AV) (l' : List LR) (r : List Pa) (bs : List Nat) : Bool := List.rec (motive := fun _ => Bool) true (fun b _ ih => iff (isN (callN fns intr n 22 [rv, cY b] (litH l) (trK lv l' r))) false ih) bs
theorem allB_trans {n m : Nat} {rv : AV} {l : List LR} {lv : AV} {l' : List LR} {r : List Pa} (hs : iff (idsB m (.l .z) r) false (iff (Nat.ble m (lenP l)) false (shortB l')) = true) : ∀ {bs : List Nat}, allB n m rv l lv l' r bs = true → ∀ b ∈ bs, Trans m 22 [rv, cY b] l lv l'
  | [], _, b, hb => by cases hb
  | c :: bs, h, b, hb => by
    have h : iff (isN (callN fns intr n 22 [rv, cY c] (litH l) (trK lv l' r))) false (allB n m rv l lv l' r bs) = true := h
    rw [iff_and, Bool.and_eq_true] at h
    rcases List.mem_cons.1 hb with rfl | hb
    · exact trans_of (callN_sound intr_sound n) r hs h.1
    · exact allB_trans hs h.2 b hb
end Ev
end Go.Proofs.YtlgpacpebjechaaGreatDoor
