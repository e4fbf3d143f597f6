/-
  The queue: up, down.
-/
import Derived.Test.YtleapckcihcpaaaK7
namespace Go.Proofs.Ytleapckcihcpaaa
open Go.RowKit Go.Deep PK
attribute [local go_sem] Oper.lit Oper.litS fut_fut fut_drew World.cell?_alloc_some
/-- the same elements -/
def Same (m : Nat) (H G : Nat → EN) : Prop := ∀ c, (∃ k, k < m ∧ H k = c) ↔ ∃ k, k < m ∧ G k = c
theorem Same.refl (m : Nat) (H : Nat → EN) : Same m H H := fun _ => Iff.rfl
theorem Same.swp {m i j : Nat} {H G : Nat → EN} (h : Same m H G) (hi : i < m) (hj : j < m) : Same m (swp H i j) G := fun c => (swp_mem H hi hj c).trans (h c)
theorem sq_of {v _v' : Value} {qb mb : Nat} {w w' w2 : World} (h : FutS (SQ qb mb v) w w') (k : FutS (SQ qb mb v) w' w2) : FutS (SQ qb mb v) w w2 := h.trans k
theorem bef_step {a b c : EN} (h1 : bef b a = true) (h2 : bef c a = false) : bef c b = false := bef_wo.tr _ _ _ (bef_wo.asym _ _ h1) h2
theorem bef_both {a b c : EN} (h1 : bef b a = true) (h2 : bef c b = true) : bef c a = true := by
  cases h : bef c a with
  | true => rfl
  | false =>
    have := bef_wo.tr _ _ _ (bef_wo.asym _ _ h1) h
    rw [this] at h2
    cases h2
set_option maxHeartbeats 3200000 in
theorem up_any {w : World} {qb mb B : Nat} {v : Value} {H : Nat → EN} {m nx : Nat} (h : QS w qb mb B v H m nx) (i0 : Nat) (hi : i0 < m) (hu : UpInv bef H m i0) :
    Calls Try.prog 58 #[.pointer (some ⟨qb, 0, none⟩), .int .i64 (i0 : Int)] w fun r w' => r = .returned (.tuple #[]) ∧ (∃ H', QS w' qb mb B v H' m nx ∧ HeapOK bef H' m ∧ Same m H' H) ∧ FutS (SQ qb mb v) w w' := by
  have HQ := Lib.hid h
  have HU := Lib.hid hu
  have hmb : m ≤ 100000000000 := by have := h.nx1; have := h.mx; omega
  have HI0 := Lib.hid hi
  clear h hu hi
  go_enter Try.func58, Try.ntmps58
  go_wp2_with fail
  go_loopw [1] (fun x wr => ∃ (i : Nat) (H' : Nat → EN), i < m ∧ x = .int .i64 i ∧ Hid (QS wr qb mb B v H' m nx ∧ UpInv bef H' m i ∧ Same m H' H) ∧ Hid (FutS (SQ qb mb v) w wr)) (fun x _ => (intOf x).toNat)
  case atStart => exact ⟨i0, H, HI0.out, rfl, Lib.hid ⟨HQ.out, HU.out, Same.refl _ _⟩, Lib.hid (FutS.refl w)⟩
  case round =>
    obtain ⟨i, H', hi, rfl, HI, HF⟩ := hrel
    by_cases hi0 : i = 0
    · subst hi0
      go_wp2_with fail
      go_returns
      exact ⟨rfl, ⟨H', HI.out.1, HI.out.2.1.stop (.inl rfl), HI.out.2.2⟩, HF.out⟩
    · obtain ⟨p, hp⟩ : ∃ p, p = (i - 1) / 2 := ⟨_, rfl⟩
      have HP := Lib.hid hp
      have hpi : p < i := by omega
      have hi1 : 0 < i := by omega
      have hq : Int.tdiv ((i : Int) - 1) 2 = (p : Int) := by rw [show (i : Int) - 1 = ((i - 1 : Nat) : Int) by omega, hp]; exact Int.ofNat_tdiv _ _
      clear hp hi0
      have HBE := Lib.hid (before_any HI.out.1 i p hi (by omega))
      go_wp2_with fail
      refine HBE.out.mono ?_
      rintro r w1 ⟨rfl, hb1⟩
      have hq1 := HI.out.1.go (show Fut wr w1 from hb1)
      have HQ1 := Lib.hid hq1
      have HF1 := Lib.hid (HF.out.then (show Fut wr w1 from hb1))
      clear hq1 hb1
      generalize hbb : bef (H' i) (H' p) = bb
      have HBB := Lib.hid hbb
      clear hbb
      cases bb with
      | true =>
        go_wp2_with fail
        refine (swap_any HQ1.out i p hi (by omega)).mono ?_
        rintro r w2 ⟨rfl, hs1, hs2⟩
        have HS1 := Lib.hid hs1
        have HF2 := Lib.hid (HF1.out.trans hs2)
        clear hs1 hs2
        go_wp2_with fail
        refine ⟨⟨p, swp H' i p, by omega, rfl, Lib.hid ⟨HS1.out, ?_, HI.out.2.2.swp hi (by omega)⟩, HF2⟩, by simp [intOf]; omega⟩
        have h9 := HI.out.2.1.step bef_wo (by omega) hi (by rw [← HP.out]; exact HBB.out)
        rw [← HP.out] at h9
        exact h9
      | false =>
        go_wp2_with fail
        go_returns
        exact ⟨rfl, ⟨H', HQ1.out, HI.out.2.1.stop (.inr (by rw [← HP.out]; exact HBB.out)), HI.out.2.2⟩, HF1.out⟩
set_option maxHeartbeats 6400000 in
theorem down_any {w : World} {qb mb B : Nat} {v : Value} {H : Nat → EN} {m nx : Nat} (h : QS w qb mb B v H m nx) (hd : DownInv bef H m 0) :
    Calls Try.prog 53 #[.pointer (some ⟨qb, 0, none⟩), .int .i64 0] w fun r w' => r = .returned (.tuple #[]) ∧ (∃ H', QS w' qb mb B v H' m nx ∧ HeapOK bef H' m ∧ Same m H' H) ∧ FutS (SQ qb mb v) w w' := by
  have HQ := Lib.hid h
  have HD := Lib.hid hd
  have hmb : m ≤ 100000000000 := by have := h.nx1; have := h.mx; omega
  obtain ⟨VA, vc, hv, _⟩ := own_form h.own
  have HV := Lib.hid hv
  clear h hd hv
  go_enter Try.func53, Try.ntmps53
  go_wp2_with fail
  go_loopw [1] (fun x wr => ∃ (i : Nat) (H' : Nat → EN), (i = 0 ∨ i < m) ∧ x = .int .i64 i ∧ Hid (QS wr qb mb B v H' m nx ∧ DownInv bef H' m i ∧ Same m H' H) ∧ Hid (FutS (SQ qb mb v) w wr)) (fun x _ => m - (intOf x).toNat)
  case atStart => exact ⟨0, H, .inl rfl, rfl, Lib.hid ⟨HQ.out, HD.out, Same.refl _ _⟩, Lib.hid (FutS.refl w)⟩
  case round =>
    obtain ⟨i, H', hi, rfl, HI, HF⟩ := hrel
    have hib : i ≤ 100000000000 := by omega
    go_wp2_with fail
    obtain ⟨wo, rfl⟩ : ∃ x, x = wr := ⟨_, rfl⟩
    go_loopw [4, 5] (fun l k wr => ∃ (lk kk : Nat), l = .int .i64 lk ∧ k = .int .i64 kk ∧ 2 * i + 1 ≤ kk ∧ kk ≤ 2 * i + 3 ∧ (lk = i ∨ lk < m) ∧ Hid (QS wr qb mb B v H' m nx) ∧ Hid (FutS (SQ qb mb v) w wr) ∧ Hid ((lk = i ∨ ((lk - 1) / 2 = i ∧ 0 < lk ∧ bef (H' lk) (H' i) = true)) ∧ ∀ j, 2 * i + 1 ≤ j → j < kk → j < m → bef (H' j) (H' lk) = false)) (fun _ k _ => 2 * i + 3 - (intOf k).toNat)
    case atStart => exact ⟨i, 2 * i + 1, rfl, by first | rfl | (congr 1; omega), Nat.le_refl _, by omega, .inl rfl, Lib.hid HI.out.1, HF, Lib.hid ⟨.inl rfl, fun j h1 h2 => by omega⟩⟩
    case round =>
      obtain ⟨lk, kk, rfl, rfl, hk1, hk2, hlk, HQ1, HF1, HJ⟩ := hrel
      have hkb : kk ≤ 1000000000000 := by omega
      have hq1 := HQ1.out.q.cell (i := 1) rfl
      rw [HV.out] at hq1
      by_cases hc : kk ≤ 2 * i + 2 ∧ kk < m
      · obtain ⟨hc1, hc2⟩ := hc
        have HBE := Lib.hid (before_any HQ1.out kk lk hc2 (by omega))
        go_wp2_with fail
        refine HBE.out.mono ?_
        rintro r w1 ⟨rfl, hb1⟩
        have HQ2 := Lib.hid (HQ1.out.go (show Fut wr w1 from hb1))
        have HF2 := Lib.hid (HF1.out.then (show Fut wr w1 from hb1))
        clear hb1
        generalize hbb : bef (H' kk) (H' lk) = bb
        have HBB := Lib.hid hbb
        clear hbb
        cases bb with
        | true =>
          go_wp2_with fail
          refine ⟨⟨kk, kk + 1, rfl, by go_num, by omega, by omega, .inr hc2, HQ2, HF2, Lib.hid ⟨.inr ⟨by omega, by omega, ?_⟩, fun j h1 h2 h3 => ?_⟩⟩, by simp [intOf]; omega⟩
          · rcases HJ.out.1 with h9 | ⟨_, _, h9⟩
            · have := HBB.out; rw [h9] at this; exact this
            · exact bef_both h9 HBB.out
          · by_cases e : j = kk
            · subst e; exact bef_wo.irr _
            · exact bef_step HBB.out (HJ.out.2 j h1 (by omega) h3)
        | false =>
          go_wp2_with fail
          refine ⟨⟨lk, kk + 1, rfl, by go_num, by omega, by omega, hlk, HQ2, HF2, Lib.hid ⟨HJ.out.1, fun j h1 h2 h3 => ?_⟩⟩, by simp [intOf]; omega⟩
          by_cases e : j = kk
          · subst e; exact HBB.out
          · exact HJ.out.2 j h1 (by omega) h3
      · have hall : ∀ j, 0 < j → j < m → (j - 1) / 2 = i → bef (H' j) (H' lk) = false := fun j h1 h2 h3 => HJ.out.2 j (by omega) (by omega) h2
        have HALL := Lib.hid hall
        clear hall
        have hcc : (kk ≤ 2 * i + 2 ∧ m ≤ kk) ∨ 2 * i + 2 < kk := by omega
        clear hc
        by_cases hli : lk = i
        · subst hli
          rcases hcc with ⟨hc1, hc2⟩ | hc1
          all_goals
            go_wp2_with fail
            go_returns
            exact ⟨rfl, ⟨H', HQ1.out, HI.out.2.1.stop HALL.out, HI.out.2.2⟩, HF1.out⟩
        · have HLI := Lib.hid hli
          have hl2 : (((lk : Nat) : Int) = (i : Int)) = False := eq_false (by omega)
          have hl3 : (((lk : Nat) : Int) == (i : Int)) = false := by simp; omega
          have hlm : lk < m := by omega
          have hjj : (lk - 1) / 2 = i ∧ 0 < lk ∧ bef (H' lk) (H' i) = true := HJ.out.1.resolve_left hli
          have HJJ := Lib.hid hjj
          clear hli hjj
          have him : i < m := by have := HJJ.out.1; have := HJJ.out.2.1; omega
          rcases hcc with ⟨hc1, hc2⟩ | hc1
          all_goals
            go_wp2_with fail
            refine (swap_any HQ1.out i lk him hlm).mono ?_
            rintro r w2 ⟨rfl, hs1, hs2⟩
            have HS1 := Lib.hid hs1
            have HF2 := Lib.hid (HF1.out.trans hs2)
            clear hs1 hs2
            go_wp2_with fail
            refine ⟨⟨lk, swp H' i lk, .inr hlm, rfl, Lib.hid ⟨HS1.out, HI.out.2.1.step bef_wo HJJ.out.2.1 hlm HJJ.out.1 HJJ.out.2.2 HALL.out, HI.out.2.2.swp him hlm⟩, HF2⟩, by have := HJJ.out.1; have := HJJ.out.2.1; simp [intOf]; omega⟩
end Go.Proofs.Ytleapckcihcpaaa
