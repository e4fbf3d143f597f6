/-
  The laws of the enumeration: uses.
-/
import Derived.Test.YtajbmdjlfniofaaDoorBL
import Derived.Test.YtajbmdjlfniofaaDoorPke
namespace Go.Proofs.YtajbmdjlfniofaaDoor
open Go.RowKit PK
attribute [local go_sem] Oper.lit Oper.litS fut_fut fut_drew World.cell?_alloc_some
theorem usesL_take {k : List DI} {j : Nat} {x : DI} {e : Int} (h : ∀ d ∈ k.take j, usesD (toDT d) e = false) (hx : k[j]? = some x) (hu : usesD (toDT x) e = false) : ∀ d ∈ k.take (j + 1), usesD (toDT d) e = false := by
  intro d hd
  rw [List.take_add_one, hx] at hd
  rcases List.mem_append.1 hd with h1 | h1
  · exact h d h1
  · simp at h1; subst h1; exact hu
set_option maxHeartbeats 3200000 in
theorem uses_any (a : DI) : ∀ (x : Int) w, RdD w a → Calls Tryd.prog 20 #[dv a, .int .i64 x] w fun r w' => r = .returned (.bool (usesD (toDT a) x)) ∧ Below w.heap.size w w' := by
  induction a using DI.ind with
  | h e A c k ih =>
    intro x w hR
    obtain ⟨hS, hkl, hK⟩ := hR.parts
    have HS := Lib.hid hS
    have HK := Lib.hid hK
    have HI := Lib.hid ih
    obtain ⟨n, hn⟩ : ∃ n, k.length = n := ⟨_, rfl⟩
    have hn63 : n ≤ 9223372036854775807 := hn ▸ hkl
    have HL := Lib.hid hn
    simp only [dv, DI.e, DI.A, DI.c, DI.k, hn]
    clear hS hK hR ih hkl hn
    have HF := Lib.hid (show Fut w (w.alloc (.cells #[.int .i64 e, .slice A n c] 35)) from (Fut.refl w).alloc _)
    have HB := Lib.hid (show Blk (w.alloc (.cells #[.int .i64 e, .slice A n c] 35)) w.heap.size 35 #[.int .i64 e, .slice A n c] from Blk.new _ _ _)
    by_cases hex : e = x
    · have HA := Lib.hid (show usesD (toDT (.node e A c k)) x = true from by rw [toDT_eq, usesD]; simp [hex])
      obtain ⟨x1, x2, x3⟩ := (show ((e = x) = True) ∧ (e == x) = true ∧ (e != x) = false from by subst hex; simp)
      clear hex
      go_enter Tryd.func20, Tryd.ntmps20
      go_wp2_with fail
      go_ret
      exact ⟨by rw [HA.out]; rfl, HF.out⟩
    · have HG := Lib.hid (show (∀ d ∈ k, usesD (toDT d) x = false) → usesD (toDT (.node e A c k)) x = false from fun h => by
        rw [toDT_eq, usesD, Bool.or_eq_false_iff, usesL_iff]
        exact ⟨by simp [hex], fun d hd => by obtain ⟨y, hy, rfl⟩ := List.mem_map.1 hd; exact h y hy⟩)
      have HT := Lib.hid (show ∀ d ∈ k, usesD (toDT d) x = true → usesD (toDT (.node e A c k)) x = true from fun d hd h => by
        cases h9 : usesD (toDT (.node e A c k)) x with
        | true => rfl
        | false =>
          rw [toDT_eq, usesD, Bool.or_eq_false_iff, usesL_iff] at h9
          have := h9.2 (toDT d) (List.mem_map.2 ⟨d, hd, rfl⟩)
          rw [this] at h; cases h)
      obtain ⟨x1, x2, x3⟩ := cmpF_no hex
      clear hex
      generalize usesD (toDT (.node e A c k)) x = res at HG HT ⊢
      go_enter Tryd.func20, Tryd.ntmps20
      go_wp2_with fail
      generalize w.alloc (.cells #[.int .i64 e, .slice A n c] 35) = wb at *
      go_loopw [5] (fun i wr => ∃ j : Nat, j ≤ n ∧ i = .int .i64 j ∧ Hid (∀ d ∈ k.take j, usesD (toDT d) x = false) ∧ Fut wb wr) (fun i _ => n - (intOf i).toNat)
      case atStart => exact ⟨0, Nat.zero_le _, rfl, Lib.hid (by simp), Fut.refl _⟩
      case round =>
        obtain ⟨j, hj, rfl, hall, hF⟩ := hrel
        have HF2 := Lib.hid hF
        have q1 := (HB.out.fut hF).cell (i := 1) rfl
        by_cases hlt : j < n
        · obtain ⟨y, hy⟩ := get_lt HL.out hlt
          obtain ⟨b, o, rfl, hc⟩ := HS.out j y hy
          have HX := Lib.hid hy
          have c0 := hF.cell (HF.out.cell (hc 0 _ (by decide) rfl))
          have c1 := hF.cell (HF.out.cell (hc 1 _ (by decide) rfl))
          simp only [Nat.add_zero] at c0
          have HC := Lib.hid (HI.out y (List.mem_of_getElem? hy) x wr (((HK.out y (List.mem_of_getElem? hy)).fut HF.out).fut hF))
          clear hy hc hF
          simp only [dv] at HC
          go_wp2_with fail
          refine HC.out.mono ?_
          rintro r w1 ⟨rfl, hb⟩
          have HF3 := Lib.hid (show Fut wr w1 from hb)
          obtain ⟨bb, hbb⟩ : ∃ bb, usesD (toDT y) x = bb := ⟨_, rfl⟩
          rw [hbb]
          have HBB := Lib.hid hbb
          clear hb hbb
          cases bb with
          | true =>
            have HA := Lib.hid (HT.out y (List.mem_of_getElem? HX.out) HBB.out)
            go_wp2_with fail
            go_ret
            exact ⟨by rw [HA.out]; rfl, HF.out.trans (HF2.out.trans HF3.out)⟩
          | false =>
            have HA := Lib.hid (usesL_take hall.out HX.out HBB.out)
            go_wp2_with fail
            exact ⟨⟨j + 1, by omega, by go_num, HA, HF2.out.trans HF3.out⟩, by simp [intOf]; omega⟩
        · have HA := Lib.hid (HG.out (fun d hd => hall.out d (by rw [List.take_of_length_le (by rw [HL.out]; omega)]; exact hd)))
          go_wp2_with fail
          go_ret
          exact ⟨by rw [HA.out]; rfl, HF.out.trans HF2.out⟩
end Go.Proofs.YtajbmdjlfniofaaDoor
