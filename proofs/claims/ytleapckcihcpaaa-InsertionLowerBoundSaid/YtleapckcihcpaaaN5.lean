/-
  Prices and the hypergraph of a grammar, as the program has them.
-/
import Derived.Test.YtleapckcihcpaaaN4
import Derived.Test.YtleapckcihcpaaaD9
import Derived.Test.YtleapckcihcpaaaK9
namespace Go.Proofs.Ytleapckcihcpaaa
open Go.RowKit Go.Deep PK
attribute [local go_sem] Oper.lit Oper.litS fut_fut fut_drew World.cell?_alloc_some
set_option maxHeartbeats 3200000 in
theorem ivalid_any (T N st : Int) (A : Option Addr) (n c : Nat) (rs : List NR) (B : Option Addr) (m d : Nat) (ins : List Int) (w : World) (hl : rs.length = n) (hn : n ≤ maxLen) (hR : RdN w A rs) (hil : ins.length = m) (hm : m ≤ maxLen) (hI : Rd1 w B (.int .i64 ·) ins) :
    Calls Try.prog 28 #[nmv T N st A n c, .slice B m d] w fun e w' => e = .returned (.bool (validN T N st rs && pricesB T ins)) ∧ Below w.heap.size w w' := by
  have hm' : m ≤ 9223372036854775807 := hm
  have HL := Lib.hid hil
  have HF := Lib.hid ((Fut.refl w).alloc (.cells #[.int .i64 T, .int .i64 N, .int .i64 st, .slice A n c] 24))
  have HB := Lib.hid (show Blk (w.alloc (.cells #[.int .i64 T, .int .i64 N, .int .i64 st, .slice A n c] 24)) w.heap.size 24 #[.int .i64 T, .int .i64 N, .int .i64 st, .slice A n c] from heap_new' _ _ _ rfl)
  have HC := Lib.hid (bvalid_any T N st A n c rs _ hl hn (hR.fut HF.out))
  have HI := Lib.hid (hI.fut HF.out)
  clear hl hn hR hil hm hI
  generalize validN T N st rs = v at *
  go_enter Try.func28, Try.ntmps28
  go_wp2_with fail
  generalize w.alloc (.cells #[.int .i64 T, .int .i64 N, .int .i64 st, .slice A n c] 24) = wb at *
  refine HC.out.mono ?_
  rintro e w1 ⟨rfl, hb⟩
  have HF1 := Lib.hid (show Fut wb w1 from hb)
  clear hb HC
  cases v with
  | false =>
    go_wp2_with fail
    go_ret
    exact ⟨rfl, HF.out.trans HF1.out⟩
  | true =>
    have q0 := (HB.out.fut HF1.out).cell (i := 0) rfl
    by_cases hT : (m : Int) = T
    · have HA := Lib.hid (pricesB_all HL.out hT)
      subst hT
      go_wp2_with fail
      clear q0
      go_loopw [19] (fun i wr => ∃ j : Nat, j ≤ m ∧ i = .int .i64 j ∧ Hid ((ins.take j).all okP = true) ∧ wr = w1) (fun i _ => m - (intOf i).toNat)
      case atStart => exact ⟨0, Nat.zero_le _, rfl, Lib.hid (by simp), rfl⟩
      case round =>
        obtain ⟨j, hj, rfl, hall, hw⟩ := hrel
        subst hw
        by_cases hlt : j < m
        · obtain ⟨x, hx⟩ := get_lt HL.out hlt
          obtain ⟨b0, o0, rfl, hc⟩ := HI.out j x hx
          have hc := HF1.out.cell hc
          have HX := Lib.hid hx
          clear hx
          by_cases h1 : x < 1
          · go_wp2_with fail
            go_ret
            exact ⟨by rw [HA.out, all_not HX.out (by simp [okP]; omega)]; rfl, HF.out.trans HF1.out⟩
          · by_cases h2 : 60000 < x
            · go_wp2_with fail
              go_ret
              exact ⟨by rw [HA.out, all_not HX.out (by simp [okP]; omega)]; rfl, HF.out.trans HF1.out⟩
            · go_wp2_with fail
              exact ⟨⟨j + 1, by omega, by go_num, Lib.hid (take_all hall.out HX.out (by simp [okP]; omega)), by first | rfl | trivial⟩, by simp [intOf]; omega⟩
        · have HFin := Lib.hid (all_take hall.out (by rw [HL.out]; omega))
          go_wp2_with fail
          go_ret
          exact ⟨by rw [HA.out, HFin.out]; rfl, HF.out.trans HF1.out⟩
    · have HA := Lib.hid (pricesB_len HL.out hT)
      obtain ⟨x1, x2, x3⟩ := cmpF_no hT
      clear hT
      go_wp2_with fail
      go_ret
      exact ⟨by rw [HA.out]; rfl, HF.out.trans HF1.out⟩
theorem encE_len (e : EI) : (encE e).length = 5 := rfl
theorem info_ee : (Try.prog.info? 59).map (fun i => (i.zero, i.size, i.bytes)) = some (some (.agg #[.int .i64 0, .slice none 0 0, .int .i64 0, .int .i64 0, .int .i64 0]), 5, 56) := by kernel_rfl
/-- the tails of a hyperedge lie in a block of a kind -/
def TlP (ok : Nat → Prop) (w : World) (e : EI) : Prop := e.t = [] ∨ ∃ b, e.A = some ⟨b, 0, none⟩ ∧ ok b ∧ b < w.heap.size ∧ Blk w b 3 (e.t.map (Value.int .i64 ·)).toArray
theorem TlP.keep {ok ok' : Nat → Prop} {w w' : World} {e : EI} (h : TlP ok w e) (hk : ∀ b, ok b → b < w.heap.size → w'.heap[b]? = w.heap[b]? ∧ ok' b) : TlP ok' w' e := by
  rcases h with h | ⟨b, h1, h2, h3, h4⟩
  · exact .inl h
  · obtain ⟨k1, k2⟩ := hk b h2 h3
    have h5 : Blk w' b 3 (e.t.map (Value.int .i64 ·)).toArray := k1.trans h4
    exact .inr ⟨b, h1, k2, h5.lt, h5⟩
theorem TlP.rd {ok : Nat → Prop} {w : World} {e : EI} (h : TlP ok w e) : Rd1 w e.A (.int .i64 ·) e.t := by
  rcases h with h | ⟨b, h1, _, _, h4⟩
  · rw [h]; exact Rd1.nil
  · intro i a hi
    refine ⟨b, 0, h1, ?_⟩
    rw [Nat.zero_add]
    exact h4.cell (by simp [hi])
theorem gr_res : Try.f30.results = #[.cell 4 54] := by kernel_rfl
/-- what one more rule adds -/
theorem GR.step {ins : List Int} {rs : List NR} {es : List EI} {j : Nat} {r : NR} {e : EI} (h : GR ins (rs.take j) es) (hj : es.length = j) (hr : rs[j]? = some r) (he : e.h = r.h ∧ e.t = tailsN r ∧ e.c = costN ins r) : GR ins (rs.take (j + 1)) (es ++ [e]) := by
  rw [List.take_add_one, hr]
  refine ⟨by simp [h.1], fun i r' e' h1 h2 => ?_⟩
  have hlt : (rs.take j).length = j := by rw [← h.1, hj]
  by_cases hi : i < j
  · rw [List.getElem?_append_left (by omega)] at h1 h2
    exact h.2 i r' e' h1 h2
  · rw [List.getElem?_append_right (by omega), hlt] at h1
    rw [List.getElem?_append_right (by omega), hj] at h2
    have e0 : i - j = 0 := by
      have := (List.getElem?_eq_some_iff.1 h2).1
      simp at this; omega
    rw [e0] at h1 h2
    simp at h1 h2
    subst h1 h2
    exact he
set_option maxHeartbeats 12800000 in
set_option maxRecDepth 4000 in
theorem graph_any (T N st : Int) (A : Option Addr) (n c : Nat) (rs : List NR) (B : Option Addr) (m d : Nat) (ins : List Int) (w : World) (hl : rs.length = n) (hR : RdN w A rs) (hil : ins.length = m) (hI : Rd1 w B (.int .i64 ·) ins) (hvd : validN T N st rs = true) (hp : pricesB T ins = true) :
    Calls Try.prog 30 #[nmv T N st A n c, .slice B m d] w fun r w' => (∃ (XA : Option Addr) (Xc : Nat) (es : List EI), r = .returned (hv N XA n Xc) ∧ GR ins rs es ∧ RdE w' XA es) ∧ Below w.heap.size w w' := by
  have HV := Lib.hid (validN_parts hvd)
  have HP := Lib.hid (prices_parts hp)
  have HCB := Lib.hid (fun r hr => cost_bd (r := r) ((validN_parts hvd).2.2.2.2.2 r hr) hp)
  have hn6 : n ≤ 600 := by rw [← hl]; exact HV.out.2.2.2.2.1
  have HL := Lib.hid hl
  have HIL := Lib.hid hil
  obtain ⟨wb, hwb⟩ : ∃ wb, wb = ((w.alloc (.cells #[.int .i64 T, .int .i64 N, .int .i64 st, .slice A n c] 24)).alloc (.cells #[.int .i64 0, .slice none 0 0] 54)).alloc (.cells #[.int .i64 N, .slice none 0 0] 54) := ⟨_, rfl⟩
  have HF := Lib.hid (show Fut w wb from by rw [hwb]; exact (((Fut.refl w).alloc _).alloc _).alloc _)
  have HSZ := Lib.hid (show wb.heap.size = w.heap.size + 3 from by rw [hwb]; simp only [World.size_alloc])
  have HBN := Lib.hid (show Blk wb w.heap.size 24 #[.int .i64 T, .int .i64 N, .int .i64 st, .slice A n c] from by rw [hwb]; (repeat (first | exact heap_new' _ _ _ (by first | rfl | (simp only [World.size_alloc])) | refine (blk_alloc_lt _ _ _ (by first | omega | (simp only [World.size_alloc]; omega))).trans ?_)))
  have HZ := Lib.hid (show Blk wb (w.heap.size + 1) 54 #[.int .i64 0, .slice none 0 0] from by rw [hwb]; (repeat (first | exact heap_new' _ _ _ (by first | rfl | (simp only [World.size_alloc])) | refine (blk_alloc_lt _ _ _ (by first | omega | (simp only [World.size_alloc]; omega))).trans ?_)))
  have HD := Lib.hid (show Blk wb (w.heap.size + 1 + 1) 54 #[.int .i64 N, .slice none 0 0] from by rw [hwb]; (repeat (first | exact heap_new' _ _ _ (by first | rfl | (simp only [World.size_alloc])) | refine (blk_alloc_lt _ _ _ (by first | omega | (simp only [World.size_alloc]; omega))).trans ?_)))
  have HR := Lib.hid hR
  have HI := Lib.hid hI
  clear hl hR hil hI hvd hp
  go_enter Try.func30, Try.ntmps30
  go_wp2_with fail
  rw [← hwb]
  clear hwb
  go_loopw [15] (fun i wr => ∃ (j : Nat) (es : List EI) (XA : Option Addr) (Xc : Nat), j ≤ n ∧ i = .int .i64 j ∧ Hid (es.length = j) ∧ Hid (GR ins (rs.take j) es)
      ∧ Hid (wr.ownsRow wb.heap.size 59 5 (.slice XA j Xc) j (es.flatMap encE)) ∧ Blk wr (w.heap.size + 1 + 1) 54 #[.int .i64 N, .slice XA j Xc]
      ∧ Hid (∀ e ∈ es, TlP (fun b => wb.heap.size ≤ b ∧ (Value.slice XA j Xc).ownBlock ≠ some b) wr e) ∧ FutS (fun k => k == w.heap.size + 1 + 1) wb wr) (fun i _ => n - (intOf i).toNat)
  case atStart => exact ⟨0, [], none, 0, Nat.zero_le _, rfl, Lib.hid rfl, Lib.hid ⟨rfl, fun i r e h => by simp at h⟩, Lib.hid (World.ownsRow_nil _ _ _ _), HD.out, Lib.hid (fun e h => by simp at h), FutS.refl _⟩
  case round =>
    obtain ⟨j, es, XA, Xc, hj, rfl, HKL, HGR, HO, hB, HTL, hF⟩ := hrel
    obtain ⟨wx, rfl⟩ : ∃ q, q = wr := ⟨_, rfl⟩
    have HF2 := Lib.hid hF
    have HB := Lib.hid hB
    have HFW := Lib.hid (hF.fut HF.out (fun k hk => by
      have := beq_iff_eq.1 hk
      omega))
    by_cases hlt : j < n
    · obtain ⟨x, hx⟩ := get_lt HL.out hlt
      have HOK := Lib.hid (okN_parts (HV.out.2.2.2.2.2 x (List.mem_of_getElem? hx)))
      have HBD := Lib.hid (HV.out.2.2.2.2.2 x (List.mem_of_getElem? hx))
      have HCC := Lib.hid (HCB.out x (List.mem_of_getElem? hx))
      have HX := Lib.hid hx
      obtain ⟨b0, o0, rfl, hc⟩ := HR.out j x hx
      have c0 := HFW.out.cell (hc 0 _ (by decide) rfl)
      have c1 := HFW.out.cell (hc 1 _ (by decide) rfl)
      have c2 := HFW.out.cell (hc 2 _ (by decide) rfl)
      have c3 := HFW.out.cell (hc 3 _ (by decide) rfl)
      have c4 := HFW.out.cell (hc 4 _ (by decide) rfl)
      have c5 := HFW.out.cell (hc 5 _ (by decide) rfl)
      simp only [Nat.add_zero] at c0
      obtain ⟨kd, h, ra, rb, p, o⟩ := x
      have HGO := Lib.hid (fun k hk => World.ownsRow.lt HO.out k hk)
      have HXS := Lib.hid HFW.out.size
      have HBS := Lib.hid HF2.out.size
      simp only at c0 c1 c2 c3 c4 c5
      have q0 := hB.cell (i := 0) rfl
      have q1 := hB.cell (i := 1) rfl
      clear hx hc hF hB
      have hkd : kd = 1 ∨ kd = 2 ∨ kd = 3 ∨ kd = 4 := by
        have := HBD.out
        simp only [okN, bodyN, Bool.and_eq_true] at this
        by_cases k1 : kd = 1
        · exact .inl k1
        · by_cases k2 : kd = 2
          · exact .inr (.inl k2)
          · by_cases k3 : kd = 3
            · exact .inr (.inr (.inl k3))
            · by_cases k4 : kd = 4
              · exact .inr (.inr (.inr k4))
              · simp [k1, k2, k3, k4] at this
      rcases hkd with rfl | rfl | rfl | rfl
      · skip
        have HFX := Lib.hid (show Fut wx (((wx.alloc (.cells #[.int .i64 1, .int .i64 h, .int .i64 ra, .int .i64 rb, .int .i64 p, .int .i64 o] 47)).alloc (.cells #[.int .i64 h, .slice none 0 0, .int .i64 p, .int .i64 0, .int .i64 0] 59)).alloc (.cells #[.int .i64 h, .slice none 0 0, .int .i64 p, .int .i64 0, .int .i64 0] 59)) from (((Fut.refl wx).alloc _).alloc _).alloc _)
        have HO5 := Lib.hid (own_fut HO.out HFX.out)
        have HB5 := Lib.hid (HB.out.fut HFX.out)
        have HT5 := Lib.hid (show TlP (fun b => wb.heap.size ≤ b ∧ (Value.slice XA j Xc).ownBlock ≠ some b) (((wx.alloc (.cells #[.int .i64 1, .int .i64 h, .int .i64 ra, .int .i64 rb, .int .i64 p, .int .i64 o] 47)).alloc (.cells #[.int .i64 h, .slice none 0 0, .int .i64 p, .int .i64 0, .int .i64 0] 59)).alloc (.cells #[.int .i64 h, .slice none 0 0, .int .i64 p, .int .i64 0, .int .i64 0] 59)) (⟨h, [], p, 0, 0, none, 0⟩ : EI) from .inl rfl)
        have HE5 := Lib.hid (show GR ins (rs.take (j + 1)) (es ++ [(⟨h, [], p, 0, 0, none, 0⟩ : EI)]) from HGR.out.step HKL.out HX.out ⟨rfl, by simp [tailsN], by simp [costN]⟩)
        go_wp2_with (at_builtin; refine wpList_push rfl 52 59 5 56 _ Try.underlying52 info_ee rfl (by decide) (by decide) (.tmp 52) (.tmp 54) rfl wb.heap.size (.slice XA j Xc) j _ rfl HO5.out (wx.heap.size + 1 + 1) [.int .i64 h, .slice none 0 0, .int .i64 p, .int .i64 0, .int .i64 0] rfl (heap_new' _ _ _ (by simp only [World.size_alloc, World.size_drew, World.size_setCell])) rfl (by simp [Value.oneCell']) (by omega) (Nat.le_trans HBS.out HFX.out.size) ?_; intro g cap w' h1 h2 h3; have hB6 := HB5.out.grown h2 (fun e => (by have := HGO.out _ e.symm; have := HSZ.out; omega)); have q8 := hB6.cell (i := 1) rfl; have q9 := hB6.fz 1; have HB6 := Lib.hid hB6; have HH1 := Lib.hid h1; have HH2 := Lib.hid h2; have HH3 := Lib.hid h3; clear hB6 h1 h2 h3)
        have hgb : w.heap.size + 3 ≤ g ∧ g < w'.heap.size := by
          have := (World.ownsRow.lt HH1.out g rfl)
          have := HSZ.out
          omega
        refine ⟨⟨j + 1, es ++ [(⟨h, [], p, 0, 0, none, 0⟩ : EI)], some ⟨g, 0, none⟩, cap, by omega, by go_num, Lib.hid (by rw [List.length_append, HKL.out]; rfl), HE5, Lib.hid ?_, HB6.out.set 1 _, Lib.hid ?_, ?_⟩, by simp [intOf]; omega⟩
        · rw [List.flatMap_append]
          refine own_keep HH1.out (fun k hk => ?_)
          obtain rfl : g = k := by
            have h9 : (some g : Option Nat) = some k := hk
            exact Option.some.inj h9
          exact blk_setCell_other _ _ _ _ (by simp only; omega)
        · intro y hy
          have hgn : ∀ b, b < ((((wx.alloc (.cells #[.int .i64 1, .int .i64 h, .int .i64 ra, .int .i64 rb, .int .i64 p, .int .i64 o] 47)).alloc (.cells #[.int .i64 h, .slice none 0 0, .int .i64 p, .int .i64 0, .int .i64 0] 59)).alloc (.cells #[.int .i64 h, .slice none 0 0, .int .i64 p, .int .i64 0, .int .i64 0] 59))).heap.size → (Value.slice XA j Xc).ownBlock ≠ some b → (Value.slice (some ⟨g, 0, none⟩) (j + 1) cap).ownBlock ≠ some b := fun b h1 h2 e => by
            have h9 : (some g : Option Nat) = some b := e
            obtain rfl := Option.some.inj h9
            rcases HH3.out with h3 | h3
            · exact h2 h3
            · omega
          have hk9 : ∀ b, (wb.heap.size ≤ b ∧ (Value.slice XA j Xc).ownBlock ≠ some b) → b < ((((wx.alloc (.cells #[.int .i64 1, .int .i64 h, .int .i64 ra, .int .i64 rb, .int .i64 p, .int .i64 o] 47)).alloc (.cells #[.int .i64 h, .slice none 0 0, .int .i64 p, .int .i64 0, .int .i64 0] 59)).alloc (.cells #[.int .i64 h, .slice none 0 0, .int .i64 p, .int .i64 0, .int .i64 0] 59))).heap.size → (w'.setCell ⟨w.heap.size + 1 + 1, 1, none⟩ (.slice (some ⟨g, 0, none⟩) (j + 1) cap)).heap[b]? = ((((wx.alloc (.cells #[.int .i64 1, .int .i64 h, .int .i64 ra, .int .i64 rb, .int .i64 p, .int .i64 o] 47)).alloc (.cells #[.int .i64 h, .slice none 0 0, .int .i64 p, .int .i64 0, .int .i64 0] 59)).alloc (.cells #[.int .i64 h, .slice none 0 0, .int .i64 p, .int .i64 0, .int .i64 0] 59))).heap[b]? ∧ (wb.heap.size ≤ b ∧ (Value.slice (some ⟨g, 0, none⟩) (j + 1) cap).ownBlock ≠ some b) := fun b hb hlt =>
            ⟨(blk_setCell_other _ _ _ _ (by simp only; have := HSZ.out; omega)).trans (HH2.out.block b hlt (fun e => hb.2 e.symm)), hb.1, hgn b hlt hb.2⟩
          rcases List.mem_append.1 hy with hy | hy
          · refine (HTL.out y hy).keep (fun b hb hlt => ?_)
            have h6 := HFX.out.block b hlt
            have h7 := HFX.out.size
            obtain ⟨k1, k2⟩ := hk9 b hb (by omega)
            exact ⟨k1.trans h6, k2⟩
          · obtain rfl : y = (⟨h, [], p, 0, 0, none, 0⟩ : EI) := by simpa using hy
            exact HT5.out.keep hk9
        · exact ((HF2.out.then HFX.out).grown HH2.out (fun k hk => .inr (HGO.out k hk).1)).setCell (.inl (by simp)) _
      · obtain ⟨h1, h2⟩ := (show 0 ≤ ra ∧ ra < T from HOK.out.2.2.2.2.1 rfl)
        obtain ⟨an, rfl⟩ : ∃ an : Nat, ra = an := ⟨ra.toNat, by omega⟩
        have ham : an < m := by
          have := HP.out.1
          rw [HIL.out] at this
          omega
        obtain ⟨v, hvx⟩ := get_lt HIL.out ham
        obtain ⟨b1, o1, rfl, hcv⟩ := HI.out an v hvx
        have hv1 := HP.out.2 v (List.mem_of_getElem? hvx)
        have hp1 : 0 ≤ p ∧ p ≤ 1000 := ⟨HOK.out.2.2.1, HOK.out.2.2.2.1⟩
        have HVX := Lib.hid hvx
        have HF20 := Lib.hid (show Fut wx ((wx.alloc (.cells #[.int .i64 2, .int .i64 h, .int .i64 (an : Int), .int .i64 rb, .int .i64 p, .int .i64 o] 47)).alloc (.cells #[.int .i64 h, .slice none 0 0, .int .i64 p, .int .i64 0, .int .i64 0] 59)) from ((Fut.refl wx).alloc _).alloc _)
        have BR := Lib.hid (show Blk ((wx.alloc (.cells #[.int .i64 2, .int .i64 h, .int .i64 (an : Int), .int .i64 rb, .int .i64 p, .int .i64 o] 47)).alloc (.cells #[.int .i64 h, .slice none 0 0, .int .i64 p, .int .i64 0, .int .i64 0] 59)) wx.heap.size 47 #[.int .i64 2, .int .i64 h, .int .i64 (an : Int), .int .i64 rb, .int .i64 p, .int .i64 o] from by (repeat (first | exact heap_new' _ _ _ (by first | rfl | (simp only [World.size_alloc])) | refine (blk_alloc_lt _ _ _ (by first | omega | (simp only [World.size_alloc]; omega))).trans ?_)))
        have BE := Lib.hid (show Blk ((wx.alloc (.cells #[.int .i64 2, .int .i64 h, .int .i64 (an : Int), .int .i64 rb, .int .i64 p, .int .i64 o] 47)).alloc (.cells #[.int .i64 h, .slice none 0 0, .int .i64 p, .int .i64 0, .int .i64 0] 59)) (wx.heap.size + 1) 59 #[.int .i64 h, .slice none 0 0, .int .i64 p, .int .i64 0, .int .i64 0] from by (repeat (first | exact heap_new' _ _ _ (by first | rfl | (simp only [World.size_alloc])) | refine (blk_alloc_lt _ _ _ (by first | omega | (simp only [World.size_alloc]; omega))).trans ?_)))
        clear hvx h1 h2
        go_wp2_with fail
        generalize ((wx.alloc (.cells #[.int .i64 2, .int .i64 h, .int .i64 (an : Int), .int .i64 rb, .int .i64 p, .int .i64 o] 47)).alloc (.cells #[.int .i64 h, .slice none 0 0, .int .i64 p, .int .i64 0, .int .i64 0] 59)) = w2 at *
        have hw1 : IntKind.i64.wrap (p + v) = p + v := by simp [IntKind.wrap, IntKind.signed, IntKind.bits]; omega
        have hw2 : wrap64 (p + v) = p + v := IntWalk.wrap64_in _ ⟨by omega, by omega⟩
        have r2 := cell_fut (BR.out.cell (i := 2) rfl)
        have e2 := cell_fut (BE.out.cell (i := 2) rfl)
        have f2 : w2.frozen? ⟨wx.heap.size + 1, 2, none⟩ = false := BE.out.fz 2
        have e2' : w2.drew.cell? ⟨wx.heap.size + 1, 2, none⟩ = some (.int .i64 p) := BE.out.cell (i := 2) rfl
        have f2' : w2.drew.frozen? ⟨wx.heap.size + 1, 2, none⟩ = false := BE.out.fz 2
        have i2 := cell_fut (HF20.out.cell (HFW.out.cell hcv))
        clear c0 c1 c2 c3 c4 c5 q0 q1 hcv
        refine wp_region_M o_insertion_graph_8 (by kernel_rfl) (by kernel_rfl) (by intro c a d v w h; cases d <;> exact h) ?_; unfold o_insertion_graph_8
        iterate 9 (refine wpF_h rfl rfl (fun K hK => ?_); go_simp; refine hK _ _ ?_; clear hK K)
        refine wpF_o rfl rfl (fun K hK => ?_)
        go_simp
        refine hK _ _ (.inl (by kernel_rfl)) ?_
        clear hK K r2 e2 e2' f2 f2' i2
        refine wpF_nil ?_
        have HF40 := Lib.hid (show Fut wx ((w2.setCell ⟨wx.heap.size + 1, 2, none⟩ (.int .i64 (p + v))).drew) from (HF20.out.setCell (p := ⟨wx.heap.size + 1, 2, none⟩) (Nat.le_succ _) _).drew)
        have BE4 := Lib.hid (show Blk ((w2.setCell ⟨wx.heap.size + 1, 2, none⟩ (.int .i64 (p + v))).drew) (wx.heap.size + 1) 59 #[.int .i64 h, .slice none 0 0, .int .i64 (p + v), .int .i64 0, .int .i64 0] from (BE.out.set 2 (.int .i64 (p + v))).drew)
        generalize (w2.setCell ⟨wx.heap.size + 1, 2, none⟩ (.int .i64 (p + v))).drew = w4 at *
        have q1 := (HB.out.fut HF40.out).cell (i := 1) rfl
        have e0 := BE4.out.cell (i := 0) rfl
        have e1 := BE4.out.cell (i := 1) rfl
        have e2 := BE4.out.cell (i := 2) rfl
        have e3 := BE4.out.cell (i := 3) rfl
        have e4 := BE4.out.cell (i := 4) rfl
        have HFX := Lib.hid (show Fut wx (w4.alloc (.cells #[.int .i64 h, .slice none 0 0, .int .i64 (p + v), .int .i64 0, .int .i64 0] 59)) from HF40.out.alloc _)
        have HO5 := Lib.hid (own_fut HO.out HFX.out)
        have HB5 := Lib.hid (HB.out.fut HFX.out)
        have HT5 := Lib.hid (show TlP (fun b => wb.heap.size ≤ b ∧ (Value.slice XA j Xc).ownBlock ≠ some b) (w4.alloc (.cells #[.int .i64 h, .slice none 0 0, .int .i64 (p + v), .int .i64 0, .int .i64 0] 59)) (⟨h, [], (p + v), 0, 0, none, 0⟩ : EI) from .inl rfl)
        have HE5 := Lib.hid (show GR ins (rs.take (j + 1)) (es ++ [(⟨h, [], (p + v), 0, 0, none, 0⟩ : EI)]) from HGR.out.step HKL.out HX.out ⟨rfl, by simp [tailsN], by simp [costN, HVX.out]⟩)
        go_wp2_with (at_builtin; refine wpList_push rfl 52 59 5 56 _ Try.underlying52 info_ee rfl (by decide) (by decide) (.tmp 52) (.tmp 54) rfl wb.heap.size (.slice XA j Xc) j _ rfl HO5.out w4.heap.size [.int .i64 h, .slice none 0 0, .int .i64 (p + v), .int .i64 0, .int .i64 0] rfl (heap_new' _ _ _ (by simp only [World.size_alloc, World.size_drew, World.size_setCell])) rfl (by simp [Value.oneCell']) (by omega) (Nat.le_trans HBS.out HFX.out.size) ?_; intro g cap w' h1 h2 h3; have hB6 := HB5.out.grown h2 (fun e => (by have := HGO.out _ e.symm; have := HSZ.out; omega)); have q8 := hB6.cell (i := 1) rfl; have q9 := hB6.fz 1; have HB6 := Lib.hid hB6; have HH1 := Lib.hid h1; have HH2 := Lib.hid h2; have HH3 := Lib.hid h3; clear hB6 h1 h2 h3)
        have hgb : w.heap.size + 3 ≤ g ∧ g < w'.heap.size := by
          have := (World.ownsRow.lt HH1.out g rfl)
          have := HSZ.out
          omega
        refine ⟨⟨j + 1, es ++ [(⟨h, [], (p + v), 0, 0, none, 0⟩ : EI)], some ⟨g, 0, none⟩, cap, by omega, by go_num, Lib.hid (by rw [List.length_append, HKL.out]; rfl), HE5, Lib.hid ?_, HB6.out.set 1 _, Lib.hid ?_, ?_⟩, by simp [intOf]; omega⟩
        · rw [List.flatMap_append]
          refine own_keep HH1.out (fun k hk => ?_)
          obtain rfl : g = k := by
            have h9 : (some g : Option Nat) = some k := hk
            exact Option.some.inj h9
          exact blk_setCell_other _ _ _ _ (by simp only; omega)
        · intro y hy
          have hgn : ∀ b, b < ((w4.alloc (.cells #[.int .i64 h, .slice none 0 0, .int .i64 (p + v), .int .i64 0, .int .i64 0] 59))).heap.size → (Value.slice XA j Xc).ownBlock ≠ some b → (Value.slice (some ⟨g, 0, none⟩) (j + 1) cap).ownBlock ≠ some b := fun b h1 h2 e => by
            have h9 : (some g : Option Nat) = some b := e
            obtain rfl := Option.some.inj h9
            rcases HH3.out with h3 | h3
            · exact h2 h3
            · omega
          have hk9 : ∀ b, (wb.heap.size ≤ b ∧ (Value.slice XA j Xc).ownBlock ≠ some b) → b < ((w4.alloc (.cells #[.int .i64 h, .slice none 0 0, .int .i64 (p + v), .int .i64 0, .int .i64 0] 59))).heap.size → (w'.setCell ⟨w.heap.size + 1 + 1, 1, none⟩ (.slice (some ⟨g, 0, none⟩) (j + 1) cap)).heap[b]? = ((w4.alloc (.cells #[.int .i64 h, .slice none 0 0, .int .i64 (p + v), .int .i64 0, .int .i64 0] 59))).heap[b]? ∧ (wb.heap.size ≤ b ∧ (Value.slice (some ⟨g, 0, none⟩) (j + 1) cap).ownBlock ≠ some b) := fun b hb hlt =>
            ⟨(blk_setCell_other _ _ _ _ (by simp only; have := HSZ.out; omega)).trans (HH2.out.block b hlt (fun e => hb.2 e.symm)), hb.1, hgn b hlt hb.2⟩
          rcases List.mem_append.1 hy with hy | hy
          · refine (HTL.out y hy).keep (fun b hb hlt => ?_)
            have h6 := HFX.out.block b hlt
            have h7 := HFX.out.size
            obtain ⟨k1, k2⟩ := hk9 b hb (by omega)
            exact ⟨k1.trans h6, k2⟩
          · obtain rfl : y = (⟨h, [], (p + v), 0, 0, none, 0⟩ : EI) := by simpa using hy
            exact HT5.out.keep hk9
        · exact ((HF2.out.then HFX.out).grown HH2.out (fun k hk => .inr (HGO.out k hk).1)).setCell (.inl (by simp)) _
      · have HF40 := Lib.hid (show Fut wx (((wx.alloc (.cells #[.int .i64 3, .int .i64 h, .int .i64 ra, .int .i64 rb, .int .i64 p, .int .i64 o] 47)).alloc (.cells #[.int .i64 h, (.slice (some ⟨wx.heap.size + 1 + 1, 0, none⟩) 1 1), .int .i64 p, .int .i64 0, .int .i64 0] 59)).alloc (.cells #[.int .i64 ra] 3)) from (((Fut.refl wx).alloc _).alloc _).alloc _)
        have BE := Lib.hid (show Blk (((wx.alloc (.cells #[.int .i64 3, .int .i64 h, .int .i64 ra, .int .i64 rb, .int .i64 p, .int .i64 o] 47)).alloc (.cells #[.int .i64 h, .slice none 0 0, .int .i64 p, .int .i64 0, .int .i64 0] 59)).alloc (.cells #[.int .i64 ra] 3)) (wx.heap.size + 1) 59 #[.int .i64 h, .slice none 0 0, .int .i64 p, .int .i64 0, .int .i64 0] from by (repeat (first | exact heap_new' _ _ _ (by first | rfl | (simp only [World.size_alloc])) | refine (blk_alloc_lt _ _ _ (by first | omega | (simp only [World.size_alloc]; omega))).trans ?_)))
        have e1 := BE.out.cell (i := 1) rfl
        have f1 := BE.out.fz 1
        have BE4 := Lib.hid (show Blk (((wx.alloc (.cells #[.int .i64 3, .int .i64 h, .int .i64 ra, .int .i64 rb, .int .i64 p, .int .i64 o] 47)).alloc (.cells #[.int .i64 h, (.slice (some ⟨wx.heap.size + 1 + 1, 0, none⟩) 1 1), .int .i64 p, .int .i64 0, .int .i64 0] 59)).alloc (.cells #[.int .i64 ra] 3)) (wx.heap.size + 1) 59 #[.int .i64 h, (.slice (some ⟨wx.heap.size + 1 + 1, 0, none⟩) 1 1), .int .i64 p, .int .i64 0, .int .i64 0] from by (repeat (first | exact heap_new' _ _ _ (by first | rfl | (simp only [World.size_alloc])) | refine (blk_alloc_lt _ _ _ (by first | omega | (simp only [World.size_alloc]; omega))).trans ?_)))
        have BS4 := Lib.hid (show Blk (((wx.alloc (.cells #[.int .i64 3, .int .i64 h, .int .i64 ra, .int .i64 rb, .int .i64 p, .int .i64 o] 47)).alloc (.cells #[.int .i64 h, (.slice (some ⟨wx.heap.size + 1 + 1, 0, none⟩) 1 1), .int .i64 p, .int .i64 0, .int .i64 0] 59)).alloc (.cells #[.int .i64 ra] 3)) (wx.heap.size + 1 + 1) 3 #[.int .i64 ra] from by (repeat (first | exact heap_new' _ _ _ (by first | rfl | (simp only [World.size_alloc])) | refine (blk_alloc_lt _ _ _ (by first | omega | (simp only [World.size_alloc]; omega))).trans ?_)))
        have g1 := (HB.out.fut HF40.out).cell (i := 1) rfl
        have k0 := BE4.out.cell (i := 0) rfl
        have k1 := BE4.out.cell (i := 1) rfl
        have k2 := BE4.out.cell (i := 2) rfl
        have k3 := BE4.out.cell (i := 3) rfl
        have k4 := BE4.out.cell (i := 4) rfl
        have hxs := HXS.out
        have hbs := HBS.out
        have hs9 := HSZ.out
        have HFX := Lib.hid (show Fut wx ((((wx.alloc (.cells #[.int .i64 3, .int .i64 h, .int .i64 ra, .int .i64 rb, .int .i64 p, .int .i64 o] 47)).alloc (.cells #[.int .i64 h, (.slice (some ⟨wx.heap.size + 1 + 1, 0, none⟩) 1 1), .int .i64 p, .int .i64 0, .int .i64 0] 59)).alloc (.cells #[.int .i64 ra] 3)).alloc (.cells #[.int .i64 h, (.slice (some ⟨wx.heap.size + 1 + 1, 0, none⟩) 1 1), .int .i64 p, .int .i64 0, .int .i64 0] 59)) from HF40.out.alloc _)
        have HO5 := Lib.hid (own_fut HO.out HFX.out)
        have HB5 := Lib.hid (HB.out.fut HFX.out)
        have HT5 := Lib.hid (show TlP (fun b => wb.heap.size ≤ b ∧ (Value.slice XA j Xc).ownBlock ≠ some b) ((((wx.alloc (.cells #[.int .i64 3, .int .i64 h, .int .i64 ra, .int .i64 rb, .int .i64 p, .int .i64 o] 47)).alloc (.cells #[.int .i64 h, (.slice (some ⟨wx.heap.size + 1 + 1, 0, none⟩) 1 1), .int .i64 p, .int .i64 0, .int .i64 0] 59)).alloc (.cells #[.int .i64 ra] 3)).alloc (.cells #[.int .i64 h, (.slice (some ⟨wx.heap.size + 1 + 1, 0, none⟩) 1 1), .int .i64 p, .int .i64 0, .int .i64 0] 59)) (⟨h, [ra], p, 0, 0, (some ⟨wx.heap.size + 1 + 1, 0, none⟩), 1⟩ : EI) from .inr ⟨wx.heap.size + 1 + 1, rfl, ⟨by omega, fun e => by have := (HGO.out _ e).2; omega⟩, by simp only [World.size_alloc]; omega, BS4.out.alloc _⟩)
        have HE5 := Lib.hid (show GR ins (rs.take (j + 1)) (es ++ [(⟨h, [ra], p, 0, 0, (some ⟨wx.heap.size + 1 + 1, 0, none⟩), 1⟩ : EI)]) from HGR.out.step HKL.out HX.out ⟨rfl, by simp [tailsN], by simp [costN]⟩)
        go_wp2_with (at_builtin; refine wpList_push rfl 52 59 5 56 _ Try.underlying52 info_ee rfl (by decide) (by decide) (.tmp 52) (.tmp 54) rfl wb.heap.size (.slice XA j Xc) j _ rfl HO5.out (wx.heap.size + 1 + 1 + 1) [.int .i64 h, (.slice (some ⟨wx.heap.size + 1 + 1, 0, none⟩) 1 1), .int .i64 p, .int .i64 0, .int .i64 0] rfl (heap_new' _ _ _ (by simp only [World.size_alloc, World.size_drew, World.size_setCell])) rfl (by simp [Value.oneCell']) (by omega) (Nat.le_trans HBS.out HFX.out.size) ?_; intro g cap w' h1 h2 h3; have hB6 := HB5.out.grown h2 (fun e => (by have := HGO.out _ e.symm; have := HSZ.out; omega)); have q8 := hB6.cell (i := 1) rfl; have q9 := hB6.fz 1; have HB6 := Lib.hid hB6; have HH1 := Lib.hid h1; have HH2 := Lib.hid h2; have HH3 := Lib.hid h3; clear hB6 h1 h2 h3)
        have hgb : w.heap.size + 3 ≤ g ∧ g < w'.heap.size := by
          have := (World.ownsRow.lt HH1.out g rfl)
          have := HSZ.out
          omega
        refine ⟨⟨j + 1, es ++ [(⟨h, [ra], p, 0, 0, (some ⟨wx.heap.size + 1 + 1, 0, none⟩), 1⟩ : EI)], some ⟨g, 0, none⟩, cap, by omega, by go_num, Lib.hid (by rw [List.length_append, HKL.out]; rfl), HE5, Lib.hid ?_, HB6.out.set 1 _, Lib.hid ?_, ?_⟩, by simp [intOf]; omega⟩
        · rw [List.flatMap_append]
          refine own_keep HH1.out (fun k hk => ?_)
          obtain rfl : g = k := by
            have h9 : (some g : Option Nat) = some k := hk
            exact Option.some.inj h9
          exact blk_setCell_other _ _ _ _ (by simp only; omega)
        · intro y hy
          have hgn : ∀ b, b < (((((wx.alloc (.cells #[.int .i64 3, .int .i64 h, .int .i64 ra, .int .i64 rb, .int .i64 p, .int .i64 o] 47)).alloc (.cells #[.int .i64 h, (.slice (some ⟨wx.heap.size + 1 + 1, 0, none⟩) 1 1), .int .i64 p, .int .i64 0, .int .i64 0] 59)).alloc (.cells #[.int .i64 ra] 3)).alloc (.cells #[.int .i64 h, (.slice (some ⟨wx.heap.size + 1 + 1, 0, none⟩) 1 1), .int .i64 p, .int .i64 0, .int .i64 0] 59))).heap.size → (Value.slice XA j Xc).ownBlock ≠ some b → (Value.slice (some ⟨g, 0, none⟩) (j + 1) cap).ownBlock ≠ some b := fun b h1 h2 e => by
            have h9 : (some g : Option Nat) = some b := e
            obtain rfl := Option.some.inj h9
            rcases HH3.out with h3 | h3
            · exact h2 h3
            · omega
          have hk9 : ∀ b, (wb.heap.size ≤ b ∧ (Value.slice XA j Xc).ownBlock ≠ some b) → b < (((((wx.alloc (.cells #[.int .i64 3, .int .i64 h, .int .i64 ra, .int .i64 rb, .int .i64 p, .int .i64 o] 47)).alloc (.cells #[.int .i64 h, (.slice (some ⟨wx.heap.size + 1 + 1, 0, none⟩) 1 1), .int .i64 p, .int .i64 0, .int .i64 0] 59)).alloc (.cells #[.int .i64 ra] 3)).alloc (.cells #[.int .i64 h, (.slice (some ⟨wx.heap.size + 1 + 1, 0, none⟩) 1 1), .int .i64 p, .int .i64 0, .int .i64 0] 59))).heap.size → (w'.setCell ⟨w.heap.size + 1 + 1, 1, none⟩ (.slice (some ⟨g, 0, none⟩) (j + 1) cap)).heap[b]? = (((((wx.alloc (.cells #[.int .i64 3, .int .i64 h, .int .i64 ra, .int .i64 rb, .int .i64 p, .int .i64 o] 47)).alloc (.cells #[.int .i64 h, (.slice (some ⟨wx.heap.size + 1 + 1, 0, none⟩) 1 1), .int .i64 p, .int .i64 0, .int .i64 0] 59)).alloc (.cells #[.int .i64 ra] 3)).alloc (.cells #[.int .i64 h, (.slice (some ⟨wx.heap.size + 1 + 1, 0, none⟩) 1 1), .int .i64 p, .int .i64 0, .int .i64 0] 59))).heap[b]? ∧ (wb.heap.size ≤ b ∧ (Value.slice (some ⟨g, 0, none⟩) (j + 1) cap).ownBlock ≠ some b) := fun b hb hlt =>
            ⟨(blk_setCell_other _ _ _ _ (by simp only; have := HSZ.out; omega)).trans (HH2.out.block b hlt (fun e => hb.2 e.symm)), hb.1, hgn b hlt hb.2⟩
          rcases List.mem_append.1 hy with hy | hy
          · refine (HTL.out y hy).keep (fun b hb hlt => ?_)
            have h6 := HFX.out.block b hlt
            have h7 := HFX.out.size
            obtain ⟨k1, k2⟩ := hk9 b hb (by omega)
            exact ⟨k1.trans h6, k2⟩
          · obtain rfl : y = (⟨h, [ra], p, 0, 0, (some ⟨wx.heap.size + 1 + 1, 0, none⟩), 1⟩ : EI) := by simpa using hy
            exact HT5.out.keep hk9
        · exact ((HF2.out.then HFX.out).grown HH2.out (fun k hk => .inr (HGO.out k hk).1)).setCell (.inl (by simp)) _
      · have HF40 := Lib.hid (show Fut wx (((wx.alloc (.cells #[.int .i64 4, .int .i64 h, .int .i64 ra, .int .i64 rb, .int .i64 p, .int .i64 o] 47)).alloc (.cells #[.int .i64 h, (.slice (some ⟨wx.heap.size + 1 + 1, 0, none⟩) 2 2), .int .i64 p, .int .i64 0, .int .i64 0] 59)).alloc (.cells #[.int .i64 ra, .int .i64 rb] 3)) from (((Fut.refl wx).alloc _).alloc _).alloc _)
        have BE := Lib.hid (show Blk (((wx.alloc (.cells #[.int .i64 4, .int .i64 h, .int .i64 ra, .int .i64 rb, .int .i64 p, .int .i64 o] 47)).alloc (.cells #[.int .i64 h, .slice none 0 0, .int .i64 p, .int .i64 0, .int .i64 0] 59)).alloc (.cells #[.int .i64 ra, .int .i64 rb] 3)) (wx.heap.size + 1) 59 #[.int .i64 h, .slice none 0 0, .int .i64 p, .int .i64 0, .int .i64 0] from by (repeat (first | exact heap_new' _ _ _ (by first | rfl | (simp only [World.size_alloc])) | refine (blk_alloc_lt _ _ _ (by first | omega | (simp only [World.size_alloc]; omega))).trans ?_)))
        have e1 := BE.out.cell (i := 1) rfl
        have f1 := BE.out.fz 1
        have BE4 := Lib.hid (show Blk (((wx.alloc (.cells #[.int .i64 4, .int .i64 h, .int .i64 ra, .int .i64 rb, .int .i64 p, .int .i64 o] 47)).alloc (.cells #[.int .i64 h, (.slice (some ⟨wx.heap.size + 1 + 1, 0, none⟩) 2 2), .int .i64 p, .int .i64 0, .int .i64 0] 59)).alloc (.cells #[.int .i64 ra, .int .i64 rb] 3)) (wx.heap.size + 1) 59 #[.int .i64 h, (.slice (some ⟨wx.heap.size + 1 + 1, 0, none⟩) 2 2), .int .i64 p, .int .i64 0, .int .i64 0] from by (repeat (first | exact heap_new' _ _ _ (by first | rfl | (simp only [World.size_alloc])) | refine (blk_alloc_lt _ _ _ (by first | omega | (simp only [World.size_alloc]; omega))).trans ?_)))
        have BS4 := Lib.hid (show Blk (((wx.alloc (.cells #[.int .i64 4, .int .i64 h, .int .i64 ra, .int .i64 rb, .int .i64 p, .int .i64 o] 47)).alloc (.cells #[.int .i64 h, (.slice (some ⟨wx.heap.size + 1 + 1, 0, none⟩) 2 2), .int .i64 p, .int .i64 0, .int .i64 0] 59)).alloc (.cells #[.int .i64 ra, .int .i64 rb] 3)) (wx.heap.size + 1 + 1) 3 #[.int .i64 ra, .int .i64 rb] from by (repeat (first | exact heap_new' _ _ _ (by first | rfl | (simp only [World.size_alloc])) | refine (blk_alloc_lt _ _ _ (by first | omega | (simp only [World.size_alloc]; omega))).trans ?_)))
        have g1 := (HB.out.fut HF40.out).cell (i := 1) rfl
        have k0 := BE4.out.cell (i := 0) rfl
        have k1 := BE4.out.cell (i := 1) rfl
        have k2 := BE4.out.cell (i := 2) rfl
        have k3 := BE4.out.cell (i := 3) rfl
        have k4 := BE4.out.cell (i := 4) rfl
        have hxs := HXS.out
        have hbs := HBS.out
        have hs9 := HSZ.out
        have HFX := Lib.hid (show Fut wx ((((wx.alloc (.cells #[.int .i64 4, .int .i64 h, .int .i64 ra, .int .i64 rb, .int .i64 p, .int .i64 o] 47)).alloc (.cells #[.int .i64 h, (.slice (some ⟨wx.heap.size + 1 + 1, 0, none⟩) 2 2), .int .i64 p, .int .i64 0, .int .i64 0] 59)).alloc (.cells #[.int .i64 ra, .int .i64 rb] 3)).alloc (.cells #[.int .i64 h, (.slice (some ⟨wx.heap.size + 1 + 1, 0, none⟩) 2 2), .int .i64 p, .int .i64 0, .int .i64 0] 59)) from HF40.out.alloc _)
        have HO5 := Lib.hid (own_fut HO.out HFX.out)
        have HB5 := Lib.hid (HB.out.fut HFX.out)
        have HT5 := Lib.hid (show TlP (fun b => wb.heap.size ≤ b ∧ (Value.slice XA j Xc).ownBlock ≠ some b) ((((wx.alloc (.cells #[.int .i64 4, .int .i64 h, .int .i64 ra, .int .i64 rb, .int .i64 p, .int .i64 o] 47)).alloc (.cells #[.int .i64 h, (.slice (some ⟨wx.heap.size + 1 + 1, 0, none⟩) 2 2), .int .i64 p, .int .i64 0, .int .i64 0] 59)).alloc (.cells #[.int .i64 ra, .int .i64 rb] 3)).alloc (.cells #[.int .i64 h, (.slice (some ⟨wx.heap.size + 1 + 1, 0, none⟩) 2 2), .int .i64 p, .int .i64 0, .int .i64 0] 59)) (⟨h, [ra, rb], p, 0, 0, (some ⟨wx.heap.size + 1 + 1, 0, none⟩), 2⟩ : EI) from .inr ⟨wx.heap.size + 1 + 1, rfl, ⟨by omega, fun e => by have := (HGO.out _ e).2; omega⟩, by simp only [World.size_alloc]; omega, BS4.out.alloc _⟩)
        have HE5 := Lib.hid (show GR ins (rs.take (j + 1)) (es ++ [(⟨h, [ra, rb], p, 0, 0, (some ⟨wx.heap.size + 1 + 1, 0, none⟩), 2⟩ : EI)]) from HGR.out.step HKL.out HX.out ⟨rfl, by simp [tailsN], by simp [costN]⟩)
        go_wp2_with (at_builtin; refine wpList_push rfl 52 59 5 56 _ Try.underlying52 info_ee rfl (by decide) (by decide) (.tmp 52) (.tmp 54) rfl wb.heap.size (.slice XA j Xc) j _ rfl HO5.out (wx.heap.size + 1 + 1 + 1) [.int .i64 h, (.slice (some ⟨wx.heap.size + 1 + 1, 0, none⟩) 2 2), .int .i64 p, .int .i64 0, .int .i64 0] rfl (heap_new' _ _ _ (by simp only [World.size_alloc, World.size_drew, World.size_setCell])) rfl (by simp [Value.oneCell']) (by omega) (Nat.le_trans HBS.out HFX.out.size) ?_; intro g cap w' h1 h2 h3; have hB6 := HB5.out.grown h2 (fun e => (by have := HGO.out _ e.symm; have := HSZ.out; omega)); have q8 := hB6.cell (i := 1) rfl; have q9 := hB6.fz 1; have HB6 := Lib.hid hB6; have HH1 := Lib.hid h1; have HH2 := Lib.hid h2; have HH3 := Lib.hid h3; clear hB6 h1 h2 h3)
        have hgb : w.heap.size + 3 ≤ g ∧ g < w'.heap.size := by
          have := (World.ownsRow.lt HH1.out g rfl)
          have := HSZ.out
          omega
        refine ⟨⟨j + 1, es ++ [(⟨h, [ra, rb], p, 0, 0, (some ⟨wx.heap.size + 1 + 1, 0, none⟩), 2⟩ : EI)], some ⟨g, 0, none⟩, cap, by omega, by go_num, Lib.hid (by rw [List.length_append, HKL.out]; rfl), HE5, Lib.hid ?_, HB6.out.set 1 _, Lib.hid ?_, ?_⟩, by simp [intOf]; omega⟩
        · rw [List.flatMap_append]
          refine own_keep HH1.out (fun k hk => ?_)
          obtain rfl : g = k := by
            have h9 : (some g : Option Nat) = some k := hk
            exact Option.some.inj h9
          exact blk_setCell_other _ _ _ _ (by simp only; omega)
        · intro y hy
          have hgn : ∀ b, b < (((((wx.alloc (.cells #[.int .i64 4, .int .i64 h, .int .i64 ra, .int .i64 rb, .int .i64 p, .int .i64 o] 47)).alloc (.cells #[.int .i64 h, (.slice (some ⟨wx.heap.size + 1 + 1, 0, none⟩) 2 2), .int .i64 p, .int .i64 0, .int .i64 0] 59)).alloc (.cells #[.int .i64 ra, .int .i64 rb] 3)).alloc (.cells #[.int .i64 h, (.slice (some ⟨wx.heap.size + 1 + 1, 0, none⟩) 2 2), .int .i64 p, .int .i64 0, .int .i64 0] 59))).heap.size → (Value.slice XA j Xc).ownBlock ≠ some b → (Value.slice (some ⟨g, 0, none⟩) (j + 1) cap).ownBlock ≠ some b := fun b h1 h2 e => by
            have h9 : (some g : Option Nat) = some b := e
            obtain rfl := Option.some.inj h9
            rcases HH3.out with h3 | h3
            · exact h2 h3
            · omega
          have hk9 : ∀ b, (wb.heap.size ≤ b ∧ (Value.slice XA j Xc).ownBlock ≠ some b) → b < (((((wx.alloc (.cells #[.int .i64 4, .int .i64 h, .int .i64 ra, .int .i64 rb, .int .i64 p, .int .i64 o] 47)).alloc (.cells #[.int .i64 h, (.slice (some ⟨wx.heap.size + 1 + 1, 0, none⟩) 2 2), .int .i64 p, .int .i64 0, .int .i64 0] 59)).alloc (.cells #[.int .i64 ra, .int .i64 rb] 3)).alloc (.cells #[.int .i64 h, (.slice (some ⟨wx.heap.size + 1 + 1, 0, none⟩) 2 2), .int .i64 p, .int .i64 0, .int .i64 0] 59))).heap.size → (w'.setCell ⟨w.heap.size + 1 + 1, 1, none⟩ (.slice (some ⟨g, 0, none⟩) (j + 1) cap)).heap[b]? = (((((wx.alloc (.cells #[.int .i64 4, .int .i64 h, .int .i64 ra, .int .i64 rb, .int .i64 p, .int .i64 o] 47)).alloc (.cells #[.int .i64 h, (.slice (some ⟨wx.heap.size + 1 + 1, 0, none⟩) 2 2), .int .i64 p, .int .i64 0, .int .i64 0] 59)).alloc (.cells #[.int .i64 ra, .int .i64 rb] 3)).alloc (.cells #[.int .i64 h, (.slice (some ⟨wx.heap.size + 1 + 1, 0, none⟩) 2 2), .int .i64 p, .int .i64 0, .int .i64 0] 59))).heap[b]? ∧ (wb.heap.size ≤ b ∧ (Value.slice (some ⟨g, 0, none⟩) (j + 1) cap).ownBlock ≠ some b) := fun b hb hlt =>
            ⟨(blk_setCell_other _ _ _ _ (by simp only; have := HSZ.out; omega)).trans (HH2.out.block b hlt (fun e => hb.2 e.symm)), hb.1, hgn b hlt hb.2⟩
          rcases List.mem_append.1 hy with hy | hy
          · refine (HTL.out y hy).keep (fun b hb hlt => ?_)
            have h6 := HFX.out.block b hlt
            have h7 := HFX.out.size
            obtain ⟨k1, k2⟩ := hk9 b hb (by omega)
            exact ⟨k1.trans h6, k2⟩
          · obtain rfl : y = (⟨h, [ra, rb], p, 0, 0, (some ⟨wx.heap.size + 1 + 1, 0, none⟩), 2⟩ : EI) := by simpa using hy
            exact HT5.out.keep hk9
        · exact ((HF2.out.then HFX.out).grown HH2.out (fun k hk => .inr (HGO.out k hk).1)).setCell (.inl (by simp)) _
    · have hjn : j = n := by omega
      obtain rfl := hjn
      have hz := HZ.out.futS hF (beq_eq_false_iff_ne.2 (by omega))
      have g4 := hz.cell (i := 0) rfl
      have g5 := hz.cell (i := 1) rfl
      have g2 := hz.fz 0
      have g3 := hz.fz 1
      have q0 := hB.cell (i := 0) rfl
      have q1 := hB.cell (i := 1) rfl
      have HZ3 := Lib.hid hz
      clear hz hB hF
      go_wp2_with fail
      refine bodyPost_ret (results_cell_row gr_res _ _ (w.heap.size + 1) _ _ _ _ rfl ((HZ3.out.set 0 (.int .i64 N)).set 1 (.slice XA j Xc)) Try.underlying54 rfl (by kernel_rfl)) rfl ?_
      have hkeep : ∀ b, b ≠ w.heap.size + 1 → ((wx.setCell ⟨w.heap.size + 1, 0, none⟩ (.int .i64 N)).setCell ⟨w.heap.size + 1, 1, none⟩ (.slice XA j Xc)).heap[b]? = wx.heap[b]? := fun b h => (blk_setCell_other _ _ _ _ h).trans (blk_setCell_other _ _ _ _ h)
      have hsz := HSZ.out
      have ho := own_keep (w' := (wx.setCell ⟨w.heap.size + 1, 0, none⟩ (.int .i64 N)).setCell ⟨w.heap.size + 1, 1, none⟩ (.slice XA j Xc)) HO.out (fun k hk => hkeep k (by
        have := (World.ownsRow.lt HO.out k hk).1
        omega))
      have hgr := HGR.out
      rw [List.take_of_length_le (by rw [HL.out]; omega)] at hgr
      refine ⟨⟨XA, Xc, es, rfl, hgr, RdS.of_own (enc := encE) encE_len (by decide) ho, fun e he => ⟨((HTL.out e he).keep (ok' := fun _ => True) (fun b hb hlt => ⟨hkeep b (by omega), trivial⟩)).rd, ?_⟩⟩, (HFW.out.setCell (p := ⟨w.heap.size + 1, 0, none⟩) (by simp only; omega) _).setCell (p := ⟨w.heap.size + 1, 1, none⟩) (by simp only; omega) _⟩
      obtain ⟨r, _, _, e2, _⟩ := hgr.at he
      have := tailsN_len r
      rw [e2]
      unfold maxLen
      omega
end Go.Proofs.Ytleapckcihcpaaa
