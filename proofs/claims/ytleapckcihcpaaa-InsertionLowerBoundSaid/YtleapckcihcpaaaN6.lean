/-
  The hypergraph of a grammar, as the reference has it.
-/
import Derived.Test.YtleapckcihcpaaaN5
namespace Go.Proofs.Ytleapckcihcpaaa
open Go.RowKit Go.Deep PK
attribute [local go_sem] Oper.lit Oper.litS fut_fut fut_drew World.cell?_alloc_some
abbrev rv (r : NR) : Value := .agg #[.int .i64 r.kd, .int .i64 r.h, .int .i64 r.a, .int .i64 r.b, .int .i64 r.p, .int .i64 r.o]
theorem rtl_any (r : NR) (w : World) : Calls Try.prog 37 #[rv r] w fun q w' => (∃ (A : Option Addr) (k : Nat), q = .returned (.slice A (tailsN r).length k) ∧ TlP (fun b => w.heap.size ≤ b) w' ⟨0, tailsN r, 0, 0, 0, A, k⟩) ∧ Below w.heap.size w w' := by
  obtain ⟨kd, h, ra, rb, p, o⟩ := r
  have HF := Lib.hid ((Fut.refl w).alloc (.cells #[.int .i64 kd, .int .i64 h, .int .i64 ra, .int .i64 rb, .int .i64 p, .int .i64 o] 47))
  simp only [rv]
  by_cases k3 : kd = 3
  · subst k3
    have HT := Lib.hid (show tailsN ⟨3, h, ra, rb, p, o⟩ = [ra] from by simp [tailsN])
    go_enter Try.func37, Try.ntmps37
    go_wp2_with fail
    go_ret
    rw [HT.out]
    exact ⟨⟨some ⟨w.heap.size + 1, 0, none⟩, 1, rfl, .inr ⟨w.heap.size + 1, rfl, Nat.le_succ _, by simp only [World.size_alloc]; omega, heap_new' _ _ _ (World.size_alloc _ _).symm⟩⟩, HF.out.alloc _⟩
  · by_cases k4 : kd = 4
    · subst k4
      have HT := Lib.hid (show tailsN ⟨4, h, ra, rb, p, o⟩ = [ra, rb] from by simp [tailsN])
      go_enter Try.func37, Try.ntmps37
      go_wp2_with fail
      go_ret
      rw [HT.out]
      exact ⟨⟨some ⟨w.heap.size + 1, 0, none⟩, 2, rfl, .inr ⟨w.heap.size + 1, rfl, Nat.le_succ _, by simp only [World.size_alloc]; omega, heap_new' _ _ _ (World.size_alloc _ _).symm⟩⟩, HF.out.alloc _⟩
    · have HT := Lib.hid (show tailsN ⟨kd, h, ra, rb, p, o⟩ = [] from by simp [tailsN, k3, k4])
      obtain ⟨y1, y2, y3⟩ := cmpF_no k3
      obtain ⟨z1, z2, z3⟩ := cmpF_no k4
      clear k3 k4
      go_enter Try.func37, Try.ntmps37
      go_wp2_with fail
      go_ret
      rw [HT.out]
      exact ⟨⟨none, 0, rfl, .inl rfl⟩, HF.out⟩
theorem kids_any (r : NR) (w : World) : Calls Try.prog 35 #[rv r] w fun q w' => (∃ (A : Option Addr) (k : Nat), q = .returned (.slice A (tailsN r).length k) ∧ TlP (fun b => w.heap.size ≤ b) w' ⟨0, tailsN r, 0, 0, 0, A, k⟩) ∧ Below w.heap.size w w' := by
  obtain ⟨kd, h, ra, rb, p, o⟩ := r
  have HF := Lib.hid ((Fut.refl w).alloc (.cells #[.int .i64 kd, .int .i64 h, .int .i64 ra, .int .i64 rb, .int .i64 p, .int .i64 o] 47))
  simp only [rv]
  by_cases k3 : kd = 3
  · subst k3
    have HT := Lib.hid (show tailsN ⟨3, h, ra, rb, p, o⟩ = [ra] from by simp [tailsN])
    go_enter Try.func35, Try.ntmps35
    go_wp2_with fail
    go_ret
    rw [HT.out]
    exact ⟨⟨some ⟨w.heap.size + 1, 0, none⟩, 1, rfl, .inr ⟨w.heap.size + 1, rfl, Nat.le_succ _, by simp only [World.size_alloc]; omega, heap_new' _ _ _ (World.size_alloc _ _).symm⟩⟩, HF.out.alloc _⟩
  · by_cases k4 : kd = 4
    · subst k4
      have HT := Lib.hid (show tailsN ⟨4, h, ra, rb, p, o⟩ = [ra, rb] from by simp [tailsN])
      go_enter Try.func35, Try.ntmps35
      go_wp2_with fail
      go_ret
      rw [HT.out]
      exact ⟨⟨some ⟨w.heap.size + 1, 0, none⟩, 2, rfl, .inr ⟨w.heap.size + 1, rfl, Nat.le_succ _, by simp only [World.size_alloc]; omega, heap_new' _ _ _ (World.size_alloc _ _).symm⟩⟩, HF.out.alloc _⟩
    · have HT := Lib.hid (show tailsN ⟨kd, h, ra, rb, p, o⟩ = [] from by simp [tailsN, k3, k4])
      obtain ⟨y1, y2, y3⟩ := cmpF_no k3
      obtain ⟨z1, z2, z3⟩ := cmpF_no k4
      clear k3 k4
      go_enter Try.func35, Try.ntmps35
      go_wp2_with fail
      go_ret
      rw [HT.out]
      exact ⟨⟨none, 0, rfl, .inl rfl⟩, HF.out⟩
theorem rgr_res : Try.f24.results = #[.cell 4 54] := by kernel_rfl
set_option maxHeartbeats 12800000 in
set_option maxRecDepth 4000 in
theorem rgraph_any (T N st : Int) (A : Option Addr) (n c : Nat) (rs : List NR) (B : Option Addr) (m d : Nat) (ins : List Int) (w : World) (hl : rs.length = n) (hR : RdN w A rs) (hil : ins.length = m) (hI : Rd1 w B (.int .i64 ·) ins) (hvd : validN T N st rs = true) (hp : pricesB T ins = true) :
    Calls Try.prog 24 #[nmv T N st A n c, .slice B m d] w fun r w' => (∃ (XA : Option Addr) (Xc : Nat) (es : List EI), r = .returned (hv N XA n Xc) ∧ GR ins rs es ∧ RdE w' XA es) ∧ Below w.heap.size w w' := by
  have HV := Lib.hid (validN_parts hvd)
  have HP := Lib.hid (prices_parts hp)
  have hn6 : n ≤ 600 := by rw [← hl]; exact HV.out.2.2.2.2.1
  have HL := Lib.hid hl
  have HIL := Lib.hid hil
  obtain ⟨wb, hwb⟩ : ∃ wb, wb = (w.alloc (.cells #[.int .i64 T, .int .i64 N, .int .i64 st, .slice A n c] 24)).alloc (.cells #[.int .i64 0, .slice none 0 0] 54) := ⟨_, rfl⟩
  have HF := Lib.hid (show Fut w wb from by rw [hwb]; exact ((Fut.refl w).alloc _).alloc _)
  have HSZ := Lib.hid (show wb.heap.size = w.heap.size + 2 from by rw [hwb]; simp only [World.size_alloc])
  have HBN := Lib.hid (show Blk wb w.heap.size 24 #[.int .i64 T, .int .i64 N, .int .i64 st, .slice A n c] from by rw [hwb]; (repeat (first | exact heap_new' _ _ _ (by first | rfl | (simp only [World.size_alloc])) | refine (blk_alloc_lt _ _ _ (by first | omega | (simp only [World.size_alloc]; omega))).trans ?_)))
  have HZ := Lib.hid (show Blk wb (w.heap.size + 1) 54 #[.int .i64 0, .slice none 0 0] from by rw [hwb]; (repeat (first | exact heap_new' _ _ _ (by first | rfl | (simp only [World.size_alloc])) | refine (blk_alloc_lt _ _ _ (by first | omega | (simp only [World.size_alloc]; omega))).trans ?_)))
  have HR := Lib.hid hR
  have HI := Lib.hid hI
  clear hl hR hil hI hvd hp
  go_enter Try.func24, Try.ntmps24
  go_wp2_with fail
  rw [← hwb]
  clear hwb
  go_loopw [5, 6] (fun x i wr => ∃ (j : Nat) (es : List EI) (XA : Option Addr) (Xc : Nat), j ≤ n ∧ x = .slice XA j Xc ∧ i = .int .i64 j ∧ Hid (es.length = j) ∧ Hid (GR ins (rs.take j) es)
      ∧ Hid (wr.ownsRow wb.heap.size 59 5 (.slice XA j Xc) j (es.flatMap encE)) ∧ Hid (∀ e ∈ es, TlP (fun b => wb.heap.size ≤ b ∧ (Value.slice XA j Xc).ownBlock ≠ some b) wr e) ∧ Fut wb wr) (fun _ i _ => n - (intOf i).toNat)
  case atStart => exact ⟨0, [], none, 0, Nat.zero_le _, rfl, rfl, Lib.hid rfl, Lib.hid ⟨rfl, fun i r e h => by simp at h⟩, Lib.hid (World.ownsRow_nil _ _ _ _), Lib.hid (fun e h => by simp at h), Fut.refl _⟩
  case round =>
    obtain ⟨j, es, XA, Xc, hj, rfl, rfl, HKL, HGR, HO, HTL, hF⟩ := hrel
    obtain ⟨wx, rfl⟩ : ∃ q, q = wr := ⟨_, rfl⟩
    have HFB := Lib.hid hF
    have HFW := Lib.hid (HF.out.trans hF)
    have HGO := Lib.hid (fun k hk => World.ownsRow.lt HO.out k hk)
    have q3 := (HBN.out.fut HFB.out).cell (i := 3) rfl
    clear hF
    by_cases hlt : j < n
    · obtain ⟨x, hx⟩ := get_lt HL.out hlt
      have HOK := Lib.hid (okN_parts (HV.out.2.2.2.2.2 x (List.mem_of_getElem? hx)))
      have HX := Lib.hid hx
      obtain ⟨b0, o0, rfl, hc⟩ := HR.out j x hx
      have c0 := HFW.out.cell (hc 0 _ (by decide) rfl)
      have c1 := HFW.out.cell (hc 1 _ (by decide) rfl)
      have c2 := HFW.out.cell (hc 2 _ (by decide) rfl)
      have c3 := HFW.out.cell (hc 3 _ (by decide) rfl)
      have c4 := HFW.out.cell (hc 4 _ (by decide) rfl)
      have c5 := HFW.out.cell (hc 5 _ (by decide) rfl)
      simp only [Nat.add_zero] at c0
      obtain ⟨kd, h, ra, rb, p, o⟩ := x
      simp only at c0 c1 c2 c3 c4 c5
      clear hx hc
      by_cases k2 : kd = 2
      · subst k2
        obtain ⟨h1, h2⟩ := (show 0 ≤ ra ∧ ra < T from HOK.out.2.2.2.2.1 rfl)
        obtain ⟨an, rfl⟩ : ∃ an : Nat, ra = an := ⟨ra.toNat, by omega⟩
        have ham : an < m := by
          have := HP.out.1
          rw [HIL.out] at this
          omega
        obtain ⟨v, hvx⟩ := get_lt HIL.out ham
        obtain ⟨b1, o1, rfl, hcv⟩ := HI.out an v hvx
        have hv1 := HP.out.2 v (List.mem_of_getElem? hvx)
        have hp1 : 0 ≤ p ∧ p ≤ 1000 := ⟨HOK.out.2.2.1, HOK.out.2.2.2.1⟩
        have HVX := Lib.hid hvx
        have i2 := ((Fut.refl wx).alloc (.cells #[.int .i64 2, .int .i64 h, .int .i64 (an : Int), .int .i64 rb, .int .i64 p, .int .i64 o] 47)).cell (HFW.out.cell hcv)
        have hw1 : IntKind.i64.wrap (p + v) = p + v := by simp [IntKind.wrap, IntKind.signed, IntKind.bits]; omega
        have hw2 : wrap64 (p + v) = p + v := IntWalk.wrap64_in _ ⟨by omega, by omega⟩
        clear hvx h1 h2 hcv
        go_wp2_with fail
        clear i2 hw1 hw2
        have BR := Lib.hid (show Blk (wx.alloc (.cells #[.int .i64 2, .int .i64 h, .int .i64 (an : Int), .int .i64 rb, .int .i64 p, .int .i64 o] 47)) wx.heap.size 47 #[.int .i64 2, .int .i64 h, .int .i64 (an : Int), .int .i64 rb, .int .i64 p, .int .i64 o] from heap_new' _ _ _ rfl)
        have HF20 := Lib.hid (show Fut wx (wx.alloc (.cells #[.int .i64 2, .int .i64 h, .int .i64 (an : Int), .int .i64 rb, .int .i64 p, .int .i64 o] 47)) from (Fut.refl wx).alloc _)
        have hsz2 : (wx.alloc (.cells #[.int .i64 2, .int .i64 h, .int .i64 (an : Int), .int .i64 rb, .int .i64 p, .int .i64 o] 47)).heap.size = wx.heap.size + 1 := World.size_alloc _ _
        generalize wx.alloc (.cells #[.int .i64 2, .int .i64 h, .int .i64 (an : Int), .int .i64 rb, .int .i64 p, .int .i64 o] 47) = w2 at *
        have r0 := cell_fut (BR.out.cell (i := 0) rfl)
        have r1 := cell_fut (BR.out.cell (i := 1) rfl)
        have r2 := cell_fut (BR.out.cell (i := 2) rfl)
        have r3 := cell_fut (BR.out.cell (i := 3) rfl)
        have r4 := cell_fut (BR.out.cell (i := 4) rfl)
        have r5 := cell_fut (BR.out.cell (i := 5) rfl)
        clear c0 c1 c2 c3 c4 c5 q3
        refine wp_region_M o_emendateref38_Graph_9 (by kernel_rfl) (by kernel_rfl) (by intro c a d v w h; cases d <;> exact h) ?_; unfold o_emendateref38_Graph_9
        iterate 5 (refine wpF_h rfl rfl (fun K hK => ?_); go_simp; refine hK _ _ ?_; clear hK K)
        refine wpF_o rfl rfl (fun K hK => ?_)
        go_simp
        go_at_call 37
        refine (rtl_any ⟨2, h, (an : Int), rb, p, o⟩ _).mono ?_
        rintro q w3 ⟨⟨tA, tk, rfl, htl⟩, hb⟩
        have f3 : Fut w2 w3 := (Fut.refl w2).drew.trans hb
        refine hK _ _ (.inr hb) ?_
        clear hK K r0 r1 r2 r3 r4 r5
        have hs3 : wx.heap.size ≤ w3.heap.size := Nat.le_trans (by omega) f3.size
        have HTN := Lib.hid htl
        have HF30 := Lib.hid (HF20.out.trans f3)
        obtain ⟨tl, htl2⟩ : ∃ tl, (tailsN ⟨2, h, (an : Int), rb, p, o⟩).length = tl := ⟨_, rfl⟩
        rw [htl2]
        have HTLL := Lib.hid htl2
        clear hb f3 htl htl2
        (refine wpF_h rfl rfl (fun K hK => ?_); go_simp; refine hK _ _ ?_; clear hK K)
        refine wpF_o rfl rfl (fun K hK => ?_)
        go_simp
        refine hK _ _ (.inr ((Fut.refl _).alloc _)) ?_
        clear hK K
        have HO1 := Lib.hid (World.ownsRow.alloc (own_fut HO.out HF30.out) (.cells #[.int .i64 h, .slice tA tl tk, .int .i64 (p + v), .int .i64 0, .int .i64 0] 59))
        have HT4 := Lib.hid (show TlP (fun b => wb.heap.size ≤ b ∧ (Value.slice XA j Xc).ownBlock ≠ some b) (w3.alloc (.cells #[.int .i64 h, .slice tA tl tk, .int .i64 (p + v), .int .i64 0, .int .i64 0] 59)) ⟨h, tailsN ⟨2, h, (an : Int), rb, p, o⟩, (p + v), 0, 0, tA, tk⟩ from by
          have h9 : TlP (fun b => w2.drew.heap.size ≤ b) w3 ⟨h, tailsN ⟨2, h, (an : Int), rb, p, o⟩, (p + v), 0, 0, tA, tk⟩ := HTN.out
          refine h9.keep (fun b hb hlt => ⟨((Fut.refl w3).alloc _).block b hlt, ?_, fun e => ?_⟩)
          · have h8 : w2.heap.size ≤ b := hb
            have := HFB.out.size
            omega
          · have h8 : w2.heap.size ≤ b := hb
            have := (HGO.out b e).2
            omega)
        have HE5 := Lib.hid (show GR ins (rs.take (j + 1)) (es ++ [(⟨h, tailsN ⟨2, h, (an : Int), rb, p, o⟩, (p + v), 0, 0, tA, tk⟩ : EI)]) from HGR.out.step HKL.out HX.out ⟨rfl, rfl, by simp [costN, HVX.out]⟩)
        have HEN := Lib.hid (show encE ⟨h, tailsN ⟨2, h, (an : Int), rb, p, o⟩, (p + v), 0, 0, tA, tk⟩ = [.int .i64 h, .slice tA tl tk, .int .i64 (p + v), .int .i64 0, .int .i64 0] from by simp only [encE, HTLL.out])
        generalize tailsN ⟨2, h, (an : Int), rb, p, o⟩ = tt at *
        refine wpF_ol rfl (by kernel_rfl) rfl (fun K hK => ?_)
        refine wp_push 52 59 5 56 _ Try.underlying52 info_ee rfl (by decide) (by decide) (.tmp 33) (.tmp 40) rfl wb.heap.size (.slice XA j Xc) j _ rfl HO1.out w3.heap.size [.int .i64 h, .slice tA tl tk, .int .i64 (p + v), .int .i64 0, .int .i64 0] rfl (heap_new' _ _ _ rfl) rfl (by simp [Value.oneCell']) (by omega) (Nat.le_trans (HFB.out.trans HF30.out).size (by rw [World.size_alloc]; exact Nat.le_succ _)) ?_
        intro g cap w' h1 h2 h3
        refine hK _ _ ?_
        clear hK K
        (refine wpF_h rfl rfl (fun K hK => ?_); go_simp; refine hK _ _ ?_; clear hK K)
        refine wpF_nil ?_
        go_wp2_with fail
        refine ⟨⟨j + 1, es ++ [(⟨h, tt, (p + v), 0, 0, tA, tk⟩ : EI)], some ⟨g, 0, none⟩, cap, by omega, rfl, by go_num, Lib.hid (by rw [List.length_append, HKL.out]; rfl), HE5, Lib.hid ?_, Lib.hid ?_, ?_⟩, by simp [intOf]; omega⟩
        · rw [List.flatMap_append]
          have h9 := h1
          rw [← HEN.out] at h9
          simpa using h9
        · intro y hy
          have hgn : ∀ b, b < (w3.alloc (.cells #[.int .i64 h, .slice tA tl tk, .int .i64 (p + v), .int .i64 0, .int .i64 0] 59)).heap.size - 1 → (Value.slice XA j Xc).ownBlock ≠ some b → (Value.slice (some ⟨g, 0, none⟩) (j + 1) cap).ownBlock ≠ some b := fun b h1 h2 e => by
            have h9 : (some g : Option Nat) = some b := e
            obtain rfl := Option.some.inj h9
            rcases h3 with h3 | h3
            · exact h2 h3
            · omega
          have hk9 : ∀ b, (wb.heap.size ≤ b ∧ (Value.slice XA j Xc).ownBlock ≠ some b) → b < w3.heap.size → w'.heap[b]? = (w3.alloc (.cells #[.int .i64 h, .slice tA tl tk, .int .i64 (p + v), .int .i64 0, .int .i64 0] 59)).heap[b]? ∧ (wb.heap.size ≤ b ∧ (Value.slice (some ⟨g, 0, none⟩) (j + 1) cap).ownBlock ≠ some b) := fun b hb hlt =>
            ⟨h2.block b (by rw [World.size_alloc]; omega) (fun e => hb.2 e.symm), hb.1, hgn b (by rw [World.size_alloc]; omega) hb.2⟩
          rcases List.mem_append.1 hy with hy | hy
          · refine (HTL.out y hy).keep (fun b hb hlt => ?_)
            obtain ⟨k1, k2⟩ := hk9 b hb (Nat.lt_of_lt_of_le hlt hs3)
            exact ⟨k1.trans ((((Fut.refl w3).alloc _).block b (Nat.lt_of_lt_of_le hlt hs3)).trans (HF30.out.block b hlt)), k2⟩
          · obtain rfl : y = (⟨h, tt, (p + v), 0, 0, tA, tk⟩ : EI) := by simpa using hy
            rcases HT4.out with h9 | ⟨b, h5, h6, h7, h8⟩
            · exact .inl h9
            · have hb3 : b < w3.heap.size := by
                rcases Nat.lt_or_ge b w3.heap.size with h10 | h10
                · exact h10
                · exfalso
                  have h11 : b = w3.heap.size := by rw [World.size_alloc] at h7; omega
                  subst h11
                  have h12 := h8
                  unfold Blk at h12
                  rw [heap_new' _ _ _ rfl] at h12
                  injection h12 with h12
                  injection h12 with _ h13
                  revert h13
                  decide
              obtain ⟨k1, k2⟩ := hk9 b h6 hb3
              have h10 : Blk w' b 3 (tt.map (Value.int .i64 ·)).toArray := k1.trans h8
              exact .inr ⟨b, h5, k2, h10.lt, h10⟩
        · exact (FutS.grownS (S := fun k => decide (wb.heap.size ≤ k)) h2 (fun k hk => decide_eq_true (HGO.out k hk).1)).fut ((HFB.out.trans HF30.out).alloc _) (fun k hk => of_decide_eq_true hk)
      · obtain ⟨y1, y2, y3⟩ := cmpF_no k2
        have HK2 := Lib.hid k2
        clear k2
        go_wp2_with fail
        have BR := Lib.hid (show Blk (wx.alloc (.cells #[.int .i64 kd, .int .i64 h, .int .i64 ra, .int .i64 rb, .int .i64 p, .int .i64 o] 47)) wx.heap.size 47 #[.int .i64 kd, .int .i64 h, .int .i64 ra, .int .i64 rb, .int .i64 p, .int .i64 o] from heap_new' _ _ _ rfl)
        have HF20 := Lib.hid (show Fut wx (wx.alloc (.cells #[.int .i64 kd, .int .i64 h, .int .i64 ra, .int .i64 rb, .int .i64 p, .int .i64 o] 47)) from (Fut.refl wx).alloc _)
        have hsz2 : (wx.alloc (.cells #[.int .i64 kd, .int .i64 h, .int .i64 ra, .int .i64 rb, .int .i64 p, .int .i64 o] 47)).heap.size = wx.heap.size + 1 := World.size_alloc _ _
        generalize wx.alloc (.cells #[.int .i64 kd, .int .i64 h, .int .i64 ra, .int .i64 rb, .int .i64 p, .int .i64 o] 47) = w2 at *
        have r0 := cell_fut (BR.out.cell (i := 0) rfl)
        have r1 := cell_fut (BR.out.cell (i := 1) rfl)
        have r2 := cell_fut (BR.out.cell (i := 2) rfl)
        have r3 := cell_fut (BR.out.cell (i := 3) rfl)
        have r4 := cell_fut (BR.out.cell (i := 4) rfl)
        have r5 := cell_fut (BR.out.cell (i := 5) rfl)
        clear c0 c1 c2 c3 c4 c5 q3
        refine wp_region_M o_emendateref38_Graph_9 (by kernel_rfl) (by kernel_rfl) (by intro c a d v w h; cases d <;> exact h) ?_; unfold o_emendateref38_Graph_9
        iterate 5 (refine wpF_h rfl rfl (fun K hK => ?_); go_simp; refine hK _ _ ?_; clear hK K)
        refine wpF_o rfl rfl (fun K hK => ?_)
        go_simp
        go_at_call 37
        refine (rtl_any ⟨kd, h, ra, rb, p, o⟩ _).mono ?_
        rintro q w3 ⟨⟨tA, tk, rfl, htl⟩, hb⟩
        have f3 : Fut w2 w3 := (Fut.refl w2).drew.trans hb
        refine hK _ _ (.inr hb) ?_
        clear hK K r0 r1 r2 r3 r4 r5
        have hs3 : wx.heap.size ≤ w3.heap.size := Nat.le_trans (by omega) f3.size
        have HTN := Lib.hid htl
        have HF30 := Lib.hid (HF20.out.trans f3)
        obtain ⟨tl, htl2⟩ : ∃ tl, (tailsN ⟨kd, h, ra, rb, p, o⟩).length = tl := ⟨_, rfl⟩
        rw [htl2]
        have HTLL := Lib.hid htl2
        clear hb f3 htl htl2
        (refine wpF_h rfl rfl (fun K hK => ?_); go_simp; refine hK _ _ ?_; clear hK K)
        refine wpF_o rfl rfl (fun K hK => ?_)
        go_simp
        refine hK _ _ (.inr ((Fut.refl _).alloc _)) ?_
        clear hK K
        have HO1 := Lib.hid (World.ownsRow.alloc (own_fut HO.out HF30.out) (.cells #[.int .i64 h, .slice tA tl tk, .int .i64 p, .int .i64 0, .int .i64 0] 59))
        have HT4 := Lib.hid (show TlP (fun b => wb.heap.size ≤ b ∧ (Value.slice XA j Xc).ownBlock ≠ some b) (w3.alloc (.cells #[.int .i64 h, .slice tA tl tk, .int .i64 p, .int .i64 0, .int .i64 0] 59)) ⟨h, tailsN ⟨kd, h, ra, rb, p, o⟩, p, 0, 0, tA, tk⟩ from by
          have h9 : TlP (fun b => w2.drew.heap.size ≤ b) w3 ⟨h, tailsN ⟨kd, h, ra, rb, p, o⟩, p, 0, 0, tA, tk⟩ := HTN.out
          refine h9.keep (fun b hb hlt => ⟨((Fut.refl w3).alloc _).block b hlt, ?_, fun e => ?_⟩)
          · have h8 : w2.heap.size ≤ b := hb
            have := HFB.out.size
            omega
          · have h8 : w2.heap.size ≤ b := hb
            have := (HGO.out b e).2
            omega)
        have HE5 := Lib.hid (show GR ins (rs.take (j + 1)) (es ++ [(⟨h, tailsN ⟨kd, h, ra, rb, p, o⟩, p, 0, 0, tA, tk⟩ : EI)]) from HGR.out.step HKL.out HX.out ⟨rfl, rfl, by simp [costN, HK2.out]⟩)
        have HEN := Lib.hid (show encE ⟨h, tailsN ⟨kd, h, ra, rb, p, o⟩, p, 0, 0, tA, tk⟩ = [.int .i64 h, .slice tA tl tk, .int .i64 p, .int .i64 0, .int .i64 0] from by simp only [encE, HTLL.out])
        generalize tailsN ⟨kd, h, ra, rb, p, o⟩ = tt at *
        refine wpF_ol rfl (by kernel_rfl) rfl (fun K hK => ?_)
        refine wp_push 52 59 5 56 _ Try.underlying52 info_ee rfl (by decide) (by decide) (.tmp 33) (.tmp 40) rfl wb.heap.size (.slice XA j Xc) j _ rfl HO1.out w3.heap.size [.int .i64 h, .slice tA tl tk, .int .i64 p, .int .i64 0, .int .i64 0] rfl (heap_new' _ _ _ rfl) rfl (by simp [Value.oneCell']) (by omega) (Nat.le_trans (HFB.out.trans HF30.out).size (by rw [World.size_alloc]; exact Nat.le_succ _)) ?_
        intro g cap w' h1 h2 h3
        refine hK _ _ ?_
        clear hK K
        (refine wpF_h rfl rfl (fun K hK => ?_); go_simp; refine hK _ _ ?_; clear hK K)
        refine wpF_nil ?_
        go_wp2_with fail
        refine ⟨⟨j + 1, es ++ [(⟨h, tt, p, 0, 0, tA, tk⟩ : EI)], some ⟨g, 0, none⟩, cap, by omega, rfl, by go_num, Lib.hid (by rw [List.length_append, HKL.out]; rfl), HE5, Lib.hid ?_, Lib.hid ?_, ?_⟩, by simp [intOf]; omega⟩
        · rw [List.flatMap_append]
          have h9 := h1
          rw [← HEN.out] at h9
          simpa using h9
        · intro y hy
          have hgn : ∀ b, b < (w3.alloc (.cells #[.int .i64 h, .slice tA tl tk, .int .i64 p, .int .i64 0, .int .i64 0] 59)).heap.size - 1 → (Value.slice XA j Xc).ownBlock ≠ some b → (Value.slice (some ⟨g, 0, none⟩) (j + 1) cap).ownBlock ≠ some b := fun b h1 h2 e => by
            have h9 : (some g : Option Nat) = some b := e
            obtain rfl := Option.some.inj h9
            rcases h3 with h3 | h3
            · exact h2 h3
            · omega
          have hk9 : ∀ b, (wb.heap.size ≤ b ∧ (Value.slice XA j Xc).ownBlock ≠ some b) → b < w3.heap.size → w'.heap[b]? = (w3.alloc (.cells #[.int .i64 h, .slice tA tl tk, .int .i64 p, .int .i64 0, .int .i64 0] 59)).heap[b]? ∧ (wb.heap.size ≤ b ∧ (Value.slice (some ⟨g, 0, none⟩) (j + 1) cap).ownBlock ≠ some b) := fun b hb hlt =>
            ⟨h2.block b (by rw [World.size_alloc]; omega) (fun e => hb.2 e.symm), hb.1, hgn b (by rw [World.size_alloc]; omega) hb.2⟩
          rcases List.mem_append.1 hy with hy | hy
          · refine (HTL.out y hy).keep (fun b hb hlt => ?_)
            obtain ⟨k1, k2⟩ := hk9 b hb (Nat.lt_of_lt_of_le hlt hs3)
            exact ⟨k1.trans ((((Fut.refl w3).alloc _).block b (Nat.lt_of_lt_of_le hlt hs3)).trans (HF30.out.block b hlt)), k2⟩
          · obtain rfl : y = (⟨h, tt, p, 0, 0, tA, tk⟩ : EI) := by simpa using hy
            rcases HT4.out with h9 | ⟨b, h5, h6, h7, h8⟩
            · exact .inl h9
            · have hb3 : b < w3.heap.size := by
                rcases Nat.lt_or_ge b w3.heap.size with h10 | h10
                · exact h10
                · exfalso
                  have h11 : b = w3.heap.size := by rw [World.size_alloc] at h7; omega
                  subst h11
                  have h12 := h8
                  unfold Blk at h12
                  rw [heap_new' _ _ _ rfl] at h12
                  injection h12 with h12
                  injection h12 with _ h13
                  revert h13
                  decide
              obtain ⟨k1, k2⟩ := hk9 b h6 hb3
              have h10 : Blk w' b 3 (tt.map (Value.int .i64 ·)).toArray := k1.trans h8
              exact .inr ⟨b, h5, k2, h10.lt, h10⟩
        · exact (FutS.grownS (S := fun k => decide (wb.heap.size ≤ k)) h2 (fun k hk => decide_eq_true (HGO.out k hk).1)).fut ((HFB.out.trans HF30.out).alloc _) (fun k hk => of_decide_eq_true hk)
    · have hjn : j = n := by omega
      obtain rfl := hjn
      have hz := HZ.out.fut HFB.out
      have g4 := hz.cell (i := 0) rfl
      have g5 := hz.cell (i := 1) rfl
      have g2 := hz.fz 0
      have g3 := hz.fz 1
      have q1 := (HBN.out.fut HFB.out).cell (i := 1) rfl
      have HZ3 := Lib.hid hz
      clear hz
      go_wp2_with fail
      refine bodyPost_ret (results_cell_row rgr_res _ _ (w.heap.size + 1) _ _ _ _ rfl ((HZ3.out.set 0 (.int .i64 N)).set 1 (.slice XA j Xc)) Try.underlying54 rfl (by kernel_rfl)) rfl ?_
      have hkeep : ∀ b, b ≠ w.heap.size + 1 → ((wx.setCell ⟨w.heap.size + 1, 0, none⟩ (.int .i64 N)).setCell ⟨w.heap.size + 1, 1, none⟩ (.slice XA j Xc)).heap[b]? = wx.heap[b]? := fun b h => (blk_setCell_other _ _ _ _ h).trans (blk_setCell_other _ _ _ _ h)
      have hsz := HSZ.out
      have ho := own_keep (w' := (wx.setCell ⟨w.heap.size + 1, 0, none⟩ (.int .i64 N)).setCell ⟨w.heap.size + 1, 1, none⟩ (.slice XA j Xc)) HO.out (fun k hk => hkeep k (by
        have := (World.ownsRow.lt HO.out k hk).1
        omega))
      have hgr := HGR.out
      rw [List.take_of_length_le (by rw [HL.out]; omega)] at hgr
      refine ⟨⟨XA, Xc, es, rfl, hgr, RdS.of_own (enc := encE) encE_len (by decide) ho, fun e he => ⟨((HTL.out e he).keep (ok' := fun _ => True) (fun b hb hlt => ⟨hkeep b (by omega), trivial⟩)).rd, ?_⟩⟩, (HFW.out.setCell (p := ⟨w.heap.size + 1, 0, none⟩) (by simp only; omega) _).setCell (p := ⟨w.heap.size + 1, 1, none⟩) (by simp only; omega) _⟩
      obtain ⟨r, _, _, e2, _⟩ := hgr.at he
      have := tailsN_len r
      rw [e2]
      unfold maxLen
      omega
end Go.Proofs.Ytleapckcihcpaaa
