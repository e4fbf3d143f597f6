/-
  Opening parses; the law of the lower bound, walked.
-/
import Derived.Test.YtleapckcihcpaaaN14
import Derived.Test.YtleapckcihcpaaaN21
namespace Go.Proofs.Ytleapckcihcpaaa
section
open Go.ChangeShapes Go.WideShapes Go.ChangeAt Go.RowKit Go.Joins Go.Deep PK
section
variable {H : Type} {enc : TypeId × Value → H} {P : Program} {w : World} {base : Nat} {held : Bool} {α : Type}
/-- as open_sl; each element is read with less fuel -/
theorem open_slF {t e : TypeId} {sz : Nat} (f : α → List Value) (Q : α → Prop) (hz : 0 < sz) (ht : P.underlying t = some (.slice e)) (hc : P.cellsOf e = sz) {fuel : Nat}
    (hp : ∀ n cs y, n < fuel → DataW.trod enc P w base (fun _ => true) held n e cs = some y → ∃ a, cs = f a ∧ Q a)
    {cs : List Value} {x : DataW H × List MemPlace} (h : DataW.trod enc P w base (fun _ => true) held fuel t cs = some x) :
    ∃ (A : Option Addr) (n c : Nat) (l : List α), cs = [.slice A n c] ∧ l.length = n ∧ n ≤ c ∧ c ≤ maxLen ∧ RdS w A sz f l ∧ ∀ a ∈ l, Q a := by
  rcases DataW.trod_slice ht h with ⟨rfl, rfl⟩ | ⟨a, len, cap, elems, rest, n, rfl, rfl, _, hb, hl, hm, hlen, hel, _, _⟩
  · exact ⟨none, 0, 0, [], rfl, rfl, Nat.le_refl _, Nat.zero_le _, RdS.nil, fun _ h => by simp at h⟩
  have each : ∀ i, i < len → ∃ u : α, Q u ∧ ∀ j v, (f u)[j]? = some v → j < sz → w.cell? (a.add (i * sz + j)) = some v := by
    intro i hi
    have key := hel i hi
    rw [List.getElem?_eq_getElem (by omega)] at key
    obtain ⟨cs', h1, h2⟩ := Option.bind_eq_some_iff.1 key
    obtain ⟨u, rfl, hQ⟩ := hp n _ _ (by omega) h2
    rw [hc] at h1
    obtain ⟨_, hlen, hcell⟩ := World.cells?_some h1
    refine ⟨u, hQ, fun j v hv hj => ?_⟩
    have := hcell j (by omega)
    rw [add_add] at this
    rw [this]
    have h3 := List.getElem?_eq_some_iff.1 hv
    obtain ⟨h4, h5⟩ := h3
    simp [hv]
  by_cases h0 : len = 0
  · subst h0
    exact ⟨some a, 0, cap, [], rfl, rfl, Nat.zero_le _, hm, RdS.nil, fun _ h => by simp at h⟩
  have hne : Nonempty α := let ⟨u, _⟩ := each 0 (by omega); ⟨u⟩
  have hi : Inhabited α := ⟨Classical.choice hne⟩
  obtain ⟨V, hV⟩ := choose_lt each
  have hsp : a = ⟨a.block, a.off, none⟩ := by
    have key := hel 0 (by omega)
    rw [List.getElem?_eq_getElem (by omega)] at key
    obtain ⟨cs', h1, h2⟩ := Option.bind_eq_some_iff.1 key
    rw [hc] at h1
    obtain ⟨_, hlen, hcell⟩ := World.cells?_some h1
    have := hcell 0 (by omega)
    rw [add_add] at this
    simp only [Nat.zero_mul, Nat.add_zero, Addr.add, if_true] at this
    rw [List.getElem?_eq_getElem (by omega)] at this
    exact spot_none this
  refine ⟨some a, len, cap, (List.range len).map V, rfl, by simp, hl, hm, ?_, ?_⟩
  · intro i u hu
    rw [List.getElem?_map] at hu
    obtain ⟨k, hk, rfl⟩ := Option.map_eq_some_iff.1 hu
    have hk2 := List.getElem?_eq_some_iff.1 hk
    obtain ⟨hk3, hk4⟩ := hk2
    simp at hk3 hk4
    subst hk4
    refine ⟨a.block, a.off, by rw [← hsp], fun j v hj hv => ?_⟩
    have := (hV i hk3).2 j v hv hj
    rw [hsp] at this
    rw [add_plain, ← Nat.add_assoc] at this; exact this
  · intro u hu
    simp at hu
    obtain ⟨i, hi, rfl⟩ := hu
    exact (hV i hi).1
end
end
section
open Go.ChangeShapes Go.WideShapes Go.ChangeAt Go.RowKit Go.Joins Go.Deep PK
variable {H : Type} {enc : TypeId × Value → H} {W : World} {base : Nat} {held : Bool}
set_option maxRecDepth 20000 in
theorem open_prs : ∀ (fuel : Nat) (cs : List Value) (y : DataW H × List MemPlace), DataW.trod enc Try.prog W base (fun _ => true) held fuel 33 cs = some y → ∃ d : DI, cs = encD d ∧ RdD W d := by
  intro fuel
  induction fuel using Nat.strongRecOn with
  | ind fuel ih =>
    intro cs y h
    obtain ⟨xs, n, rfl, _, hl, hxl, hf⟩ := DataW.trod_struct Try.underlying33 h
    rw [cellsP] at hl
    match xs, hxl, cs, hl with
    | [y0, y1], _, [v0, v1], _ =>
      have h0 := hf 0 _ rfl
      have h1 := hf 1 _ rfl
      replace h0 : DataW.trod enc Try.prog W base (fun _ => true) held n 3 [v0] = some y0 := h0
      replace h1 : DataW.trod enc Try.prog W base (fun _ => true) held n 31 [v1] = some y1 := h1
      obtain ⟨a, e0, _, _⟩ := DataW.trod_int Try.underlying3 h0
      obtain ⟨A, m, c, l, e1, hlm, hmc, hc, hR, hQ⟩ := open_slF encD (RdD W) (by decide) Try.underlying31 cellsP (fun k cs y hk hh => ih k (by omega) cs y hh) h1
      simp only [List.cons.injEq, and_true] at e0 e1
      subst e0 e1
      subst hlm
      exact ⟨.node a A c l, rfl, .mk hR (by omega) hQ⟩
set_option maxRecDepth 20000 in
theorem open_parse {v : Value} {d : DataW H} {p : List MemPlace} (hv1 : Value.okWide Try.prog W .any base 33 v) (h : DataW.Trod enc Try.prog W 0 (fun _ => true) true 33 v d p) :
    ∃ x : DI, v = dv x ∧ RdD W x := by
  obtain ⟨cs, rfl, _⟩ := okWide_struct Try.underlying33 hv1
  obtain ⟨fuel, hf⟩ := h
  obtain ⟨x, h1, h2⟩ := open_prs _ _ _ hf
  have h3 : cs.toList = encD x := h1
  obtain rfl : cs = (encD x).toArray := by rw [← h3, Array.toArray_toList]
  exact ⟨x, rfl, h2⟩
end
open Go.RowKit Go.Deep PK
attribute [local go_sem] Oper.lit Oper.litS fut_fut fut_drew World.cell?_alloc_some
attribute [local go_sem] fut_base_drew
set_option maxHeartbeats 6400000 in
theorem law_ilow (T N st : Int) (A : Option Addr) (n c : Nat) (rs : List NR) (B : Option Addr) (m d : Nat) (ins : List Int) (p : DI) (w : World) (hl : rs.length = n) (hn : n ≤ maxLen) (hR : RdN w A rs) (hil : ins.length = m) (hm : m ≤ maxLen) (hI : Rd1 w B (.int .i64 ·) ins) (hp : RdD w p) :
    Calls Try.prog 6 #[nmv T N st A n c, .slice B m d, dv p] w fun e w' => e = .returned (.bool true) ∧ Below w.heap.size w w' := by
  have HL := Lib.hid hl
  have HN := Lib.hid hn
  have HR := Lib.hid hR
  have HIL := Lib.hid hil
  have HM := Lib.hid hm
  have HI := Lib.hid hI
  have HPD := Lib.hid hp
  have HSM := Lib.hid (fun w' => smallN_any T N st A n c B m d w' hn hm)
  have HC1 := Lib.hid (fun w' (hf : Fut w w') => rnvalid_any T N st A n c rs w' hl hn (RdS.fut hR hf))
  have HC2 := Lib.hid (fun w' (hf : Fut w w') => rprices_any T N st A n c B m d ins w' hil hm (hI.fut hf))
  have HC3 := Lib.hid (fun w' (hf : Fut w w') => few_any p w' (hp.fut hf))
  have HV1 := Lib.hid (fun w' (hf : Fut w w') => values38_any T N st A n c rs B m d ins w' hl hn (RdS.fut hR hf) hil hm (hI.fut hf))
  have HLF := Lib.hid (leftF_size (toDT p) 0 201)
  clear hl hn hR hil hm hI hp
  obtain ⟨pe, pA, pc, pk⟩ := p
  simp only [dv, DI.e, DI.A, DI.c, DI.k] at HC3 ⊢
  obtain ⟨pn, hpn⟩ : ∃ pn, pk.length = pn := ⟨_, rfl⟩
  rw [hpn] at HC3 ⊢
  have HPN := Lib.hid hpn
  clear hpn
  obtain ⟨wb, hwb⟩ : ∃ wb, wb = (w.alloc (.cells #[.int .i64 T, .int .i64 N, .int .i64 st, .slice A n c] 24)).alloc (.cells #[.int .i64 pe, .slice pA pn pc] 33) := ⟨_, rfl⟩
  have HF := Lib.hid (show Fut w wb from by rw [hwb]; exact ((Fut.refl w).alloc _).alloc _)
  have HB := Lib.hid (show Blk wb w.heap.size 24 #[.int .i64 T, .int .i64 N, .int .i64 st, .slice A n c] from by rw [hwb]; (repeat (first | exact heap_new' _ _ _ (by first | rfl | (simp only [World.size_alloc])) | refine (blk_alloc_lt _ _ _ (by first | omega | (simp only [World.size_alloc]; omega))).trans ?_)))
  have HD := Lib.hid (show Blk wb (w.heap.size + 1) 33 #[.int .i64 pe, .slice pA pn pc] from by rw [hwb]; (repeat (first | exact heap_new' _ _ _ (by first | rfl | (simp only [World.size_alloc])) | refine (blk_alloc_lt _ _ _ (by first | omega | (simp only [World.size_alloc]; omega))).trans ?_)))
  go_enter Try.func6, Try.ntmps6
  go_wp2_with fail
  rw [← hwb]
  clear hwb
  refine (HSM.out _).mono ?_
  rintro r w1 ⟨rfl, hb⟩
  have HF1 := Lib.hid (show Fut wb w1 from hb)
  clear hb
  obtain ⟨sm, hsm⟩ : ∃ sm, smallN N n m = sm := ⟨_, rfl⟩
  have HS := Lib.hid hsm
  rw [hsm]
  clear hsm
  cases sm with
  | false =>
    go_wp2_with fail
    refine (awake_any _).mono ?_
    rintro r w9 ⟨rfl, hb⟩
    have f9 : Fut w1 w9 := hb
    clear hb
    go_wp2_with fail
    go_ret
    exact ⟨rfl, HF.out.trans (HF1.out.trans f9)⟩
  | true =>
    have q0 := (HB.out.fut HF1.out).cell (i := 0) rfl
    have q1 := (HB.out.fut HF1.out).cell (i := 1) rfl
    have q2 := (HB.out.fut HF1.out).cell (i := 2) rfl
    have q3 := (HB.out.fut HF1.out).cell (i := 3) rfl
    go_wp2_with fail
    clear q0 q1 q2 q3
    refine (HC1.out _ (HF.out.trans HF1.out)).mono ?_
    rintro r w2 ⟨rfl, hb⟩
    have HF2 := Lib.hid (HF1.out.trans (show Fut w1 w2 from hb))
    clear hb
    obtain ⟨v, hv9⟩ : ∃ v, validN T N st rs = v := ⟨_, rfl⟩
    have HVN := Lib.hid hv9
    rw [hv9]
    clear hv9
    cases v with
    | false =>
      go_wp2_with fail
      refine (awake_any _).mono ?_
      rintro r w9 ⟨rfl, hb⟩
      have f9 : Fut w2 w9 := hb
      clear hb
      go_wp2_with fail
      go_ret
      exact ⟨rfl, HF.out.trans (HF2.out.trans f9)⟩
    | true =>
      have q0 := (HB.out.fut HF2.out).cell (i := 0) rfl
      have q1 := (HB.out.fut HF2.out).cell (i := 1) rfl
      have q2 := (HB.out.fut HF2.out).cell (i := 2) rfl
      have q3 := (HB.out.fut HF2.out).cell (i := 3) rfl
      go_wp2_with fail
      clear q0 q1 q2 q3
      refine (HC2.out _ (HF.out.trans HF2.out)).mono ?_
      rintro r w3 ⟨rfl, hb⟩
      have HF3 := Lib.hid (HF2.out.trans (show Fut w2 w3 from hb))
      clear hb
      obtain ⟨v, hv9⟩ : ∃ v, pricesB T ins = v := ⟨_, rfl⟩
      have HPB := Lib.hid hv9
      rw [hv9]
      clear hv9
      cases v with
      | false =>
        go_wp2_with fail
        refine (awake_any _).mono ?_
        rintro r w9 ⟨rfl, hb⟩
        have f9 : Fut w3 w9 := hb
        clear hb
        go_wp2_with fail
        go_ret
        exact ⟨rfl, HF.out.trans (HF3.out.trans f9)⟩
      | true =>
        have p0 := (HD.out.fut HF3.out).cell (i := 0) rfl
        have p1 := (HD.out.fut HF3.out).cell (i := 1) rfl
        go_wp2_with fail
        clear p0 p1
        refine (HC3.out _ (HF.out.trans HF3.out)).mono ?_
        rintro r w4 ⟨rfl, hb⟩
        have HF4 := Lib.hid (HF3.out.trans (show Fut w3 w4 from hb))
        clear hb
        obtain ⟨v, hv9⟩ : ∃ v, decide (0 ≤ leftF (toDT (DI.node pe pA pc pk)) 0 201) = v := ⟨_, rfl⟩
        have HFEW := Lib.hid hv9
        rw [hv9]
        clear hv9
        cases v with
        | false =>
          go_wp2_with fail
          refine (awake_any _).mono ?_
          rintro r w9 ⟨rfl, hb⟩
          have f9 : Fut w4 w9 := hb
          clear hb
          go_wp2_with fail
          go_ret
          exact ⟨rfl, HF.out.trans (HF4.out.trans f9)⟩
        | true =>
          have p0 := (HD.out.fut HF4.out).cell (i := 0) rfl
          have p1 := (HD.out.fut HF4.out).cell (i := 1) rfl
          have q3 := (HB.out.fut HF4.out).cell (i := 3) rfl
          by_cases hin : 0 ≤ pe ∧ pe < (n : Int)
          · obtain ⟨q, rfl⟩ : ∃ q : Nat, pe = q := ⟨pe.toNat, by omega⟩
            have hq : q < n := by omega
            obtain ⟨x, hx⟩ := get_lt HL.out hq
            obtain ⟨b, o, rfl, hc⟩ := HR.out q x hx
            have c1 := HF4.out.cell (HF.out.cell (hc 1 _ (by decide) rfl))
            have hqn : ¬ ((q : Int) < 0) := by omega
            clear hin hc q3
            have q0 := (HB.out.fut HF4.out).cell (i := 0) rfl
            have q1 := (HB.out.fut HF4.out).cell (i := 1) rfl
            have q2 := (HB.out.fut HF4.out).cell (i := 2) rfl
            have q3 := (HB.out.fut HF4.out).cell (i := 3) rfl
            have HX := Lib.hid hx
            have HHD := Lib.hid ((okN_parts ((validN_parts HVN.out).2.2.2.2.2 x (List.mem_of_getElem? hx))).1)
            have HVPC := Lib.hid (fun w' (hf : Fut w w') => vpar_any T N st (some ⟨b, o, none⟩) n c rs ins HL.out HN.out HVN.out HPB.out (.node q pA pc pk) x.h w' (RdS.fut HR.out hf) (HPD.out.fut hf))
            have HCOC := Lib.hid (fun w' (hf : Fut w w') hvd hsd => cost_any T N st (some ⟨b, o, none⟩) n c rs B m d ins HL.out HIL.out HM.out HVN.out HPB.out (.node q pA pc pk) x.h w' hvd hsd (RdS.fut HR.out hf) (HI.out.fut hf) (HPD.out.fut hf))
            simp only [dv, DI.e, DI.A, DI.c, DI.k, HPN.out] at HVPC HCOC
            obtain ⟨xk, h, ra, rb, xp, ox⟩ := x
            simp only at c1 HHD HVPC HCOC
            clear hx
            have hhN : h < N := by
              have := (okN_parts ((validN_parts HVN.out).2.2.2.2.2 _ (List.mem_of_getElem? HX.out))).2.1
              exact this
            obtain ⟨M, rfl⟩ : ∃ M : Nat, N = M := ⟨N.toNat, by have := HHD.out; omega⟩
            obtain ⟨i, rfl⟩ : ∃ i : Nat, h = i := ⟨h.toNat, by have := HHD.out; omega⟩
            have hiM : i < M := by omega
            clear hhN HHD
            go_wp2_with fail
            clear q0 q1 q2 q3 p0 p1 c1
            refine (HVPC.out _ (HF.out.trans HF4.out)).mono ?_
            rintro r w5 ⟨rfl, hb⟩
            have HF5 := Lib.hid (HF4.out.trans (show Fut w4 w5 from hb))
            clear hb
            obtain ⟨v, hv9⟩ : ∃ v, validD (grE ins rs) (toDT (DI.node q pA pc pk)) i = v := ⟨_, rfl⟩
            have HVD := Lib.hid hv9
            rw [hv9]
            clear hv9
            cases v with
            | false =>
              go_wp2_with fail
              refine (awake_any _).mono ?_
              rintro r w9 ⟨rfl, hb⟩
              have f9 : Fut w5 w9 := hb
              clear hb
              go_wp2_with fail
              go_ret
              exact ⟨rfl, HF.out.trans (HF5.out.trans f9)⟩
            | true =>
              have HSD := Lib.hid (show sizD (toDT (DI.node q pA pc pk)) ≤ 201 from by
                have h1 := of_decide_eq_true HFEW.out
                have := HLF.out h1
                omega)
              have HCOD := Lib.hid (fun w' hf => HCOC.out w' hf HVD.out (by have := HSD.out; omega))
              have HSC := Lib.hid (sumC_bd (B := 61000) (by decide) (grE_cost HVN.out HPB.out) (toDT (DI.node q pA pc pk)))
              have HLE := Lib.hid (show ∀ V, Sol (grE ins rs) V → ltV ⟨sumC (grE ins rs) (toDT (DI.node q pA pc pk)), sizD (toDT (DI.node q pA pc pk))⟩ (V i) = false from fun V hV => by
                have h1 := le_val (grE_ok HVN.out HPB.out) hV HVD.out
                rw [val_sum (grE_ok HVN.out HPB.out) HVD.out (by have := HSD.out; have := HSC.out; unfold INF; omega) (by have := HSD.out; unfold INF; omega)] at h1
                exact not_lt_of_leV h1)
              generalize (⟨sumC (grE ins rs) (toDT (DI.node q pA pc pk)), sizD (toDT (DI.node q pA pc pk))⟩ : VV) = cst at HLE HCOD
              clear HCOC HVPC HLF
              have q0 := (HB.out.fut HF5.out).cell (i := 0) rfl
              have q1 := (HB.out.fut HF5.out).cell (i := 1) rfl
              have q2 := (HB.out.fut HF5.out).cell (i := 2) rfl
              have q3 := (HB.out.fut HF5.out).cell (i := 3) rfl
              go_wp2_with fail
              clear q0 q1 q2 q3
              refine (HV1.out _ (HF.out.trans HF5.out)).mono ?_
              rintro r w6 ⟨hval, hb⟩
              have HF6 := Lib.hid (HF5.out.trans (show Fut w5 w6 from hb))
              rcases hval with ⟨h9, _⟩ | ⟨_, M', V, vb, hM', rfl, hsol, hrow, _⟩
              · rw [HVN.out, HPB.out] at h9; cases h9
              obtain rfl : M = M' := by omega
              have HLT := Lib.hid (HLE.out V hsol)
              have c0 := cell_fut (hrow.c hiM)
              have c1 := cell_fut (hrow.s hiM)
              have p0 := cell_fut ((HD.out.fut HF6.out).cell (i := 0) rfl)
              have p1 := cell_fut ((HD.out.fut HF6.out).cell (i := 1) rfl)
              have HRL := Lib.hid (fun w' => rless_any cst (V i) w')
              rw [HLT.out] at HRL
              clear hb hsol hM' HV1 HLE hrow
              have q0 := cell_fut ((HB.out.fut HF6.out).cell (i := 0) rfl)
              have q1 := cell_fut ((HB.out.fut HF6.out).cell (i := 1) rfl)
              have q2 := cell_fut ((HB.out.fut HF6.out).cell (i := 2) rfl)
              have q3 := cell_fut ((HB.out.fut HF6.out).cell (i := 3) rfl)
              go_wp2_with fail
              refine wp_region_M o_emendatelaw38_InsertionLowerBound_7 (by kernel_rfl) (by kernel_rfl) (by intro c a d v w h; cases d <;> exact h) ?_; unfold o_emendatelaw38_InsertionLowerBound_7
              refine wpF_o rfl rfl (fun K hK => ?_)
              go_simp
              go_at_call 10
              refine (awake_any _).mono ?_
              rintro r w7 ⟨rfl, hb⟩
              have f7 : Fut w6 w7 := (Fut.refl w6).drew.trans hb
              refine hK _ _ (.inr hb) ?_
              clear hK K hb
              iterate 15 (refine wpF_h rfl rfl (fun K hK => ?_); go_simp; refine hK _ _ ?_; clear hK K)
              refine wpF_o rfl rfl (fun K hK => ?_)
              go_simp
              go_at_call 19
              refine (HCOD.out _ ((HF.out.trans HF6.out).trans f7)).mono ?_
              rintro r w8 ⟨rfl, hb⟩
              have f8 : Fut w6 w8 := f7.trans hb
              refine hK _ _ (.inr hb) ?_
              clear hK K hb
              refine wpF_o rfl rfl (fun K hK => ?_)
              go_simp
              go_at_call 23
              refine (HRL.out _).mono ?_
              rintro r w9 ⟨rfl, hb⟩
              have f9 : Fut w6 w9 := f8.trans hb
              refine hK _ _ (.inr hb) ?_
              clear hK K hb
              iterate 3 (refine wpF_h rfl rfl (fun K hK => ?_); go_simp; refine hK _ _ ?_; clear hK K)
              refine wpF_nil ?_
              go_wp2_with fail
              go_ret
              exact ⟨rfl, HF.out.trans (HF6.out.trans f9)⟩
          · have hg : pe < 0 ∨ (¬ pe < 0 ∧ (n : Int) ≤ pe) := by omega
            clear hin
            rcases hg with h1 | ⟨h1, h2⟩
            all_goals
              go_wp2_with fail
              refine (awake_any _).mono ?_
              rintro r w9 ⟨rfl, hb⟩
              have f9 : Fut w4 w9 := hb
              clear hb
              go_wp2_with fail
              go_ret
              exact ⟨rfl, HF.out.trans (HF4.out.trans f9)⟩
end Go.Proofs.Ytleapckcihcpaaa
