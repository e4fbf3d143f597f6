/-
  Opening pairs of bytes; the law of monotony, walked.
-/
import Derived.Test.YtleapckcihcpaaaN14
import Derived.Test.YtleapckcihcpaaaN12
namespace Go.Proofs.Ytleapckcihcpaaa
open Go.RowKit Go.Deep PK
attribute [local go_sem] Oper.lit Oper.litS fut_fut fut_drew World.cell?_alloc_some
attribute [local go_sem] fut_base_drew
set_option maxRecDepth 4000 in
/-- numbers appended to a slice of the call's own -/
theorem wpo_append_ints {w : World} {o : Oper} {a : Act} {K : Act → World → Prop} {Q : Exit → Act → World → Prop} (s x : Operand) (ho : o.op = .call { callee := .builtin .append, args := #[s, x], argTypes := #[25, 25] })
    (base : Nat) (v : Value) (k : Nat) (xs : List Int) (hs : a.eval s = v) (hown : w.ownsRow base 3 1 v k (xs.map (Value.int .i64 ·))) (A : Option Addr) (n c : Nat) (l : List Int) (hx : a.eval x = .slice A n c) (hl : l.length = n) (hn : n ≤ 1000) (hkn : k ≤ 100000) (hnl : A = none → n = 0 ∧ c = 0) (hR : Rd1 w A (.int .i64 ·) l) (hb : base ≤ w.heap.size)
    (h : ∀ v' w', w'.ownsRow base 3 1 v' (k + n) ((xs ++ l).map (Value.int .i64 ·)) → w.grownBy w' v.ownBlock → K (a.put o.dst v') w') : o.wp Try.prog a w K Q := by
  obtain ⟨ti, ki, kz0, kz1, kz2⟩ := info_parts info_int
  cases A with
  | none =>
    obtain ⟨rfl, rfl⟩ := hnl rfl
    have : l = [] := List.length_eq_zero_iff.1 hl
    subst this
    have hrun := run_append_owned_none (P := Try.prog) (w := w) base 25 o.type 3 ti 1 Try.underlying25 ki v k _ hown
    unfold Oper.wp
    simp [execOp, ho, resolve, invoke, builtin, hs, hx, hrun, Result.andThen]
    exact h v w (by simpa using hown) ⟨rfl, rfl, rfl, Nat.le_refl _, fun _ _ _ => rfl⟩
  | some ad =>
    refine wp_append_own _ s x 25 ho base 3 ti (.int .i64 0) 1 8 Try.underlying25 ki kz0 kz1 kz2 rfl (by decide) v k _ hs hown ad n c (l.map (.int .i64 ·)) hx (by rw [List.length_map, hl, Nat.mul_one]) ?_ ?_ (by unfold maxLen; omega) (by omega) hb ?_
    · intro j u hu
      rw [List.getElem?_map] at hu
      obtain ⟨y, hy, rfl⟩ := Option.map_eq_some_iff.1 hu
      obtain ⟨b, o, e, hc⟩ := hR j y hy
      injection e with e
      subst e
      have e2 : (⟨b, o, none⟩ : Addr).add j = ⟨b, o + j, none⟩ := by unfold Addr.add; split <;> simp_all
      rw [e2]; exact hc
    · intro u hu
      obtain ⟨y, _, rfl⟩ := List.mem_map.1 hu
      rfl
    · intro v' w' h1 h2 _
      refine h v' w' ?_ h2
      rw [List.map_append]
      exact h1
theorem wpList_append_ints {ops : Array Oper} {rest : List Oper} {w : World} {o : Oper} {a : Act} {Q : Exit → Act → World → Prop} (hgd : o.guard = none) (s x : Operand) (ho : o.op = .call { callee := .builtin .append, args := #[s, x], argTypes := #[25, 25] })
    (base : Nat) (v : Value) (k : Nat) (xs : List Int) (hs : a.eval s = v) (hown : w.ownsRow base 3 1 v k (xs.map (Value.int .i64 ·))) (A : Option Addr) (n c : Nat) (l : List Int) (hx : a.eval x = .slice A n c) (hl : l.length = n) (hn : n ≤ 1000) (hkn : k ≤ 100000) (hnl : A = none → n = 0 ∧ c = 0) (hR : Rd1 w A (.int .i64 ·) l) (hb : base ≤ w.heap.size)
    (h : ∀ v' w', w'.ownsRow base 3 1 v' (k + n) ((xs ++ l).map (Value.int .i64 ·)) → w.grownBy w' v.ownBlock → wpList Try.prog ops Q rest (a.put o.dst v') w') : wpList Try.prog ops Q (o :: rest) a w :=
  wpList_plain hgd fun _ hK => wpo_append_ints s x ho base v k xs hs hown A n c l hx hl hn hkn hnl hR hb fun v' w' h2 h3 => hK _ _ (h v' w' h2 h3)
theorem made_empty (w : World) : (w.alloc (.cells #[] 3)).ownsRow w.heap.size 3 1 (.slice (some ⟨w.heap.size, 0, none⟩) 0 0) 0 ([].map (Value.int .i64 ·)) := World.ownsRow_made w #[] 0 (Nat.le_refl _) (Nat.zero_le _) (by simp)
theorem own_blk {w : World} {B n : Nat} {v : Value} {l : List Int} (h : w.ownsRow B 3 1 v n (l.map (Value.int .i64 ·))) (hn : 0 < n) : ∃ g cap cur, v = .slice (some ⟨g, 0, none⟩) n cap ∧ B ≤ g ∧ Blk w g 3 cur ∧ n ≤ cap ∧ cap ≤ maxLen ∧ l.length = n ∧ ∀ (i : Nat) x, l[i]? = some x → cur[i]? = some (Value.int .i64 x) := by
  obtain ⟨hl, ⟨_, h0⟩ | ⟨g, cap, cur, hv, hb, hg, hc, hm, _, hx⟩⟩ := h
  · omega
  · refine ⟨g, cap, cur, hv, hb, hg, hc, hm, by simpa using hl, fun i x hi => ?_⟩
    have h1 : (l.map (Value.int .i64 ·))[i]? = some (Value.int .i64 x) := by rw [List.getElem?_map, hi]; rfl
    rw [← hx, List.getElem?_take] at h1
    split at h1
    · rw [← Array.getElem?_toList]; exact h1
    · cases h1
theorem rd_blk {w : World} {g : Nat} {t : TypeId} {cur : Array Value} {l : List Int} (h : Blk w g t cur) (hl : ∀ (i : Nat) x, l[i]? = some x → cur[i]? = some (Value.int .i64 x)) : Rd1 w (some ⟨g, 0, none⟩) (.int .i64 ·) l := by
  intro i x hi
  exact ⟨g, 0, rfl, by rw [Nat.zero_add]; exact h.cell (hl i x hi)⟩
theorem set_cur {cur : Array Value} {l : List Int} {k : Nat} {z : Int} (hl : ∀ (i : Nat) x, l[i]? = some x → cur[i]? = some (Value.int .i64 x)) : ∀ (i : Nat) x, (l.set k z)[i]? = some x → (cur.setIfInBounds k (Value.int .i64 z))[i]? = some (Value.int .i64 x) := by
  intro i x hi
  rw [List.getElem?_set] at hi
  rw [Array.getElem?_setIfInBounds]
  by_cases e : k = i
  · rw [if_pos e] at hi ⊢
    subst e
    split at hi
    · rename_i h9
      have h8 := hl k _ (List.getElem?_eq_getElem h9)
      have h7 := (Array.getElem?_eq_some_iff.1 h8).1
      rw [if_pos h7]
      injection hi with hi
      rw [hi]
    · cases hi
  · rw [if_neg e] at hi ⊢
    exact hl i x hi
theorem raise {ins : List Int} {k : Nat} {x z T : Int} (hx : ins[k]? = some x) (hz : x ≤ z) (h60 : z ≤ 60000) (hp : pricesB T ins = true) : pricesB T (ins.set k z) = true ∧ ∀ r, costN ins r ≤ costN (ins.set k z) r := by
  obtain ⟨h1, h2⟩ := prices_parts hp
  have hx1 := (h2 x (List.mem_of_getElem? hx)).1
  constructor
  · simp only [pricesB, okP, Bool.and_eq_true, decide_eq_true_eq, List.all_eq_true]
    refine ⟨by rw [List.length_set]; exact h1, fun p hp => ?_⟩
    rcases List.mem_or_eq_of_mem_set hp with h | h
    · exact h2 p h
    · subst h; exact ⟨by omega, h60⟩
  · intro r
    unfold costN
    split
    · rw [List.getElem?_set]
      by_cases e : k = r.a.toNat
      · have := (List.getElem?_eq_some_iff.1 hx).1
        rw [if_pos e, ← e, if_pos this, hx]
        simp only [Option.getD_some]
        omega
      · rw [if_neg e]; omega
    · omega
theorem raise_le {ins : List Int} {k : Nat} {x z T N st : Int} {rs : List NR} {V W : Nat → VV} (hv : validN T N st rs = true) (hx : ins[k]? = some x) (hz : x ≤ z) (h60 : z ≤ 60000) (hp : pricesB T ins = true) (hV : Sol (grE ins rs) V) (hW : Sol (grE (ins.set k z) rs) W) (i : Nat) : ltV (W i) (V i) = false := by
  obtain ⟨h1, h2⟩ := raise hx hz h60 hp
  refine not_lt_of_leV (sol_mono (grE_ok hv hp) (grE_ok hv h1) hV hW (fun f hf => ?_) i)
  obtain ⟨r, hr, rfl⟩ := List.mem_map.1 hf
  exact ⟨gE ins r, List.mem_map.2 ⟨r, hr, rfl⟩, rfl, rfl, h2 r⟩
set_option maxRecDepth 4000 in
set_option maxHeartbeats 6400000 in
theorem law_imono (T N st : Int) (A : Option Addr) (n c : Nat) (rs : List NR) (B : Option Addr) (m d : Nat) (ins : List Int) (a0 a1 : Int) (w : World) (hl : rs.length = n) (hn : n ≤ maxLen) (hR : RdN w A rs) (hil : ins.length = m) (hm : m ≤ maxLen) (hI : Rd1 w B (.int .i64 ·) ins) (wa : 0 ≤ a0 ∧ a0 ≤ 255) (wb : 0 ≤ a1 ∧ a1 ≤ 255) :
    Calls Try.prog 7 #[nmv T N st A n c, .slice B m d, .agg #[.int .u8 a0, .int .u8 a1]] w fun e w' => e = .returned (.bool true) ∧ Below w.heap.size w w' := by
  have HL := Lib.hid hl
  have HN := Lib.hid hn
  have HR := Lib.hid hR
  have HIL := Lib.hid hil
  have HM := Lib.hid hm
  have HI := Lib.hid hI
  have HSM := Lib.hid (fun w' => smallN_any T N st A n c B m d w' hn hm)
  have HC1 := Lib.hid (fun w' (hf : Fut w w') => rnvalid_any T N st A n c rs w' hl hn (RdS.fut hR hf))
  have HC2 := Lib.hid (fun w' (hf : Fut w w') => rprices_any T N st A n c B m d ins w' hil hm (hI.fut hf))
  have HV1 := Lib.hid (fun w' (hf : Fut w w') => values38_any T N st A n c rs B m d ins w' hl hn (RdS.fut hR hf) hil hm (hI.fut hf))
  have hm63 : m ≤ 9223372036854775807 := hm
  clear hl hn hR hil hm hI
  obtain ⟨wx, hwx⟩ : ∃ wx, wx = (w.alloc (.cells #[.int .i64 T, .int .i64 N, .int .i64 st, .slice A n c] 24)).alloc (.cells #[.int .u8 a0, .int .u8 a1] 50) := ⟨_, rfl⟩
  have HF := Lib.hid (show Fut w wx from by rw [hwx]; exact ((Fut.refl w).alloc _).alloc _)
  have HB := Lib.hid (show Blk wx w.heap.size 24 #[.int .i64 T, .int .i64 N, .int .i64 st, .slice A n c] from by rw [hwx]; (repeat (first | exact heap_new' _ _ _ (by first | rfl | (simp only [World.size_alloc])) | refine (blk_alloc_lt _ _ _ (by first | omega | (simp only [World.size_alloc]; omega))).trans ?_)))
  have HD := Lib.hid (show Blk wx (w.heap.size + 1) 50 #[.int .u8 a0, .int .u8 a1] from by rw [hwx]; (repeat (first | exact heap_new' _ _ _ (by first | rfl | (simp only [World.size_alloc])) | refine (blk_alloc_lt _ _ _ (by first | omega | (simp only [World.size_alloc]; omega))).trans ?_)))
  go_enter Try.func7, Try.ntmps7
  go_wp2_with fail
  rw [← hwx]
  clear hwx
  refine (HSM.out _).mono ?_
  rintro r w1 ⟨rfl, hb⟩
  have HF1 := Lib.hid (show Fut wx w1 from hb)
  clear hb
  obtain ⟨sm, hsm⟩ : ∃ sm, smallN N n m = sm := ⟨_, rfl⟩
  have HS := Lib.hid hsm
  rw [hsm]
  clear hsm
  cases sm with
  | false =>
    go_wp2_with fail
    refine (awake_any _).mono ?_
    rintro r w9 ⟨rfl, hb⟩
    have f9 : Fut w1 w9 := hb
    clear hb
    go_wp2_with fail
    go_ret
    exact ⟨rfl, HF.out.trans (HF1.out.trans f9)⟩
  | true =>
    have q0 := (HB.out.fut HF1.out).cell (i := 0) rfl
    have q1 := (HB.out.fut HF1.out).cell (i := 1) rfl
    have q2 := (HB.out.fut HF1.out).cell (i := 2) rfl
    have q3 := (HB.out.fut HF1.out).cell (i := 3) rfl
    go_wp2_with fail
    clear q0 q1 q2 q3
    refine (HC1.out _ (HF.out.trans HF1.out)).mono ?_
    rintro r w2 ⟨rfl, hb⟩
    have HF2 := Lib.hid (HF1.out.trans (show Fut w1 w2 from hb))
    clear hb
    obtain ⟨v, hv9⟩ : ∃ v, validN T N st rs = v := ⟨_, rfl⟩
    have HVN := Lib.hid hv9
    rw [hv9]
    clear hv9
    cases v with
    | false =>
      go_wp2_with fail
      refine (awake_any _).mono ?_
      rintro r w9 ⟨rfl, hb⟩
      have f9 : Fut w2 w9 := hb
      clear hb
      go_wp2_with fail
      go_ret
      exact ⟨rfl, HF.out.trans (HF2.out.trans f9)⟩
    | true =>
      have q0 := (HB.out.fut HF2.out).cell (i := 0) rfl
      have q1 := (HB.out.fut HF2.out).cell (i := 1) rfl
      have q2 := (HB.out.fut HF2.out).cell (i := 2) rfl
      have q3 := (HB.out.fut HF2.out).cell (i := 3) rfl
      go_wp2_with fail
      clear q0 q1 q2 q3
      refine (HC2.out _ (HF.out.trans HF2.out)).mono ?_
      rintro r w3 ⟨rfl, hb⟩
      have HF3 := Lib.hid (HF2.out.trans (show Fut w2 w3 from hb))
      clear hb
      obtain ⟨v, hv9⟩ : ∃ v, pricesB T ins = v := ⟨_, rfl⟩
      have HPB := Lib.hid hv9
      rw [hv9]
      clear hv9
      cases v with
      | false =>
        go_wp2_with fail
        refine (awake_any _).mono ?_
        rintro r w9 ⟨rfl, hb⟩
        have f9 : Fut w3 w9 := hb
        clear hb
        go_wp2_with fail
        go_ret
        exact ⟨rfl, HF.out.trans (HF3.out.trans f9)⟩
      | true =>
        by_cases hm0 : m = 0
        · subst hm0
          go_wp2_with fail
          refine (awake_any _).mono ?_
          rintro r w9 ⟨rfl, hb⟩
          have f9 : Fut w3 w9 := hb
          clear hb
          go_wp2_with fail
          go_ret
          exact ⟨rfl, HF.out.trans (HF3.out.trans f9)⟩
        · have hmz : ¬ (m : Int) = 0 := by omega
          obtain ⟨x1, x2, x3⟩ := cmpF_no hmz
          have hk0 : 0 ≤ a0 % (m : Int) ∧ a0 % (m : Int) < m := ⟨Int.emod_nonneg _ hmz, Int.emod_lt_of_pos _ (by omega)⟩
          have p0 := (HD.out.fut HF3.out).cell (i := 0) rfl
          have HPP := Lib.hid (prices_parts HPB.out)
          have hm120 : m ≤ 120 := by
            have h1 := HPP.out.1
            have h2 := (validN_parts HVN.out).2.1
            rw [HIL.out] at h1; omega
          obtain ⟨bb, bo, rfl⟩ : ∃ bb bo, B = some ⟨bb, bo, none⟩ := by
            obtain ⟨y, hy⟩ := get_lt HIL.out (show 0 < m by omega)
            obtain ⟨b1, o1, h1, _⟩ := HI.out 0 y hy
            exact ⟨b1, o1, h1⟩
          have HFA := Lib.hid (HF3.out.trans (show Fut w3 (w3.alloc (.cells #[] 3)) from (Fut.refl w3).alloc _))
          have HME := Lib.hid (made_empty w3)
          go_wp2_with (at_builtin; refine wpList_append_ints rfl (.tmp 39) (.tmp 40) rfl w3.heap.size _ 0 [] rfl HME.out _ m d ins rfl HIL.out (by omega) (by omega) (fun e => by cases e) (HI.out.fut (HF.out.trans HFA.out)) (by rw [World.size_alloc]; omega) ?_; intro v' w' h1 h2)
          have f4 : Fut w3 w' := Below.grown ((Fut.refl w3).alloc _) h2 (by rw [World.size_alloc]; omega) (fun q hq => (World.ownsRow.lt HME.out q hq).1)
          have HF4 := Lib.hid (HF3.out.trans f4)
          rw [Nat.zero_add, List.nil_append] at h1
          obtain ⟨g, cap, cur, rfl, hg3, hblk, hcap, hcm, _, hcur⟩ := own_blk h1 (by omega)
          have HCU := Lib.hid hcur
          have HBK := Lib.hid hblk
          obtain ⟨k, hk⟩ : ∃ k : Nat, a0 % (m : Int) = k := ⟨(a0 % (m : Int)).toNat, by omega⟩
          rw [hk] at hk0 ⊢
          have hkm : k < m := by omega
          obtain ⟨ik, hik⟩ := get_lt HIL.out hkm
          have hib := HPP.out.2 ik (List.mem_of_getElem? hik)
          have HIK := Lib.hid hik
          have u0 := cell_fut (hblk.cell (hcur k _ hik))
          have p1 := cell_fut ((HD.out.fut HF4.out).cell (i := 1) rfl)
          have u1 : w'.cell? ⟨g, k, none⟩ = some (.int .i64 ik) := hblk.cell (hcur k _ hik)
          have f1 : w'.frozen? ⟨g, k, none⟩ = false := hblk.fz k
          have hw0 : IntKind.i64.wrap a1 = a1 := by simp [IntKind.wrap, IntKind.signed, IntKind.bits]; omega
          have hw1 : IntKind.i64.wrap (ik + a1) = ik + a1 := by simp [IntKind.wrap, IntKind.signed, IntKind.bits]; omega
          have hw2 : wrap64 (ik + a1) = ik + a1 := IntWalk.wrap64_in _ ⟨by omega, by omega⟩
          have HFS := Lib.hid (show Fut w3 w' from f4)
          have HSG := Lib.hid hg3
          clear h1 h2 f4 hblk hcur hik p0 x1 x2 x3 hk hk0 hg3
          generalize w' = w4 at *
          refine wp_region_M o_emendatelaw38_InsertionMonotone_5 (by kernel_rfl) (by kernel_rfl) (by intro c a d v w h; cases d <;> exact h) ?_; unfold o_emendatelaw38_InsertionMonotone_5
          iterate 12 (refine wpF_h rfl rfl (fun K hK => ?_); go_simp; refine hK _ _ ?_; clear hK K)
          refine wpF_o rfl rfl (fun K hK => ?_)
          go_simp
          refine hK _ _ (.inl (by kernel_rfl)) ?_
          clear hK K u0 u1 f1
          have hzl : ik ≤ (if 60000 < ik + a1 then (60000 : Int) else ik + a1) ∧ (if 60000 < ik + a1 then (60000 : Int) else ik + a1) ≤ 60000 := by split <;> omega
          generalize (if 60000 < ik + a1 then (60000 : Int) else ik + a1) = z at *
          have HB5 := Lib.hid (show Blk ((w4.setCell ⟨g, k, none⟩ (.int .i64 z)).drew) g 3 (cur.setIfInBounds k (.int .i64 z)) from (HBK.out.set k _).drew)
          have HF5 := Lib.hid (show Fut w3 ((w4.setCell ⟨g, k, none⟩ (.int .i64 z)).drew) from (HFS.out.setCell (p := ⟨g, k, none⟩) HSG.out _).drew)
          have HUR := Lib.hid (rd_blk HB5.out (set_cur (k := k) (z := z) HCU.out))
          have HFX := Lib.hid (HF3.out.trans HF5.out)
          generalize (w4.setCell ⟨g, k, none⟩ (.int .i64 z)).drew = w5 at *
          refine wpF_nil ?_
          clear HB5 HBK HCU HFS HSG HF4 p1 hw0 hw1 hw2
          have HUL := Lib.hid (show (ins.set k z).length = m from by rw [List.length_set]; exact HIL.out)
          have HV2 := Lib.hid (fun w' (hf : Fut w5 w') => values38_any T N st A n c rs (some ⟨g, 0, none⟩) m cap (ins.set k z) w' HL.out HN.out (RdS.fut HR.out ((HF.out.trans HFX.out).trans hf)) HUL.out HM.out (HUR.out.fut hf))
          have q0 := cell_fut ((HB.out.fut HFX.out).cell (i := 0) rfl)
          have q1 := cell_fut ((HB.out.fut HFX.out).cell (i := 1) rfl)
          have q2 := cell_fut ((HB.out.fut HFX.out).cell (i := 2) rfl)
          have q3 := cell_fut ((HB.out.fut HFX.out).cell (i := 3) rfl)
          go_wp2_with fail
          obtain ⟨hpz, _⟩ := raise HIK.out hzl.1 hzl.2 HPB.out
          have HPZ := Lib.hid hpz
          have HRA := Lib.hid (fun V W (hV : Sol (grE ins rs) V) (hW : Sol (grE (ins.set k z) rs) W) i => raise_le HVN.out HIK.out hzl.1 hzl.2 HPB.out hV hW i)
          clear hpz
          refine wp_region_M o_emendatelaw38_InsertionMonotone_6 (by kernel_rfl) (by kernel_rfl) (by intro c a d v w h; cases d <;> exact h) ?_; unfold o_emendatelaw38_InsertionMonotone_6
          iterate 4 (refine wpF_h rfl rfl (fun K hK => ?_); go_simp; refine hK _ _ ?_; clear hK K)
          refine wpF_o rfl rfl (fun K hK => ?_)
          go_simp
          go_at_call 12
          refine (HV1.out _ ((HF.out.trans HFX.out).trans ((Fut.refl w5).drew))).mono ?_
          rintro r w6 ⟨hval, hb⟩
          have f6 : Fut w5 w6 := (Fut.refl w5).drew.trans hb
          rcases hval with ⟨h9, _⟩ | ⟨_, M, V, vb, hM', rfl, hsol, hrow, _⟩
          · rw [HVN.out, HPB.out] at h9; cases h9
          subst hM'
          refine hK _ _ (.inr hb) ?_
          clear hK K hb
          refine wpF_o rfl rfl (fun K hK => ?_)
          go_simp
          go_at_call 12
          refine (HV2.out _ f6).mono ?_
          rintro r w7 ⟨hval, hb⟩
          have f67 : Fut w6 w7 := hb
          have f7 : Fut w5 w7 := f6.trans hb
          rcases hval with ⟨h9, _⟩ | ⟨_, M', W, ub, hM'', rfl, hsol', hrow', _⟩
          · rw [HVN.out, HPZ.out] at h9; cases h9
          obtain rfl : M = M' := by omega
          refine hK _ _ (.inr hb) ?_
          clear hK K hb
          iterate 2 (refine wpF_h rfl rfl (fun K hK => ?_); go_simp; refine hK _ _ ?_; clear hK K)
          refine wpF_nil ?_
          have HLT := Lib.hid (HRA.out V W hsol hsol')
          have HRV := Lib.hid (hrow.fut f67)
          have HRW := Lib.hid hrow'
          have HF7 := Lib.hid (HFX.out.trans f7)
          have hM1 : M ≤ 1000 := by have := (validN_parts HVN.out).2.2.2.1; omega
          clear hsol hsol' hrow hrow' f6 f67 f7 HRA HV1 HV2 q0 q1 q2 q3 hM''
          have q0 := (HB.out.fut HF7.out).cell (i := 0) rfl
          have q1 := (HB.out.fut HF7.out).cell (i := 1) rfl
          have q2 := (HB.out.fut HF7.out).cell (i := 2) rfl
          have q3 := (HB.out.fut HF7.out).cell (i := 3) rfl
          go_wp2_with fail
          go_loopw [11] (fun i wr => ∃ j : Nat, j ≤ M ∧ i = .int .i64 j ∧ Fut w7 wr) (fun i _ => M - (intOf i).toNat)
          case atStart => exact ⟨0, Nat.zero_le _, rfl, Fut.refl _⟩
          case round =>
            obtain ⟨j, hj, rfl, hF⟩ := hrel
            have HF8 := Lib.hid (HF7.out.trans hF)
            have HF78 := Lib.hid hF
            have y1 := (HB.out.fut HF8.out).cell (i := 1) rfl
            by_cases hlt : j < M
            · have v0 := cell_fut (hF.cell (HRV.out.c hlt))
              have v1 := cell_fut (hF.cell (HRV.out.s hlt))
              have u0 := cell_fut (hF.cell (HRW.out.c hlt))
              have u1 := cell_fut (hF.cell (HRW.out.s hlt))
              have HLE := Lib.hid (fun w' => rless_any (W j) (V j) w')
              rw [HLT.out j] at HLE
              clear q0 q1 q2 q3 hF
              go_wp2_with fail
              refine wp_region_M o_emendatelaw38_InsertionMonotone_12 (by kernel_rfl) (by kernel_rfl) (by intro c a d v w h; cases d <;> exact h) ?_; unfold o_emendatelaw38_InsertionMonotone_12
              iterate 8 (refine wpF_h rfl rfl (fun K hK => ?_); go_simp; refine hK _ _ ?_; clear hK K)
              refine wpF_o rfl rfl (fun K hK => ?_)
              go_simp
              go_at_call 23
              refine (HLE.out _).mono ?_
              rintro r w9 ⟨rfl, hb⟩
              have f9 : Fut wr w9 := (Fut.refl wr).drew.trans hb
              have HF9 := Lib.hid (HF78.out.trans f9)
              refine hK _ _ (.inr hb) ?_
              clear hK K hb
              refine wpF_nil ?_
              go_wp2_with fail
              exact ⟨⟨j + 1, by omega, by go_num, HF9.out⟩, by simp [intOf]; omega⟩
            · go_wp2_with fail
              refine (awake_any _).mono ?_
              rintro r w9 ⟨rfl, hb⟩
              have f9 : Fut wr w9 := hb
              clear hb
              go_wp2_with fail
              go_ret
              exact ⟨rfl, HF.out.trans (HF8.out.trans f9)⟩
end Go.Proofs.Ytleapckcihcpaaa
