/-
  The input of a token sequence, as the reference has it.
-/
import Derived.Test.YtagmpbgidooibaaC15
import Derived.Laws.AppendOwnNone
namespace Go.Proofs.Ytagmpbgidooibaa
open Go.RowKit Go.Deep
attribute [local go_sem] Oper.lit Oper.litS fut_fut fut_drew World.cell?_alloc_some
theorem rcolumn_any2 (kd : Int) (X : Option Addr) (xn xc : Nat) (xs : List (Int × Int)) (A1 : Option Addr) (n1 c1 : Nat) (A2 : Option Addr) (n2 c2 : Nat) (A3 : Option Addr) (n3 c3 : Nat) (s u : Int) (del : List Int) (rep : List RR) (w : World) (e2 : n2 = n1) (e3 : n3 = n1)
    (hk1 : -1 ≤ kd) (hk2 : kd < n1) (hn : n1 ≤ 1000) (h2 : del.length = n1) (h3 : rep.length = n1) (hrows : ∀ r ∈ rep, r.l.length = n1 ∧ ∀ x ∈ r.l, -1 ≤ x) (hx : ∀ p ∈ xs, 0 ≤ p.1 ∧ p.1 < n1 ∧ 1 ≤ p.2) (hxl : xs.length = xn) (hxn : xn ≤ maxLen) (hX : RdS w X 2 encP xs) (r2 : Rd1 w A2 (.int .i64 ·) del) (r3 : RdR w A3 rep) :
    Calls Try.prog 31 #[.int .i64 kd, .slice X xn xc, pv A1 n1 c1 A2 n2 c2 A3 n3 c3 s u] w fun e w' => (∃ A c, e = .returned (.agg #[.int .i64 kd, .slice A n1 c, .int .i64 (delF kd del u)]) ∧ Rd1 w' A (.int .i64 ·) ((List.range n1).map (rowF kd rep xs)) ∧ ∀ b o q, A = some ⟨b, o, q⟩ → w.heap.size ≤ b ∧ b < w'.heap.size) ∧ Below w.heap.size w w' := by
  subst e2 e3
  exact rcolumn_any kd X xn xc xs A1 _ c1 A2 c2 A3 c3 s u del rep w hk1 hk2 hn h2 h3 hrows hx hxl hxn hX r2 r3
theorem grown_refl (w : World) (r : Option Nat) : w.grownBy w r := ⟨rfl, rfl, rfl, Nat.le_refl _, fun _ _ _ => rfl⟩
theorem wp_append_ints {w : World} {o : Oper} {a : Act} {K : Act → World → Prop} {Q : Exit → Act → World → Prop} (s x : Operand) (ho : o.op = .call { callee := .builtin .append, args := #[s, x], argTypes := #[23, 23] })
    (base : Nat) (v : Value) (hs : a.eval s = v) (hown : w.ownsRow base 3 1 v 0 ([].map (Value.int .i64 ·))) (A : Option Addr) (n c : Nat) (l : List Int) (hx : a.eval x = .slice A n c) (hl : l.length = n) (hn : n ≤ 1000) (hnl : A = none → n = 0 ∧ c = 0) (hR : Rd1 w A (.int .i64 ·) l) (hb : base ≤ w.heap.size)
    (h : ∀ v' w', w'.ownsRow base 3 1 v' n (l.map (.int .i64 ·)) → w.grownBy w' v.ownBlock → K (a.put o.dst v') w') : o.wp Try.prog a w K Q := by
  obtain ⟨ti, ki, kz0, kz1, kz2⟩ := info_parts info_int
  cases A with
  | none =>
    obtain ⟨rfl, rfl⟩ := hnl rfl
    have : l = [] := List.length_eq_zero_iff.1 hl
    subst this
    have hrun := run_append_owned_none (P := Try.prog) (w := w) base 23 o.type 3 ti 1 Try.underlying23 ki v 0 _ hown
    unfold Oper.wp
    simp [execOp, ho, resolve, invoke, builtin, hs, hx, hrun, Result.andThen]
    exact h v w hown (grown_refl _ _)
  | some ad =>
    refine wp_append_own _ s x 23 ho base 3 ti (.int .i64 0) 1 8 Try.underlying23 ki kz0 kz1 kz2 rfl (by decide) v 0 _ hs hown ad n c (l.map (.int .i64 ·)) hx (by rw [List.length_map, hl, Nat.mul_one]) ?_ ?_ (by unfold maxLen; omega) (by omega) hb ?_
    · intro j u hu
      rw [List.getElem?_map] at hu
      obtain ⟨y, hy, rfl⟩ := Option.map_eq_some_iff.1 hu
      obtain ⟨b, o, e, hc⟩ := hR j y hy
      injection e with e
      subst e
      have e2 : (⟨b, o, none⟩ : Addr).add j = ⟨b, o + j, none⟩ := by unfold Addr.add; split <;> simp_all
      rw [e2]; exact hc
    · intro u hu
      obtain ⟨y, _, rfl⟩ := List.mem_map.1 hu
      rfl
    · intro v' w' h1 h2 _
      refine h v' w' ?_ h2
      simpa using h1
theorem rof_res : Try.f16.results = #[.cell 6 25, .tmp 7] := by kernel_rfl
/-- what the reference's Of returns -/
def OfR2 (w' : World) (e : Ending) (ins : List Int) (n1 : Nat) (s : Int) (n : Nat) (E : Int) (K : List Key) : Prop :=
  (E ≠ 0 → e = .returned (.tuple #[iv none 0 0 none 0 0 0, .int .i64 E])) ∧
  (E = 0 → ∃ A c B d cols, e = .returned (.tuple #[iv A n c B n1 d s, .int .i64 0]) ∧ cols.map key = K ∧ RdC w' A cols ∧ Rd1 w' B (.int .i64 ·) ins)
set_option maxHeartbeats 12800000 in
set_option maxRecDepth 4000 in
theorem rOf_any (Z : Option Addr) (n zc : Nat) (ks : List Int) (X : Option Addr) (m xc : Nat) (cs : List XX) (A1 : Option Addr) (n1 c1 : Nat) (A2 : Option Addr) (n2 c2 : Nat) (A3 : Option Addr) (n3 c3 : Nat) (s u : Int) (ins del : List Int) (rep : List RR) (w : World)
    (hkl : ks.length = n) (hn : n ≤ 100000) (hcl : cs.length = m) (hm : m ≤ maxLen) (h1 : ins.length = n1) (h2 : del.length = n2) (h3 : rep.length = n3) (b1 : n1 ≤ 1000) (b2 : n2 ≤ maxLen) (b3 : n3 ≤ maxLen) (hnl : A1 = none → n1 = 0 ∧ c1 = 0)
    (hZ : Rd1 w Z (.int .i64 ·) ks) (hX : RdX w X cs) (r1 : Rd1 w A1 (.int .i64 ·) ins) (r2 : Rd1 w A2 (.int .i64 ·) del) (r3 : RdR w A3 rep) :
    Calls Try.prog 16 #[.slice Z n zc, .slice X m xc, pv A1 n1 c1 A2 n2 c2 A3 n3 c3 s u] w fun e w' => OfR2 w' e ins n1 s n (ofE ks cs ins del rep s u) (ofK ks cs del rep u n1) ∧ Below w.heap.size w w' := by
  have k1 : n1 ≤ 9223372036854775807 := by omega
  have k2 : m ≤ 9223372036854775807 := hm
  have k3 : n ≤ 9223372036854775807 := by omega
  have HM := Lib.hid hm
  have HNL := Lib.hid hnl
  have HB2 := Lib.hid b2
  have HB3 := Lib.hid b3
  have HKL := Lib.hid hkl
  have HCL := Lib.hid hcl
  have L1 := Lib.hid h1
  have L2 := Lib.hid h2
  have L3 := Lib.hid h3
  have HZ0 := Lib.hid hZ
  have HX0 := Lib.hid hX
  have R1 := Lib.hid r1
  have R2 := Lib.hid r2
  have R3 := Lib.hid r3
  obtain ⟨ci, ca, cz0, cz1, cz2⟩ := info_parts info_col
  obtain ⟨ti, ki, kz0, kz1, kz2⟩ := info_parts info_int
  clear hm b2 b3 hkl hcl h1 h2 h3 hZ hX r1 r2 r3 hnl
  have HWW := Lib.hid (show Fut w ((w.alloc (.cells #[.slice A1 n1 c1, .slice A2 n2 c2, .slice A3 n3 c3, .int .i64 s, .int .i64 u] 34)).alloc (.cells #[.slice none 0 0, .slice none 0 0, .int .i64 0] 25)) from ((Fut.refl w).alloc _).alloc _)
  have HCI := Lib.hid (show CelI ((w.alloc (.cells #[.slice A1 n1 c1, .slice A2 n2 c2, .slice A3 n3 c3, .int .i64 s, .int .i64 u] 34)).alloc (.cells #[.slice none 0 0, .slice none 0 0, .int .i64 0] 25)) (w.heap.size + 1) (.slice none 0 0) (.slice none 0 0) (.int .i64 0) from by
    exact heap_new' _ _ _ (by simp))
  have p0 : ∀ dd os, (fut ((w.alloc (.cells #[.slice A1 n1 c1, .slice A2 n2 c2, .slice A3 n3 c3, .int .i64 s, .int .i64 u] 34)).alloc (.cells #[.slice none 0 0, .slice none 0 0, .int .i64 0] 25)) dd os).cell? ⟨w.heap.size, 0, none⟩ = some (.slice A1 n1 c1) := cell_fut (by (repeat (first | exact (cell_al_new _ _ _ _ _ _ (by first | rfl | (simp only [World.size_alloc]))).trans rfl | refine (cell_al_old _ _ _ (by first | omega | (simp only [World.size_alloc]; omega))).trans ?_)))
  have p1 : ∀ dd os, (fut ((w.alloc (.cells #[.slice A1 n1 c1, .slice A2 n2 c2, .slice A3 n3 c3, .int .i64 s, .int .i64 u] 34)).alloc (.cells #[.slice none 0 0, .slice none 0 0, .int .i64 0] 25)) dd os).cell? ⟨w.heap.size, 1, none⟩ = some (.slice A2 n2 c2) := cell_fut (by (repeat (first | exact (cell_al_new _ _ _ _ _ _ (by first | rfl | (simp only [World.size_alloc]))).trans rfl | refine (cell_al_old _ _ _ (by first | omega | (simp only [World.size_alloc]; omega))).trans ?_)))
  have p2 : ∀ dd os, (fut ((w.alloc (.cells #[.slice A1 n1 c1, .slice A2 n2 c2, .slice A3 n3 c3, .int .i64 s, .int .i64 u] 34)).alloc (.cells #[.slice none 0 0, .slice none 0 0, .int .i64 0] 25)) dd os).cell? ⟨w.heap.size, 2, none⟩ = some (.slice A3 n3 c3) := cell_fut (by (repeat (first | exact (cell_al_new _ _ _ _ _ _ (by first | rfl | (simp only [World.size_alloc]))).trans rfl | refine (cell_al_old _ _ _ (by first | omega | (simp only [World.size_alloc]; omega))).trans ?_)))
  have p3 : ∀ dd os, (fut ((w.alloc (.cells #[.slice A1 n1 c1, .slice A2 n2 c2, .slice A3 n3 c3, .int .i64 s, .int .i64 u] 34)).alloc (.cells #[.slice none 0 0, .slice none 0 0, .int .i64 0] 25)) dd os).cell? ⟨w.heap.size, 3, none⟩ = some (.int .i64 s) := cell_fut (by (repeat (first | exact (cell_al_new _ _ _ _ _ _ (by first | rfl | (simp only [World.size_alloc]))).trans rfl | refine (cell_al_old _ _ _ (by first | omega | (simp only [World.size_alloc]; omega))).trans ?_)))
  have p4 : ∀ dd os, (fut ((w.alloc (.cells #[.slice A1 n1 c1, .slice A2 n2 c2, .slice A3 n3 c3, .int .i64 s, .int .i64 u] 34)).alloc (.cells #[.slice none 0 0, .slice none 0 0, .int .i64 0] 25)) dd os).cell? ⟨w.heap.size, 4, none⟩ = some (.int .i64 u) := cell_fut (by (repeat (first | exact (cell_al_new _ _ _ _ _ _ (by first | rfl | (simp only [World.size_alloc]))).trans rfl | refine (cell_al_old _ _ _ (by first | omega | (simp only [World.size_alloc]; omega))).trans ?_)))
  have HPS := Lib.hid (And.intro p0 (And.intro p1 (And.intro p2 (And.intro p3 p4))))
  clear p0 p1 p2 p3 p4
  have hsz : ((w.alloc (.cells #[.slice A1 n1 c1, .slice A2 n2 c2, .slice A3 n3 c3, .int .i64 s, .int .i64 u] 34)).alloc (.cells #[.slice none 0 0, .slice none 0 0, .int .i64 0] 25)).heap.size = w.heap.size + 1 + 1 := by simp
  by_cases hP : pricesB ins del rep s u = true ∧ (m = 0 ∨ m = n)
  · obtain ⟨hpr, hmn⟩ := hP
    have HPR := Lib.hid hpr
    have HPB := Lib.hid (fun w' f1 f2 f3 => rPrices_any A1 n1 c1 A2 n2 c2 A3 n3 c3 s u ins del rep w' L1.out L2.out L3.out (by unfold maxLen; omega) HB2.out HB3.out f1 f2 f3)
    rw [hpr] at HPB
    have hcases : ((m : Int) = 0) ∨ (¬ (m : Int) = 0 ∧ (m : Int) = (n : Int)) := by omega
    have HMN := Lib.hid hmn
    clear hpr hmn
    go_enter Try.func16, Try.ntmps16
    rcases hcases with hm0 | ⟨hm0, hmn⟩
    · have gg := cmpF_yes hm0
      obtain ⟨g1, g2, g5⟩ := gg
      have hmz : m = 0 := by omega
      clear g1 hm0
      go_wp2_with (go_at_call 30; refine (HPB.out _ (R1.out.fut HWW.out) (R2.out.fut HWW.out) (R3.out.fut HWW.out)).mono ?_; rintro e w1 ⟨rfl, hb1⟩; obtain ⟨dd, oo, rfl⟩ := fut_of hb1; clear hb1)
      have HF0 := Lib.hid (Fut.fut ((w.alloc (.cells #[.slice A1 n1 c1, .slice A2 n2 c2, .slice A3 n3 c3, .int .i64 s, .int .i64 u] 34)).alloc (.cells #[.slice none 0 0, .slice none 0 0, .int .i64 0] 25)) dd oo)
      generalize ((w.alloc (.cells #[.slice A1 n1 c1, .slice A2 n2 c2, .slice A3 n3 c3, .int .i64 s, .int .i64 u] 34)).alloc (.cells #[.slice none 0 0, .slice none 0 0, .int .i64 0] 25)) = wb at *
      go_loopw [9] (fun i wr => ∃ j : Nat, j ≤ n ∧ i = .int .i64 j ∧ Hid (∀ t, t < j → okT n1 (gi ks t) (cf cs t) = true) ∧ Hid (Fut wb wr)) (fun i _ => n - (intOf i).toNat)
      case atStart => exact ⟨0, Nat.zero_le _, rfl, Lib.hid (fun t h => absurd h (Nat.not_lt_zero _)), HF0⟩
      case round =>
        obtain ⟨j, hj, rfl, hall, hF⟩ := hrel
        clear HF0
        by_cases hlt : j < n
        · obtain ⟨kd, hkd⟩ := get_lt HKL.out hlt
          obtain ⟨b5, o5, rfl, e5⟩ := HZ0.out j kd hkd
          have HKD := Lib.hid (gi_get hkd)
          have e6 := (HWW.out.trans hF.out).cell e5
          clear hkd
          by_cases hk1 : kd < -1
          · obtain ⟨wx, rfl⟩ : ∃ q, q = wr := ⟨_, rfl⟩
            have HFin := Lib.hid (ofE_bad2 (ins := ins) (del := del) (rep := rep) (s := s) (u := u) (i := j) (ks := ks) (cs := cs) (by have := HKL.out; omega) (by rw [HKD.out]; simp only [okT]; rw [decide_eq_false (by omega : ¬ -1 ≤ kd)]; simp))
            have f9 : Fut wb wx := hF.out
            have i0 := (HCI.out.fut f9).c0
            have i1 := (HCI.out.fut f9).c1
            have i2 := (HCI.out.fut f9).c2
            have i3 := (HCI.out.fut f9).fz 0
            have i4 := (HCI.out.fut f9).fz 1
            have i5 := (HCI.out.fut f9).fz 2
            have HCZ := Lib.hid ((HCI.out.fut f9).sets (.slice none 0 0) (.slice none 0 0) (.int .i64 0))
            have HFZ := Lib.hid (sets_fut (b := w.heap.size + 1) (HWW.out.trans f9) (by omega) (.slice none 0 0) (.slice none 0 0) (.int .i64 0))
            clear f9
            go_wp2_with fail
            refine bodyPost_ret (res_cell2 rof_res _ _ (w.heap.size + 1) _ _ _ _ rfl HCZ.out Try.underlying25 rfl (by kernel_rfl)) rfl ?_
            rw [HFin.out]
            exact ⟨⟨fun _ => rfl, fun h => absurd h (by decide)⟩, HFZ.out⟩
      
          · by_cases hk2 : (n1 : Int) ≤ kd
            · obtain ⟨wx, rfl⟩ : ∃ q, q = wr := ⟨_, rfl⟩
              have HFin := Lib.hid (ofE_bad2 (ins := ins) (del := del) (rep := rep) (s := s) (u := u) (i := j) (ks := ks) (cs := cs) (by have := HKL.out; omega) (by rw [HKD.out, L1.out]; simp only [okT]; rw [decide_eq_false (by omega : ¬ kd < (n1 : Int))]; simp))
              have f9 : Fut wb wx := hF.out
              have i0 := (HCI.out.fut f9).c0
              have i1 := (HCI.out.fut f9).c1
              have i2 := (HCI.out.fut f9).c2
              have i3 := (HCI.out.fut f9).fz 0
              have i4 := (HCI.out.fut f9).fz 1
              have i5 := (HCI.out.fut f9).fz 2
              have HCZ := Lib.hid ((HCI.out.fut f9).sets (.slice none 0 0) (.slice none 0 0) (.int .i64 0))
              have HFZ := Lib.hid (sets_fut (b := w.heap.size + 1) (HWW.out.trans f9) (by omega) (.slice none 0 0) (.slice none 0 0) (.int .i64 0))
              clear f9
              go_wp2_with fail
              refine bodyPost_ret (res_cell2 rof_res _ _ (w.heap.size + 1) _ _ _ _ rfl HCZ.out Try.underlying25 rfl (by kernel_rfl)) rfl ?_
              rw [HFin.out]
              exact ⟨⟨fun _ => rfl, fun h => absurd h (by decide)⟩, HFZ.out⟩
      
            · skip
              have hxx := cf_none (cs := cs) (i := j) (by have := HCL.out; omega)
              have HOK := Lib.hid (show okT n1 kd [] = true from by
                simp only [okT, List.all_nil]
                rw [decide_eq_true (by omega : -1 ≤ kd), decide_eq_true (by omega : kd < (n1 : Int))]; rfl)
              have hjm : ¬ (j : Int) < (m : Int) := by omega
              go_wp2_with fail
              obtain ⟨wj, rfl⟩ : ∃ q, q = wr := ⟨_, rfl⟩
              go_loopw [10] (fun i wq => i = .int .i64 0 ∧ wq = wj) (fun _ _ => 0)
              case atStart => exact ⟨rfl, rfl⟩
              case round =>
                obtain ⟨rfl, rfl⟩ := hrel
                go_wp2_with fail
                exact ⟨⟨j + 1, by omega, by go_num, Lib.hid (all_step hall.out (by rw [HKD.out, hxx]; exact HOK.out)), hF⟩, by simp [intOf]; omega⟩
      
        · have HGD := Lib.hid (ofE_good (ins := ins) (ks := ks) (cs := cs) HPR.out (by rw [HCL.out, HKL.out]; exact HMN.out) (fun i hi => by rw [L1.out]; exact hall.out i (by have := HKL.out; omega)))
          have hjn : j = n := by omega
          by_cases h60 : 60 < n
          · obtain ⟨wx, rfl⟩ : ∃ q, q = wr := ⟨_, rfl⟩
            clear hjn
            have HFin := Lib.hid (show ofE ks cs ins del rep s u = 11 from by rw [HGD.out, if_pos (by have := HKL.out; omega)])
            have f9 : Fut wb wx := hF.out
            have i0 := (HCI.out.fut f9).c0
            have i1 := (HCI.out.fut f9).c1
            have i2 := (HCI.out.fut f9).c2
            have i3 := (HCI.out.fut f9).fz 0
            have i4 := (HCI.out.fut f9).fz 1
            have i5 := (HCI.out.fut f9).fz 2
            have HCZ := Lib.hid ((HCI.out.fut f9).sets (.slice none 0 0) (.slice none 0 0) (.int .i64 0))
            have HFZ := Lib.hid (sets_fut (b := w.heap.size + 1) (HWW.out.trans f9) (by omega) (.slice none 0 0) (.slice none 0 0) (.int .i64 0))
            clear f9
            go_wp2_with fail
            refine bodyPost_ret (res_cell2 rof_res _ _ (w.heap.size + 1) _ _ _ _ rfl HCZ.out Try.underlying25 rfl (by kernel_rfl)) rfl ?_
            rw [HFin.out]
            exact ⟨⟨fun _ => rfl, fun h => absurd h (by decide)⟩, HFZ.out⟩
      
          · have HG2 := Lib.hid (show ofE ks cs ins del rep s u = 0 from by rw [HGD.out, if_neg (by have := HKL.out; omega)])
            obtain ⟨wj, rfl⟩ : ∃ q, q = wr := ⟨_, rfl⟩
            have HALL := Lib.hid (show ∀ t, t < n → okT n1 (gi ks t) (cf cs t) = true from fun t ht => hall.out t (by omega))
            have HFJ := hF
            skip
            clear hjn hall hF HGD
            go_wp2_with fail
            go_loopw [12, 13] (fun lv i wr => ∃ (j : Nat) (cols : List CC), j ≤ n ∧ i = .int .i64 j ∧ cols.length = j ∧ Hid (cols.map key = (List.range j).map (fun i => keyT n1 rep del u (gi ks i) (cf cs i))) ∧ Hid (OwnC wr (w.heap.size + 1 + 1) lv cols) ∧ Hid (Fut wb wr)) (fun _ i _ => n - (intOf i).toNat)
            case atStart => exact ⟨0, [], Nat.zero_le _, rfl, rfl, Lib.hid rfl, Lib.hid (OwnC.nil _ _), HFJ⟩
            case round =>
              obtain ⟨j, cols, hj, rfl, hcol, hkey, hown, hF⟩ := hrel
              obtain ⟨va, vc, hlv, hrdc⟩ := hown.out.form
              subst hlv
              obtain ⟨wx, rfl⟩ : ∃ q, q = wr := ⟨_, rfl⟩
              clear HFJ hrdc
              replace hown := Lib.hid (show OwnC wx (w.heap.size + 1 + 1) (.slice va j vc) cols from by rw [← hcol]; exact hown.out)
              by_cases hlt : j < n
              · obtain ⟨kd, hkd⟩ := get_lt HKL.out hlt
                obtain ⟨b5, o5, rfl, e5⟩ := HZ0.out j kd hkd
                have HKD := Lib.hid (gi_get hkd)
                have e6 := (HWW.out.trans hF.out).cell e5
                have e5l := World.block_lt_of_cell? w _ e5
                simp only at e5l
                clear hkd e5
                have HRS := Lib.hid (prices_rows HPR.out)
                have HOX := Lib.hid (okT_xs (HALL.out j hlt))
                have hxx := cf_none (cs := cs) (i := j) (by have := HCL.out; omega)
                have hxr : RdS w none 2 encP (cf cs j) := by rw [hxx]; exact RdS.nil
                have hxl : (cf cs j).length ≤ maxLen := by rw [hxx]; exact Nat.zero_le _
                have hxn : (cf cs j).length = 0 := by rw [hxx]; rfl
                have HXP := Lib.hid (show RdS w none 2 encP (cf cs j) ∧ (cf cs j).length ≤ maxLen ∧ (cf cs j).length = 0 from ⟨hxr, hxl, hxn⟩)
                clear hxx hxr hxl hxn
                have hjm : ¬ (0 : Int) < (m : Int) := by omega
                obtain ⟨S, hS⟩ : ∃ S : Nat → Bool, S = fun q => (Value.slice va j vc).ownBlock == some q := ⟨_, rfl⟩
                have hlow : ∀ q, S q = true → w.heap.size + 1 + 1 ≤ q := fun q hq => by
                  rw [hS] at hq
                  simp only [beq_iff_eq] at hq
                  exact (hown.out.lt q hq).1
                have s0 : S w.heap.size = false := bnot fun h => by have := hlow _ h; omega
                have s5 : S b5 = false := bnot fun h => by have := hlow _ h; omega
                have HSO := Lib.hid hS
                clear hS hlow
                obtain ⟨d2, o2, hw2⟩ := fut_of hF.out
                have y1 := HPS.out.1 d2 o2
                have y2 := HPS.out.2.1 d2 o2
                have y3 := HPS.out.2.2.1 d2 o2
                have y4 := HPS.out.2.2.2.1 d2 o2
                have y5 := HPS.out.2.2.2.2 d2 o2
                rw [← hw2] at y1 y2 y3 y4 y5
                clear hw2
                have r0 := cell_futS y1 s0
                have r1 := cell_futS y2 s0
                have r2 := cell_futS y3 s0
                have r3 := cell_futS y4 s0
                have r4 := cell_futS y5 s0
                have r5 := cell_futS e6 s5
                have HFW := Lib.hid (show Fut w wx from HWW.out.trans hF.out)
                go_wp2_with fail
                refine wp_region_MG (relS S) o_emendateref35_Of_24 (by kernel_rfl) (by kernel_rfl) (by intro c a d v w h; cases d <;> exact h) ?_; unfold o_emendateref35_Of_24
                iterate 7 (refine wpS_h rfl rfl (fun K hK => ?_); go_simp; refine hK _ _ ?_; clear hK K)
                refine wpG_o rfl rfl (fun K hK => ?_)
                go_simp
                go_at_call 31
                refine (rcolumn_any2 kd none 0 _ (cf cs j) A1 n1 c1 A2 n2 c2 A3 n3 c3 s u del rep _ (by have := HRS.out.1; have := L1.out; have := L2.out; omega) (by have := HRS.out.2.1; have := L1.out; have := L3.out; omega) (by have := HOX.out.1.1; rw [HKD.out] at this; exact this) (by have := HOX.out.1.2; rw [HKD.out] at this; exact this) b1 (by have := HRS.out.1; have := L1.out; omega) (by have := HRS.out.2.1; have := L1.out; omega) (by have := HRS.out.2.2; rw [L1.out] at this; exact this) (HOX.out.2) HXP.out.2.2 (by rw [← HXP.out.2.2]; exact HXP.out.2.1) ((HXP.out.1.fut HFW.out).fut (Fut.refl _).drew) ((R2.out.fut HFW.out).fut (Fut.refl _).drew) ((R3.out.fut HFW.out).fut (Fut.refl _).drew)).mono ?_
                rintro e w2 ⟨⟨RA, Rc, rfl, hrd, hfar⟩, hb1⟩
                have hf2 : Fut wx w2 := (Fut.refl wx).drew.trans hb1
                refine hK _ _ (.inr ((relS S).of_fut hb1)) ?_
                clear hK K
                have HRD := Lib.hid hrd
                have HFAR := Lib.hid hfar
                have HF2 := Lib.hid hf2
                clear hrd hfar hb1 hf2
                refine wpG_o rfl rfl (fun K hK => ?_)
                go_simp
                go_at_K
                refine hK _ _ (.inr ((relS S).of_fut ((Fut.refl _).alloc _))) ?_
                clear hK K
                refine wpG_o rfl rfl (fun K hK => ?_)
                have hoj : (w2.alloc (.cells #[.int .i64 kd, .slice RA n1 Rc, .int .i64 (delF kd del u)] 51)).ownsRow (w.heap.size + 1 + 1) 51 3 (.slice va j vc) j (cols.flatMap encC) := by
                  have h := ((hown.out.fut HF2.out).fut ((Fut.refl _).alloc (.cells #[.int .i64 kd, .slice RA n1 Rc, .int .i64 (delF kd del u)] 51))).own
                  rw [hcol] at h
                  exact h
                refine wp_append_lies _ (.tmp 123) (.tmp 131) 22 rfl (w.heap.size + 1 + 1) 51 ci _ 3 40 Try.underlying22 ca cz0 cz1 cz2 rfl (by decide) (.slice va j vc) j (cols.flatMap encC) rfl hoj ⟨w2.heap.size, 0, none⟩ 1 1 [.int .i64 kd, .slice RA n1 Rc, .int .i64 (delF kd del u)] rfl rfl ?c1 ?c2 (by decide) ?c3 ?c4 ?c5 (w2.heap.size + 1) ?c6 ?_
                case c1 => exact World.news_of_block (cs := #[.int .i64 kd, .slice RA n1 Rc, .int .i64 (delF kd del u)]) (heap_alloc_new _ _)
                case c2 => intro v hv; simp only [List.mem_cons, List.not_mem_nil, or_false] at hv; rcases hv with rfl | rfl | rfl <;> rfl
                case c3 => unfold maxLen; omega
                case c4 => omega
                case c5 => show _ ≤ (w2.alloc _).heap.size; rw [World.size_alloc]; have h1 := HF2.out.size; have h2 := hF.out.size; omega
                case c6 => show (w2.alloc _).heap.size = _; rw [World.size_alloc]
                intro g cap w3 hown2 hgr hg2 hlt2
                have hoa : OwnC (w2.alloc (.cells #[.int .i64 kd, .slice RA n1 Rc, .int .i64 (delF kd del u)] 51)) (w.heap.size + 1 + 1) (.slice va j vc) cols := (hown.out.fut HF2.out).fut ((Fut.refl _).alloc _)
                have hfs : FutS S (w2.alloc (.cells #[.int .i64 kd, .slice RA n1 Rc, .int .i64 (delF kd del u)] 51)) w3 := ⟨hgr.os, hgr.tape, hgr.output, hgr.size, fun q hq hs => hgr.block q hq (fun e => by rw [HSO.out] at hs; simp [← e] at hs)⟩
                refine hK _ _ (.inr hfs) ?_
                clear hK K
                have hrow : ((List.range n1).map (rowF kd rep (cf cs j))).length = n1 := by simp
                have HPU := Lib.hid (show OwnC w3 (w.heap.size + 1 + 1) (.slice (some ⟨g, 0, none⟩) (j + 1) cap) (cols ++ [(⟨kd, (List.range n1).map (rowF kd rep (cf cs j)), delF kd del u, RA, Rc⟩ : CC)]) from by
                  have hpu := hoa.push (cc := ⟨kd, (List.range n1).map (rowF kd rep (cf cs j)), delF kd del u, RA, Rc⟩) (by
                    have he : encC ⟨kd, (List.range n1).map (rowF kd rep (cf cs j)), delF kd del u, RA, Rc⟩ = [.int .i64 kd, .slice RA n1 Rc, .int .i64 (delF kd del u)] := by simp only [encC, hrow]
                    rw [he, hcol]
                    exact hown2) hgr (by rcases hg2 with h | h; exact .inl h; right; show _ = (w2.alloc _).heap.size; rw [World.size_alloc]; exact h) (HRD.out.fut ((Fut.refl _).alloc _)) (by show ((List.range n1).map (rowF kd rep (cf cs j))).length ≤ maxLen; rw [hrow]; unfold maxLen; omega) (fun b o q e => by
                      obtain ⟨h1, h2⟩ := HFAR.out b o q e
                      have h5 := hF.out.size
                      have h6 : wx.drew.heap.size = wx.heap.size := rfl
                      refine ⟨⟨by omega, by rw [World.size_alloc]; omega⟩, fun e2 => ?_⟩
                      have h3 := (hown.out.lt b e2).2
                      omega)
                  rw [hcol] at hpu
                  exact hpu)
                have HFN := Lib.hid (show Fut wb w3 from Below.grown ((hF.out.trans HF2.out).alloc (.cells #[.int .i64 kd, .slice RA n1 Rc, .int .i64 (delF kd del u)] 51)) hgr (by rw [World.size_alloc]; have h1 := HF2.out.size; have h2 := hF.out.size; omega) (fun q hq => by have h1 := (hown.out.lt q hq).1; omega))
                clear hown2 hgr hg2 hlt2 hoa hfs hoj
                (refine wpS_h rfl rfl (fun K hK => ?_); go_simp; refine hK _ _ ?_; clear hK K)
                refine wpG_nil ?_
                have HKN := Lib.hid (show (cols ++ [(⟨kd, (List.range n1).map (rowF kd rep (cf cs j)), delF kd del u, RA, Rc⟩ : CC)]).map key = (List.range (j + 1)).map (fun i => keyT n1 rep del u (gi ks i) (cf cs i)) from by
                  rw [List.map_append, hkey.out, List.range_succ, List.map_append]
                  simp only [List.map_cons, List.map_nil, key, keyT, HKD.out])
                have hcl2 : (cols ++ [(⟨kd, (List.range n1).map (rowF kd rep (cf cs j)), delF kd del u, RA, Rc⟩ : CC)]).length = j + 1 := by rw [List.length_append, hcol]; rfl
                clear y1 y2 y3 y4 y5 r0 r1 r2 r3 r4 r5 e6 hrow hkey
                go_wp2_with fail
                exact ⟨⟨j + 1, _, by omega, by go_num, hcl2, HKN, HPU, HFN⟩, by simp [intOf]; omega⟩
              · have hjn : j = n := by omega
                have HOWN := Lib.hid (show OwnC wx (w.heap.size + 1 + 1) (.slice va n vc) cols from by rw [← hjn]; exact hown.out)
                obtain ⟨d2, o2, hw2⟩ := fut_of hF.out
                have y1 := HPS.out.1 d2 o2
                have y4 := HPS.out.2.2.2.1 d2 o2
                rw [← hw2] at y1 y4
                clear hw2
                have y1' := cell_fut y1
                have y4' := cell_fut y4
                have HJN := Lib.hid hjn
                clear hown
                obtain ⟨S, hS⟩ : ∃ S : Nat → Bool, S = fun q => q == wx.heap.size || q == w.heap.size + 1 := ⟨_, rfl⟩
                have hwx := hF.out.size
                have s0 : S w.heap.size = false := by rw [hS]; simp; omega
                have HS1 := Lib.hid (show S (w.heap.size + 1) = true by rw [hS]; simp)
                have HS2 := Lib.hid (show S wx.heap.size = true by rw [hS]; simp)
                clear hS
                have r1 := cell_futS y1 s0
                have r4 := cell_futS y4 s0
                have HFW := Lib.hid (show Fut w wx from HWW.out.trans hF.out)
                clear y1' y4'
                go_wp2_with fail
                refine wp_region_MG (relS S) o_emendateref35_Of_25 (by kernel_rfl) (by kernel_rfl) (by intro c a d v w h; cases d <;> exact h) ?_; unfold o_emendateref35_Of_25
                iterate 5 (refine wpS_h rfl rfl (fun K hK => ?_); go_simp; refine hK _ _ ?_; clear hK K)
                refine wpG_o rfl rfl (fun K hK => ?_)
                go_simp
                go_at_K
                refine hK _ _ (.inr ((relS S).of_fut ((Fut.refl _).alloc _))) ?_
                clear hK K
                refine wpG_o rfl rfl (fun K hK => ?_)
                have hme : (wx.alloc (.cells #[] 3)).drew.ownsRow wx.heap.size 3 1 (.slice (some ⟨wx.heap.size, 0, none⟩) 0 0) 0 ([].map (Value.int .i64 ·)) := made_empty wx
                refine wp_append_ints (.tmp 134) (.tmp 136) rfl wx.heap.size _ rfl hme A1 n1 c1 ins rfl L1.out b1 HNL.out ((R1.out.fut HFW.out).fut (((Fut.refl wx).alloc _).drew)) (by show _ ≤ (wx.alloc _).heap.size; rw [World.size_alloc]; exact Nat.le_succ _) ?_
                intro v3 w3 hown3 hgr
                have hfs : FutS S (wx.alloc (.cells #[] 3)).drew w3 := ⟨hgr.os, hgr.tape, hgr.output, hgr.size, fun q hq hs => hgr.block q hq (fun e => by
                  have e2 : some q = some wx.heap.size := e
                  rw [Option.some.inj e2, HS2.out] at hs
                  cases hs)⟩
                refine hK _ _ (.inr hfs) ?_
                clear hK K
                have f9 : Fut wb w3 := Below.grown ((hF.out.alloc (.cells #[] 3)).drew) hgr (by show _ ≤ (wx.alloc _).heap.size; rw [World.size_alloc]; omega) (fun q hq => by have e2 : some wx.heap.size = some q := hq; have e3 := Option.some.inj e2; omega)
                have fx : Fut wx w3 := Below.grown (((Fut.refl wx).alloc (.cells #[] 3)).drew) hgr (by show _ ≤ (wx.alloc _).heap.size; rw [World.size_alloc]; exact Nat.le_succ _) (fun q hq => by have e2 : some wx.heap.size = some q := hq; have e3 := Option.some.inj e2; omega)
                have hv3 : ∃ B d, v3 = .slice B n1 d := by
                  rcases hown3.2 with ⟨h, h0⟩ | ⟨g, cap, cur, h, _⟩
                  · exact ⟨none, 0, by rw [h, h0]⟩
                  · exact ⟨_, _, h⟩
                obtain ⟨VB, Vd, rfl⟩ := hv3
                have HVR := Lib.hid (show Rd1 w3 VB (.int .i64 ·) ins from Rd1.of_own hown3)
                have i0 := (HCI.out.fut f9).c0
                have i1 := (HCI.out.fut f9).c1
                have i2 := (HCI.out.fut f9).c2
                have i3 := (HCI.out.fut f9).fz 0
                have i4 := (HCI.out.fut f9).fz 1
                have i5 := (HCI.out.fut f9).fz 2
                have HCZ := Lib.hid ((HCI.out.fut f9).sets (.slice va n vc) (.slice VB n1 Vd) (.int .i64 s))
                have HFZ := Lib.hid (sets_fut (b := w.heap.size + 1) (HWW.out.trans f9) (by omega) (.slice va n vc) (.slice VB n1 Vd) (.int .i64 s))
                have HRC := Lib.hid ((HOWN.out.fut fx).sets (b := w.heap.size + 1) (by omega) (.slice va n vc) (.slice VB n1 Vd) (.int .i64 s))
                have HVZ := Lib.hid (show Rd1 (((w3.setCell ⟨w.heap.size + 1, 0, none⟩ (.slice va n vc)).setCell ⟨w.heap.size + 1, 1, none⟩ (.slice VB n1 Vd)).setCell ⟨w.heap.size + 1, 2, none⟩ (.int .i64 s)) VB (.int .i64 ·) ins from by
                  intro i y hy
                  obtain ⟨b, o, e, hc⟩ := HVR.out i y hy
                  refine ⟨b, o, e, ?_⟩
                  have hbl : wx.heap.size ≤ b := by
                    rcases hown3.2 with ⟨h, h0⟩ | ⟨g, cap, cur, h, hg, _⟩
                    · injection h with h _ _; rw [h] at e; cases e
                    · injection h with h _ _
                      rw [h] at e
                      injection e with e
                      injection e with e _ _
                      omega
                  rw [World.cell?_of_block (blk_setCell_other _ _ _ _ (by simp only; omega)), World.cell?_of_block (blk_setCell_other _ _ _ _ (by simp only; omega)), World.cell?_of_block (blk_setCell_other _ _ _ _ (by simp only; omega))]
                  exact hc)
                clear hown3 hgr hfs f9 fx HVR hme
                (refine wpS_h rfl rfl (fun K hK => ?_); go_simp; refine hK _ _ ?_; clear hK K)
                refine wpG_o rfl rfl (fun K hK => ?_)
                go_simp
                refine hK _ _ (.inr ((relS S).trans (futS_set _ _ _ HS1.out) ((relS S).trans (futS_set _ _ _ HS1.out) (futS_set _ _ _ HS1.out)))) ?_
                clear hK K
                (refine wpS_h rfl rfl (fun K hK => ?_); go_simp; refine hK _ _ ?_; clear hK K)
                refine wpG_nil ?_
                go_wp2_with fail
                refine bodyPost_ret (res_cell2 rof_res _ _ (w.heap.size + 1) _ _ _ _ rfl HCZ.out Try.underlying25 rfl (by kernel_rfl)) rfl ?_
                rw [HG2.out]
                obtain ⟨va2, vc2, hv2, hrd2⟩ := HRC.out.form
                injection hv2 with e1 e2 e3
                subst e1
                refine ⟨⟨fun h => absurd rfl h, fun _ => ⟨va, vc, VB, Vd, cols, rfl, ?_, hrd2, HVZ.out⟩⟩, HFZ.out⟩
                rw [hkey.out, HJN.out]
                unfold ofK
                rw [HKL.out]
      
    · have gg := cmpF_no hm0
      have gh := cmpF_yes hmn
      obtain ⟨g1, g2, g5⟩ := gg
      obtain ⟨g3, g4, g6⟩ := gh
      have HMEQ := Lib.hid (show m = n by omega)
      clear hm0 hmn g3
      go_wp2_with (go_at_call 30; refine (HPB.out _ (R1.out.fut HWW.out) (R2.out.fut HWW.out) (R3.out.fut HWW.out)).mono ?_; rintro e w1 ⟨rfl, hb1⟩; obtain ⟨dd, oo, rfl⟩ := fut_of hb1; clear hb1)
      have HF0 := Lib.hid (Fut.fut ((w.alloc (.cells #[.slice A1 n1 c1, .slice A2 n2 c2, .slice A3 n3 c3, .int .i64 s, .int .i64 u] 34)).alloc (.cells #[.slice none 0 0, .slice none 0 0, .int .i64 0] 25)) dd oo)
      generalize ((w.alloc (.cells #[.slice A1 n1 c1, .slice A2 n2 c2, .slice A3 n3 c3, .int .i64 s, .int .i64 u] 34)).alloc (.cells #[.slice none 0 0, .slice none 0 0, .int .i64 0] 25)) = wb at *
      go_loopw [9] (fun i wr => ∃ j : Nat, j ≤ n ∧ i = .int .i64 j ∧ Hid (∀ t, t < j → okT n1 (gi ks t) (cf cs t) = true) ∧ Hid (Fut wb wr)) (fun i _ => n - (intOf i).toNat)
      case atStart => exact ⟨0, Nat.zero_le _, rfl, Lib.hid (fun t h => absurd h (Nat.not_lt_zero _)), HF0⟩
      case round =>
        obtain ⟨j, hj, rfl, hall, hF⟩ := hrel
        clear HF0
        by_cases hlt : j < n
        · obtain ⟨kd, hkd⟩ := get_lt HKL.out hlt
          obtain ⟨b5, o5, rfl, e5⟩ := HZ0.out j kd hkd
          have HKD := Lib.hid (gi_get hkd)
          have e6 := (HWW.out.trans hF.out).cell e5
          clear hkd
          by_cases hk1 : kd < -1
          · obtain ⟨wx, rfl⟩ : ∃ q, q = wr := ⟨_, rfl⟩
            have HFin := Lib.hid (ofE_bad2 (ins := ins) (del := del) (rep := rep) (s := s) (u := u) (i := j) (ks := ks) (cs := cs) (by have := HKL.out; omega) (by rw [HKD.out]; simp only [okT]; rw [decide_eq_false (by omega : ¬ -1 ≤ kd)]; simp))
            have f9 : Fut wb wx := hF.out
            have i0 := (HCI.out.fut f9).c0
            have i1 := (HCI.out.fut f9).c1
            have i2 := (HCI.out.fut f9).c2
            have i3 := (HCI.out.fut f9).fz 0
            have i4 := (HCI.out.fut f9).fz 1
            have i5 := (HCI.out.fut f9).fz 2
            have HCZ := Lib.hid ((HCI.out.fut f9).sets (.slice none 0 0) (.slice none 0 0) (.int .i64 0))
            have HFZ := Lib.hid (sets_fut (b := w.heap.size + 1) (HWW.out.trans f9) (by omega) (.slice none 0 0) (.slice none 0 0) (.int .i64 0))
            clear f9
            go_wp2_with fail
            refine bodyPost_ret (res_cell2 rof_res _ _ (w.heap.size + 1) _ _ _ _ rfl HCZ.out Try.underlying25 rfl (by kernel_rfl)) rfl ?_
            rw [HFin.out]
            exact ⟨⟨fun _ => rfl, fun h => absurd h (by decide)⟩, HFZ.out⟩
      
          · by_cases hk2 : (n1 : Int) ≤ kd
            · obtain ⟨wx, rfl⟩ : ∃ q, q = wr := ⟨_, rfl⟩
              have HFin := Lib.hid (ofE_bad2 (ins := ins) (del := del) (rep := rep) (s := s) (u := u) (i := j) (ks := ks) (cs := cs) (by have := HKL.out; omega) (by rw [HKD.out, L1.out]; simp only [okT]; rw [decide_eq_false (by omega : ¬ kd < (n1 : Int))]; simp))
              have f9 : Fut wb wx := hF.out
              have i0 := (HCI.out.fut f9).c0
              have i1 := (HCI.out.fut f9).c1
              have i2 := (HCI.out.fut f9).c2
              have i3 := (HCI.out.fut f9).fz 0
              have i4 := (HCI.out.fut f9).fz 1
              have i5 := (HCI.out.fut f9).fz 2
              have HCZ := Lib.hid ((HCI.out.fut f9).sets (.slice none 0 0) (.slice none 0 0) (.int .i64 0))
              have HFZ := Lib.hid (sets_fut (b := w.heap.size + 1) (HWW.out.trans f9) (by omega) (.slice none 0 0) (.slice none 0 0) (.int .i64 0))
              clear f9
              go_wp2_with fail
              refine bodyPost_ret (res_cell2 rof_res _ _ (w.heap.size + 1) _ _ _ _ rfl HCZ.out Try.underlying25 rfl (by kernel_rfl)) rfl ?_
              rw [HFin.out]
              exact ⟨⟨fun _ => rfl, fun h => absurd h (by decide)⟩, HFZ.out⟩
      
            · skip
              obtain ⟨rr, hr⟩ := get_lt HCL.out (show j < m by have := HMEQ.out; omega)
              obtain ⟨t3, o3, rfl, e3⟩ := HX0.out.1 j rr hr
              obtain ⟨hxr, hxl⟩ := HX0.out.2 rr (List.mem_of_getElem? hr)
              have e4 := e3 0 _ (by decide) rfl
              simp only [Nat.mul_one, Nat.add_zero] at e4
              have hxx := cf_get hr
              obtain ⟨xs, xA, xk⟩ := rr
              simp only at hxx hxl hxr e4
              have hxl' : xs.length ≤ 9223372036854775807 := hxl
              have HXR := Lib.hid hxr
              clear hr e3 hxr
              have HOK := Lib.hid (show ∀ b, xs.all (okX n1 kd) = b → okT n1 kd xs = b from fun b hb => by
                simp only [okT, hb]
                rw [decide_eq_true (by omega : -1 ≤ kd), decide_eq_true (by omega : kd < (n1 : Int))]; rfl)
              have HFJ := hF
              have hjm : (j : Int) < (m : Int) := by have := HMEQ.out; omega
              go_wp2_with fail
              obtain ⟨wj, rfl⟩ : ∃ q, q = wr := ⟨_, rfl⟩
              go_loopw [10] (fun i wq => ∃ k : Nat, k ≤ xs.length ∧ i = .int .i64 k ∧ Hid ((xs.take k).all (okX n1 kd) = true) ∧ Hid (Fut wj wq)) (fun i _ => xs.length - (intOf i).toNat)
              case atStart => exact ⟨0, Nat.zero_le _, rfl, Lib.hid (by simp), Lib.hid (Fut.refl _)⟩
              case round =>
                obtain ⟨k, hk, rfl, hall2, hF2⟩ := hrel
                obtain ⟨wx, rfl⟩ : ∃ q, q = wr := ⟨_, rfl⟩
                have ea := (HWW.out.trans (HFJ.out.trans hF2.out)).cell e4
                have eb := (HWW.out.trans (HFJ.out.trans hF2.out)).cell e5
                by_cases hlt2 : k < xs.length
                · obtain ⟨⟨x1, x2⟩, hx⟩ := get_lt rfl hlt2
                  obtain ⟨b7, o7, rfl, e7⟩ := HXR.out k _ hx
                  have v0 := (HWW.out.trans (HFJ.out.trans hF2.out)).cell (e7 0 _ (by decide) rfl)
                  have v1 := (HWW.out.trans (HFJ.out.trans hF2.out)).cell (e7 1 _ (by decide) rfl)
                  simp only [Nat.add_zero] at v0
                  have HXX := Lib.hid hx
                  clear hx e7
                  have HFA := Lib.hid (show Fut wb (wx.alloc (.cells #[.int .i64 x1, .int .i64 x2] 53)) from (HFJ.out.trans hF2.out).alloc _)
                  have w0 : ∀ dd os, (fut (wx.alloc (.cells #[.int .i64 x1, .int .i64 x2] 53)) dd os).cell? ⟨wx.heap.size, 0, none⟩ = some (.int .i64 x1) := cell_fut (by (repeat (first | exact (cell_al_new _ _ _ _ _ _ (by first | rfl | (simp only [World.size_alloc]))).trans rfl | refine (cell_al_old _ _ _ (by first | omega | (simp only [World.size_alloc]; omega))).trans ?_)))
                  have w1 : ∀ dd os, (fut (wx.alloc (.cells #[.int .i64 x1, .int .i64 x2] 53)) dd os).cell? ⟨wx.heap.size, 1, none⟩ = some (.int .i64 x2) := cell_fut (by (repeat (first | exact (cell_al_new _ _ _ _ _ _ (by first | rfl | (simp only [World.size_alloc]))).trans rfl | refine (cell_al_old _ _ _ (by first | omega | (simp only [World.size_alloc]; omega))).trans ?_)))
                  have w2 : ∀ dd os, (fut (wx.alloc (.cells #[.int .i64 x1, .int .i64 x2] 53)) dd os).cell? ⟨b5, o5 + j, none⟩ = some (.int .i64 kd) := cell_fut (((Fut.refl wx).alloc _).cell eb)
                  have hcase : (okX n1 kd (x1, x2) = true ∧ ¬ x1 < 0 ∧ ¬ (n1 : Int) ≤ x1 ∧ ¬ x1 = kd ∧ ¬ x2 < 1 ∧ ¬ 60000 < x2) ∨ (okX n1 kd (x1, x2) = false ∧ (x1 < 0 ∨ (¬ x1 < 0 ∧ (n1 : Int) ≤ x1) ∨ (¬ x1 < 0 ∧ ¬ (n1 : Int) ≤ x1 ∧ x1 = kd) ∨ (¬ x1 < 0 ∧ ¬ (n1 : Int) ≤ x1 ∧ ¬ x1 = kd ∧ x2 < 1) ∨ (¬ x1 < 0 ∧ ¬ (n1 : Int) ≤ x1 ∧ ¬ x1 = kd ∧ ¬ x2 < 1 ∧ 60000 < x2))) := by
                    have hiff : okX n1 kd (x1, x2) = true ↔ (((0 ≤ x1 ∧ x1 < n1) ∧ ¬ x1 = kd) ∧ (1 ≤ x2 ∧ x2 ≤ 60000)) := by
                      simp only [okX, Bool.and_eq_true, decide_eq_true_eq, lg_iff, Bool.not_eq_true', decide_eq_false_iff_not]
                    by_cases hb : okX n1 kd (x1, x2) = true
                    · rw [hiff] at hb
                      exact .inl ⟨hiff.2 hb, by omega, by omega, hb.1.2, by omega, by omega⟩
                    · refine .inr ⟨bnot hb, ?_⟩
                      rw [hiff] at hb
                      omega
                  rcases hcase with ⟨hok, a1, a2, a3, a4, a5⟩ | ⟨hok, hcs⟩
                  · have HT := Lib.hid (take_all hall2.out HXX.out hok)
                    have d1 : decide (x1 < 0) = false := decide_eq_false a1
                    have d2 : decide ((n1 : Int) ≤ x1) = false := decide_eq_false a2
                    obtain ⟨a3a, a3b, a3c⟩ := cmpF_no a3
                    have d4 : decide (x2 < 1) = false := decide_eq_false a4
                    have d5 : decide (60000 < x2) = false := decide_eq_false a5
                    clear hok a1 a2 a3 a4 a5
                    have x1' : ¬ x1 < 0 := of_decide_eq_false d1
                    have x2' : ¬ (n1 : Int) ≤ x1 := of_decide_eq_false d2
                    have x3' : ¬ x2 < 1 := of_decide_eq_false d4
                    have x4' : ¬ 60000 < x2 := of_decide_eq_false d5
                    go_wp2_with fail
                    refine wp_region_M o_emendateref35_Of_13 (by kernel_rfl) (by kernel_rfl) (by intro c a d v w h; cases d <;> exact h) ?_; unfold o_emendateref35_Of_13
                    iterate 28 (refine wpF_h rfl rfl (fun K hK => ?_); go_simp; refine hK _ _ ?_; clear hK K)
                    refine wpF_nil ?_
                    go_wp2_with fail
                    exact ⟨⟨k + 1, by omega, by go_num, HT, Lib.hid (hF2.out.alloc _).drew⟩, by simp [intOf]; omega⟩
                  · have HBAD := Lib.hid (all_not HXX.out hok)
                    clear hok
                    rcases hcs with a1 | ⟨a1, a2⟩ | ⟨a1, a2, a3⟩ | ⟨a1, a2, a3, a4⟩ | ⟨a1, a2, a3, a4, a5⟩
                    · have d1 : decide (x1 < 0) = true := decide_eq_true a1
                      have HFin := Lib.hid (ofE_bad2 (ins := ins) (del := del) (rep := rep) (s := s) (u := u) (i := j) (ks := ks) (cs := cs) (by have := HKL.out; omega) (by rw [L1.out, HKD.out, hxx]; exact HOK.out false HBAD.out))
                      have f9 : Fut wb (wx.alloc (.cells #[.int .i64 x1, .int .i64 x2] 53)).drew := HFA.out.drew
                      have i0 := (HCI.out.fut f9).c0
                      have i1 := (HCI.out.fut f9).c1
                      have i2 := (HCI.out.fut f9).c2
                      have i3 := (HCI.out.fut f9).fz 0
                      have i4 := (HCI.out.fut f9).fz 1
                      have i5 := (HCI.out.fut f9).fz 2
                      have HCZ := Lib.hid ((HCI.out.fut f9).sets (.slice none 0 0) (.slice none 0 0) (.int .i64 0))
                      have HFZ := Lib.hid (sets_fut (b := w.heap.size + 1) (HWW.out.trans f9) (by omega) (.slice none 0 0) (.slice none 0 0) (.int .i64 0))
                      clear f9
                      go_wp2_with fail
                      refine wp_region_M o_emendateref35_Of_13 (by kernel_rfl) (by kernel_rfl) (by intro c a d v w h; cases d <;> exact h) ?_; unfold o_emendateref35_Of_13
                      iterate 4 (refine wpF_h rfl rfl (fun K hK => ?_); go_simp; refine hK _ _ ?_; clear hK K)
                      iterate 4 (refine wpF_hs2 rfl rfl (fun K hK => ?_); go_simp; refine hK _ _ ?_; clear hK K)
                      iterate 2 (refine wpF_h rfl rfl (fun K hK => ?_); go_simp; refine hK _ _ ?_; clear hK K)
                      iterate 7 (refine wpF_hs2 rfl rfl (fun K hK => ?_); go_simp; refine hK _ _ ?_; clear hK K)
                      iterate 2 (refine wpF_h rfl rfl (fun K hK => ?_); go_simp; refine hK _ _ ?_; clear hK K)
                      iterate 3 (refine wpF_hs2 rfl rfl (fun K hK => ?_); go_simp; refine hK _ _ ?_; clear hK K)
                      iterate 2 (refine wpF_h rfl rfl (fun K hK => ?_); go_simp; refine hK _ _ ?_; clear hK K)
                      iterate 3 (refine wpF_hs2 rfl rfl (fun K hK => ?_); go_simp; refine hK _ _ ?_; clear hK K)
                      iterate 1 (refine wpF_h rfl rfl (fun K hK => ?_); go_simp; refine hK _ _ ?_; clear hK K)
                      refine wpF_nil ?_
                      clear w0 w1 w2
                      generalize (wx.alloc (.cells #[.int .i64 x1, .int .i64 x2] 53)).drew = wz at *
                      go_wp2_with fail
                      refine bodyPost_ret (res_cell2 rof_res _ _ (w.heap.size + 1) _ _ _ _ rfl HCZ.out Try.underlying25 rfl (by kernel_rfl)) rfl ?_
                      rw [HFin.out]
                      exact ⟨⟨fun _ => rfl, fun h => absurd h (by decide)⟩, HFZ.out⟩
                    · have d1 : decide (x1 < 0) = false := decide_eq_false a1
                      have d2 : decide ((n1 : Int) ≤ x1) = true := decide_eq_true a2
                      have HFin := Lib.hid (ofE_bad2 (ins := ins) (del := del) (rep := rep) (s := s) (u := u) (i := j) (ks := ks) (cs := cs) (by have := HKL.out; omega) (by rw [L1.out, HKD.out, hxx]; exact HOK.out false HBAD.out))
                      have f9 : Fut wb (wx.alloc (.cells #[.int .i64 x1, .int .i64 x2] 53)).drew := HFA.out.drew
                      have i0 := (HCI.out.fut f9).c0
                      have i1 := (HCI.out.fut f9).c1
                      have i2 := (HCI.out.fut f9).c2
                      have i3 := (HCI.out.fut f9).fz 0
                      have i4 := (HCI.out.fut f9).fz 1
                      have i5 := (HCI.out.fut f9).fz 2
                      have HCZ := Lib.hid ((HCI.out.fut f9).sets (.slice none 0 0) (.slice none 0 0) (.int .i64 0))
                      have HFZ := Lib.hid (sets_fut (b := w.heap.size + 1) (HWW.out.trans f9) (by omega) (.slice none 0 0) (.slice none 0 0) (.int .i64 0))
                      clear f9
                      go_wp2_with fail
                      refine wp_region_M o_emendateref35_Of_13 (by kernel_rfl) (by kernel_rfl) (by intro c a d v w h; cases d <;> exact h) ?_; unfold o_emendateref35_Of_13
                      iterate 10 (refine wpF_h rfl rfl (fun K hK => ?_); go_simp; refine hK _ _ ?_; clear hK K)
                      iterate 7 (refine wpF_hs2 rfl rfl (fun K hK => ?_); go_simp; refine hK _ _ ?_; clear hK K)
                      iterate 2 (refine wpF_h rfl rfl (fun K hK => ?_); go_simp; refine hK _ _ ?_; clear hK K)
                      iterate 3 (refine wpF_hs2 rfl rfl (fun K hK => ?_); go_simp; refine hK _ _ ?_; clear hK K)
                      iterate 2 (refine wpF_h rfl rfl (fun K hK => ?_); go_simp; refine hK _ _ ?_; clear hK K)
                      iterate 3 (refine wpF_hs2 rfl rfl (fun K hK => ?_); go_simp; refine hK _ _ ?_; clear hK K)
                      iterate 1 (refine wpF_h rfl rfl (fun K hK => ?_); go_simp; refine hK _ _ ?_; clear hK K)
                      refine wpF_nil ?_
                      clear w0 w1 w2
                      generalize (wx.alloc (.cells #[.int .i64 x1, .int .i64 x2] 53)).drew = wz at *
                      go_wp2_with fail
                      refine bodyPost_ret (res_cell2 rof_res _ _ (w.heap.size + 1) _ _ _ _ rfl HCZ.out Try.underlying25 rfl (by kernel_rfl)) rfl ?_
                      rw [HFin.out]
                      exact ⟨⟨fun _ => rfl, fun h => absurd h (by decide)⟩, HFZ.out⟩
                    · have d1 : decide (x1 < 0) = false := decide_eq_false a1
                      have d2 : decide ((n1 : Int) ≤ x1) = false := decide_eq_false a2
                      obtain ⟨a3a, a3b, a3c⟩ := cmpF_yes a3
                      clear a3 a3a
                      have HFin := Lib.hid (ofE_bad2 (ins := ins) (del := del) (rep := rep) (s := s) (u := u) (i := j) (ks := ks) (cs := cs) (by have := HKL.out; omega) (by rw [L1.out, HKD.out, hxx]; exact HOK.out false HBAD.out))
                      have f9 : Fut wb (wx.alloc (.cells #[.int .i64 x1, .int .i64 x2] 53)).drew := HFA.out.drew
                      have i0 := (HCI.out.fut f9).c0
                      have i1 := (HCI.out.fut f9).c1
                      have i2 := (HCI.out.fut f9).c2
                      have i3 := (HCI.out.fut f9).fz 0
                      have i4 := (HCI.out.fut f9).fz 1
                      have i5 := (HCI.out.fut f9).fz 2
                      have HCZ := Lib.hid ((HCI.out.fut f9).sets (.slice none 0 0) (.slice none 0 0) (.int .i64 0))
                      have HFZ := Lib.hid (sets_fut (b := w.heap.size + 1) (HWW.out.trans f9) (by omega) (.slice none 0 0) (.slice none 0 0) (.int .i64 0))
                      clear f9
                      go_wp2_with fail
                      refine wp_region_M o_emendateref35_Of_13 (by kernel_rfl) (by kernel_rfl) (by intro c a d v w h; cases d <;> exact h) ?_; unfold o_emendateref35_Of_13
                      iterate 19 (refine wpF_h rfl rfl (fun K hK => ?_); go_simp; refine hK _ _ ?_; clear hK K)
                      iterate 3 (refine wpF_hs2 rfl rfl (fun K hK => ?_); go_simp; refine hK _ _ ?_; clear hK K)
                      iterate 2 (refine wpF_h rfl rfl (fun K hK => ?_); go_simp; refine hK _ _ ?_; clear hK K)
                      iterate 3 (refine wpF_hs2 rfl rfl (fun K hK => ?_); go_simp; refine hK _ _ ?_; clear hK K)
                      iterate 1 (refine wpF_h rfl rfl (fun K hK => ?_); go_simp; refine hK _ _ ?_; clear hK K)
                      refine wpF_nil ?_
                      clear w0 w1 w2
                      generalize (wx.alloc (.cells #[.int .i64 x1, .int .i64 x2] 53)).drew = wz at *
                      go_wp2_with fail
                      refine bodyPost_ret (res_cell2 rof_res _ _ (w.heap.size + 1) _ _ _ _ rfl HCZ.out Try.underlying25 rfl (by kernel_rfl)) rfl ?_
                      rw [HFin.out]
                      exact ⟨⟨fun _ => rfl, fun h => absurd h (by decide)⟩, HFZ.out⟩
                    · have d1 : decide (x1 < 0) = false := decide_eq_false a1
                      have d2 : decide ((n1 : Int) ≤ x1) = false := decide_eq_false a2
                      obtain ⟨a3a, a3b, a3c⟩ := cmpF_no a3
                      clear a3
                      have d4 : decide (x2 < 1) = true := decide_eq_true a4
                      have HFin := Lib.hid (ofE_bad2 (ins := ins) (del := del) (rep := rep) (s := s) (u := u) (i := j) (ks := ks) (cs := cs) (by have := HKL.out; omega) (by rw [L1.out, HKD.out, hxx]; exact HOK.out false HBAD.out))
                      have f9 : Fut wb (wx.alloc (.cells #[.int .i64 x1, .int .i64 x2] 53)).drew := HFA.out.drew
                      have i0 := (HCI.out.fut f9).c0
                      have i1 := (HCI.out.fut f9).c1
                      have i2 := (HCI.out.fut f9).c2
                      have i3 := (HCI.out.fut f9).fz 0
                      have i4 := (HCI.out.fut f9).fz 1
                      have i5 := (HCI.out.fut f9).fz 2
                      have HCZ := Lib.hid ((HCI.out.fut f9).sets (.slice none 0 0) (.slice none 0 0) (.int .i64 0))
                      have HFZ := Lib.hid (sets_fut (b := w.heap.size + 1) (HWW.out.trans f9) (by omega) (.slice none 0 0) (.slice none 0 0) (.int .i64 0))
                      clear f9
                      go_wp2_with fail
                      refine wp_region_M o_emendateref35_Of_13 (by kernel_rfl) (by kernel_rfl) (by intro c a d v w h; cases d <;> exact h) ?_; unfold o_emendateref35_Of_13
                      iterate 24 (refine wpF_h rfl rfl (fun K hK => ?_); go_simp; refine hK _ _ ?_; clear hK K)
                      iterate 3 (refine wpF_hs2 rfl rfl (fun K hK => ?_); go_simp; refine hK _ _ ?_; clear hK K)
                      iterate 1 (refine wpF_h rfl rfl (fun K hK => ?_); go_simp; refine hK _ _ ?_; clear hK K)
                      refine wpF_nil ?_
                      clear w0 w1 w2
                      generalize (wx.alloc (.cells #[.int .i64 x1, .int .i64 x2] 53)).drew = wz at *
                      go_wp2_with fail
                      refine bodyPost_ret (res_cell2 rof_res _ _ (w.heap.size + 1) _ _ _ _ rfl HCZ.out Try.underlying25 rfl (by kernel_rfl)) rfl ?_
                      rw [HFin.out]
                      exact ⟨⟨fun _ => rfl, fun h => absurd h (by decide)⟩, HFZ.out⟩
                    · have d1 : decide (x1 < 0) = false := decide_eq_false a1
                      have d2 : decide ((n1 : Int) ≤ x1) = false := decide_eq_false a2
                      obtain ⟨a3a, a3b, a3c⟩ := cmpF_no a3
                      clear a3
                      have d4 : decide (x2 < 1) = false := decide_eq_false a4
                      have d5 : decide (60000 < x2) = true := decide_eq_true a5
                      have HFin := Lib.hid (ofE_bad2 (ins := ins) (del := del) (rep := rep) (s := s) (u := u) (i := j) (ks := ks) (cs := cs) (by have := HKL.out; omega) (by rw [L1.out, HKD.out, hxx]; exact HOK.out false HBAD.out))
                      have f9 : Fut wb (wx.alloc (.cells #[.int .i64 x1, .int .i64 x2] 53)).drew := HFA.out.drew
                      have i0 := (HCI.out.fut f9).c0
                      have i1 := (HCI.out.fut f9).c1
                      have i2 := (HCI.out.fut f9).c2
                      have i3 := (HCI.out.fut f9).fz 0
                      have i4 := (HCI.out.fut f9).fz 1
                      have i5 := (HCI.out.fut f9).fz 2
                      have HCZ := Lib.hid ((HCI.out.fut f9).sets (.slice none 0 0) (.slice none 0 0) (.int .i64 0))
                      have HFZ := Lib.hid (sets_fut (b := w.heap.size + 1) (HWW.out.trans f9) (by omega) (.slice none 0 0) (.slice none 0 0) (.int .i64 0))
                      clear f9
                      go_wp2_with fail
                      refine wp_region_M o_emendateref35_Of_13 (by kernel_rfl) (by kernel_rfl) (by intro c a d v w h; cases d <;> exact h) ?_; unfold o_emendateref35_Of_13
                      iterate 28 (refine wpF_h rfl rfl (fun K hK => ?_); go_simp; refine hK _ _ ?_; clear hK K)
                      refine wpF_nil ?_
                      clear w0 w1 w2
                      generalize (wx.alloc (.cells #[.int .i64 x1, .int .i64 x2] 53)).drew = wz at *
                      go_wp2_with fail
                      refine bodyPost_ret (res_cell2 rof_res _ _ (w.heap.size + 1) _ _ _ _ rfl HCZ.out Try.underlying25 rfl (by kernel_rfl)) rfl ?_
                      rw [HFin.out]
                      exact ⟨⟨fun _ => rfl, fun h => absurd h (by decide)⟩, HFZ.out⟩
      
                · have HA := Lib.hid (HOK.out true (all_take hall2.out (by omega)))
                  go_wp2_with fail
                  exact ⟨⟨j + 1, by omega, by go_num, Lib.hid (all_step hall.out (by rw [HKD.out, hxx]; exact HA.out)), Lib.hid (HFJ.out.trans hF2.out)⟩, by simp [intOf]; omega⟩
      
        · have HGD := Lib.hid (ofE_good (ins := ins) (ks := ks) (cs := cs) HPR.out (by rw [HCL.out, HKL.out]; exact HMN.out) (fun i hi => by rw [L1.out]; exact hall.out i (by have := HKL.out; omega)))
          have hjn : j = n := by omega
          by_cases h60 : 60 < n
          · obtain ⟨wx, rfl⟩ : ∃ q, q = wr := ⟨_, rfl⟩
            clear hjn
            have HFin := Lib.hid (show ofE ks cs ins del rep s u = 11 from by rw [HGD.out, if_pos (by have := HKL.out; omega)])
            have f9 : Fut wb wx := hF.out
            have i0 := (HCI.out.fut f9).c0
            have i1 := (HCI.out.fut f9).c1
            have i2 := (HCI.out.fut f9).c2
            have i3 := (HCI.out.fut f9).fz 0
            have i4 := (HCI.out.fut f9).fz 1
            have i5 := (HCI.out.fut f9).fz 2
            have HCZ := Lib.hid ((HCI.out.fut f9).sets (.slice none 0 0) (.slice none 0 0) (.int .i64 0))
            have HFZ := Lib.hid (sets_fut (b := w.heap.size + 1) (HWW.out.trans f9) (by omega) (.slice none 0 0) (.slice none 0 0) (.int .i64 0))
            clear f9
            go_wp2_with fail
            refine bodyPost_ret (res_cell2 rof_res _ _ (w.heap.size + 1) _ _ _ _ rfl HCZ.out Try.underlying25 rfl (by kernel_rfl)) rfl ?_
            rw [HFin.out]
            exact ⟨⟨fun _ => rfl, fun h => absurd h (by decide)⟩, HFZ.out⟩
      
          · have HG2 := Lib.hid (show ofE ks cs ins del rep s u = 0 from by rw [HGD.out, if_neg (by have := HKL.out; omega)])
            obtain ⟨wj, rfl⟩ : ∃ q, q = wr := ⟨_, rfl⟩
            have HALL := Lib.hid (show ∀ t, t < n → okT n1 (gi ks t) (cf cs t) = true from fun t ht => hall.out t (by omega))
            have HFJ := hF
            skip
            clear hjn hall hF HGD
            go_wp2_with fail
            go_loopw [12, 13] (fun lv i wr => ∃ (j : Nat) (cols : List CC), j ≤ n ∧ i = .int .i64 j ∧ cols.length = j ∧ Hid (cols.map key = (List.range j).map (fun i => keyT n1 rep del u (gi ks i) (cf cs i))) ∧ Hid (OwnC wr (w.heap.size + 1 + 1) lv cols) ∧ Hid (Fut wb wr)) (fun _ i _ => n - (intOf i).toNat)
            case atStart => exact ⟨0, [], Nat.zero_le _, rfl, rfl, Lib.hid rfl, Lib.hid (OwnC.nil _ _), HFJ⟩
            case round =>
              obtain ⟨j, cols, hj, rfl, hcol, hkey, hown, hF⟩ := hrel
              obtain ⟨va, vc, hlv, hrdc⟩ := hown.out.form
              subst hlv
              obtain ⟨wx, rfl⟩ : ∃ q, q = wr := ⟨_, rfl⟩
              clear HFJ hrdc
              replace hown := Lib.hid (show OwnC wx (w.heap.size + 1 + 1) (.slice va j vc) cols from by rw [← hcol]; exact hown.out)
              by_cases hlt : j < n
              · obtain ⟨kd, hkd⟩ := get_lt HKL.out hlt
                obtain ⟨b5, o5, rfl, e5⟩ := HZ0.out j kd hkd
                have HKD := Lib.hid (gi_get hkd)
                have e6 := (HWW.out.trans hF.out).cell e5
                have e5l := World.block_lt_of_cell? w _ e5
                simp only at e5l
                clear hkd e5
                have HRS := Lib.hid (prices_rows HPR.out)
                have HOX := Lib.hid (okT_xs (HALL.out j hlt))
                obtain ⟨rr, hr⟩ := get_lt HCL.out (show j < m by have := HMEQ.out; omega)
                obtain ⟨t3, o3, rfl, e3⟩ := HX0.out.1 j rr hr
                obtain ⟨hxr, hxl⟩ := HX0.out.2 rr (List.mem_of_getElem? hr)
                have e4 := e3 0 _ (by decide) rfl
                simp only [Nat.mul_one, Nat.add_zero] at e4
                have hxx := cf_get hr
                obtain ⟨xs, xA, xk⟩ := rr
                simp only at hxx hxl hxr e4
                have e8 := (HWW.out.trans hF.out).cell e4
                have HXP := Lib.hid (show RdS w xA 2 encP (cf cs j) ∧ (cf cs j).length ≤ maxLen ∧ (cf cs j).length = xs.length from by rw [hxx]; exact ⟨hxr, hxl, rfl⟩)
                clear hr e3 hxr hxx hxl e4
                have hjm : (0 : Int) < (m : Int) := by have := HMEQ.out; omega
                have hjm2 : (j : Int) < (m : Int) := by have := HMEQ.out; omega
                obtain ⟨S, hS⟩ : ∃ S : Nat → Bool, S = fun q => (Value.slice va j vc).ownBlock == some q := ⟨_, rfl⟩
                have hlow : ∀ q, S q = true → w.heap.size + 1 + 1 ≤ q := fun q hq => by
                  rw [hS] at hq
                  simp only [beq_iff_eq] at hq
                  exact (hown.out.lt q hq).1
                have s0 : S w.heap.size = false := bnot fun h => by have := hlow _ h; omega
                have s5 : S b5 = false := bnot fun h => by have := hlow _ h; omega
                have HSO := Lib.hid hS
                clear hS hlow
                obtain ⟨d2, o2, hw2⟩ := fut_of hF.out
                have y1 := HPS.out.1 d2 o2
                have y2 := HPS.out.2.1 d2 o2
                have y3 := HPS.out.2.2.1 d2 o2
                have y4 := HPS.out.2.2.2.1 d2 o2
                have y5 := HPS.out.2.2.2.2 d2 o2
                rw [← hw2] at y1 y2 y3 y4 y5
                clear hw2
                have r0 := cell_futS y1 s0
                have r1 := cell_futS y2 s0
                have r2 := cell_futS y3 s0
                have r3 := cell_futS y4 s0
                have r4 := cell_futS y5 s0
                have r5 := cell_futS e6 s5
                have HFW := Lib.hid (show Fut w wx from HWW.out.trans hF.out)
                go_wp2_with fail
                refine wp_region_MG (relS S) o_emendateref35_Of_24 (by kernel_rfl) (by kernel_rfl) (by intro c a d v w h; cases d <;> exact h) ?_; unfold o_emendateref35_Of_24
                iterate 7 (refine wpS_h rfl rfl (fun K hK => ?_); go_simp; refine hK _ _ ?_; clear hK K)
                refine wpG_o rfl rfl (fun K hK => ?_)
                go_simp
                go_at_call 31
                refine (rcolumn_any2 kd xA xs.length _ (cf cs j) A1 n1 c1 A2 n2 c2 A3 n3 c3 s u del rep _ (by have := HRS.out.1; have := L1.out; have := L2.out; omega) (by have := HRS.out.2.1; have := L1.out; have := L3.out; omega) (by have := HOX.out.1.1; rw [HKD.out] at this; exact this) (by have := HOX.out.1.2; rw [HKD.out] at this; exact this) b1 (by have := HRS.out.1; have := L1.out; omega) (by have := HRS.out.2.1; have := L1.out; omega) (by have := HRS.out.2.2; rw [L1.out] at this; exact this) (HOX.out.2) HXP.out.2.2 (by rw [← HXP.out.2.2]; exact HXP.out.2.1) ((HXP.out.1.fut HFW.out).fut (Fut.refl _).drew) ((R2.out.fut HFW.out).fut (Fut.refl _).drew) ((R3.out.fut HFW.out).fut (Fut.refl _).drew)).mono ?_
                rintro e w2 ⟨⟨RA, Rc, rfl, hrd, hfar⟩, hb1⟩
                have hf2 : Fut wx w2 := (Fut.refl wx).drew.trans hb1
                refine hK _ _ (.inr ((relS S).of_fut hb1)) ?_
                clear hK K
                have HRD := Lib.hid hrd
                have HFAR := Lib.hid hfar
                have HF2 := Lib.hid hf2
                clear hrd hfar hb1 hf2
                refine wpG_o rfl rfl (fun K hK => ?_)
                go_simp
                go_at_K
                refine hK _ _ (.inr ((relS S).of_fut ((Fut.refl _).alloc _))) ?_
                clear hK K
                refine wpG_o rfl rfl (fun K hK => ?_)
                have hoj : (w2.alloc (.cells #[.int .i64 kd, .slice RA n1 Rc, .int .i64 (delF kd del u)] 51)).ownsRow (w.heap.size + 1 + 1) 51 3 (.slice va j vc) j (cols.flatMap encC) := by
                  have h := ((hown.out.fut HF2.out).fut ((Fut.refl _).alloc (.cells #[.int .i64 kd, .slice RA n1 Rc, .int .i64 (delF kd del u)] 51))).own
                  rw [hcol] at h
                  exact h
                refine wp_append_lies _ (.tmp 123) (.tmp 131) 22 rfl (w.heap.size + 1 + 1) 51 ci _ 3 40 Try.underlying22 ca cz0 cz1 cz2 rfl (by decide) (.slice va j vc) j (cols.flatMap encC) rfl hoj ⟨w2.heap.size, 0, none⟩ 1 1 [.int .i64 kd, .slice RA n1 Rc, .int .i64 (delF kd del u)] rfl rfl ?c1 ?c2 (by decide) ?c3 ?c4 ?c5 (w2.heap.size + 1) ?c6 ?_
                case c1 => exact World.news_of_block (cs := #[.int .i64 kd, .slice RA n1 Rc, .int .i64 (delF kd del u)]) (heap_alloc_new _ _)
                case c2 => intro v hv; simp only [List.mem_cons, List.not_mem_nil, or_false] at hv; rcases hv with rfl | rfl | rfl <;> rfl
                case c3 => unfold maxLen; omega
                case c4 => omega
                case c5 => show _ ≤ (w2.alloc _).heap.size; rw [World.size_alloc]; have h1 := HF2.out.size; have h2 := hF.out.size; omega
                case c6 => show (w2.alloc _).heap.size = _; rw [World.size_alloc]
                intro g cap w3 hown2 hgr hg2 hlt2
                have hoa : OwnC (w2.alloc (.cells #[.int .i64 kd, .slice RA n1 Rc, .int .i64 (delF kd del u)] 51)) (w.heap.size + 1 + 1) (.slice va j vc) cols := (hown.out.fut HF2.out).fut ((Fut.refl _).alloc _)
                have hfs : FutS S (w2.alloc (.cells #[.int .i64 kd, .slice RA n1 Rc, .int .i64 (delF kd del u)] 51)) w3 := ⟨hgr.os, hgr.tape, hgr.output, hgr.size, fun q hq hs => hgr.block q hq (fun e => by rw [HSO.out] at hs; simp [← e] at hs)⟩
                refine hK _ _ (.inr hfs) ?_
                clear hK K
                have hrow : ((List.range n1).map (rowF kd rep (cf cs j))).length = n1 := by simp
                have HPU := Lib.hid (show OwnC w3 (w.heap.size + 1 + 1) (.slice (some ⟨g, 0, none⟩) (j + 1) cap) (cols ++ [(⟨kd, (List.range n1).map (rowF kd rep (cf cs j)), delF kd del u, RA, Rc⟩ : CC)]) from by
                  have hpu := hoa.push (cc := ⟨kd, (List.range n1).map (rowF kd rep (cf cs j)), delF kd del u, RA, Rc⟩) (by
                    have he : encC ⟨kd, (List.range n1).map (rowF kd rep (cf cs j)), delF kd del u, RA, Rc⟩ = [.int .i64 kd, .slice RA n1 Rc, .int .i64 (delF kd del u)] := by simp only [encC, hrow]
                    rw [he, hcol]
                    exact hown2) hgr (by rcases hg2 with h | h; exact .inl h; right; show _ = (w2.alloc _).heap.size; rw [World.size_alloc]; exact h) (HRD.out.fut ((Fut.refl _).alloc _)) (by show ((List.range n1).map (rowF kd rep (cf cs j))).length ≤ maxLen; rw [hrow]; unfold maxLen; omega) (fun b o q e => by
                      obtain ⟨h1, h2⟩ := HFAR.out b o q e
                      have h5 := hF.out.size
                      have h6 : wx.drew.heap.size = wx.heap.size := rfl
                      refine ⟨⟨by omega, by rw [World.size_alloc]; omega⟩, fun e2 => ?_⟩
                      have h3 := (hown.out.lt b e2).2
                      omega)
                  rw [hcol] at hpu
                  exact hpu)
                have HFN := Lib.hid (show Fut wb w3 from Below.grown ((hF.out.trans HF2.out).alloc (.cells #[.int .i64 kd, .slice RA n1 Rc, .int .i64 (delF kd del u)] 51)) hgr (by rw [World.size_alloc]; have h1 := HF2.out.size; have h2 := hF.out.size; omega) (fun q hq => by have h1 := (hown.out.lt q hq).1; omega))
                clear hown2 hgr hg2 hlt2 hoa hfs hoj
                (refine wpS_h rfl rfl (fun K hK => ?_); go_simp; refine hK _ _ ?_; clear hK K)
                refine wpG_nil ?_
                have HKN := Lib.hid (show (cols ++ [(⟨kd, (List.range n1).map (rowF kd rep (cf cs j)), delF kd del u, RA, Rc⟩ : CC)]).map key = (List.range (j + 1)).map (fun i => keyT n1 rep del u (gi ks i) (cf cs i)) from by
                  rw [List.map_append, hkey.out, List.range_succ, List.map_append]
                  simp only [List.map_cons, List.map_nil, key, keyT, HKD.out])
                have hcl2 : (cols ++ [(⟨kd, (List.range n1).map (rowF kd rep (cf cs j)), delF kd del u, RA, Rc⟩ : CC)]).length = j + 1 := by rw [List.length_append, hcol]; rfl
                clear y1 y2 y3 y4 y5 r0 r1 r2 r3 r4 r5 e6 hrow hkey
                go_wp2_with fail
                exact ⟨⟨j + 1, _, by omega, by go_num, hcl2, HKN, HPU, HFN⟩, by simp [intOf]; omega⟩
              · have hjn : j = n := by omega
                have HOWN := Lib.hid (show OwnC wx (w.heap.size + 1 + 1) (.slice va n vc) cols from by rw [← hjn]; exact hown.out)
                obtain ⟨d2, o2, hw2⟩ := fut_of hF.out
                have y1 := HPS.out.1 d2 o2
                have y4 := HPS.out.2.2.2.1 d2 o2
                rw [← hw2] at y1 y4
                clear hw2
                have y1' := cell_fut y1
                have y4' := cell_fut y4
                have HJN := Lib.hid hjn
                clear hown
                obtain ⟨S, hS⟩ : ∃ S : Nat → Bool, S = fun q => q == wx.heap.size || q == w.heap.size + 1 := ⟨_, rfl⟩
                have hwx := hF.out.size
                have s0 : S w.heap.size = false := by rw [hS]; simp; omega
                have HS1 := Lib.hid (show S (w.heap.size + 1) = true by rw [hS]; simp)
                have HS2 := Lib.hid (show S wx.heap.size = true by rw [hS]; simp)
                clear hS
                have r1 := cell_futS y1 s0
                have r4 := cell_futS y4 s0
                have HFW := Lib.hid (show Fut w wx from HWW.out.trans hF.out)
                clear y1' y4'
                go_wp2_with fail
                refine wp_region_MG (relS S) o_emendateref35_Of_25 (by kernel_rfl) (by kernel_rfl) (by intro c a d v w h; cases d <;> exact h) ?_; unfold o_emendateref35_Of_25
                iterate 5 (refine wpS_h rfl rfl (fun K hK => ?_); go_simp; refine hK _ _ ?_; clear hK K)
                refine wpG_o rfl rfl (fun K hK => ?_)
                go_simp
                go_at_K
                refine hK _ _ (.inr ((relS S).of_fut ((Fut.refl _).alloc _))) ?_
                clear hK K
                refine wpG_o rfl rfl (fun K hK => ?_)
                have hme : (wx.alloc (.cells #[] 3)).drew.ownsRow wx.heap.size 3 1 (.slice (some ⟨wx.heap.size, 0, none⟩) 0 0) 0 ([].map (Value.int .i64 ·)) := made_empty wx
                refine wp_append_ints (.tmp 134) (.tmp 136) rfl wx.heap.size _ rfl hme A1 n1 c1 ins rfl L1.out b1 HNL.out ((R1.out.fut HFW.out).fut (((Fut.refl wx).alloc _).drew)) (by show _ ≤ (wx.alloc _).heap.size; rw [World.size_alloc]; exact Nat.le_succ _) ?_
                intro v3 w3 hown3 hgr
                have hfs : FutS S (wx.alloc (.cells #[] 3)).drew w3 := ⟨hgr.os, hgr.tape, hgr.output, hgr.size, fun q hq hs => hgr.block q hq (fun e => by
                  have e2 : some q = some wx.heap.size := e
                  rw [Option.some.inj e2, HS2.out] at hs
                  cases hs)⟩
                refine hK _ _ (.inr hfs) ?_
                clear hK K
                have f9 : Fut wb w3 := Below.grown ((hF.out.alloc (.cells #[] 3)).drew) hgr (by show _ ≤ (wx.alloc _).heap.size; rw [World.size_alloc]; omega) (fun q hq => by have e2 : some wx.heap.size = some q := hq; have e3 := Option.some.inj e2; omega)
                have fx : Fut wx w3 := Below.grown (((Fut.refl wx).alloc (.cells #[] 3)).drew) hgr (by show _ ≤ (wx.alloc _).heap.size; rw [World.size_alloc]; exact Nat.le_succ _) (fun q hq => by have e2 : some wx.heap.size = some q := hq; have e3 := Option.some.inj e2; omega)
                have hv3 : ∃ B d, v3 = .slice B n1 d := by
                  rcases hown3.2 with ⟨h, h0⟩ | ⟨g, cap, cur, h, _⟩
                  · exact ⟨none, 0, by rw [h, h0]⟩
                  · exact ⟨_, _, h⟩
                obtain ⟨VB, Vd, rfl⟩ := hv3
                have HVR := Lib.hid (show Rd1 w3 VB (.int .i64 ·) ins from Rd1.of_own hown3)
                have i0 := (HCI.out.fut f9).c0
                have i1 := (HCI.out.fut f9).c1
                have i2 := (HCI.out.fut f9).c2
                have i3 := (HCI.out.fut f9).fz 0
                have i4 := (HCI.out.fut f9).fz 1
                have i5 := (HCI.out.fut f9).fz 2
                have HCZ := Lib.hid ((HCI.out.fut f9).sets (.slice va n vc) (.slice VB n1 Vd) (.int .i64 s))
                have HFZ := Lib.hid (sets_fut (b := w.heap.size + 1) (HWW.out.trans f9) (by omega) (.slice va n vc) (.slice VB n1 Vd) (.int .i64 s))
                have HRC := Lib.hid ((HOWN.out.fut fx).sets (b := w.heap.size + 1) (by omega) (.slice va n vc) (.slice VB n1 Vd) (.int .i64 s))
                have HVZ := Lib.hid (show Rd1 (((w3.setCell ⟨w.heap.size + 1, 0, none⟩ (.slice va n vc)).setCell ⟨w.heap.size + 1, 1, none⟩ (.slice VB n1 Vd)).setCell ⟨w.heap.size + 1, 2, none⟩ (.int .i64 s)) VB (.int .i64 ·) ins from by
                  intro i y hy
                  obtain ⟨b, o, e, hc⟩ := HVR.out i y hy
                  refine ⟨b, o, e, ?_⟩
                  have hbl : wx.heap.size ≤ b := by
                    rcases hown3.2 with ⟨h, h0⟩ | ⟨g, cap, cur, h, hg, _⟩
                    · injection h with h _ _; rw [h] at e; cases e
                    · injection h with h _ _
                      rw [h] at e
                      injection e with e
                      injection e with e _ _
                      omega
                  rw [World.cell?_of_block (blk_setCell_other _ _ _ _ (by simp only; omega)), World.cell?_of_block (blk_setCell_other _ _ _ _ (by simp only; omega)), World.cell?_of_block (blk_setCell_other _ _ _ _ (by simp only; omega))]
                  exact hc)
                clear hown3 hgr hfs f9 fx HVR hme
                (refine wpS_h rfl rfl (fun K hK => ?_); go_simp; refine hK _ _ ?_; clear hK K)
                refine wpG_o rfl rfl (fun K hK => ?_)
                go_simp
                refine hK _ _ (.inr ((relS S).trans (futS_set _ _ _ HS1.out) ((relS S).trans (futS_set _ _ _ HS1.out) (futS_set _ _ _ HS1.out)))) ?_
                clear hK K
                (refine wpS_h rfl rfl (fun K hK => ?_); go_simp; refine hK _ _ ?_; clear hK K)
                refine wpG_nil ?_
                go_wp2_with fail
                refine bodyPost_ret (res_cell2 rof_res _ _ (w.heap.size + 1) _ _ _ _ rfl HCZ.out Try.underlying25 rfl (by kernel_rfl)) rfl ?_
                rw [HG2.out]
                obtain ⟨va2, vc2, hv2, hrd2⟩ := HRC.out.form
                injection hv2 with e1 e2 e3
                subst e1
                refine ⟨⟨fun h => absurd rfl h, fun _ => ⟨va, vc, VB, Vd, cols, rfl, ?_, hrd2, HVZ.out⟩⟩, HFZ.out⟩
                rw [hkey.out, HJN.out]
                unfold ofK
                rw [HKL.out]
      
  · have HFin := Lib.hid (ofE_bad1 (ks := ks) (cs := cs) (ins := ins) (del := del) (rep := rep) (s := s) (u := u) (by rw [HCL.out, HKL.out]; exact hP))
    have hor : pricesB ins del rep s u = false ∨ (pricesB ins del rep s u = true ∧ ¬ (m : Int) = 0 ∧ ¬ (m : Int) = (n : Int)) := by
      cases hpr : pricesB ins del rep s u with
      | false => exact .inl rfl
      | true =>
        refine .inr ⟨rfl, fun e => hP ⟨hpr, .inl (by omega)⟩, fun e => hP ⟨hpr, .inr (by omega)⟩⟩
    have HPB := Lib.hid (fun w' f1 f2 f3 => rPrices_any A1 n1 c1 A2 n2 c2 A3 n3 c3 s u ins del rep w' L1.out L2.out L3.out (by unfold maxLen; omega) HB2.out HB3.out f1 f2 f3)
    have HCA := Lib.hid (fun dd os => HCI.out.fut (Fut.fut ((w.alloc (.cells #[.slice A1 n1 c1, .slice A2 n2 c2, .slice A3 n3 c3, .int .i64 s, .int .i64 u] 34)).alloc (.cells #[.slice none 0 0, .slice none 0 0, .int .i64 0] 25)) dd os))
    have i0 := fun dd os => (HCA.out dd os).c0
    have i1 := fun dd os => (HCA.out dd os).c1
    have i2 := fun dd os => (HCA.out dd os).c2
    have i3 := fun dd os => (HCA.out dd os).fz 0
    have i4 := fun dd os => (HCA.out dd os).fz 1
    have i5 := fun dd os => (HCA.out dd os).fz 2
    clear hP
    rcases hor with hpr | ⟨hpr, hm0, hmn⟩
    all_goals
      rw [hpr] at HPB
      clear hpr
      try (have gg := cmpF_no hm0; have gh := cmpF_no hmn; obtain ⟨g1, g2, g5⟩ := gg; obtain ⟨g3, g4, g6⟩ := gh; clear hmn hm0)
      go_enter Try.func16, Try.ntmps16
      go_wp2_with (go_at_call 30; refine (HPB.out _ (R1.out.fut HWW.out) (R2.out.fut HWW.out) (R3.out.fut HWW.out)).mono ?_; rintro e w1 ⟨rfl, hb1⟩; obtain ⟨dd, oo, rfl⟩ := fut_of hb1; clear hb1)
      have HCZ := Lib.hid ((HCA.out dd oo).sets (.slice none 0 0) (.slice none 0 0) (.int .i64 0))
      have HFZ := Lib.hid (sets_fut (b := w.heap.size + 1) (HWW.out.trans (Fut.fut ((w.alloc (.cells #[.slice A1 n1 c1, .slice A2 n2 c2, .slice A3 n3 c3, .int .i64 s, .int .i64 u] 34)).alloc (.cells #[.slice none 0 0, .slice none 0 0, .int .i64 0] 25)) dd oo)) (by omega) (.slice none 0 0) (.slice none 0 0) (.int .i64 0))
      refine bodyPost_ret (res_cell2 rof_res _ _ (w.heap.size + 1) _ _ _ _ rfl HCZ.out Try.underlying25 rfl (by kernel_rfl)) rfl ?_
      rw [HFin.out]
      exact ⟨⟨fun _ => rfl, fun h => absurd h (by decide)⟩, HFZ.out⟩
end Go.Proofs.Ytagmpbgidooibaa
