/-
  What the law calls with closed arguments: contracts.
-/
import Derived.Test.YtlgpacpebjechaaGreatDoorCkawake
import Derived.Test.YtlgpacpebjechaaGreatDoorCkwords
import Derived.Test.YtlgpacpebjechaaGreatDoorLx3
import Derived.Test.YtlgpacpebjechaaGreatDoorPda4
namespace Go.Proofs.YtlgpacpebjechaaGreatDoor
open Go.RowKit Go.Deep Ev
/-- the one variable holds what the program laid there -/
def GW (w : World) : Prop := ∃ cs ty fr, w.heap[0]? = some (.cells cs ty fr) ∧ cs.size = 3 ∧ cs[0]? = some (.string (bs [110, 101, 119, 108, 105, 110, 101])) ∧ cs[1]? = some (.string (bs [105, 110, 100, 101, 110, 116])) ∧ cs[2]? = some (.string (bs [100, 101, 100, 101, 110, 116]))
theorem GW.pos {w : World} (h : GW w) : 0 < w.heap.size := by
  obtain ⟨cs, ty, fr, h, _⟩ := h
  exact (Array.getElem?_eq_some_iff.1 h).1
theorem GW.fut {w w' : World} (h : GW w) (hf : Fut w w') : GW w' := by
  have hp := h.pos
  obtain ⟨cs, ty, fr, h, rest⟩ := h
  exact ⟨cs, ty, fr, (hf.block 0 hp).trans h, rest⟩
def sg0 : Sg := ⟨fun b => if b.num = 0 then some (0, 0) else none, 0⟩
theorem GW.hr {w : World} (h : GW w) {N : Nat} (h0 : 0 < N) (hN : N ≤ w.heap.size) : HR sg0 N (litH []) w := by
  obtain ⟨cs, ty, fr, hb, hs, c0, c1, c2⟩ := h
  have hown : ∀ b, ownB (hget (litH []) b) = true → False := fun b hb => by
    obtain ⟨h1, h2⟩ := litH_own hb
    simp only [List.length_nil] at h2; omega
  refine ⟨hN, rfl, h0, fun b => ?_, fun b b' g q q' h1 => (hown b h1).elim, fun p hp => ?_⟩
  · rcases litH_cases [] b with ⟨rfl, e⟩ | ⟨p, h1, h2, _, _⟩ | ⟨_, e⟩
    · rw [e]
      refine ⟨0, 0, cs, ty, fr, rfl, h0, hb, laid_rows (p := gls) (by rw [hs]; exact Nat.le_refl _) (fun j a hj => ?_)⟩
      have hlt := (List.getElem?_eq_some_iff.1 hj).1
      have hlt : j < 3 := hlt
      rcases (by omega : j = 0 ∨ j = 1 ∨ j = 2) with rfl | rfl | rfl
      · have : a = .str [110, 101, 119, 108, 105, 110, 101] := by injection hj with hj; exact hj.symm
        subst this; exact ⟨_, c0, .str _ (by decide)⟩
      · have : a = .str [105, 110, 100, 101, 110, 116] := by injection hj with hj; exact hj.symm
        subst this; exact ⟨_, c1, .str _ (by decide)⟩
      · have : a = .str [100, 101, 100, 101, 110, 116] := by injection hj with hj; exact hj.symm
        subst this; exact ⟨_, c2, .str _ (by decide)⟩
    · simp only [List.length_nil] at h2; omega
    · rw [e]; exact trivial
  · have hp : (litH []).n.num ≤ p.num := hp
    rw [litH_n] at hp
    show (if p.num = 0 then _ else none) = none
    rw [if_neg (by omega)]
theorem awake_any {w : World} (h : GW w) : Calls Tryz.prog 5 #[] w fun e w' => e = .returned (.bool true) ∧ Fut w w' := by
  refine (awake_chunk.trans.calls sg0 w.heap.size [] w (h.hr h.pos (Nat.le_refl _)) .nil).mono ?_
  rintro e w' ⟨σ', u, hr', hf, _, hu, rfl⟩
  have hu : R σ' (.bool true) u := hu
  exact ⟨by rw [R_bool hu], hf.below (h.hr h.pos (Nat.le_refl _))⟩
abbrev spv (gd cd : Nat) : Value := .agg #[.slice (some ⟨gd, 0, none⟩) 4 cd, .bool false, .int .i64 0, .int .i64 0]
theorem spec_form {σ : Sg} {v : Value} (hv : Rs σ compileA [v]) : ∃ gd cd, v = spv gd cd ∧ ∃ q, σ.blk (qP 1) = some (gd, q) := by
  have hv : Rs σ [.agg [.slice (qP 1) 0 4 0, .bool false, .int .i64 0, .int .i64 0]] [v] := hv
  cases hv with
  | cons _ _ _ _ hv1 hv2 =>
    obtain ⟨sp, k1, rfl⟩ := R_agg hv1
    cases k1 with
    | cons _ s0 _ _ k2 k3 => cases k3 with
      | cons _ s1 _ _ k3 k4 => cases k4 with
        | cons _ s2 _ _ k4 k5 => cases k5 with
          | cons _ s3 _ _ k5 k6 =>
            cases k6
            obtain ⟨gd, qd, ed, rfl⟩ := R_slice k2
            have := R_bool k3
            have := R_int k4
            have := R_int k5
            subst_vars
            exact ⟨gd, qd - 0, rfl, qd, ed⟩
theorem words_any {w : World} (h : GW w) : Calls Tryz.prog 6 #[] w fun e w' => ∃ gd cd σ, e = .returned (spv gd cd) ∧ HR σ w.heap.size (litH compileL) w' ∧ Rs σ compileA [spv gd cd] ∧ Fut w w' := by
  refine (words_chunk.trans.calls sg0 w.heap.size [] w (h.hr h.pos (Nat.le_refl _)) .nil).mono ?_
  rintro e w' ⟨σ', u, hr', hf, _, hu, rfl⟩
  have h1 : Rs σ' compileA [u] := .cons _ _ _ _ hu .nil
  obtain ⟨gd, cd, rfl, _⟩ := spec_form h1
  exact ⟨gd, cd, σ', rfl, hr', h1, hf.below (h.hr h.pos (Nat.le_refl _))⟩
theorem num_qP {n : Nat} (h : n < 1048576) : (qP n).num = n := num_paB 20 n h
/-- a row of the given memory, by its number -/
theorem lit_row {σ : Sg} {N : Nat} {w : World} {l : List LR} (hr : HR σ N (litH l) w) (hs : ∀ p ∈ l, p.2.length ≤ 10000) {n : Nat} (h0 : n ≠ 0) (hn : n < 1000) {p : LR} (hp : l[n - 1]? = some p) :
    ∃ g q, σ.blk (qP n) = some (g, q) ∧ ∀ (j : Nat) (a : AV), p.2[j]? = some a → ∃ u, w.cell? ⟨g, j, none⟩ = some u ∧ R σ a u := by
  have hnum := num_qP (n := n) (by omega)
  obtain ⟨g, q, cs, ty, h1, _, h3, _, _, h6⟩ := hr.lit hs (b := qP n) (by omega) (by rw [hnum]; exact hp)
  refine ⟨g, q, h1, fun j a hj => ?_⟩
  obtain ⟨u, h7, h8⟩ := h6 j a hj
  exact ⟨u, (cell_of_row w g j cs ty _ h3).trans h7, h8⟩
/-- a row of numbers -/
theorem lit_ints {σ : Sg} {N : Nat} {w : World} {l : List LR} (hr : HR σ N (litH l) w) (hs : ∀ p ∈ l, p.2.length ≤ 10000) {n : Nat} (h0 : n ≠ 0) (hn : n < 1000) {zs : List Int} (hp : (l[n - 1]?).map (·.2) = some (zs.map (AV.int .i64))) :
    ∃ g q, σ.blk (qP n) = some (g, q) ∧ ∀ (j : Nat) (z : Int), zs[j]? = some z → w.cell? ⟨g, j, none⟩ = some (.int .i64 z) := by
  obtain ⟨p, hp1, hp2⟩ := Option.map_eq_some_iff.1 hp
  obtain ⟨g, q, h1, h2⟩ := lit_row hr hs h0 hn hp1
  refine ⟨g, q, h1, fun j z hz => ?_⟩
  obtain ⟨u, h3, h4⟩ := h2 j (.int .i64 z) (by rw [hp2, List.getElem?_map, hz]; rfl)
  rw [h3, R_int h4]
def D0 : DA := ⟨7, 8, clsF, nxtF, accF⟩
theorem D0_ok : D0.OK := by
  refine ⟨⟨by decide, by decide⟩, ⟨by decide, by decide⟩, fun b hb => ?_, fun q c hq hc => ?_, fun q hq => ?_⟩
  · have h : ((List.range 256).all fun b => decide (clsF b < 7)) = true := by kernel_rfl
    exact of_decide_eq_true (List.all_eq_true.1 h b (List.mem_range.2 hb))
  · have h : ((List.range 8).all fun q => (List.range 7).all fun c => decide (-1 ≤ nxtF q c ∧ nxtF q c < (8 : Nat))) = true := by kernel_rfl
    exact of_decide_eq_true (List.all_eq_true.1 (List.all_eq_true.1 h q (List.mem_range.2 hq)) c (List.mem_range.2 hc))
  · have h : ((List.range 8).all fun q => decide (-1 ≤ accF q ∧ accF q ≤ 1000)) = true := by kernel_rfl
    exact of_decide_eq_true (List.all_eq_true.1 h q (List.mem_range.2 hq))
noncomputable abbrev cL : List LR := compileL ++ compileN
theorem cL_cls : (cL[2 - 1]?).map (·.2) = some ((cT.map fun (n : Nat) => (n : Int)).map (AV.int .i64)) := by kernel_rfl
theorem cL_acc : (cL[12 - 1]?).map (·.2) = some (aT.map (AV.int .i64)) := by kernel_rfl
theorem cL_nxt : (cL[11 - 1]?).map (·.2) = some ((List.range 8).map fun q => .slice (qP (3 + q)) 0 7 0) := by kernel_rfl
theorem cL_row : ∀ q, q < 8 → (cL[3 + q - 1]?).map (·.2) = some ((xT.getD q []).map (AV.int .i64))
  | 0, _ => by kernel_rfl
  | 1, _ => by kernel_rfl
  | 2, _ => by kernel_rfl
  | 3, _ => by kernel_rfl
  | 4, _ => by kernel_rfl
  | 5, _ => by kernel_rfl
  | 6, _ => by kernel_rfl
  | 7, _ => by kernel_rfl
  | q + 8, h => absurd h (by omega)
theorem tab_len : cT.length = 256 ∧ aT.length = 8 ∧ ∀ q, q < 8 → (xT.getD q []).length = 7 := by
  refine ⟨by kernel_rfl, by kernel_rfl, fun q hq => ?_⟩
  have h : ((List.range 8).all fun q => (xT.getD q []).length == 7) = true := by kernel_rfl
  exact eq_of_beq (List.all_eq_true.1 h q (List.mem_range.2 hq))
theorem getD_some {α : Type} {l : List α} {j : Nat} {d : α} (h : j < l.length) : l[j]? = some (l.getD j d) := by
  rw [List.getD_eq_getElem?_getD, List.getElem?_eq_getElem h]; rfl
/-- the four patterns -/
def pat (k : Nat) : List Nat := match k with | 0 => [105, 102] | 1 => [91, 97, 45, 122, 93, 43] | 2 => [91, 48, 45, 57, 93, 43, 40, 92, 46, 91, 48, 45, 57, 93, 43, 41, 63] | _ => [32, 43]
theorem cL_pat : ∀ k, k < 4 → ((cL[1 - 1]?).bind fun p => p.2[5 * k + 2]?) = some (.str (pat k))
  | 0, _ => by kernel_rfl
  | 1, _ => by kernel_rfl
  | 2, _ => by kernel_rfl
  | 3, _ => by kernel_rfl
  | k + 4, h => absurd h (by omega)
/-- what Compile leaves: the specification, the automaton -/
theorem compile_any {w2 w : World} {σ : Sg} {N : Nat} {gd cd : Nat} (hr2 : HR σ N (litH compileL) w2) (hf2 : Fut w2 w) (hv : Rs σ compileA [spv gd cd]) :
    Calls Tryz.prog 7 #[spv gd cd] w fun e w' => ∃ (p : DP), e = .returned (.tuple #[dval p 8, .int .i64 0]) ∧
      (∀ k, k < 4 → w'.cell? ⟨gd, 5 * k + 2, none⟩ = some (.string (bs (pat k)))) ∧ RdA w' p D0 ∧ FutS (fun k => decide (N ≤ k) && decide (k < w2.heap.size)) w w' := by
  have hr := (hr2.grow hf2.os hf2.tape hf2.output hf2.size (fun g hg => hf2.block g hg)).hr
  refine (compile_chunk.trans.calls σ N [spv gd cd] w hr hv).mono ?_
  rintro e w' ⟨σ', u, hr', hf, hst, hu, rfl⟩
  have hs := compile_chunk.short
  have hu : R σ' (.tup [.agg [.slice (qP 2) 0 256 0, .slice (qP 11) 0 8 0, .slice (qP 12) 0 8 0], .int .i64 0]) u := hu
  obtain ⟨us, h1, rfl⟩ := R_tup hu
  cases h1 with
  | cons _ ud _ _ h2 h3 => cases h3 with
    | cons _ ue _ _ h3 h4 =>
      cases h4
      obtain ⟨ds, h5, rfl⟩ := R_agg h2
      cases h5 with
      | cons _ uC _ _ h6 h7 => cases h7 with
        | cons _ uN _ _ h7 h8 => cases h8 with
          | cons _ uA _ _ h8 h9 =>
            cases h9
            obtain ⟨gC, qC, eC, rfl⟩ := R_slice h6
            obtain ⟨gN, qN, eN, rfl⟩ := R_slice h7
            obtain ⟨gA, qA, eA, rfl⟩ := R_slice h8
            have he := R_int h3
            subst he
            obtain ⟨gd', cd', e0, qd, ed⟩ := spec_form hv
            obtain rfl : gd = gd' := by simp at e0; exact e0.1
            clear e0
            refine ⟨⟨gC, qC - 0, gN, qN - 0, gA, qA - 0⟩, rfl, fun k hk => ?_, ⟨fun b hb => ?_, fun q hq => ?_, fun q hq => ?_⟩, ⟨hf.os, hf.tape, hf.output, hf.size, fun k hk hS => hf.frame k hk (fun b q ho e => by
              have := hr2.own_ge ho e
              simp only [this.1, this.2, decide_true, Bool.and_self] at hS
              cases hS)⟩⟩
            · obtain ⟨p, hp, hp2⟩ := Option.bind_eq_some_iff.1 (cL_pat k hk)
              obtain ⟨g, q, e1, e2⟩ := lit_row hr' hs (n := 1) (by decide) (by decide) hp
              rw [hst (qP 1) (by rw [num_qP (by decide)]; decide), ed] at e1
              injection e1 with e1; injection e1 with e1 _; subst e1
              obtain ⟨us, e3, e4⟩ := e2 _ _ hp2
              rw [e3, (R_str e4).1]
            · obtain ⟨g, q, e1, e2⟩ := lit_ints hr' hs (n := 2) (by decide) (by decide) cL_cls
              rw [eC] at e1
              injection e1 with e1; injection e1 with e1 _; subst e1
              exact e2 b _ (by rw [List.getElem?_map, getD_some (d := 0) (by rw [tab_len.1]; exact hb)]; rfl)
            · obtain ⟨p, hp, hp2⟩ := Option.map_eq_some_iff.1 cL_nxt
              obtain ⟨g, q1, e1, e2⟩ := lit_row hr' hs (n := 11) (by decide) (by decide) hp
              rw [eN] at e1
              injection e1 with e1; injection e1 with e1 _; subst e1
              have hq8 : q < 8 := hq
              obtain ⟨u, e3, e4⟩ := e2 q (.slice (qP (3 + q)) 0 7 0) (by rw [hp2, List.getElem?_map, List.getElem?_range hq8]; rfl)
              obtain ⟨gr, qr, e5, rfl⟩ := R_slice e4
              obtain ⟨g3, q3, e6, e7⟩ := lit_ints hr' hs (n := 3 + q) (by omega) (by omega) (cL_row q hq8)
              rw [e5] at e6
              injection e6 with e6; injection e6 with e6 _; subst e6
              exact ⟨gr, qr - 0, e3, fun c hc => e7 c _ (getD_some (d := -1) (by rw [tab_len.2.2 q hq8]; exact hc))⟩
            · obtain ⟨g, q1, e1, e2⟩ := lit_ints hr' hs (n := 12) (by decide) (by decide) cL_acc
              rw [eA] at e1
              injection e1 with e1; injection e1 with e1 _; subst e1
              exact e2 q _ (getD_some (d := -1) (by rw [tab_len.2.1]; exact hq))
end Go.Proofs.YtlgpacpebjechaaGreatDoor
