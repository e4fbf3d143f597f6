/-
  The column of a token, as the program has it.
-/
import Derived.Test.YtagmpbgidooibaaC10
namespace Go.Proofs.Ytagmpbgidooibaa
open Go.RowKit Go.Deep
attribute [local go_sem] Oper.lit Oper.litS fut_fut fut_drew World.cell?_alloc_some
def r0 (kd : Int) (rep : List RR) (k : Nat) : Int := if 0 ≤ kd then gi (gr rep kd.toNat) k else -1
def stF (f : Nat → Int) (p : Int × Int) : Nat → Int := if f p.1.toNat = -1 ∨ p.2 < f p.1.toNat then upd f p.1.toNat p.2 else f
def rowF (kd : Int) (rep : List RR) (xs : List (Int × Int)) : Nat → Int := xs.foldl stF (r0 kd rep)
def delF (kd : Int) (del : List Int) (u : Int) : Int := if 0 ≤ kd then gi del kd.toNat else u
theorem row_rp {w : World} {g T : Nat} (h : w.heap[g]? = some (.cells (rp T T).toArray 3 (0, 0))) : RowA w g T (fun _ => -1) := by
  refine ⟨T, fun _ => .int .i64 (-1), Nat.le_refl _, ⟨_, h, by rw [List.size_toArray, rp_len T T (Nat.le_refl _)], fun i hi => ?_⟩, fun i _ => rfl⟩
  rw [List.getElem?_toArray]
  exact rp_get T T i hi
theorem fold_step {α β : Type} (F : β → α → β) (a : β) (l : List α) (j : Nat) (x : α) (h : l[j]? = some x) : (l.take (j + 1)).foldl F a = F ((l.take j).foldl F a) x := by
  rw [List.take_add_one, h]; simp
theorem fold_all {α β : Type} (F : β → α → β) (a : β) (l : List α) (j : Nat) (h : l.length ≤ j) : (l.take j).foldl F a = l.foldl F a := by rw [List.take_of_length_le h]
theorem stF_low {T : Nat} {f : Nat → Int} {p : Int × Int} (h : ∀ k, k < T → -1 ≤ f k) (hp : 1 ≤ p.2) : ∀ k, k < T → -1 ≤ stF f p k := by
  intro k hk
  unfold stF upd
  split
  · show -1 ≤ if k = p.1.toNat then p.2 else f k
    split
    · omega
    · exact h k hk
  · exact h k hk
theorem heap_new' (w : World) (o : Obj) (b : Nat) (h : b = w.heap.size) : (w.alloc o).heap[b]? = some o := by subst h; exact heap_alloc_new _ _
theorem block_set (w : World) (b i : Nat) (cs : Array Value) (t : TypeId) (v : Value) (h : w.heap[b]? = some (.cells cs t (0, 0))) : (w.setCell ⟨b, i, none⟩ v).heap[b]? = some (.cells (cs.setIfInBounds i v) t (0, 0)) := by
  simp [World.setCell, Array.getElem?_modify, h]
theorem futS_set {S : Nat → Bool} (w : World) (a : Addr) (v : Value) (h : S a.block = true) : FutS S w (w.setCell a v) :=
  ⟨rfl, rfl, rfl, by simp [World.setCell], fun k _ hk => blk_setCell_other _ _ _ _ (fun e => by rw [e, h] at hk; cases hk)⟩
theorem col_res : Try.f29.results = #[.cell 6 51] := by kernel_rfl
/-- a block that holds a column -/
def Cel (w : World) (b : Nat) (v0 v1 v2 : Value) : Prop := w.heap[b]? = some (.cells #[v0, v1, v2] 51 (0, 0))
section
variable {w w' : World} {b : Nat} {v0 v1 v2 : Value}
theorem Cel.c0 (h : Cel w b v0 v1 v2) : w.cell? ⟨b, 0, none⟩ = some v0 := cell_of_row w b 0 _ _ _ h
theorem Cel.c1 (h : Cel w b v0 v1 v2) : w.cell? ⟨b, 1, none⟩ = some v1 := cell_of_row w b 1 _ _ _ h
theorem Cel.c2 (h : Cel w b v0 v1 v2) : w.cell? ⟨b, 2, none⟩ = some v2 := cell_of_row w b 2 _ _ _ h
theorem Cel.fz (h : Cel w b v0 v1 v2) (i : Nat) : w.frozen? ⟨b, i, none⟩ = false := by unfold World.frozen?; rw [h]; simp
theorem Cel.lt (h : Cel w b v0 v1 v2) : b < w.heap.size := (Array.getElem?_eq_some_iff.1 h).1
theorem Cel.fut (h : Cel w b v0 v1 v2) (hf : Fut w w') : Cel w' b v0 v1 v2 := (hf.block b h.lt).trans h
theorem Cel.set0 (h : Cel w b v0 v1 v2) (v : Value) : Cel (w.setCell ⟨b, 0, none⟩ v) b v v1 v2 := block_set w b 0 _ _ v h
theorem Cel.set1 (h : Cel w b v0 v1 v2) (v : Value) : Cel (w.setCell ⟨b, 1, none⟩ v) b v0 v v2 := block_set w b 1 _ _ v h
theorem Cel.set2 (h : Cel w b v0 v1 v2) (v : Value) : Cel (w.setCell ⟨b, 2, none⟩ v) b v0 v1 v := block_set w b 2 _ _ v h
theorem Cel.setOther (h : Cel w b v0 v1 v2) {a : Addr} (ha : b ≠ a.block) (v : Value) : Cel (w.setCell a v) b v0 v1 v2 := (blk_setCell_other _ _ _ _ ha).trans h
end
set_option maxHeartbeats 6400000 in
set_option maxRecDepth 4000 in
theorem column_any (kd : Int) (X : Option Addr) (xn xc : Nat) (xs : List (Int × Int)) (A1 : Option Addr) (n1 c1 : Nat) (A2 : Option Addr) (c2 : Nat) (A3 : Option Addr) (c3 : Nat) (s u : Int) (del : List Int) (rep : List RR) (w : World)
    (hk1 : -1 ≤ kd) (hk2 : kd < n1) (hn : n1 ≤ 1000) (h2 : del.length = n1) (h3 : rep.length = n1) (hrows : ∀ r ∈ rep, r.l.length = n1 ∧ ∀ x ∈ r.l, -1 ≤ x) (hx : ∀ p ∈ xs, 0 ≤ p.1 ∧ p.1 < n1 ∧ 1 ≤ p.2) (hxl : xs.length = xn) (hxn : xn ≤ maxLen) (hX : RdS w X 2 encP xs) (r2 : Rd1 w A2 (.int .i64 ·) del) (r3 : RdR w A3 rep) :
    Calls Try.prog 29 #[.int .i64 kd, .slice X xn xc, pv A1 n1 c1 A2 n1 c2 A3 n1 c3 s u] w fun e w' => (∃ A c, e = .returned (.agg #[.int .i64 kd, .slice A n1 c, .int .i64 (delF kd del u)]) ∧ Rd1 w' A (.int .i64 ·) ((List.range n1).map (rowF kd rep xs)) ∧ ∀ b o q, A = some ⟨b, o, q⟩ → w.heap.size ≤ b ∧ b < w'.heap.size) ∧ Below w.heap.size w w' := by
  have k1 : n1 ≤ 9223372036854775807 := by omega
  have k3 : xn ≤ 9223372036854775807 := hxn
  have HW := Lib.hid ((Fut.refl w).alloc (.cells #[.slice A1 n1 c1, .slice A2 n1 c2, .slice A3 n1 c3, .int .i64 s, .int .i64 u] 34))
  have L2 := Lib.hid h2
  have L3 := Lib.hid h3
  have R2 := Lib.hid r2
  have R3 := Lib.hid r3
  have HXS := Lib.hid hX
  have HXL := Lib.hid hxl
  have HXC := Lib.hid hx
  have HRW := Lib.hid hrows
  clear r2 r3 hX h2 h3 hxl hxn hx hrows
  by_cases hk : 0 ≤ kd
  · obtain ⟨kn, rfl⟩ : ∃ q : Nat, kd = q := Int.eq_ofNat_of_zero_le hk
    have hkn : kn < n1 := by omega
    obtain ⟨y, hy⟩ := get_lt L2.out hkn
    obtain ⟨rr, hr⟩ := get_lt L3.out hkn
    obtain ⟨t2, o2, rfl, e2⟩ := R2.out kn y hy
    obtain ⟨t3, o3, rfl, e3⟩ := R3.out.1 kn rr hr
    obtain ⟨rd, rl⟩ := R3.out.2 rr (List.mem_of_getElem? hr)
    obtain ⟨hrl, hrm⟩ := HRW.out rr (List.mem_of_getElem? hr)
    have e4 := e3 0 _ (by decide) rfl
    simp only [Nat.mul_one, Nat.add_zero] at e4
    rw [hrl] at e4
    have HDL := Lib.hid (show delF (kn : Int) del u = y from by simp [delF, gi_get hy])
    have HR0 := Lib.hid (show r0 (kn : Int) rep = gi rr.l from by funext k; simp [r0, gr_get hr])
    have HLOW := Lib.hid (show ∀ k, k < n1 → -1 ≤ r0 (kn : Int) rep k from fun k hk => by
      rw [HR0.out]
      obtain ⟨z, hz⟩ := get_lt hrl hk
      rw [gi_get hz]
      exact hrm z (List.mem_of_getElem? hz))
    have HRL := Lib.hid hrl
    have HRD := Lib.hid rd
    clear e3 rl hrl hrm rd hy hr
    have q0' : (((w.alloc (.cells #[.slice A1 n1 c1, .slice (some ⟨t2, o2, none⟩) n1 c2, .slice (some ⟨t3, o3, none⟩) n1 c3, .int .i64 s, .int .i64 u] 34)).alloc (.cells #[.int .i64 0, .slice none 0 0, .int .i64 0] 51)).alloc (.cells #[.int .i64 (kn : Int), .slice none 0 0, .int .i64 u] 51)).cell? ⟨w.heap.size, 0, none⟩ = some (.slice A1 n1 c1) := by (repeat (first | exact (cell_al_new _ _ _ _ _ _ (by first | rfl | (simp only [World.size_alloc]))).trans rfl | refine (cell_al_old _ _ _ (by first | omega | (simp only [World.size_alloc]; omega))).trans ?_))
    have q1' : (((w.alloc (.cells #[.slice A1 n1 c1, .slice (some ⟨t2, o2, none⟩) n1 c2, .slice (some ⟨t3, o3, none⟩) n1 c3, .int .i64 s, .int .i64 u] 34)).alloc (.cells #[.int .i64 0, .slice none 0 0, .int .i64 0] 51)).alloc (.cells #[.int .i64 (kn : Int), .slice none 0 0, .int .i64 u] 51)).cell? ⟨w.heap.size, 1, none⟩ = some (.slice (some ⟨t2, o2, none⟩) n1 c2) := by (repeat (first | exact (cell_al_new _ _ _ _ _ _ (by first | rfl | (simp only [World.size_alloc]))).trans rfl | refine (cell_al_old _ _ _ (by first | omega | (simp only [World.size_alloc]; omega))).trans ?_))
    have q2' : (((w.alloc (.cells #[.slice A1 n1 c1, .slice (some ⟨t2, o2, none⟩) n1 c2, .slice (some ⟨t3, o3, none⟩) n1 c3, .int .i64 s, .int .i64 u] 34)).alloc (.cells #[.int .i64 0, .slice none 0 0, .int .i64 0] 51)).alloc (.cells #[.int .i64 (kn : Int), .slice none 0 0, .int .i64 u] 51)).cell? ⟨w.heap.size, 2, none⟩ = some (.slice (some ⟨t3, o3, none⟩) n1 c3) := by (repeat (first | exact (cell_al_new _ _ _ _ _ _ (by first | rfl | (simp only [World.size_alloc]))).trans rfl | refine (cell_al_old _ _ _ (by first | omega | (simp only [World.size_alloc]; omega))).trans ?_))
    have HZ := Lib.hid (show Cel (((w.alloc (.cells #[.slice A1 n1 c1, .slice (some ⟨t2, o2, none⟩) n1 c2, .slice (some ⟨t3, o3, none⟩) n1 c3, .int .i64 s, .int .i64 u] 34)).alloc (.cells #[.int .i64 0, .slice none 0 0, .int .i64 0] 51)).alloc (.cells #[.int .i64 (kn : Int), .slice none 0 0, .int .i64 u] 51)) (w.heap.size + 1) (.int .i64 0) (.slice none 0 0) (.int .i64 0) from by
      refine (blk_alloc_lt _ _ _ (by simp)).trans ?_
      exact heap_new' _ _ _ (by simp))
    have HC := Lib.hid (show Cel (((w.alloc (.cells #[.slice A1 n1 c1, .slice (some ⟨t2, o2, none⟩) n1 c2, .slice (some ⟨t3, o3, none⟩) n1 c3, .int .i64 s, .int .i64 u] 34)).alloc (.cells #[.int .i64 0, .slice none 0 0, .int .i64 0] 51)).alloc (.cells #[.int .i64 (kn : Int), .slice none 0 0, .int .i64 u] 51)) (w.heap.size + 1 + 1) (.int .i64 (kn : Int)) (.slice none 0 0) (.int .i64 u) from by
      exact heap_new' _ _ _ (by simp))
    have HWW := Lib.hid (show Fut w (((w.alloc (.cells #[.slice A1 n1 c1, .slice (some ⟨t2, o2, none⟩) n1 c2, .slice (some ⟨t3, o3, none⟩) n1 c3, .int .i64 s, .int .i64 u] 34)).alloc (.cells #[.int .i64 0, .slice none 0 0, .int .i64 0] 51)).alloc (.cells #[.int .i64 (kn : Int), .slice none 0 0, .int .i64 u] 51)) from (HW.out.alloc _).alloc _)
    have e2' : (((w.alloc (.cells #[.slice A1 n1 c1, .slice (some ⟨t2, o2, none⟩) n1 c2, .slice (some ⟨t3, o3, none⟩) n1 c3, .int .i64 s, .int .i64 u] 34)).alloc (.cells #[.int .i64 0, .slice none 0 0, .int .i64 0] 51)).alloc (.cells #[.int .i64 (kn : Int), .slice none 0 0, .int .i64 u] 51)).cell? ⟨t2, o2 + kn, none⟩ = some (.int .i64 y) := HWW.out.cell e2
    have e4' : (((w.alloc (.cells #[.slice A1 n1 c1, .slice (some ⟨t2, o2, none⟩) n1 c2, .slice (some ⟨t3, o3, none⟩) n1 c3, .int .i64 s, .int .i64 u] 34)).alloc (.cells #[.int .i64 0, .slice none 0 0, .int .i64 0] 51)).alloc (.cells #[.int .i64 (kn : Int), .slice none 0 0, .int .i64 u] 51)).cell? ⟨t3, o3 + kn, none⟩ = some (.slice rr.A n1 rr.k) := HWW.out.cell e4
    have u2 := World.block_lt_of_cell? w _ e2
    have u4 := World.block_lt_of_cell? w _ e4
    simp only at u2 u4
    go_enter Try.func29, Try.ntmps29
    go_wp2_with fail
    clear q0'
    generalize (((w.alloc (.cells #[.slice A1 n1 c1, .slice (some ⟨t2, o2, none⟩) n1 c2, .slice (some ⟨t3, o3, none⟩) n1 c3, .int .i64 s, .int .i64 u] 34)).alloc (.cells #[.int .i64 0, .slice none 0 0, .int .i64 0] 51)).alloc (.cells #[.int .i64 (kn : Int), .slice none 0 0, .int .i64 u] 51)) = wa at *
    obtain ⟨S, hS⟩ : ∃ S : Nat → Bool, S = fun k => k == w.heap.size + 1 + 1 := ⟨_, rfl⟩
    have z1 : S w.heap.size = false := by rw [hS]; simp; omega
    have z2 : S t2 = false := by rw [hS]; simp; omega
    have z3 : S t3 = false := by rw [hS]; simp; omega
    have HS := Lib.hid (show S (w.heap.size + 1 + 1) = true by rw [hS]; simp)
    clear hS
    have r1 : ∀ f dd os, (futS wa S f dd os).cell? ⟨w.heap.size, 1, none⟩ = some (.slice (some ⟨t2, o2, none⟩) n1 c2) := cell_futS q1' z1
    have r2 : ∀ f dd os, (futS wa S f dd os).cell? ⟨w.heap.size, 2, none⟩ = some (.slice (some ⟨t3, o3, none⟩) n1 c3) := cell_futS q2' z1
    have r3 : ∀ f dd os, (futS wa S f dd os).cell? ⟨t2, o2 + kn, none⟩ = some (.int .i64 y) := cell_futS e2' z2
    have r4 : ∀ f dd os, (futS wa S f dd os).cell? ⟨t3, o3 + kn, none⟩ = some (.slice rr.A n1 rr.k) := cell_futS e4' z3
    clear q1' q2' e2' e4' z1 z2 z3 e2 e4
    refine wp_region_MG (relS S) o_columns_column_3 (by kernel_rfl) (by kernel_rfl) (by intro c a d v w h; cases d <;> exact h) ?_; unfold o_columns_column_3
    iterate 10 (refine wpS_h rfl rfl (fun K hK => ?_); go_simp; refine hK _ _ ?_; clear hK K)
    refine wpG_o rfl rfl (fun K hK => ?_)
    go_simp
    go_at_call 40
    refine (clone_any rr.A n1 rr.k rr.l _ HRL.out (by omega) (by omega) (HRD.out.fut (HWW.out.trans (Fut.refl wa).drew))).mono ?_
    rintro e w1 ⟨⟨g, c', rfl, hg, hrow⟩, hb1⟩
    have f1 : Fut wa.drew w1 := hb1
    refine hK _ _ (.inr ((relS S).of_fut hb1)) ?_
    clear hK K
    have HG := Lib.hid (show w.heap.size + 1 + 1 < g from by
      have h1 := HC.out.lt
      have h2 : wa.heap.size ≤ g := hg
      omega)
    have HC1 := Lib.hid (HC.out.fut ((Fut.refl wa).drew.trans f1))
    have HZ1 := Lib.hid (HZ.out.fut ((Fut.refl wa).drew.trans f1))
    have HF1 := Lib.hid ((HWW.out.trans (Fut.refl wa).drew).trans f1)
    have HROW1 := Lib.hid hrow
    have s1 := HC1.out.c1
    have s2 := HC1.out.c2
    have s3 := HC1.out.fz 1
    have s4 := HC1.out.fz 2
    clear hrow hb1 hg f1
    (refine wpS_h rfl rfl (fun K hK => ?_); go_simp; refine hK _ _ ?_; clear hK K)
    refine wpG_o rfl rfl (fun K hK => ?_)
    go_simp
    refine hK _ _ (.inr (futS_set _ _ _ HS.out)) ?_
    clear hK K
    (refine wpS_h rfl rfl (fun K hK => ?_); go_simp; refine hK _ _ ?_; clear hK K)
    refine wpG_o rfl rfl (fun K hK => ?_)
    have s5 := (HC1.out.set1 (.slice (some ⟨g, 0, none⟩) n1 c')).c2
    have s6 := (HC1.out.set1 (.slice (some ⟨g, 0, none⟩) n1 c')).fz 2
    go_simp
    refine hK _ _ (.inl (by kernel_rfl)) ?_
    clear hK K
    refine wpG_nil ?_
    have HCY := Lib.hid ((HC1.out.set1 (.slice (some ⟨g, 0, none⟩) n1 c')).set2 (.int .i64 y))
    have HZY := Lib.hid ((HZ1.out.setOther (a := ⟨w.heap.size + 1 + 1, 1, none⟩) (by simp only; omega) (.slice (some ⟨g, 0, none⟩) n1 c')).setOther (a := ⟨w.heap.size + 1 + 1, 2, none⟩) (by simp only; omega) (.int .i64 y))
    have HFY := Lib.hid (show Fut w ((w1.setCell ⟨w.heap.size + 1 + 1, 1, none⟩ (.slice (some ⟨g, 0, none⟩) n1 c')).setCell ⟨w.heap.size + 1 + 1, 2, none⟩ (.int .i64 y)) from (HF1.out.setCell (by simp only; omega) _).setCell (by simp only; omega) _)
    have HROW := Lib.hid (((HROW1.out.setOther (a := ⟨w.heap.size + 1 + 1, 1, none⟩) (by simp only; have := HG.out; omega) (.slice (some ⟨g, 0, none⟩) n1 c')).setOther (a := ⟨w.heap.size + 1 + 1, 2, none⟩) (by simp only; have := HG.out; omega) (.int .i64 y)))
    rw [← HR0.out] at HROW
    clear s1 s2 s3 s4 s5 s6 r1 r2 r3 r4 HC1 HZ1 HF1 HROW1 HC HZ HWW
    generalize (w1.setCell ⟨w.heap.size + 1 + 1, 1, none⟩ (.slice (some ⟨g, 0, none⟩) n1 c')).setCell ⟨w.heap.size + 1 + 1, 2, none⟩ (.int .i64 y) = wy at *
    go_wp2_with fail
    go_loopw [37] (fun i wr => ∃ (j : Nat) (f : Nat → Int), j ≤ xn ∧ i = .int .i64 j ∧ Hid (f = (xs.take j).foldl stF (r0 (kn : Int) rep)) ∧ Hid (∀ k, k < n1 → -1 ≤ f k) ∧ Hid (RowA wr g n1 f) ∧ Hid (Cel wr (w.heap.size + 1 + 1) (.int .i64 (kn : Int)) (.slice (some ⟨g, 0, none⟩) n1 c') (.int .i64 y)) ∧ Hid (Cel wr (w.heap.size + 1) (.int .i64 0) (.slice none 0 0) (.int .i64 0)) ∧ Hid (Fut w wr)) (fun i _ => xn - (intOf i).toNat)
    case atStart => exact ⟨0, r0 (kn : Int) rep, Nat.zero_le _, rfl, Lib.hid rfl, HLOW, HROW, HCY, HZY, HFY⟩
    case round =>
      obtain ⟨j, f, hj, rfl, hf, hlow, hrow, hcy, hzy, hF⟩ := hrel
      obtain ⟨wx, rfl⟩ : ∃ q, q = wr := ⟨_, rfl⟩
      clear HROW HCY HZY HFY HLOW
      by_cases hlt : j < xn
      · obtain ⟨⟨p1, p2⟩, hp⟩ := get_lt HXL.out hlt
        obtain ⟨b5, o5, rfl, e5⟩ := HXS.out j _ hp
        obtain ⟨hp1, hp2, hp3⟩ := HXC.out _ (List.mem_of_getElem? hp)
        simp only at hp1 hp2 hp3
        obtain ⟨pk, rfl⟩ : ∃ q : Nat, p1 = q := Int.eq_ofNat_of_zero_le hp1
        have hpk : pk < n1 := by omega
        have v0 := hF.out.cell (e5 0 _ (by decide) rfl)
        have v1 := hF.out.cell (e5 1 _ (by decide) rfl)
        simp only [Nat.add_zero] at v0
        have HST := Lib.hid (fold_step stF (r0 (kn : Int) rep) xs j _ hp)
        clear hp e5 hp1 hp2
        have hfl := hlow.out pk hpk
        have b0 : ∀ dd os, (fut (wx.alloc (.cells #[.int .i64 pk, .int .i64 p2] 53)) dd os).cell? ⟨wx.heap.size, 0, none⟩ = some (.int .i64 pk) := cell_fut (by (repeat (first | exact (cell_al_new _ _ _ _ _ _ (by first | rfl | (simp only [World.size_alloc]))).trans rfl | refine (cell_al_old _ _ _ (by first | omega | (simp only [World.size_alloc]; omega))).trans ?_)))
        have b1 : ∀ dd os, (fut (wx.alloc (.cells #[.int .i64 pk, .int .i64 p2] 53)) dd os).cell? ⟨wx.heap.size, 1, none⟩ = some (.int .i64 p2) := cell_fut (by (repeat (first | exact (cell_al_new _ _ _ _ _ _ (by first | rfl | (simp only [World.size_alloc]))).trans rfl | refine (cell_al_old _ _ _ (by first | omega | (simp only [World.size_alloc]; omega))).trans ?_)))
        have b2 : ∀ dd os, (fut (wx.alloc (.cells #[.int .i64 pk, .int .i64 p2] 53)) dd os).cell? ⟨w.heap.size + 1 + 1, 1, none⟩ = some (.slice (some ⟨g, 0, none⟩) n1 c') := cell_fut (((Fut.refl wx).alloc _).cell hcy.out.c1)
        have b3 : ∀ dd os, (fut (wx.alloc (.cells #[.int .i64 pk, .int .i64 p2] 53)) dd os).cell? ⟨g, pk, none⟩ = some (.int .i64 (f pk)) := cell_fut (((Fut.refl wx).alloc _).cell (hrow.out.cell hpk))
        have b0' : (wx.alloc (.cells #[.int .i64 pk, .int .i64 p2] 53)).drew.cell? ⟨wx.heap.size, 0, none⟩ = some (.int .i64 pk) := by rw [cell_dr]; (repeat (first | exact (cell_al_new _ _ _ _ _ _ (by first | rfl | (simp only [World.size_alloc]))).trans rfl | refine (cell_al_old _ _ _ (by first | omega | (simp only [World.size_alloc]; omega))).trans ?_))
        have b1' : (wx.alloc (.cells #[.int .i64 pk, .int .i64 p2] 53)).drew.cell? ⟨wx.heap.size, 1, none⟩ = some (.int .i64 p2) := by rw [cell_dr]; (repeat (first | exact (cell_al_new _ _ _ _ _ _ (by first | rfl | (simp only [World.size_alloc]))).trans rfl | refine (cell_al_old _ _ _ (by first | omega | (simp only [World.size_alloc]; omega))).trans ?_))
        have b2' : (wx.alloc (.cells #[.int .i64 pk, .int .i64 p2] 53)).drew.cell? ⟨w.heap.size + 1 + 1, 1, none⟩ = some (.slice (some ⟨g, 0, none⟩) n1 c') := (((Fut.refl wx).alloc _).drew).cell hcy.out.c1
        have b3' : (wx.alloc (.cells #[.int .i64 pk, .int .i64 p2] 53)).drew.cell? ⟨g, pk, none⟩ = some (.int .i64 (f pk)) := (((Fut.refl wx).alloc _).drew).cell (hrow.out.cell hpk)
        have b4' : (wx.alloc (.cells #[.int .i64 pk, .int .i64 p2] 53)).drew.frozen? ⟨g, pk, none⟩ = false := ((hrow.out.alloc _).drew).frozen pk
        have HFX := Lib.hid (show Fut wx (wx.alloc (.cells #[.int .i64 pk, .int .i64 p2] 53)).drew from ((Fut.refl wx).alloc _).drew)
        by_cases hneg : f pk < 0
        · have hnd : decide (f pk < 0) = true := decide_eq_true hneg
          have hm1 : f pk = -1 := by omega
          have hS := Lib.hid (show stF f ((pk : Int), p2) = upd f pk p2 from by unfold stF; simp [hm1])
          clear hm1
          go_wp2_with fail
          refine wp_region_M o_columns_column_8 (by kernel_rfl) (by kernel_rfl) (by intro c a d v w h; cases d <;> exact h) ?_; unfold o_columns_column_8
          iterate 8 (refine wpF_h rfl rfl (fun K hK => ?_); go_simp; refine hK _ _ ?_; clear hK K)
          iterate 9 (refine wpF_hs2 rfl rfl (fun K hK => ?_); go_simp; refine hK _ _ ?_; clear hK K)
          (refine wpF_h rfl rfl (fun K hK => ?_); go_simp; refine hK _ _ ?_; clear hK K)
          refine wpF_nil ?_
          go_wp2_with fail
          exact ⟨⟨j + 1, upd f pk p2, by omega, by go_num, Lib.hid (by rw [HST.out, ← hf.out, hS.out]), Lib.hid (by rw [← hS.out]; exact stF_low hlow.out hp3), Lib.hid ((hrow.out.fut HFX.out).set pk p2), Lib.hid ((hcy.out.fut HFX.out).setOther (by simp only; have := HG.out; omega) _), Lib.hid ((hzy.out.fut HFX.out).setOther (by simp only; have := HG.out; omega) _), Lib.hid ((hF.out.trans HFX.out).setCell (by simp only; have := HG.out; omega) _)⟩, by simp [intOf]; omega⟩
        · have hnd : decide (f pk < 0) = false := decide_eq_false hneg
          by_cases hgt : p2 < f pk
          · have hgd : decide (p2 < f pk) = true := decide_eq_true hgt
            have hS := Lib.hid (show stF f ((pk : Int), p2) = upd f pk p2 from by unfold stF; simp [hgt])
            go_wp2_with fail
            refine wp_region_M o_columns_column_8 (by kernel_rfl) (by kernel_rfl) (by intro c a d v w h; cases d <;> exact h) ?_; unfold o_columns_column_8
            iterate 18 (refine wpF_h rfl rfl (fun K hK => ?_); go_simp; refine hK _ _ ?_; clear hK K)
            refine wpF_nil ?_
            go_wp2_with fail
            exact ⟨⟨j + 1, upd f pk p2, by omega, by go_num, Lib.hid (by rw [HST.out, ← hf.out, hS.out]), Lib.hid (by rw [← hS.out]; exact stF_low hlow.out hp3), Lib.hid ((hrow.out.fut HFX.out).set pk p2), Lib.hid ((hcy.out.fut HFX.out).setOther (by simp only; have := HG.out; omega) _), Lib.hid ((hzy.out.fut HFX.out).setOther (by simp only; have := HG.out; omega) _), Lib.hid ((hF.out.trans HFX.out).setCell (by simp only; have := HG.out; omega) _)⟩, by simp [intOf]; omega⟩
          · have hgd : decide (p2 < f pk) = false := decide_eq_false hgt
            have hS := Lib.hid (show stF f ((pk : Int), p2) = f from by
              unfold stF
              rw [if_neg]
              simp only [Int.toNat_natCast]
              omega)
            go_wp2_with fail
            refine wp_region_M o_columns_column_8 (by kernel_rfl) (by kernel_rfl) (by intro c a d v w h; cases d <;> exact h) ?_; unfold o_columns_column_8
            iterate 18 (refine wpF_h rfl rfl (fun K hK => ?_); go_simp; refine hK _ _ ?_; clear hK K)
            refine wpF_nil ?_
            go_wp2_with fail
            exact ⟨⟨j + 1, f, by omega, by go_num, Lib.hid (by rw [HST.out, ← hf.out, hS.out]), hlow, Lib.hid (hrow.out.fut HFX.out), Lib.hid (hcy.out.fut HFX.out), Lib.hid (hzy.out.fut HFX.out), Lib.hid (hF.out.trans HFX.out)⟩, by simp [intOf]; omega⟩
      · have HE := Lib.hid (hf.out.trans (fold_all stF (r0 (kn : Int) rep) xs j (by have := HXL.out; omega)))
        have z0 := hzy.out.c0
        have z1 := hzy.out.c1
        have z2 := hzy.out.c2
        have z3 := hzy.out.fz 0
        have z4 := hzy.out.fz 1
        have z5 := hzy.out.fz 2
        have y0 := hcy.out.c0
        have y1 := hcy.out.c1
        have y2 := hcy.out.c2
        have HG2 := Lib.hid (show w.heap.size + 1 < g by have := HG.out; omega)
        have HCZ := Lib.hid (((hzy.out.set0 (.int .i64 (kn : Int))).set1 (.slice (some ⟨g, 0, none⟩) n1 c')).set2 (.int .i64 y))
        have HFZ := Lib.hid (show Fut w (((wx.setCell ⟨w.heap.size + 1, 0, none⟩ (.int .i64 (kn : Int))).setCell ⟨w.heap.size + 1, 1, none⟩ (.slice (some ⟨g, 0, none⟩) n1 c')).setCell ⟨w.heap.size + 1, 2, none⟩ (.int .i64 y)) from ((hF.out.setCell (by simp only; omega) _).setCell (by simp only; omega) _).setCell (by simp only; omega) _)
        have HRZ := Lib.hid (((hrow.out.setOther (a := ⟨w.heap.size + 1, 0, none⟩) (by simp only; have := HG2.out; omega) (.int .i64 (kn : Int))).setOther (a := ⟨w.heap.size + 1, 1, none⟩) (by simp only; have := HG2.out; omega) (.slice (some ⟨g, 0, none⟩) n1 c')).setOther (a := ⟨w.heap.size + 1, 2, none⟩) (by simp only; have := HG2.out; omega) (.int .i64 y))
        go_wp2_with fail
        generalize ((wx.setCell ⟨w.heap.size + 1, 0, none⟩ (.int .i64 (kn : Int))).setCell ⟨w.heap.size + 1, 1, none⟩ (.slice (some ⟨g, 0, none⟩) n1 c')).setCell ⟨w.heap.size + 1, 2, none⟩ (.int .i64 y) = wz at *
        refine bodyPost_ret (results_cell_row col_res _ _ (w.heap.size + 1) _ _ _ _ rfl HCZ.out Try.underlying51 rfl (by kernel_rfl)) rfl ?_
        refine ⟨⟨some ⟨g, 0, none⟩, c', by rw [HDL.out], ?_, ?_⟩, HFZ.out⟩
        · have h1 := HRZ.out.rd
          rw [HE.out] at h1
          exact h1
        · intro b o q e
          injection e with e
          injection e with e1 _ _
          subst e1
          exact ⟨by have := HG2.out; omega, HRZ.out.lt⟩
  · obtain rfl : kd = -1 := by omega
    have HDL := Lib.hid (show delF (-1) del u = u from rfl)
    have HR0 := Lib.hid (show r0 (-1) rep = fun _ => -1 from rfl)
    have HLOW := Lib.hid (show ∀ k, k < n1 → -1 ≤ r0 (-1) rep k from fun k hk => Int.le_refl _)
    have q0' : (((w.alloc (.cells #[.slice A1 n1 c1, .slice A2 n1 c2, .slice A3 n1 c3, .int .i64 s, .int .i64 u] 34)).alloc (.cells #[.int .i64 0, .slice none 0 0, .int .i64 0] 51)).alloc (.cells #[.int .i64 (-1), .slice none 0 0, .int .i64 u] 51)).cell? ⟨w.heap.size, 0, none⟩ = some (.slice A1 n1 c1) := by (repeat (first | exact (cell_al_new _ _ _ _ _ _ (by first | rfl | (simp only [World.size_alloc]))).trans rfl | refine (cell_al_old _ _ _ (by first | omega | (simp only [World.size_alloc]; omega))).trans ?_))
    have q1' : (((w.alloc (.cells #[.slice A1 n1 c1, .slice A2 n1 c2, .slice A3 n1 c3, .int .i64 s, .int .i64 u] 34)).alloc (.cells #[.int .i64 0, .slice none 0 0, .int .i64 0] 51)).alloc (.cells #[.int .i64 (-1), .slice none 0 0, .int .i64 u] 51)).cell? ⟨w.heap.size, 1, none⟩ = some (.slice A2 n1 c2) := by (repeat (first | exact (cell_al_new _ _ _ _ _ _ (by first | rfl | (simp only [World.size_alloc]))).trans rfl | refine (cell_al_old _ _ _ (by first | omega | (simp only [World.size_alloc]; omega))).trans ?_))
    have q2' : (((w.alloc (.cells #[.slice A1 n1 c1, .slice A2 n1 c2, .slice A3 n1 c3, .int .i64 s, .int .i64 u] 34)).alloc (.cells #[.int .i64 0, .slice none 0 0, .int .i64 0] 51)).alloc (.cells #[.int .i64 (-1), .slice none 0 0, .int .i64 u] 51)).cell? ⟨w.heap.size, 2, none⟩ = some (.slice A3 n1 c3) := by (repeat (first | exact (cell_al_new _ _ _ _ _ _ (by first | rfl | (simp only [World.size_alloc]))).trans rfl | refine (cell_al_old _ _ _ (by first | omega | (simp only [World.size_alloc]; omega))).trans ?_))
    have HZ := Lib.hid (show Cel (((w.alloc (.cells #[.slice A1 n1 c1, .slice A2 n1 c2, .slice A3 n1 c3, .int .i64 s, .int .i64 u] 34)).alloc (.cells #[.int .i64 0, .slice none 0 0, .int .i64 0] 51)).alloc (.cells #[.int .i64 (-1), .slice none 0 0, .int .i64 u] 51)) (w.heap.size + 1) (.int .i64 0) (.slice none 0 0) (.int .i64 0) from by
      refine (blk_alloc_lt _ _ _ (by simp)).trans ?_
      exact heap_new' _ _ _ (by simp))
    have HC := Lib.hid (show Cel (((w.alloc (.cells #[.slice A1 n1 c1, .slice A2 n1 c2, .slice A3 n1 c3, .int .i64 s, .int .i64 u] 34)).alloc (.cells #[.int .i64 0, .slice none 0 0, .int .i64 0] 51)).alloc (.cells #[.int .i64 (-1), .slice none 0 0, .int .i64 u] 51)) (w.heap.size + 1 + 1) (.int .i64 (-1)) (.slice none 0 0) (.int .i64 u) from by
      exact heap_new' _ _ _ (by simp))
    have HWW := Lib.hid (show Fut w (((w.alloc (.cells #[.slice A1 n1 c1, .slice A2 n1 c2, .slice A3 n1 c3, .int .i64 s, .int .i64 u] 34)).alloc (.cells #[.int .i64 0, .slice none 0 0, .int .i64 0] 51)).alloc (.cells #[.int .i64 (-1), .slice none 0 0, .int .i64 u] 51)) from (HW.out.alloc _).alloc _)
    go_enter Try.func29, Try.ntmps29
    go_wp2_with (go_at_call 41; refine (repeat_any (w.heap.size + 1 + 1 + 1) n1 _ hn (by (repeat (first | exact (cell_al_new _ _ _ _ _ _ (by first | rfl | (simp only [World.size_alloc]))).trans rfl | refine (cell_al_old _ _ _ (by first | omega | (simp only [World.size_alloc]; omega))).trans ?_)))).mono ?_; rintro e w1 ⟨⟨g, rfl, hg, hrow⟩, hb1⟩; have f1 : Fut (((w.alloc (.cells #[.slice A1 n1 c1, .slice A2 n1 c2, .slice A3 n1 c3, .int .i64 s, .int .i64 u] 34)).alloc (.cells #[.int .i64 0, .slice none 0 0, .int .i64 0] 51)).alloc (.cells #[.int .i64 (-1), .slice none 0 0, .int .i64 u] 51)) w1 := ((Fut.refl _).alloc _).trans hb1; have HROW1 := Lib.hid (row_rp hrow); have HC1 := Lib.hid (HC.out.fut f1); have HZ1 := Lib.hid (HZ.out.fut f1); have HF1 := Lib.hid (HWW.out.trans f1); have HG := Lib.hid (show w.heap.size + 1 + 1 < g by { simp only [World.size_alloc] at hg; omega }); have s1 := HC1.out.c1; have s3 := HC1.out.fz 1; clear hrow hb1 hg f1)
    have HCY := Lib.hid (HC1.out.set1 (.slice (some ⟨g, 0, none⟩) n1 n1))
    have HZY := Lib.hid (HZ1.out.setOther (a := ⟨w.heap.size + 1 + 1, 1, none⟩) (by simp only; omega) (.slice (some ⟨g, 0, none⟩) n1 n1))
    have HFY := Lib.hid (show Fut w (w1.setCell ⟨w.heap.size + 1 + 1, 1, none⟩ (.slice (some ⟨g, 0, none⟩) n1 n1)) from HF1.out.setCell (by simp only; omega) _)
    have HROW := Lib.hid (HROW1.out.setOther (a := ⟨w.heap.size + 1 + 1, 1, none⟩) (by simp only; have := HG.out; omega) (.slice (some ⟨g, 0, none⟩) n1 n1))
    rw [← HR0.out] at HROW
    clear s1 s3 q0' q1' q2' HC1 HZ1 HF1 HROW1 HC HZ HWW
    generalize w1.setCell ⟨w.heap.size + 1 + 1, 1, none⟩ (.slice (some ⟨g, 0, none⟩) n1 n1) = wy at *
    go_loopw [37] (fun i wr => ∃ (j : Nat) (f : Nat → Int), j ≤ xn ∧ i = .int .i64 j ∧ Hid (f = (xs.take j).foldl stF (r0 (-1) rep)) ∧ Hid (∀ k, k < n1 → -1 ≤ f k) ∧ Hid (RowA wr g n1 f) ∧ Hid (Cel wr (w.heap.size + 1 + 1) (.int .i64 (-1)) (.slice (some ⟨g, 0, none⟩) n1 n1) (.int .i64 u)) ∧ Hid (Cel wr (w.heap.size + 1) (.int .i64 0) (.slice none 0 0) (.int .i64 0)) ∧ Hid (Fut w wr)) (fun i _ => xn - (intOf i).toNat)
    case atStart => exact ⟨0, r0 (-1) rep, Nat.zero_le _, rfl, Lib.hid rfl, HLOW, HROW, HCY, HZY, HFY⟩
    case round =>
      obtain ⟨j, f, hj, rfl, hf, hlow, hrow, hcy, hzy, hF⟩ := hrel
      obtain ⟨wx, rfl⟩ : ∃ q, q = wr := ⟨_, rfl⟩
      clear HROW HCY HZY HFY HLOW
      by_cases hlt : j < xn
      · obtain ⟨⟨p1, p2⟩, hp⟩ := get_lt HXL.out hlt
        obtain ⟨b5, o5, rfl, e5⟩ := HXS.out j _ hp
        obtain ⟨hp1, hp2, hp3⟩ := HXC.out _ (List.mem_of_getElem? hp)
        simp only at hp1 hp2 hp3
        obtain ⟨pk, rfl⟩ : ∃ q : Nat, p1 = q := Int.eq_ofNat_of_zero_le hp1
        have hpk : pk < n1 := by omega
        have v0 := hF.out.cell (e5 0 _ (by decide) rfl)
        have v1 := hF.out.cell (e5 1 _ (by decide) rfl)
        simp only [Nat.add_zero] at v0
        have HST := Lib.hid (fold_step stF (r0 (-1) rep) xs j _ hp)
        clear hp e5 hp1 hp2
        have hfl := hlow.out pk hpk
        have b0 : ∀ dd os, (fut (wx.alloc (.cells #[.int .i64 pk, .int .i64 p2] 53)) dd os).cell? ⟨wx.heap.size, 0, none⟩ = some (.int .i64 pk) := cell_fut (by (repeat (first | exact (cell_al_new _ _ _ _ _ _ (by first | rfl | (simp only [World.size_alloc]))).trans rfl | refine (cell_al_old _ _ _ (by first | omega | (simp only [World.size_alloc]; omega))).trans ?_)))
        have b1 : ∀ dd os, (fut (wx.alloc (.cells #[.int .i64 pk, .int .i64 p2] 53)) dd os).cell? ⟨wx.heap.size, 1, none⟩ = some (.int .i64 p2) := cell_fut (by (repeat (first | exact (cell_al_new _ _ _ _ _ _ (by first | rfl | (simp only [World.size_alloc]))).trans rfl | refine (cell_al_old _ _ _ (by first | omega | (simp only [World.size_alloc]; omega))).trans ?_)))
        have b2 : ∀ dd os, (fut (wx.alloc (.cells #[.int .i64 pk, .int .i64 p2] 53)) dd os).cell? ⟨w.heap.size + 1 + 1, 1, none⟩ = some (.slice (some ⟨g, 0, none⟩) n1 n1) := cell_fut (((Fut.refl wx).alloc _).cell hcy.out.c1)
        have b3 : ∀ dd os, (fut (wx.alloc (.cells #[.int .i64 pk, .int .i64 p2] 53)) dd os).cell? ⟨g, pk, none⟩ = some (.int .i64 (f pk)) := cell_fut (((Fut.refl wx).alloc _).cell (hrow.out.cell hpk))
        have b0' : (wx.alloc (.cells #[.int .i64 pk, .int .i64 p2] 53)).drew.cell? ⟨wx.heap.size, 0, none⟩ = some (.int .i64 pk) := by rw [cell_dr]; (repeat (first | exact (cell_al_new _ _ _ _ _ _ (by first | rfl | (simp only [World.size_alloc]))).trans rfl | refine (cell_al_old _ _ _ (by first | omega | (simp only [World.size_alloc]; omega))).trans ?_))
        have b1' : (wx.alloc (.cells #[.int .i64 pk, .int .i64 p2] 53)).drew.cell? ⟨wx.heap.size, 1, none⟩ = some (.int .i64 p2) := by rw [cell_dr]; (repeat (first | exact (cell_al_new _ _ _ _ _ _ (by first | rfl | (simp only [World.size_alloc]))).trans rfl | refine (cell_al_old _ _ _ (by first | omega | (simp only [World.size_alloc]; omega))).trans ?_))
        have b2' : (wx.alloc (.cells #[.int .i64 pk, .int .i64 p2] 53)).drew.cell? ⟨w.heap.size + 1 + 1, 1, none⟩ = some (.slice (some ⟨g, 0, none⟩) n1 n1) := (((Fut.refl wx).alloc _).drew).cell hcy.out.c1
        have b3' : (wx.alloc (.cells #[.int .i64 pk, .int .i64 p2] 53)).drew.cell? ⟨g, pk, none⟩ = some (.int .i64 (f pk)) := (((Fut.refl wx).alloc _).drew).cell (hrow.out.cell hpk)
        have b4' : (wx.alloc (.cells #[.int .i64 pk, .int .i64 p2] 53)).drew.frozen? ⟨g, pk, none⟩ = false := ((hrow.out.alloc _).drew).frozen pk
        have HFX := Lib.hid (show Fut wx (wx.alloc (.cells #[.int .i64 pk, .int .i64 p2] 53)).drew from ((Fut.refl wx).alloc _).drew)
        by_cases hneg : f pk < 0
        · have hnd : decide (f pk < 0) = true := decide_eq_true hneg
          have hm1 : f pk = -1 := by omega
          have hS := Lib.hid (show stF f ((pk : Int), p2) = upd f pk p2 from by unfold stF; simp [hm1])
          clear hm1
          go_wp2_with fail
          refine wp_region_M o_columns_column_8 (by kernel_rfl) (by kernel_rfl) (by intro c a d v w h; cases d <;> exact h) ?_; unfold o_columns_column_8
          iterate 8 (refine wpF_h rfl rfl (fun K hK => ?_); go_simp; refine hK _ _ ?_; clear hK K)
          iterate 9 (refine wpF_hs2 rfl rfl (fun K hK => ?_); go_simp; refine hK _ _ ?_; clear hK K)
          (refine wpF_h rfl rfl (fun K hK => ?_); go_simp; refine hK _ _ ?_; clear hK K)
          refine wpF_nil ?_
          go_wp2_with fail
          exact ⟨⟨j + 1, upd f pk p2, by omega, by go_num, Lib.hid (by rw [HST.out, ← hf.out, hS.out]), Lib.hid (by rw [← hS.out]; exact stF_low hlow.out hp3), Lib.hid ((hrow.out.fut HFX.out).set pk p2), Lib.hid ((hcy.out.fut HFX.out).setOther (by simp only; have := HG.out; omega) _), Lib.hid ((hzy.out.fut HFX.out).setOther (by simp only; have := HG.out; omega) _), Lib.hid ((hF.out.trans HFX.out).setCell (by simp only; have := HG.out; omega) _)⟩, by simp [intOf]; omega⟩
        · have hnd : decide (f pk < 0) = false := decide_eq_false hneg
          by_cases hgt : p2 < f pk
          · have hgd : decide (p2 < f pk) = true := decide_eq_true hgt
            have hS := Lib.hid (show stF f ((pk : Int), p2) = upd f pk p2 from by unfold stF; simp [hgt])
            go_wp2_with fail
            refine wp_region_M o_columns_column_8 (by kernel_rfl) (by kernel_rfl) (by intro c a d v w h; cases d <;> exact h) ?_; unfold o_columns_column_8
            iterate 18 (refine wpF_h rfl rfl (fun K hK => ?_); go_simp; refine hK _ _ ?_; clear hK K)
            refine wpF_nil ?_
            go_wp2_with fail
            exact ⟨⟨j + 1, upd f pk p2, by omega, by go_num, Lib.hid (by rw [HST.out, ← hf.out, hS.out]), Lib.hid (by rw [← hS.out]; exact stF_low hlow.out hp3), Lib.hid ((hrow.out.fut HFX.out).set pk p2), Lib.hid ((hcy.out.fut HFX.out).setOther (by simp only; have := HG.out; omega) _), Lib.hid ((hzy.out.fut HFX.out).setOther (by simp only; have := HG.out; omega) _), Lib.hid ((hF.out.trans HFX.out).setCell (by simp only; have := HG.out; omega) _)⟩, by simp [intOf]; omega⟩
          · have hgd : decide (p2 < f pk) = false := decide_eq_false hgt
            have hS := Lib.hid (show stF f ((pk : Int), p2) = f from by
              unfold stF
              rw [if_neg]
              simp only [Int.toNat_natCast]
              omega)
            go_wp2_with fail
            refine wp_region_M o_columns_column_8 (by kernel_rfl) (by kernel_rfl) (by intro c a d v w h; cases d <;> exact h) ?_; unfold o_columns_column_8
            iterate 18 (refine wpF_h rfl rfl (fun K hK => ?_); go_simp; refine hK _ _ ?_; clear hK K)
            refine wpF_nil ?_
            go_wp2_with fail
            exact ⟨⟨j + 1, f, by omega, by go_num, Lib.hid (by rw [HST.out, ← hf.out, hS.out]), hlow, Lib.hid (hrow.out.fut HFX.out), Lib.hid (hcy.out.fut HFX.out), Lib.hid (hzy.out.fut HFX.out), Lib.hid (hF.out.trans HFX.out)⟩, by simp [intOf]; omega⟩
      · have HE := Lib.hid (hf.out.trans (fold_all stF (r0 (-1) rep) xs j (by have := HXL.out; omega)))
        have z0 := hzy.out.c0
        have z1 := hzy.out.c1
        have z2 := hzy.out.c2
        have z3 := hzy.out.fz 0
        have z4 := hzy.out.fz 1
        have z5 := hzy.out.fz 2
        have y0 := hcy.out.c0
        have y1 := hcy.out.c1
        have y2 := hcy.out.c2
        have HG2 := Lib.hid (show w.heap.size + 1 < g by have := HG.out; omega)
        have HCZ := Lib.hid (((hzy.out.set0 (.int .i64 (-1))).set1 (.slice (some ⟨g, 0, none⟩) n1 n1)).set2 (.int .i64 u))
        have HFZ := Lib.hid (show Fut w (((wx.setCell ⟨w.heap.size + 1, 0, none⟩ (.int .i64 (-1))).setCell ⟨w.heap.size + 1, 1, none⟩ (.slice (some ⟨g, 0, none⟩) n1 n1)).setCell ⟨w.heap.size + 1, 2, none⟩ (.int .i64 u)) from ((hF.out.setCell (by simp only; omega) _).setCell (by simp only; omega) _).setCell (by simp only; omega) _)
        have HRZ := Lib.hid (((hrow.out.setOther (a := ⟨w.heap.size + 1, 0, none⟩) (by simp only; have := HG2.out; omega) (.int .i64 (-1))).setOther (a := ⟨w.heap.size + 1, 1, none⟩) (by simp only; have := HG2.out; omega) (.slice (some ⟨g, 0, none⟩) n1 n1)).setOther (a := ⟨w.heap.size + 1, 2, none⟩) (by simp only; have := HG2.out; omega) (.int .i64 u))
        go_wp2_with fail
        generalize ((wx.setCell ⟨w.heap.size + 1, 0, none⟩ (.int .i64 (-1))).setCell ⟨w.heap.size + 1, 1, none⟩ (.slice (some ⟨g, 0, none⟩) n1 n1)).setCell ⟨w.heap.size + 1, 2, none⟩ (.int .i64 u) = wz at *
        refine bodyPost_ret (results_cell_row col_res _ _ (w.heap.size + 1) _ _ _ _ rfl HCZ.out Try.underlying51 rfl (by kernel_rfl)) rfl ?_
        refine ⟨⟨some ⟨g, 0, none⟩, n1, by rw [HDL.out], ?_, ?_⟩, HFZ.out⟩
        · have h1 := HRZ.out.rd
          rw [HE.out] at h1
          exact h1
        · intro b o q e
          injection e with e
          injection e with e1 _ _
          subst e1
          exact ⟨by have := HG2.out; omega, HRZ.out.lt⟩
end Go.Proofs.Ytagmpbgidooibaa
