/-
  The examples of the document hold.
-/
import Derived.Test.YtfaekfonemobcaaD12
import Derived.Test.YtfaekfonemobcaaD8
import Derived.Test.YtfaekfonemobcaaD4
import Derived.Test.YtfaekfonemobcaaD13
import Derived.Test.YtfaekfonemobcaaD15
namespace Go.Proofs.Ytfaekfonemobcaa
open Go.RowKit Go.Deep PK
attribute [local go_sem] Oper.lit Oper.litS fut_fut fut_drew World.cell?_alloc_some
theorem rd_block {α : Type} {f : α → Value} {w : World} {b : Nat} {cs : Array Value} {t : TypeId} {fr : Nat × Nat} (h : w.heap[b]? = some (.cells cs t fr)) (l : List α) (hl : cs = (l.map f).toArray) : Rd1 w (some ⟨b, 0, none⟩) f l := by
  intro i a hi
  refine ⟨b, 0, rfl, ?_⟩
  rw [Nat.zero_add, cell_of_row w b i cs t fr h, hl]
  simp [hi]
theorem rdS_block {α : Type} {sz : Nat} {f : α → List Value} {w : World} {b : Nat} {cs : Array Value} {t : TypeId} {fr : Nat × Nat} (hf : ∀ a, (f a).length = sz) (h : w.heap[b]? = some (.cells cs t fr)) (l : List α) (hl : cs = (l.flatMap f).toArray) : RdS w (some ⟨b, 0, none⟩) sz f l := by
  intro i a hi
  refine ⟨b, 0, rfl, fun j u hj hu => ?_⟩
  rw [Nat.zero_add, cell_of_row w b _ cs t fr h, hl]
  have := flat_get f sz hf l i a j hi hj
  simpa [this] using hu
theorem blk_at {w : World} (o : Obj) {b : Nat} (h : w.heap.size = b) : (w.alloc o).heap[b]? = some o := by rw [← h]; exact heap_alloc_new w o
theorem example_any (w : World) : Calls Try.prog 25 #[] w fun e w' => (∃ A B, e = .returned (hv 2 A 3 3) ∧ RdE w' A (exD B)) ∧ Below w.heap.size w w' := by
  go_enter Try.func25, Try.ntmps25
  go_wp2
  go_returns
  refine ⟨⟨some ⟨w.heap.size + 1 + 1, 0, none⟩, some ⟨w.heap.size + 1, 0, none⟩, rfl, ?_, ?_⟩, (((Fut.refl w).alloc _).alloc _).alloc _⟩
  · exact rdS_block (sz := 5) (f := encE) (fun a => rfl) (blk_at _ (by simp only [World.size_alloc])) _ rfl
  · have h1 : ∀ (w : World) (o : Obj) (k : Nat) (x : Obj), w.heap[k]? = some x → (w.alloc o).heap[k]? = some x := fun w o k x h => (Below.heap_alloc w o k (Array.getElem?_eq_some_iff.1 h).1).trans h
    intro e he
    simp only [exD, List.mem_cons, List.not_mem_nil, or_false] at he
    rcases he with rfl | rfl | rfl
    · exact ⟨Rd1.nil, by decide⟩
    · exact ⟨Rd1.nil, by decide⟩
    · exact ⟨rd_block (h1 _ _ _ _ (blk_at _ (by simp only [World.size_alloc]))) _ rfl, by show (2 : Nat) ≤ maxLen; decide⟩
theorem leaf_rd (w : World) (j : Int) : RdD w (.node j none 0 []) := .mk RdS.nil (by decide) (fun d h => by simp at h)
/-- a tree of two leaves, just built -/
def twoD (b : Nat) (i j : Int) : DI := .node 2 (some ⟨b, 0, none⟩) 2 [.node i none 0 [], .node j none 0 []]
theorem two_rd {w : World} {b : Nat} {t : TypeId} {fr : Nat × Nat} {i j : Int} (h : w.heap[b]? = some (.cells #[.int .i64 i, .slice none 0 0, .int .i64 j, .slice none 0 0] t fr)) : RdD w (twoD b i j) :=
  .mk (rdS_block (sz := 2) (f := encD) (fun a => rfl) h _ rfl) (show (2 : Nat) ≤ maxLen by decide) (fun d hd => by
    simp only [List.mem_cons, List.not_mem_nil, or_false] at hd
    rcases hd with rfl | rfl <;> exact leaf_rd _ _)
set_option maxHeartbeats 6400000 in
theorem awake_any (w : World) : Calls Try.prog 10 #[] w fun e w' => e = .returned (.bool true) ∧ Below w.heap.size w w' := by
  go_enter Try.func10, Try.ntmps10
  go_wp2_with fail
  refine (example_any _).mono ?_
  rintro e w1 ⟨⟨A, B, rfl, hR⟩, hb1⟩
  have HF1 := Lib.hid (show Fut w w1 from hb1)
  have HR := Lib.hid (hR.fut ((Fut.refl w1).alloc (.cells #[.int .i64 2, .slice A 3 3] 24)))
  clear hR hb1
  go_wp2_with fail
  have HFh := Lib.hid (HF1.out.trans ((Fut.refl w1).alloc (.cells #[.int .i64 2, .slice A 3 3] 24)))
  have Q0 := Lib.hid (show (w1.alloc (.cells #[.int .i64 2, .slice A 3 3] 24)).cell? ⟨w1.heap.size, 0, none⟩ = some (.int .i64 2) from by (repeat (first | exact (cell_al_new _ _ _ _ _ _ (by first | rfl | (simp only [World.size_alloc]))).trans rfl | refine (cell_al_old _ _ _ (by first | omega | (simp only [World.size_alloc]; omega))).trans ?_)))
  have Q1 := Lib.hid (show (w1.alloc (.cells #[.int .i64 2, .slice A 3 3] 24)).cell? ⟨w1.heap.size, 1, none⟩ = some (.slice A 3 3) from by (repeat (first | exact (cell_al_new _ _ _ _ _ _ (by first | rfl | (simp only [World.size_alloc]))).trans rfl | refine (cell_al_old _ _ _ (by first | omega | (simp only [World.size_alloc]; omega))).trans ?_)))
  generalize w1.alloc (.cells #[.int .i64 2, .slice A 3 3] 24) = wh at *
  clear HF1
  refine (best_any 2 A 3 3 (exD B) rfl (by decide) exV (fun _ => ⟨exD_small B, ex_sol B, exV_s⟩) 0 _ HR.out).mono ?_
  rintro r w2 ⟨⟨d, e, rfl, hrd, hbr⟩, hb⟩
  obtain ⟨rfl, hd⟩ := ex_best hbr
  have f2 : Fut wh w2 := hb
  have HF2 := Lib.hid f2
  have HD := Lib.hid hd
  have HRD := Lib.hid hrd.rd
  clear hbr hb hd hrd f2
  obtain ⟨de, dA, dc, dk⟩ := d
  simp only [dv, DI.e, DI.A, DI.c, DI.k]
  obtain ⟨dn, hdn⟩ : ∃ dn, dk.length = dn := ⟨_, rfl⟩
  rw [hdn]
  have HDN := Lib.hid hdn
  clear hdn
  go_wp2_with fail
  obtain ⟨wz, hwz⟩ : ∃ wz, wz = ((((w2.alloc (.cells #[.int .i64 de, .slice dA dn dc] 27)).alloc (.cells #[.int .i64 1, .slice none 0 0, .int .i64 0, .slice none 0 0] 27)).alloc (.cells #[.int .i64 2, .slice (some ⟨w2.heap.size + 1, 0, none⟩) 2 2] 27)).alloc (.cells #[.int .i64 0, .slice none 0 0, .int .i64 0, .slice none 0 0] 27)).alloc (.cells #[.int .i64 2, .slice (some ⟨w2.heap.size + 1 + 1 + 1, 0, none⟩) 2 2] 27) := ⟨_, rfl⟩
  have HFz := Lib.hid (show Fut w2 wz from by rw [hwz]; exact (((((Fut.refl w2).alloc _).alloc _).alloc _).alloc _).alloc _)
  have D0 := Lib.hid (show Blk wz w2.heap.size 27 #[.int .i64 de, .slice dA dn dc] from by rw [hwz]; (repeat (first | exact heap_new' _ _ _ (by first | rfl | (simp only [World.size_alloc])) | refine (blk_alloc_lt _ _ _ (by first | omega | (simp only [World.size_alloc]; omega))).trans ?_)))
  have DX := Lib.hid (show Blk wz (w2.heap.size + 1 + 1) 27 #[.int .i64 2, .slice (some ⟨w2.heap.size + 1, 0, none⟩) 2 2] from by rw [hwz]; (repeat (first | exact heap_new' _ _ _ (by first | rfl | (simp only [World.size_alloc])) | refine (blk_alloc_lt _ _ _ (by first | omega | (simp only [World.size_alloc]; omega))).trans ?_)))
  have DY := Lib.hid (show Blk wz (w2.heap.size + 1 + 1 + 1 + 1) 27 #[.int .i64 2, .slice (some ⟨w2.heap.size + 1 + 1 + 1, 0, none⟩) 2 2] from by rw [hwz]; (repeat (first | exact heap_new' _ _ _ (by first | rfl | (simp only [World.size_alloc])) | refine (blk_alloc_lt _ _ _ (by first | omega | (simp only [World.size_alloc]; omega))).trans ?_)))
  have HX := Lib.hid (show RdD wz (twoD (w2.heap.size + 1) 1 0) from two_rd (t := 27) (fr := (0, 0)) (by rw [hwz]; (repeat (first | exact heap_new' _ _ _ (by first | rfl | (simp only [World.size_alloc])) | refine (blk_alloc_lt _ _ _ (by first | omega | (simp only [World.size_alloc]; omega))).trans ?_))))
  have HY := Lib.hid (show RdD wz (twoD (w2.heap.size + 1 + 1 + 1) 0 0) from two_rd (t := 27) (fr := (0, 0)) (by rw [hwz]; (repeat (first | exact heap_new' _ _ _ (by first | rfl | (simp only [World.size_alloc])) | refine (blk_alloc_lt _ _ _ (by first | omega | (simp only [World.size_alloc]; omega))).trans ?_))))
  rw [← hwz]
  clear hwz
  have HFw := Lib.hid (HFh.out.trans (HF2.out.trans HFz.out))
  have P0 := Lib.hid (HFz.out.cell (HF2.out.cell Q0.out))
  have P1 := Lib.hid (HFz.out.cell (HF2.out.cell Q1.out))
  have HRz := Lib.hid (HR.out.fut (HF2.out.trans HFz.out))
  have ex : toDT (twoD (w2.heap.size + 1) 1 0) = exX := by unfold twoD; rw [toDT_eq]; rfl
  have ey : toDT (twoD (w2.heap.size + 1 + 1 + 1) 0 0) = exY := by unfold twoD; rw [toDT_eq]; rfl
  have C1 := Lib.hid (show ∀ w', Fut wz w' → Calls Try.prog 18 #[Value.agg #[.int .i64 de, .slice dA dn dc], Value.agg #[.int .i64 2, .slice (some ⟨w2.heap.size + 1 + 1 + 1, 0, none⟩) 2 2]] w' fun q w'' => q = .returned (.bool true) ∧ Below w'.heap.size w' w'' from fun w' hf => by
    have := equal_any (.node de dA dc dk) (twoD (w2.heap.size + 1 + 1 + 1) 0 0) w' ((HRD.out.fut HFz.out).fut hf) (HY.out.fut hf)
    rw [HD.out, ey, ex_eq] at this
    simp only [dv, DI.e, DI.A, DI.c, DI.k, HDN.out] at this
    exact this)
  have C2 := Lib.hid (show ∀ w', Fut wz w' → Calls Try.prog 13 #[Value.agg #[.int .i64 2, .slice A 3 3], .int .i64 0, Value.agg #[.int .i64 2, .slice (some ⟨w2.heap.size + 1, 0, none⟩) 2 2]] w' fun q w'' => q = .returned (.bool true) ∧ Below w'.heap.size w' w'' from fun w' hf => by
    have := dvalid_any 2 A 3 3 (exD B) rfl (by decide) (exD_valid B) (twoD (w2.heap.size + 1) 1 0) 0 w' (HRz.out.fut hf) (HX.out.fut hf)
    rwa [ex, ex_x] at this)
  have C3 := Lib.hid (show ∀ w', Fut wz w' → Calls Try.prog 13 #[Value.agg #[.int .i64 2, .slice A 3 3], .int .i64 1, Value.agg #[.int .i64 2, .slice (some ⟨w2.heap.size + 1, 0, none⟩) 2 2]] w' fun q w'' => q = .returned (.bool false) ∧ Below w'.heap.size w' w'' from fun w' hf => by
    have := dvalid_any 2 A 3 3 (exD B) rfl (by decide) (exD_valid B) (twoD (w2.heap.size + 1) 1 0) 1 w' (HRz.out.fut hf) (HX.out.fut hf)
    rwa [ex, ex_x1] at this)
  have C4 := Lib.hid (show ∀ w', Fut wz w' → Calls Try.prog 14 #[Value.agg #[.int .i64 2, .slice A 3 3], Value.agg #[.int .i64 2, .slice (some ⟨w2.heap.size + 1 + 1 + 1, 0, none⟩) 2 2]] w' fun q w'' => q = .returned (.agg #[.int .i64 5, .int .i64 3]) ∧ Below w'.heap.size w' w'' from fun w' hf => by
    have := dvalue_any 2 A 3 3 (exD B) rfl (by decide) (exD_valid B) (exD_tl B) (twoD (w2.heap.size + 1 + 1 + 1) 0 0) 0 w' (by rw [ey]; exact ex_y B) (HRz.out.fut hf) (HY.out.fut hf)
    rwa [ey, ex_vy] at this)
  have C5 := Lib.hid (show ∀ w', Fut wz w' → Calls Try.prog 16 #[Value.agg #[.int .i64 2, .slice A 3 3], Value.agg #[.int .i64 2, .slice (some ⟨w2.heap.size + 1 + 1 + 1, 0, none⟩) 2 2], Value.agg #[.int .i64 2, .slice (some ⟨w2.heap.size + 1, 0, none⟩) 2 2]] w' fun q w'' => q = .returned (.int .i64 (-1)) ∧ Below w'.heap.size w' w'' from fun w' hf => by
    have := dcmp_any 2 A 3 3 (exD B) rfl (by decide) (exD_valid B) (exD_tl B) (twoD (w2.heap.size + 1 + 1 + 1) 0 0) (twoD (w2.heap.size + 1) 1 0) 0 w' (by rw [ey]; exact ex_y B) (by rw [ex]; exact ex_x B) (HRz.out.fut hf) (HY.out.fut hf) (HX.out.fut hf)
    rwa [ey, ex, ex_cyx] at this)
  have C6 := Lib.hid (show ∀ w', Fut wz w' → Calls Try.prog 16 #[Value.agg #[.int .i64 2, .slice A 3 3], Value.agg #[.int .i64 2, .slice (some ⟨w2.heap.size + 1, 0, none⟩) 2 2], Value.agg #[.int .i64 2, .slice (some ⟨w2.heap.size + 1, 0, none⟩) 2 2]] w' fun q w'' => q = .returned (.int .i64 0) ∧ Below w'.heap.size w' w'' from fun w' hf => by
    have := dcmp_any 2 A 3 3 (exD B) rfl (by decide) (exD_valid B) (exD_tl B) (twoD (w2.heap.size + 1) 1 0) (twoD (w2.heap.size + 1) 1 0) 0 w' (by rw [ex]; exact ex_x B) (by rw [ex]; exact ex_x B) (HRz.out.fut hf) (HX.out.fut hf) (HX.out.fut hf)
    rwa [ex, cmpD_refl] at this)
  clear ex ey
  have HG0 := Lib.hid (Fut.refl wz)
  refine (C1.out _ HG0.out).mono ?_
  rintro r v1 ⟨rfl, hb⟩
  have HG1 := Lib.hid (HG0.out.trans (show Fut _ v1 from hb))
  clear hb 
  have g0 := HG1.out.cell P0.out
  have g1 := HG1.out.cell P1.out
  have x0 := (DX.out.fut HG1.out).cell (i := 0) rfl
  have x1 := (DX.out.fut HG1.out).cell (i := 1) rfl
  go_wp2_with fail
  refine (C2.out _ HG1.out).mono ?_
  rintro r v2 ⟨rfl, hb⟩
  have HG2 := Lib.hid (HG1.out.trans (show Fut _ v2 from hb))
  clear hb g0 g1 x0 x1
  have g0 := HG2.out.cell P0.out
  have g1 := HG2.out.cell P1.out
  have x0 := (DX.out.fut HG2.out).cell (i := 0) rfl
  have x1 := (DX.out.fut HG2.out).cell (i := 1) rfl
  go_wp2_with fail
  refine (C3.out _ HG2.out).mono ?_
  rintro r v3 ⟨rfl, hb⟩
  have HG3 := Lib.hid (HG2.out.trans (show Fut _ v3 from hb))
  clear hb g0 g1 x0 x1
  have g0 := HG3.out.cell P0.out
  have g1 := HG3.out.cell P1.out
  have y0 := (DY.out.fut HG3.out).cell (i := 0) rfl
  have y1 := (DY.out.fut HG3.out).cell (i := 1) rfl
  go_wp2_with fail
  refine (C4.out _ HG3.out).mono ?_
  rintro r v4 ⟨rfl, hb⟩
  have HG4 := Lib.hid (HG3.out.trans (show Fut _ v4 from hb))
  clear hb g0 g1 y0 y1
  have g0 := HG4.out.cell P0.out
  have g1 := HG4.out.cell P1.out
  have x0 := (DX.out.fut HG4.out).cell (i := 0) rfl
  have x1 := (DX.out.fut HG4.out).cell (i := 1) rfl
  have y0 := (DY.out.fut HG4.out).cell (i := 0) rfl
  have y1 := (DY.out.fut HG4.out).cell (i := 1) rfl
  go_wp2_with fail
  refine (C5.out _ HG4.out).mono ?_
  rintro r v5 ⟨rfl, hb⟩
  have HG5 := Lib.hid (HG4.out.trans (show Fut _ v5 from hb))
  clear hb g0 g1 x0 x1 y0 y1
  have g0 := HG5.out.cell P0.out
  have g1 := HG5.out.cell P1.out
  have x0 := (DX.out.fut HG5.out).cell (i := 0) rfl
  have x1 := (DX.out.fut HG5.out).cell (i := 1) rfl
  go_wp2_with fail
  refine (C6.out _ HG5.out).mono ?_
  rintro r v6 ⟨rfl, hb⟩
  have HG6 := Lib.hid (HG5.out.trans (show Fut _ v6 from hb))
  clear hb g0 g1 x0 x1
  go_wp2_with fail
  go_ret
  exact ⟨rfl, HFw.out.trans HG6.out⟩
end Go.Proofs.Ytfaekfonemobcaa
