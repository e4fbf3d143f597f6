/-
  The example of the document holds.
-/
import Derived.Test.YtleapckcihcpaaaN11
import Derived.Test.YtleapckcihcpaaaPnex
namespace Go.Proofs.Ytleapckcihcpaaa
open Go.RowKit Go.Deep PK
attribute [local go_sem] Oper.lit Oper.litS fut_fut fut_drew World.cell?_alloc_some
theorem rd_block {α : Type} {f : α → Value} {w : World} {b : Nat} {cs : Array Value} {t : TypeId} {fr : Nat × Nat} (h : w.heap[b]? = some (.cells cs t fr)) (l : List α) (hl : cs = (l.map f).toArray) : Rd1 w (some ⟨b, 0, none⟩) f l := by
  intro i a hi
  refine ⟨b, 0, rfl, ?_⟩
  rw [Nat.zero_add, cell_of_row w b i cs t fr h, hl]
  simp [hi]
theorem rdS_block {α : Type} {sz : Nat} {f : α → List Value} {w : World} {b : Nat} {cs : Array Value} {t : TypeId} {fr : Nat × Nat} (hf : ∀ a, (f a).length = sz) (h : w.heap[b]? = some (.cells cs t fr)) (l : List α) (hl : cs = (l.flatMap f).toArray) : RdS w (some ⟨b, 0, none⟩) sz f l := by
  intro i a hi
  refine ⟨b, 0, rfl, fun j u hj hu => ?_⟩
  rw [Nat.zero_add, cell_of_row w b _ cs t fr h, hl]
  have := flat_get f sz hf l i a j hi hj
  simpa [this] using hu
theorem blk_at {w : World} (o : Obj) {b : Nat} (h : w.heap.size = b) : (w.alloc o).heap[b]? = some o := by rw [← h]; exact heap_alloc_new w o
theorem ex_par0 {V : Nat → VV} {x : DI} {e : Int} (h : ParR 1 2 0 exR [4] V 0 x e) : e = 0 ∧ toDT x = exT := by
  rcases h with ⟨h, _⟩ | ⟨_, h, _⟩ | ⟨_, _, hs, h⟩
  · rw [exR_valid, exR_prices] at h; cases h
  · exact absurd ⟨by decide, by decide⟩ h
  · obtain rfl := hs.unique exw_sol
    rcases h with ⟨h, _⟩ | ⟨_, h, _⟩ | ⟨_, _, rfl, h⟩
    · exact absurd h (by decide)
    · exact absurd h (by decide)
    · exact ⟨rfl, h.unique exw_fol⟩
theorem ex_par2 {V : Nat → VV} {x : DI} {e : Int} (h : ParR 1 2 0 exR [4] V 2 x e) : e = 2 ∧ x = .node 0 none 0 [] := by
  rcases h with ⟨h, _⟩ | ⟨_, _, h1, h2⟩ | ⟨_, h, _⟩
  · rw [exR_valid, exR_prices] at h; cases h
  · exact ⟨h1, h2⟩
  · exact absurd h (by decide)
theorem example_any (w : World) : Calls Try.prog 27 #[] w fun e w' => (∃ A B, e = .returned (.tuple #[nmv 1 2 0 A 3 3, .slice B 1 1]) ∧ RdN w' A exR ∧ Rd1 w' B (.int .i64 ·) [4]) ∧ Below w.heap.size w w' := by
  go_enter Try.func27, Try.ntmps27
  go_wp2
  go_returns
  refine ⟨⟨some ⟨w.heap.size + 1, 0, none⟩, some ⟨w.heap.size + 1 + 1, 0, none⟩, rfl, ?_, ?_⟩, ?_⟩
  · exact rdS_block (sz := 6) (f := encR) (t := 47) (fr := (0, 0)) (fun a => rfl) (by (repeat (first | exact heap_new' _ _ _ (by first | rfl | (simp only [World.size_alloc])) | refine (blk_alloc_lt _ _ _ (by first | omega | (simp only [World.size_alloc]; omega))).trans ?_))) exR rfl
  · exact rd_block (t := 3) (fr := (0, 0)) (by (repeat (first | exact heap_new' _ _ _ (by first | rfl | (simp only [World.size_alloc])) | refine (blk_alloc_lt _ _ _ (by first | omega | (simp only [World.size_alloc]; omega))).trans ?_))) [4] rfl
  · exact (((Fut.refl w).alloc _).alloc _).alloc _
theorem leaf_rd (w : World) (j : Int) : RdD w (.node j none 0 []) := .mk RdS.nil (by decide) (fun d h => by simp at h)
def twoP (b : Nat) (r i j : Int) : DI := .node r (some ⟨b, 0, none⟩) 2 [.node i none 0 [], .node j none 0 []]
theorem two_rd {w : World} {b : Nat} {t : TypeId} {fr : Nat × Nat} {r i j : Int} (h : w.heap[b]? = some (.cells #[.int .i64 i, .slice none 0 0, .int .i64 j, .slice none 0 0] t fr)) : RdD w (twoP b r i j) :=
  .mk (rdS_block (sz := 2) (f := encD) (fun a => rfl) h _ rfl) (show (2 : Nat) ≤ maxLen by decide) (fun d hd => by
    simp only [List.mem_cons, List.not_mem_nil, or_false] at hd
    rcases hd with rfl | rfl <;> exact leaf_rd _ _)
set_option maxHeartbeats 6400000 in
theorem awake_any (w : World) : Calls Try.prog 10 #[] w fun e w' => e = .returned (.bool true) ∧ Below w.heap.size w w' := by
  go_enter Try.func10, Try.ntmps10
  go_wp2_with fail
  refine (example_any _).mono ?_
  rintro e w1 ⟨⟨A, B, rfl, hR, hI⟩, hb1⟩
  have f1 := (Fut.refl w1).alloc (.cells #[.int .i64 1, .int .i64 2, .int .i64 0, .slice A 3 3] 24)
  have HF1 := Lib.hid (show Fut w (w1.alloc (.cells #[.int .i64 1, .int .i64 2, .int .i64 0, .slice A 3 3] 24)) from Fut.trans hb1 f1)
  have HR := Lib.hid (RdS.fut hR f1)
  have HI := Lib.hid (hI.fut f1)
  have HB := Lib.hid (show Blk (w1.alloc (.cells #[.int .i64 1, .int .i64 2, .int .i64 0, .slice A 3 3] 24)) w1.heap.size 24 #[.int .i64 1, .int .i64 2, .int .i64 0, .slice A 3 3] from heap_new' _ _ _ rfl)
  clear hR hI hb1 f1
  go_wp2_with fail
  generalize w1.alloc (.cells #[.int .i64 1, .int .i64 2, .int .i64 0, .slice A 3 3] 24) = wh at *
  generalize w1.heap.size = hb0 at *
  have HP := Lib.hid (fun head w' (hf : Fut wh w') => ipar_any 1 2 0 A 3 3 exR B 1 1 [4] head w' rfl (by decide) (RdS.fut HR.out hf) rfl (by decide) (HI.out.fut hf))
  refine (HP.out 0 _ (Fut.refl _)).mono ?_
  rintro r w2 ⟨⟨⟨xe, xA, xc, xk⟩, e, V, rfl, hrd, hpr⟩, hb⟩
  obtain ⟨rfl, hx⟩ := ex_par0 hpr
  simp only [dv, DI.e, DI.A, DI.c, DI.k]
  obtain ⟨xn, hxn⟩ : ∃ xn, xk.length = xn := ⟨_, rfl⟩
  rw [hxn]
  have HXN := Lib.hid hxn
  have HX := Lib.hid hx
  have f2 := (Fut.refl w2).alloc (.cells #[.int .i64 xe, .slice xA xn xc] 33)
  have HF2 := Lib.hid (show Fut wh (w2.alloc (.cells #[.int .i64 xe, .slice xA xn xc] 33)) from Fut.trans hb f2)
  have HRD := Lib.hid (hrd.rd.fut f2)
  have HBX := Lib.hid (show Blk (w2.alloc (.cells #[.int .i64 xe, .slice xA xn xc] 33)) w2.heap.size 33 #[.int .i64 xe, .slice xA xn xc] from heap_new' _ _ _ rfl)
  have q0 := (HB.out.fut HF2.out).cell (i := 0) rfl
  have q1 := (HB.out.fut HF2.out).cell (i := 1) rfl
  have q2 := (HB.out.fut HF2.out).cell (i := 2) rfl
  have q3 := (HB.out.fut HF2.out).cell (i := 3) rfl
  clear hb hrd hpr hx hxn f2
  go_wp2_with fail
  generalize w2.alloc (.cells #[.int .i64 xe, .slice xA xn xc] 33) = w3 at *
  generalize w2.heap.size = xb at *
  refine (HP.out 2 _ HF2.out).mono ?_
  rintro r w4 ⟨⟨y, e, V, rfl, hrd, hpr⟩, hb⟩
  obtain ⟨rfl, rfl⟩ := ex_par2 hpr
  simp only [dv, DI.e, DI.A, DI.c, DI.k, List.length_nil]
  have f4 : Fut w3 w4 := hb
  have f5 := (Fut.refl w4).alloc (.cells #[.int .i64 0, .slice none 0 0] 33)
  have HF4 := Lib.hid (HF2.out.trans (f4.trans f5))
  have HRD4 := Lib.hid ((HRD.out.fut f4).fut f5)
  have HBX4 := Lib.hid ((HBX.out.fut f4).fut f5)
  clear hb hrd hpr f4 f5 q0 q1 q2 q3
  have q0 := (HB.out.fut HF4.out).cell (i := 0) rfl
  have q1 := (HB.out.fut HF4.out).cell (i := 1) rfl
  have q2 := (HB.out.fut HF4.out).cell (i := 2) rfl
  have q3 := (HB.out.fut HF4.out).cell (i := 3) rfl
  go_wp2_with fail
  generalize w4.alloc (.cells #[.int .i64 0, .slice none 0 0] 33) = w5 at *
  refine (values38_any 1 2 0 A 3 3 exR B 1 1 [4] w5 rfl (by decide) (RdS.fut HR.out HF4.out) rfl (by decide) (HI.out.fut HF4.out)).mono ?_
  rintro r w6 ⟨hval, hb⟩
  have f6 : Fut w5 w6 := hb
  rcases hval with ⟨h9, _⟩ | ⟨_, M, W, vb, hM, rfl, hsol, hrow, _⟩
  · rw [exR_valid, exR_prices] at h9; cases h9
  obtain rfl : M = 2 := by omega
  obtain rfl := hsol.unique exw_sol
  have f7 := (Fut.refl w6).alloc (.cells #[.int .i64 10, .int .i64 3, .int .i64 4, .int .i64 1] 40)
  have HF6 := Lib.hid (HF4.out.trans (f6.trans f7))
  have HRD6 := Lib.hid ((HRD4.out.fut f6).fut f7)
  have HBX6 := Lib.hid ((HBX4.out.fut f6).fut f7)
  have HRW := Lib.hid ((hrow.fut f7).rd)
  have HLT := Lib.hid (show RdS (w6.alloc (.cells #[.int .i64 10, .int .i64 3, .int .i64 4, .int .i64 1] 40)) (some ⟨w6.heap.size, 0, none⟩) 2 encV ((List.range 2).map exW) from rdS_block (sz := 2) (f := encV) (t := 40) (fr := (0, 0)) (fun a => rfl) (heap_new' _ _ _ rfl) _ rfl)
  clear hb hM hsol hrow f6 f7 q0 q1 q2 q3
  go_wp2_with fail
  generalize w6.alloc (.cells #[.int .i64 10, .int .i64 3, .int .i64 4, .int .i64 1] 40) = w7 at *
  have HSV := Lib.hid (samev_any (some ⟨vb, 0, none⟩) (some ⟨w6.heap.size, 0, none⟩) 2 2 2 2 _ _ w7 (by simp) (by simp) (by decide) (by decide) HRW.out HLT.out)
  rw [decide_eq_true rfl] at HSV
  refine HSV.out.mono ?_
  rintro r w8 ⟨rfl, hb⟩
  have f8 : Fut w7 w8 := hb
  have f9 := (Fut.refl w8).alloc (.cells #[.int .i64 1, .slice none 0 0, .int .i64 1, .slice none 0 0] 33)
  have HF8 := Lib.hid (HF6.out.trans (f8.trans f9))
  have HRD8 := Lib.hid ((HRD6.out.fut f8).fut f9)
  have x0 := (HBX6.out.fut f8).cell (i := 0) rfl
  have x1 := (HBX6.out.fut f8).cell (i := 1) rfl
  have HT := Lib.hid (show RdD (w8.alloc (.cells #[.int .i64 1, .slice none 0 0, .int .i64 1, .slice none 0 0] 33)) (twoP w8.heap.size 0 1 1) from two_rd (t := 33) (fr := (0, 0)) (heap_new' _ _ _ rfl))
  have HSM := Lib.hid (show Calls Try.prog 16 #[.agg #[.int .i64 xe, .slice xA xn xc], .agg #[.int .i64 0, .slice (some ⟨w8.heap.size, 0, none⟩) 2 2]] (w8.alloc (.cells #[.int .i64 1, .slice none 0 0, .int .i64 1, .slice none 0 0] 33)) fun q w'' => q = .returned (.bool true) ∧ Below (w8.alloc (.cells #[.int .i64 1, .slice none 0 0, .int .i64 1, .slice none 0 0] 33)).heap.size (w8.alloc (.cells #[.int .i64 1, .slice none 0 0, .int .i64 1, .slice none 0 0] 33)) w'' from by
    have := same_any (.node xe xA xc xk) (twoP w8.heap.size 0 1 1) _ HRD8.out HT.out
    have ht : toDT (twoP w8.heap.size 0 1 1) = exT := by unfold twoP; rw [toDT_eq]; rfl
    rw [HX.out, ht, (eqD_iff _ _).2 rfl] at this
    simp only [dv, DI.e, DI.A, DI.c, DI.k, HXN.out] at this
    exact this)
  clear hb f8 f9
  go_wp2_with fail
  refine HSM.out.mono ?_
  rintro r w9 ⟨rfl, hb⟩
  have HF9 := Lib.hid (HF8.out.trans (show Fut _ w9 from hb))
  clear hb x0 x1
  go_wp2_with fail
  go_ret
  exact ⟨rfl, HF1.out.trans HF9.out⟩
end Go.Proofs.Ytleapckcihcpaaa
