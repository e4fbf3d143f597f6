/-
  Texts joined: The example of the document, in plain mathematics; What every law asks first: the example of the document; Opening an argument that is a slice: it reads as a list; Opening hypergraphs, derivations and cases.
-/
import Derived.Test.YtoiffhoiklafhaaBK
import Derived.Test.YtoiffhoiklafhaaBJ
import Derived.Test.YtoiffhoiklafhaaBG
import Derived.Test.YtoiffhoiklafhaaBA
import Derived.Test.YtoiffhoiklafhaaBH
import Derived.Deep.Slices
/-
  The example of the document, in plain mathematics.
-/
namespace Go.Proofs.Ytoiffhoiklafhaa
open PK
def exF (A : Option Addr) : List EI := [⟨1, [], 2, 0, 0, none, 0⟩, ⟨1, [], 2, 0, 0, none, 0⟩, ⟨0, [1, 1], 1, 0, 0, A, 2⟩, ⟨0, [], 9, 0, 0, none, 0⟩]
def exP : List EE := [⟨1, [], 2⟩, ⟨1, [], 2⟩, ⟨0, [1, 1], 1⟩, ⟨0, [], 9⟩]
theorem exF_P (A : Option Addr) : EEs (exF A) = exP := rfl
theorem exF_small (A : Option Addr) : smallB 2 (exF A) = true := by simp [smallB, validB, okE, inB', exF]
theorem exF_valid (A : Option Addr) : validB 2 (exF A) = true := (smallB_parts (exF_small A)).2.2.2
theorem exF_tl (A : Option Addr) : ∀ e ∈ exF A, e.t.length ≤ 4 := (smallB_parts (exF_small A)).2.2.1
def exV (i : Nat) : VV := if i = 0 then ⟨5, 3⟩ else if i = 1 then ⟨2, 1⟩ else top
theorem exP_ok : ∀ e ∈ exP, PK.okE e := by
  intro e he
  simp only [exP, List.mem_cons, List.not_mem_nil, or_false] at he
  rcases he with rfl | rfl | rfl | rfl <;> (unfold PK.okE INF; decide)
theorem exV_ok (v : Nat) : okV (exV v) := by
  unfold exV
  split
  · unfold okV INF; decide
  · split
    · unfold okV INF; decide
    · exact okV_top
theorem ex_comb : comb 1 [⟨2, 1⟩, ⟨2, 1⟩] = ⟨5, 3⟩ := by kernel_rfl
theorem ex_ev : ev exV ⟨1, [], 2⟩ = ⟨2, 1⟩ ∧ ev exV ⟨0, [1, 1], 1⟩ = ⟨5, 3⟩ ∧ ev exV ⟨0, [], 9⟩ = ⟨9, 1⟩ := by
  refine ⟨?_, ex_comb, ?_⟩
  · unfold ev comb; simp [INF]
  · unfold ev comb; simp [INF]
theorem ex_sol (A : Option Addr) : Sol (EEs (exF A)) exV := by
  rw [exF_P]
  have h1 : Reached exP exV 1 := Reached.by (K := exV) (⟨1, [], 2⟩ : EE) (by simp [exP]) (fun t ht => by simp at ht) (by rw [ex_ev.1]; rfl)
  have h0 : Reached exP exV 0 := Reached.by (K := exV) (⟨0, [1, 1], 1⟩ : EE) (by simp [exP]) (fun t ht => by
    simp at ht; subst ht; exact h1) (by rw [ex_ev.2.1]; rfl)
  refine sol_of_reached exP_ok exV_ok (fun v => ?_) (fun e he => ?_)
  · by_cases e0 : v = 0
    · subst e0; exact .inr h0
    · by_cases e1 : v = 1
      · subst e1; exact .inr h1
      · left; unfold exV; rw [if_neg e0, if_neg e1]
  · simp only [exP, List.mem_cons, List.not_mem_nil, or_false] at he
    rcases he with rfl | rfl | rfl | rfl
    · rw [ex_ev.1]; exact leV_refl _
    · rw [ex_ev.1]; exact leV_refl _
    · rw [ex_ev.2.1]; exact leV_refl _
    · rw [ex_ev.2.2]; exact leV_of_not_lt (by simp [ltV, exV])
theorem exV_s (i : Nat) : (exV i).s < INF := by
  unfold exV
  split
  · decide
  · split
    · decide
    · unfold top; decide
theorem ex_tgt (A : Option Addr) : tP exV (exF A) = [(⟨1, [], 2, 0, 0, none, 0⟩, 0), (⟨1, [], 2, 0, 0, none, 0⟩, 1), (⟨0, [1, 1], 1, 0, 0, A, 2⟩, 2)] := by kernel_rfl
theorem ex_r0 (A : Option Addr) : rchB 2 exV (exF A) 0 0 = true := rchB_root (r := 0) (by decide) (by decide)
theorem ex_r1 (A : Option Addr) : rchB 2 exV (exF A) 0 1 = true := by
  refine rchB_step (e := ⟨0, [1, 1], 1, 0, 0, A, 2⟩) (t := 1) (by simp [exF]) (by kernel_rfl) (ex_r0 A) (by simp)
theorem ex_fP (A : Option Addr) : fP 2 exV (exF A) 0 = [(⟨1, [], 2, 0, 0, none, 0⟩, 0), (⟨1, [], 2, 0, 0, none, 0⟩, 1), (⟨0, [1, 1], 1, 0, 0, A, 2⟩, 2)] := by
  unfold fP
  rw [ex_tgt]
  simp [ex_r0, ex_r1]
theorem ex_fE (A : Option Addr) : fE 2 exV (exF A) 0 = (exF A).take 3 := by unfold fE; rw [ex_fP]; rfl
theorem ex_fI (A : Option Addr) : fI 2 exV (exF A) 0 = [0, 1, 2] := by unfold fI; rw [ex_fP]; rfl
theorem ex_cnt (A : Option Addr) : cntR 2 exV (exF A) 0 = 4 := by
  unfold cntR
  rw [if_pos (by decide)]
  kernel_rfl
def exX : DT := .node 2 [.node 0 [], .node 1 []]
theorem ex_leaf (j : Int) (hj : j = 0 ∨ j = 1) : validD exP (.node j []) 1 = true ∧ val exP (.node j []) = ⟨2, 1⟩ := by
  rcases hj with rfl | rfl
  · exact ⟨by rw [validD]; simp [edge, exP, validL], by rw [val]; simp [edge, exP, valL, comb, INF]⟩
  · exact ⟨by rw [validD]; simp [edge, exP, validL], by rw [val]; simp [edge, exP, valL, comb, INF]⟩
theorem ex_node : validD exP exX 0 = true ∧ val exP exX = ⟨5, 3⟩ := by
  have e2 : edge exP 2 = some ⟨0, [1, 1], 1⟩ := rfl
  obtain ⟨a1, a2⟩ := ex_leaf 0 (.inl rfl)
  obtain ⟨b1, b2⟩ := ex_leaf 1 (.inr rfl)
  refine ⟨?_, ?_⟩
  · unfold exX
    rw [validD, e2]
    simp only [validL]
    rw [show ((1 : Nat) : Int) = 1 from rfl, a1, b1]; rfl
  · unfold exX
    rw [val, e2]
    simp only [valL, a2, b2]
    exact ex_comb
theorem ex_is (A : Option Addr) : isL 2 exV (exF A) 0 exX = true := by
  unfold isL
  rw [exF_P, ex_node.1, ex_node.2]
  simp [exV, INF]
theorem ex_is1 (A : Option Addr) : isL 2 exV (exF A) 1 exX = false := by
  unfold isL
  rw [exF_P, show validD exP exX 1 = false from by
    unfold exX
    rw [validD, show edge exP 2 = some ⟨0, [1, 1], 1⟩ from rfl]
    simp]
  simp
theorem ex_is3 (A : Option Addr) : isL 2 exV (exF A) 0 (.node 3 []) = false := by
  unfold isL
  rw [exF_P, show val exP (.node 3 []) = ⟨9, 1⟩ from by rw [val]; simp [edge, exP, valL, comb, INF]]
  simp [exV]
end Go.Proofs.Ytoiffhoiklafhaa
/-
  What every law asks first: the example of the document.
-/
namespace Go.Proofs.Ytoiffhoiklafhaa
open Go.RowKit Go.Deep PK
attribute [local go_sem] Oper.lit Oper.litS fut_fut fut_drew World.cell?_alloc_some
attribute [local go_sem] fut_base_drew
theorem rd_block {α : Type} {f : α → Value} {w : World} {b : Nat} {cs : Array Value} {t : TypeId} {fr : Nat × Nat} (h : w.heap[b]? = some (.cells cs t fr)) (l : List α) (hl : cs = (l.map f).toArray) : Rd1 w (some ⟨b, 0, none⟩) f l := by
  intro i a hi
  refine ⟨b, 0, rfl, ?_⟩
  rw [Nat.zero_add, cell_of_row w b i cs t fr h, hl]
  simp [hi]
theorem rdS_block {α : Type} {sz : Nat} {f : α → List Value} {w : World} {b : Nat} {cs : Array Value} {t : TypeId} {fr : Nat × Nat} (hf : ∀ a, (f a).length = sz) (h : w.heap[b]? = some (.cells cs t fr)) (l : List α) (hl : cs = (l.flatMap f).toArray) : RdS w (some ⟨b, 0, none⟩) sz f l := by
  intro i a hi
  refine ⟨b, 0, rfl, fun j u hj hu => ?_⟩
  rw [Nat.zero_add, cell_of_row w b _ cs t fr h, hl]
  have := flat_get f sz hf l i a j hi hj
  simpa [this] using hu
theorem blk_at {w : World} (o : Obj) {b : Nat} (h : w.heap.size = b) : (w.alloc o).heap[b]? = some o := by rw [← h]; exact heap_alloc_new w o
theorem example_any (w : World) : Calls Try.prog 32 #[] w fun e w' => (∃ b B, e = .returned (hv 2 (some ⟨b, 0, none⟩) 4 4) ∧ RdE w' (some ⟨b, 0, none⟩) (exF B)) ∧ Below w.heap.size w w' := by
  go_enter Try.func32, Try.ntmps32
  go_wp2
  go_returns
  refine ⟨⟨w.heap.size + 1 + 1, some ⟨w.heap.size + 1, 0, none⟩, rfl, ?_, ?_⟩, (((Fut.refl w).alloc _).alloc _).alloc _⟩
  · exact rdS_block (sz := 5) (f := encE) (fun a => rfl) (blk_at _ (by simp only [World.size_alloc])) _ rfl
  · have h1 : ∀ (w : World) (o : Obj) (k : Nat) (x : Obj), w.heap[k]? = some x → (w.alloc o).heap[k]? = some x := fun w o k x h => (Below.heap_alloc w o k (Array.getElem?_eq_some_iff.1 h).1).trans h
    intro e he
    simp only [exF, List.mem_cons, List.not_mem_nil, or_false] at he
    rcases he with rfl | rfl | rfl | rfl
    · exact ⟨Rd1.nil, by decide⟩
    · exact ⟨Rd1.nil, by decide⟩
    · exact ⟨rd_block (h1 _ _ _ _ (blk_at _ (by simp only [World.size_alloc]))) _ rfl, by show (2 : Nat) ≤ maxLen; decide⟩
    · exact ⟨Rd1.nil, by decide⟩
theorem leaf_rd (w : World) (j : Int) : RdD w (.node j none 0 []) := .mk RdS.nil (by decide) (fun d h => by simp at h)
/-- a tree of two leaves, just built -/
def twoD (b : Nat) (i j : Int) : DI := .node 2 (some ⟨b, 0, none⟩) 2 [.node i none 0 [], .node j none 0 []]
theorem two_rd {w : World} {b : Nat} {t : TypeId} {fr : Nat × Nat} {i j : Int} (h : w.heap[b]? = some (.cells #[.int .i64 i, .slice none 0 0, .int .i64 j, .slice none 0 0] t fr)) : RdD w (twoD b i j) :=
  .mk (rdS_block (sz := 2) (f := encD) (fun a => rfl) h _ rfl) (show (2 : Nat) ≤ maxLen by decide) (fun d hd => by
    simp only [List.mem_cons, List.not_mem_nil, or_false] at hd
    rcases hd with rfl | rfl <;> exact leaf_rd _ _)
theorem RdE.take {w : World} {A : Option Addr} {es : List EI} (h : RdE w A es) (k : Nat) : RdE w A (es.take k) := by
  refine ⟨fun i a hi => h.1 i a ?_, fun e he => h.2 e (List.mem_of_mem_take he)⟩
  rw [List.getElem?_take] at hi
  split at hi
  · exact hi
  · cases hi
theorem rd_nv {w : World} {A : Option Addr} {l : List Nat} (h : Rd1 w A nv l) : Rd1 w A (.int .i64 ·) (l.map (fun k : Nat => (k : Int))) := fun i a hi => by
  rw [List.getElem?_map] at hi
  cases hl : l[i]? with
  | none => rw [hl] at hi; cases hi
  | some x =>
    rw [hl] at hi
    simp only [Option.map_some, Option.some.injEq] at hi
    subst hi
    exact h i x hl
set_option maxHeartbeats 12800000 in
set_option maxRecDepth 4000 in
theorem awake_any (w : World) : Calls Try.prog 13 #[] w fun e w' => e = .returned (.bool true) ∧ Below w.heap.size w w' := by
  go_enter Try.func13, Try.ntmps13
  go_wp2_with fail
  refine (example_any _).mono ?_
  rintro e w1 ⟨⟨eb, B, rfl, hR⟩, hb1⟩
  obtain ⟨A, hA⟩ : ∃ A : Option Addr, A = some ⟨eb, 0, none⟩ := ⟨_, rfl⟩
  have HR1 := Lib.hid hR
  obtain ⟨hb, hhb⟩ : ∃ hb, hb = w1.heap.size := ⟨_, rfl⟩
  obtain ⟨wh, hwh⟩ : ∃ wh, wh = w1.alloc (.cells #[.int .i64 2, .slice (some ⟨eb, 0, none⟩) 4 4] 24) := ⟨_, rfl⟩
  have HFh := Lib.hid (show Fut w wh from by rw [hwh]; exact (show Fut w w1 from hb1).alloc _)
  have HBH := Lib.hid (show Blk wh hb 24 #[.int .i64 2, .slice (some ⟨eb, 0, none⟩) 4 4] from by rw [hwh, hhb]; exact heap_new' _ _ _ rfl)
  have HR := Lib.hid (show RdE wh (some ⟨eb, 0, none⟩) (exF B) from by rw [hwh]; exact HR1.out.fut ((Fut.refl w1).alloc _))
  clear hR hb1 hA
  go_wp2_with fail
  simp only [← hhb, ← hwh]
  clear hwh hhb HR1
  refine (fTight_any 2 (some ⟨eb, 0, none⟩) 4 4 (exF B) 0 wh exV (ex_sol B) rfl (by decide) (exF_valid B) (exF_tl B) HR.out).mono ?_
  rintro x w2 ⟨⟨XA, Xc, GA, Gc, rfl, hre, hrf⟩, hb2⟩
  rw [ex_fE] at hre
  rw [ex_fI] at hrf
  simp only [ex_fP, List.length_cons, List.length_nil]
  have HF2 := Lib.hid (show Fut wh w2 from hb2)
  have HE2 := Lib.hid hre
  have HG2 := Lib.hid hrf
  clear hb2 hre hrf
  go_wp2_with fail
  obtain ⟨gb, hgb⟩ : ∃ gb, gb = w2.heap.size := ⟨_, rfl⟩
  obtain ⟨wk, hwk⟩ : ∃ wk, wk = ((w2.alloc (.cells #[.int .i64 2, .slice XA 3 Xc] 24)).alloc (.cells #[.int .i64 0, .slice none 0 0, .int .i64 1, .slice none 0 0] 36)).alloc (.cells #[.int .i64 2, .slice (some ⟨gb + 1, 0, none⟩) 2 2] 36) := ⟨_, rfl⟩
  have HFk := Lib.hid (show Fut w2 wk from by rw [hwk]; exact (((Fut.refl w2).alloc _).alloc _).alloc _)
  have HBG := Lib.hid (show Blk wk gb 24 #[.int .i64 2, .slice XA 3 Xc] from by rw [hwk, hgb]; exact Blk.alloc (Blk.alloc (heap_new' _ _ _ rfl) _) _)
  have HBD := Lib.hid (show Blk wk (gb + 1 + 1) 36 #[.int .i64 2, .slice (some ⟨gb + 1, 0, none⟩) 2 2] from by rw [hwk, hgb]; exact heap_new' _ _ _ (by simp only [World.size_alloc]))
  have HBK := Lib.hid (show Blk wk (gb + 1) 36 #[.int .i64 0, .slice none 0 0, .int .i64 1, .slice none 0 0] from by rw [hwk, hgb]; exact Blk.alloc (heap_new' _ _ _ (by simp only [World.size_alloc])) _)
  simp only [← hgb, ← hwk]
  clear hwk hgb
  have FK := Lib.hid (HF2.out.trans HFk.out)
  have h0 := cell_fut ((HBH.out.fut FK.out).cell (i := 0) rfl)
  have h1 := cell_fut ((HBH.out.fut FK.out).cell (i := 1) rfl)
  have g0 := cell_fut (HBG.out.cell (i := 0) rfl)
  have g1 := cell_fut (HBG.out.cell (i := 1) rfl)
  have d0 := cell_fut (HBD.out.cell (i := 0) rfl)
  have d1 := cell_fut (HBD.out.cell (i := 1) rfl)
  have HS := Lib.hid (fun w' (hf : Fut wk w') (Y : Option Addr) c (hY : Y = some ⟨eb, 0, none⟩) => same_any 2 XA Y 3 Xc c ((exF B).take 3) w' rfl (by decide) (fun e he => exF_tl B e (List.mem_of_mem_take he)) (HE2.out.fut (HFk.out.trans hf)) (by subst hY; exact (HR.out.fut (FK.out.trans hf)).take 3))
  have HI := Lib.hid (fun w' (hf : Fut wk w') b (hb : w'.heap[b]? = some (.cells #[.int .i64 0, .int .i64 1, .int .i64 2] 3 (0, 0))) => sameInts_any GA (some ⟨b, 0, none⟩) 3 Gc 3 3 [0, 1, 2] [0, 1, 2] w' rfl rfl (by decide) (by decide) (rd_nv (HG2.out.fut (HFk.out.trans hf))) (rd_block hb _ rfl))
  have HC := Lib.hid (fun w' (hf : Fut wk w') => fCount_any 2 (some ⟨eb, 0, none⟩) 4 4 (exF B) 0 w' exV (ex_sol B) exV_s rfl (by decide) (exF_valid B) (exF_tl B) (HR.out.fut (FK.out.trans hf)))
  have HL1 := Lib.hid (fun w' (hf : Fut wk w') => fcont_any 2 (some ⟨eb, 0, none⟩) 4 4 (exF B) 0 (twoD (gb + 1) 0 1) w' exV (ex_sol B) rfl (by decide) (exF_valid B) (exF_tl B) (HR.out.fut (FK.out.trans hf)) (two_rd (HBK.out.fut hf)))
  have HL2 := Lib.hid (fun w' (hf : Fut wk w') => fcont_any 2 (some ⟨eb, 0, none⟩) 4 4 (exF B) 1 (twoD (gb + 1) 0 1) w' exV (ex_sol B) rfl (by decide) (exF_valid B) (exF_tl B) (HR.out.fut (FK.out.trans hf)) (two_rd (HBK.out.fut hf)))
  have HL3 := Lib.hid (fun w' (hf : Fut wk w') => fcont_any 2 (some ⟨eb, 0, none⟩) 4 4 (exF B) 0 (.node 3 none 0 []) w' exV (ex_sol B) rfl (by decide) (exF_valid B) (exF_tl B) (HR.out.fut (FK.out.trans hf)) (leaf_rd w' 3))
  have hx : toDT (twoD (gb + 1) 0 1) = exX := by simp [twoD, toDT, toDTs, exX]
  have h3 : toDT (.node 3 none 0 []) = .node 3 [] := by simp [toDT, toDTs]
  rw [hx, ex_is] at HL1
  rw [hx, ex_is1] at HL2
  rw [h3, ex_is3] at HL3
  rw [ex_cnt] at HC
  simp only [decide_true] at HI
  have f0 : Fut wk wk.drew := (Fut.refl wk).drew
  refine wp_region_M o_emendatelaw32_awake_4 (by kernel_rfl) (by kernel_rfl) (by intro c a d v w h; cases d <;> exact h) ?_; unfold o_emendatelaw32_awake_4
  iterate 5 (refine wpF_h rfl rfl (fun K hK => ?_); go_simp; refine hK _ _ ?_; clear hK K)
  refine wpF_o rfl rfl (fun K hK => ?_)
  go_simp
  go_at_call 16
  refine (HS.out _ f0 _ _ rfl).mono ?_
  rintro x w1' ⟨rfl, hb⟩
  have f1 : Fut wk w1' := f0.trans hb
  refine hK _ _ (.inr hb) ?_
  clear hK K hb
  iterate 2 (refine wpF_h rfl rfl (fun K hK => ?_); go_simp; refine hK _ _ ?_; clear hK K)
  refine wpF_o rfl rfl (fun K hK => ?_)
  go_simp
  refine hK _ _ (.inr ((Fut.refl _).alloc _)) ?_
  clear hK K
  have hi2 : (w1'.alloc (.cells #[.int .i64 0, .int .i64 1, .int .i64 2] 3)).heap[w1'.heap.size]? = some (.cells #[.int .i64 0, .int .i64 1, .int .i64 2] 3 (0, 0)) := heap_new' _ _ _ rfl
  have f2 : Fut wk (w1'.alloc (.cells #[.int .i64 0, .int .i64 1, .int .i64 2] 3)) := f1.alloc _
  refine wpF_o rfl rfl (fun K hK => ?_)
  go_simp
  go_at_call 17
  refine (HI.out _ f2 _ hi2).mono ?_
  rintro x w3 ⟨rfl, hb⟩
  have f3 : Fut wk w3 := f2.trans hb
  refine hK _ _ (.inr hb) ?_
  clear hK K hb
  iterate 3 (refine wpF_h rfl rfl (fun K hK => ?_); go_simp; refine hK _ _ ?_; clear hK K)
  refine wpF_o rfl rfl (fun K hK => ?_)
  go_simp
  go_at_call 18
  refine (HC.out _ f3).mono ?_
  rintro x w4 ⟨rfl, hb⟩
  have f4 : Fut wk w4 := f3.trans hb
  refine hK _ _ (.inr hb) ?_
  clear hK K hb
  iterate 5 (refine wpF_h rfl rfl (fun K hK => ?_); go_simp; refine hK _ _ ?_; clear hK K)
  refine wpF_o rfl rfl (fun K hK => ?_)
  go_simp
  go_at_call 21
  refine (HL1.out _ f4).mono ?_
  rintro x w5 ⟨rfl, hb⟩
  have f5 : Fut wk w5 := f4.trans hb
  refine hK _ _ (.inr hb) ?_
  clear hK K hb
  iterate 4 (refine wpF_h rfl rfl (fun K hK => ?_); go_simp; refine hK _ _ ?_; clear hK K)
  refine wpF_o rfl rfl (fun K hK => ?_)
  go_simp
  go_at_call 21
  refine (HL3.out _ f5).mono ?_
  rintro x w6 ⟨rfl, hb⟩
  have f6 : Fut wk w6 := f5.trans hb
  refine hK _ _ (.inr hb) ?_
  clear hK K hb
  iterate 5 (refine wpF_h rfl rfl (fun K hK => ?_); go_simp; refine hK _ _ ?_; clear hK K)
  refine wpF_o rfl rfl (fun K hK => ?_)
  go_simp
  go_at_call 21
  refine (HL2.out _ f6).mono ?_
  rintro x w7 ⟨rfl, hb⟩
  have f7 : Fut wk w7 := f6.trans hb
  refine hK _ _ (.inr hb) ?_
  clear hK K hb
  iterate 3 (refine wpF_h rfl rfl (fun K hK => ?_); go_simp; refine hK _ _ ?_; clear hK K)
  refine wpF_nil ?_
  go_wp2_with fail
  go_ret
  exact ⟨rfl, HFh.out.trans (FK.out.trans f7)⟩
end Go.Proofs.Ytoiffhoiklafhaa
/-
  Opening an argument that is a slice: it reads as a list.
-/
namespace Go.Proofs.Ytoiffhoiklafhaa
open Go.ChangeShapes Go.WideShapes Go.ChangeAt Go.RowKit Go.Joins Go.Deep
theorem spot_none {w : World} {a : Addr} {v : Value} (h : w.cell? a = some v) : a = ⟨a.block, a.off, none⟩ := by
  obtain ⟨b, o, s⟩ := a
  cases s with
  | none => rfl
  | some s =>
    unfold World.cell? at h
    split at h <;> simp at h
theorem add_plain (b o k : Nat) : (⟨b, o, none⟩ : Addr).add k = ⟨b, o + k, none⟩ := by unfold Addr.add; split <;> simp_all
section
variable {H : Type} {enc : TypeId × Value → H} {P : Program} {w : World} {base : Nat} {held : Bool} {α : Type}
theorem open_sl {t e : TypeId} {sz : Nat} (f : α → List Value) (Q : α → Prop) (hz : 0 < sz) (ht : P.underlying t = some (.slice e)) (hc : P.cellsOf e = sz)
    (hp : ∀ fuel cs y, DataW.trod enc P w base (fun _ => true) held fuel e cs = some y → ∃ a, cs = f a ∧ Q a)
    {fuel : Nat} {cs : List Value} {x : DataW H × List MemPlace} (h : DataW.trod enc P w base (fun _ => true) held fuel t cs = some x) :
    ∃ (A : Option Addr) (n c : Nat) (l : List α), cs = [.slice A n c] ∧ l.length = n ∧ n ≤ c ∧ c ≤ maxLen ∧ RdS w A sz f l ∧ (∀ a ∈ l, Q a) ∧ ∃ es sp, (x.1 = .slice es sp ∧ es.length = n) ∨ (x.1 = .nil ∧ n = 0) := by
  rcases open_slice ht h with ⟨rfl, rfl⟩ | ⟨a, len, cap, m, n, D, Pl, rfl, hb, hl, hm, hmm, rfl, hx⟩
  · exact ⟨none, 0, 0, [], rfl, rfl, Nat.le_refl _, Nat.zero_le _, RdS.nil, fun _ h => by simp at h, [], [], .inr ⟨rfl, rfl⟩⟩
  simp only [if_true] at hmm
  subst hmm
  have each : ∀ i, i < len → ∃ u : α, Q u ∧ ∀ j v, (f u)[j]? = some v → j < sz → w.cell? (a.add (i * sz + j)) = some v := by
    intro i hi
    obtain ⟨cs', h1, h2⟩ := hx i (by omega)
    obtain ⟨u, rfl, hQ⟩ := hp _ _ _ h2
    rw [hc] at h1
    obtain ⟨_, hlen, hcell⟩ := World.cells?_some h1
    refine ⟨u, hQ, fun j v hv hj => ?_⟩
    have := hcell j (by omega)
    rw [add_add] at this
    rw [this]
    have h3 := List.getElem?_eq_some_iff.1 hv
    obtain ⟨h4, h5⟩ := h3
    simp [hv]
  by_cases h0 : len = 0
  · subst h0
    exact ⟨some a, 0, m, [], rfl, rfl, Nat.zero_le _, hm, RdS.nil, fun _ h => by simp at h, _, _, .inl ⟨rfl, by simp⟩⟩
  have hne : Nonempty α := let ⟨u, _⟩ := each 0 (by omega); ⟨u⟩
  have hi : Inhabited α := ⟨Classical.choice hne⟩
  obtain ⟨V, hV⟩ := choose_lt each
  have hsp : a = ⟨a.block, a.off, none⟩ := by
    obtain ⟨cs', h1, h2⟩ := hx 0 (by omega)
    rw [hc] at h1
    obtain ⟨_, hlen, hcell⟩ := World.cells?_some h1
    have := hcell 0 (by omega)
    rw [add_add] at this
    simp only [Nat.zero_mul, Nat.add_zero, Addr.add, if_true] at this
    rw [List.getElem?_eq_getElem (by omega)] at this
    exact spot_none this
  refine ⟨some a, len, m, (List.range len).map V, rfl, by simp, hl, hm, ?_, ?_, _, _, .inl ⟨rfl, by simp⟩⟩
  · intro i u hu
    rw [List.getElem?_map] at hu
    obtain ⟨k, hk, rfl⟩ := Option.map_eq_some_iff.1 hu
    have hk2 := List.getElem?_eq_some_iff.1 hk
    obtain ⟨hk3, hk4⟩ := hk2
    simp at hk3 hk4
    subst hk4
    refine ⟨a.block, a.off, by rw [← hsp], fun j v hj hv => ?_⟩
    have := (hV i hk3).2 j v hv hj
    rw [hsp] at this
    rw [add_plain, ← Nat.add_assoc] at this; exact this
  · intro u hu
    simp at hu
    obtain ⟨i, hi, rfl⟩ := hu
    exact (hV i hi).1
theorem rd1_of_S {f : α → Value} {A : Option Addr} {l : List α} (h : RdS w A 1 (fun a => [f a]) l) : Rd1 w A f l := by
  intro i a hi
  obtain ⟨b, o, e, hc⟩ := h i a hi
  have := hc 0 (f a) (by decide) rfl
  rw [Nat.mul_one, Nat.add_zero] at this
  exact ⟨b, o, e, this⟩
/-- of numbers -/
theorem open_is {t e : TypeId} {k : IntKind} (ht : P.underlying t = some (.slice e)) (he : P.underlying e = some (.int k)) (hc : P.cellsOf e = 1)
    {fuel : Nat} {cs : List Value} {x : DataW H × List MemPlace} (h : DataW.trod enc P w base (fun _ => true) held fuel t cs = some x) :
    ∃ (A : Option Addr) (n c : Nat) (l : List Int), cs = [.slice A n c] ∧ l.length = n ∧ n ≤ c ∧ c ≤ maxLen ∧ Rd1 w A (.int k ·) l ∧ (∀ a ∈ l, (Lit.int k a).wf = true) ∧ ∃ es sp, (x.1 = .slice es sp ∧ es.length = n) ∨ (x.1 = .nil ∧ n = 0) := by
  obtain ⟨A, n, c, l, h1, h2, h3, h4, h5, h6, h7⟩ := open_sl (fun a : Int => [.int k a]) (fun a => (Lit.int k a).wf = true) (by decide) ht hc (fun fuel cs y hy => by
    obtain ⟨a, e0, _, wa⟩ := DataW.trod_int he hy
    exact ⟨a, e0, wa⟩) h
  exact ⟨A, n, c, l, h1, h2, h3, h4, rd1_of_S h5, h6, h7⟩
/-- an argument -/
theorem open_arg {t e : TypeId} {r : Reach} {b0 : Nat} {v : Value} {d : DataW H} {p : List MemPlace} (ht : P.underlying t = some (.slice e)) (hv : Value.okWide P w r b0 t v) (h : DataW.Trod enc P w base (fun _ => true) held t v d p) :
    ∃ a n c fuel, v = .slice a n c ∧ DataW.trod enc P w base (fun _ => true) held fuel t [.slice a n c] = some (d, p) := by
  obtain ⟨a, n, c, rfl⟩ := okWide_slice ht hv
  obtain ⟨fuel, hf⟩ := h
  exact ⟨a, n, c, fuel, rfl, hf⟩
end
end Go.Proofs.Ytoiffhoiklafhaa
/-
  Opening hypergraphs, derivations and cases.
-/
namespace Go.Proofs.Ytoiffhoiklafhaa
open Go.ChangeShapes Go.WideShapes Go.ChangeAt Go.RowKit Go.Joins Go.Deep
set_option maxRecDepth 4000
theorem cellsH : Try.prog.cellsOf 24 = 2 := by kernel_rfl
theorem cellsE : Try.prog.cellsOf 49 = 5 := by kernel_rfl
theorem cellsEs : Try.prog.cellsOf 22 = 1 := by kernel_rfl
theorem cells1 : Try.prog.cellsOf 3 = 1 := by kernel_rfl
theorem cellsS : Try.prog.cellsOf 27 = 1 := by kernel_rfl
theorem cellsL : Try.prog.cellsOf 47 = 2 := by kernel_rfl
theorem cellsD : Try.prog.cellsOf 36 = 2 := by kernel_rfl
theorem cellsDs : Try.prog.cellsOf 34 = 1 := by kernel_rfl
section
variable {H : Type} {enc : TypeId × Value → H} {P : Program} {w : World} {base : Nat} {held : Bool} {α : Type}
/-- as open_sl; each element is read with less fuel -/
theorem open_slF {t e : TypeId} {sz : Nat} (f : α → List Value) (Q : α → Prop) (hz : 0 < sz) (ht : P.underlying t = some (.slice e)) (hc : P.cellsOf e = sz) {fuel : Nat}
    (hp : ∀ n cs y, n < fuel → DataW.trod enc P w base (fun _ => true) held n e cs = some y → ∃ a, cs = f a ∧ Q a)
    {cs : List Value} {x : DataW H × List MemPlace} (h : DataW.trod enc P w base (fun _ => true) held fuel t cs = some x) :
    ∃ (A : Option Addr) (n c : Nat) (l : List α), cs = [.slice A n c] ∧ l.length = n ∧ n ≤ c ∧ c ≤ maxLen ∧ RdS w A sz f l ∧ ∀ a ∈ l, Q a := by
  rcases DataW.trod_slice ht h with ⟨rfl, rfl⟩ | ⟨a, len, cap, elems, rest, n, rfl, rfl, _, hb, hl, hm, hlen, hel, _, _⟩
  · exact ⟨none, 0, 0, [], rfl, rfl, Nat.le_refl _, Nat.zero_le _, RdS.nil, fun _ h => by simp at h⟩
  have each : ∀ i, i < len → ∃ u : α, Q u ∧ ∀ j v, (f u)[j]? = some v → j < sz → w.cell? (a.add (i * sz + j)) = some v := by
    intro i hi
    have key := hel i hi
    rw [List.getElem?_eq_getElem (by omega)] at key
    obtain ⟨cs', h1, h2⟩ := Option.bind_eq_some_iff.1 key
    obtain ⟨u, rfl, hQ⟩ := hp n _ _ (by omega) h2
    rw [hc] at h1
    obtain ⟨_, hlen, hcell⟩ := World.cells?_some h1
    refine ⟨u, hQ, fun j v hv hj => ?_⟩
    have := hcell j (by omega)
    rw [add_add] at this
    rw [this]
    have h3 := List.getElem?_eq_some_iff.1 hv
    obtain ⟨h4, h5⟩ := h3
    simp [hv]
  by_cases h0 : len = 0
  · subst h0
    exact ⟨some a, 0, cap, [], rfl, rfl, Nat.zero_le _, hm, RdS.nil, fun _ h => by simp at h⟩
  have hne : Nonempty α := let ⟨u, _⟩ := each 0 (by omega); ⟨u⟩
  have hi : Inhabited α := ⟨Classical.choice hne⟩
  obtain ⟨V, hV⟩ := choose_lt each
  have hsp : a = ⟨a.block, a.off, none⟩ := by
    have key := hel 0 (by omega)
    rw [List.getElem?_eq_getElem (by omega)] at key
    obtain ⟨cs', h1, h2⟩ := Option.bind_eq_some_iff.1 key
    rw [hc] at h1
    obtain ⟨_, hlen, hcell⟩ := World.cells?_some h1
    have := hcell 0 (by omega)
    rw [add_add] at this
    simp only [Nat.zero_mul, Nat.add_zero, Addr.add, if_true] at this
    rw [List.getElem?_eq_getElem (by omega)] at this
    exact spot_none this
  refine ⟨some a, len, cap, (List.range len).map V, rfl, by simp, hl, hm, ?_, ?_⟩
  · intro i u hu
    rw [List.getElem?_map] at hu
    obtain ⟨k, hk, rfl⟩ := Option.map_eq_some_iff.1 hu
    have hk2 := List.getElem?_eq_some_iff.1 hk
    obtain ⟨hk3, hk4⟩ := hk2
    simp at hk3 hk4
    subst hk4
    refine ⟨a.block, a.off, by rw [← hsp], fun j v hj hv => ?_⟩
    have := (hV i hk3).2 j v hv hj
    rw [hsp] at this
    rw [add_plain, ← Nat.add_assoc] at this; exact this
  · intro u hu
    simp at hu
    obtain ⟨i, hi, rfl⟩ := hu
    exact (hV i hi).1
end
theorem array9 {α : Type} {cs : Array α} (h : cs.size = 9) : ∃ c0 c1 c2 c3 c4 c5 c6 c7 c8, cs = #[c0, c1, c2, c3, c4, c5, c6, c7, c8] := by
  obtain ⟨l⟩ := cs
  match l, h with
  | [c0, c1, c2, c3, c4, c5, c6, c7, c8], _ => exact ⟨c0, c1, c2, c3, c4, c5, c6, c7, c8, rfl⟩
section
variable {H : Type} {enc : TypeId × Value → H} {W : World} {base : Nat} {held : Bool}
theorem open_edge (fuel : Nat) (cs : List Value) (y : DataW H × List MemPlace) (h : DataW.trod enc Try.prog W base (fun _ => true) held fuel 49 cs = some y) :
    ∃ a : EI, cs = encE a ∧ Rd1 W a.A (.int .i64 ·) a.t ∧ a.t.length ≤ maxLen := by
  obtain ⟨y0, y1, y2, y3, n, _, hl, h0, h1, h2, h3⟩ := trod_struct4 Try.underlying49 h
  rw [cellsE] at hl
  match cs, hl with
  | [v0, v1, v2, v3, v4], _ =>
    simp only [cells1, cellsS, cellsL, List.drop_zero, List.drop_succ_cons, List.take_succ_cons, List.take_zero] at h0 h1 h2 h3
    obtain ⟨a, e0, _, _⟩ := DataW.trod_int Try.underlying3 h0
    obtain ⟨A, m, c, l, e1, hlm, _, hc, hR, _⟩ := open_is Try.underlying27 Try.underlying3 cells1 h1
    obtain ⟨b, e2, _, _⟩ := DataW.trod_int Try.underlying3 h2
    obtain ⟨xs, q, _, _, _, _, h4⟩ := DataW.trod_array Try.underlying47 h3
    have k0 := h4 0 (by decide)
    have k1 := h4 1 (by decide)
    simp only [cells1, Nat.zero_mul, Nat.one_mul, List.drop_zero, List.drop_succ_cons, List.take_succ_cons, List.take_zero] at k0 k1
    rename_i hx2
    obtain ⟨u0, g0⟩ : ∃ u, xs[0]? = some u := ⟨_, List.getElem?_eq_getElem (by omega)⟩
    obtain ⟨u1, g1⟩ : ∃ u, xs[1]? = some u := ⟨_, List.getElem?_eq_getElem (by omega)⟩
    rw [g0] at k0
    rw [g1] at k1
    obtain ⟨l0, e3, _, _⟩ := DataW.trod_int Try.underlying3 k0
    obtain ⟨l1, e4, _, _⟩ := DataW.trod_int Try.underlying3 k1
    simp only [List.cons.injEq, and_true] at e0 e1 e2 e3 e4
    subst e0 e1 e2 e3 e4
    subst hlm
    exact ⟨⟨a, l, b, l0, l1, A, c⟩, rfl, hR, by simp only; omega⟩
theorem open_hgT {fuel : Nat} {v0 v1 : Value} {y : DataW H × List MemPlace} (h : DataW.trod enc Try.prog W base (fun _ => true) held fuel 24 [v0, v1] = some y) :
    ∃ N A n c es, v0 = .int .i64 N ∧ v1 = .slice A n c ∧ es.length = n ∧ n ≤ maxLen ∧ RdE W A es := by
  obtain ⟨y0, y1, m, _, _, hy0, hy1⟩ := trod_struct2 Try.underlying24 h
  simp only [cells1, cellsEs, List.drop_zero, List.drop_succ_cons, List.take_succ_cons, List.take_zero] at hy0 hy1
  obtain ⟨a, e0, _, _⟩ := DataW.trod_int Try.underlying3 hy0
  obtain ⟨A, n, c, es, e1, hl, hnc, hc, hR, hQ, _⟩ := open_sl encE (fun a => Rd1 W a.A (.int .i64 ·) a.t ∧ a.t.length ≤ maxLen) (by decide) Try.underlying22 cellsE open_edge hy1
  simp only [List.cons.injEq, and_true] at e0 e1
  exact ⟨a, A, n, c, es, e0, e1, hl, by omega, hR, hQ⟩
theorem open_hg {v : Value} {d : DataW H} {p : List MemPlace} (hv1 : Value.okWide Try.prog W .any base 24 v) (h : DataW.Trod enc Try.prog W 0 (fun _ => true) true 24 v d p) :
    ∃ N A n c es, v = hv N A n c ∧ es.length = n ∧ n ≤ maxLen ∧ RdE W A es := by
  obtain ⟨c0, c1, y0, y1, m, rfl, rfl, rfl, hy0, hy1⟩ := open_agg2 Try.underlying24 (by kernel_rfl) cellsH hv1 h
  obtain ⟨a, e0, _, _⟩ := DataW.trod_int Try.underlying3 hy0
  obtain ⟨A, n, c, es, e1, hl, hnc, hc, hR, hQ, _⟩ := open_sl encE (fun a => Rd1 W a.A (.int .i64 ·) a.t ∧ a.t.length ≤ maxLen) (by decide) Try.underlying22 cellsE open_edge hy1
  simp only [List.cons.injEq, and_true] at e0 e1
  subst e0 e1
  exact ⟨a, A, n, c, es, rfl, hl, by omega, hR, hQ⟩
theorem open_der : ∀ (fuel : Nat) (cs : List Value) (y : DataW H × List MemPlace), DataW.trod enc Try.prog W base (fun _ => true) held fuel 36 cs = some y → ∃ d : DI, cs = encD d ∧ RdD W d ∧ d.k.length ≤ d.c ∧ d.c ≤ maxLen := by
  intro fuel
  induction fuel using Nat.strongRecOn with
  | ind fuel ih =>
    intro cs y h
    obtain ⟨xs, n, rfl, _, hl, hxl, hf⟩ := DataW.trod_struct Try.underlying36 h
    rw [cellsD] at hl
    match xs, hxl, cs, hl with
    | [y0, y1], _, [v0, v1], _ =>
      have h0 := hf 0 _ rfl
      have h1 := hf 1 _ rfl
      replace h0 : DataW.trod enc Try.prog W base (fun _ => true) held n 3 [v0] = some y0 := h0
      replace h1 : DataW.trod enc Try.prog W base (fun _ => true) held n 34 [v1] = some y1 := h1
      obtain ⟨a, e0, _, _⟩ := DataW.trod_int Try.underlying3 h0
      obtain ⟨A, m, c, l, e1, hlm, hmc, hc, hR, hQ⟩ := open_slF encD (RdD W) (by decide) Try.underlying34 cellsD (fun k cs y hk hh => let ⟨d, h1, h2, _⟩ := ih k (by omega) cs y hh; ⟨d, h1, h2⟩) h1
      simp only [List.cons.injEq, and_true] at e0 e1
      subst e0 e1
      subst hlm
      exact ⟨.node a A c l, rfl, .mk hR (by omega) hQ, hmc, hc⟩
theorem open_derv {v : Value} {d : DataW H} {p : List MemPlace} (hv1 : Value.okWide Try.prog W .any base 36 v) (h : DataW.Trod enc Try.prog W 0 (fun _ => true) true 36 v d p) :
    ∃ x : DI, v = dv x ∧ RdD W x := by
  obtain ⟨cs, rfl, _⟩ := okWide_struct Try.underlying36 hv1
  obtain ⟨fuel, hf⟩ := h
  obtain ⟨x, h1, h2, _⟩ := open_der _ _ _ hf
  have h3 : cs.toList = encD x := h1
  obtain rfl : cs = (encD x).toArray := by rw [← h3, Array.toArray_toList]
  exact ⟨x, rfl, h2⟩
end
end Go.Proofs.Ytoiffhoiklafhaa
