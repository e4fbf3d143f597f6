/-
  The reference's First: what it lays in memory.
-/
import Derived.Test.YtajbmdjlfniofaaDoorQ31
namespace Go.Proofs.YtajbmdjlfniofaaDoor
open Go.RowKit Go.Deep PK
attribute [local go_sem] Oper.lit Oper.litS fut_fut fut_drew World.cell?_alloc_some
theorem least_ex {Q : Nat → Prop} : ∀ (n m : Nat), m < n → Q m → ∃ m, Q m ∧ ∀ k, Q k → m ≤ k
 | 0, m, h, _ => by omega
 | n + 1, m, h, hq => by
  by_cases he : ∃ k, k < m ∧ Q k
  ·
   obtain ⟨k, hk, hqk⟩ := he
   exact least_ex n k (by omega) hqk
  ·
   exact ⟨m, hq, fun k hqk => Classical.byContradiction fun hn => he ⟨k, by omega, hqk⟩⟩
/-- the least number of a kind -/
noncomputable def minN (Q : Nat → Prop) : Nat := @dite _ (∃ m, Q m ∧ ∀ k, Q k → m ≤ k) (Classical.propDecidable _) (fun h => Classical.choose h) (fun _ => 0)
theorem minN_spec {Q : Nat → Prop} {m : Nat} (h : Q m) : Q (minN Q) ∧ ∀ k, Q k → minN Q ≤ k := by
 have he := least_ex (m + 1) m (by omega) h
 unfold minN
 rw [dif_pos he]
 exact Classical.choose_spec he
theorem minN_mem {Q : Nat → Prop} {m : Nat} (h : Q m) : Q (minN Q) := (minN_spec h).1
theorem minN_le {Q : Nat → Prop} {m : Nat} (h : Q m) : minN Q ≤ m := (minN_spec h).2 m h
/-- the lists, as trees -/
def Lp (Ls : Nat → DI) (v : Nat) : List DT := (Ls v).k.map toDT
def updL (Ls : Nat → DI) (v : Nat) (D : DI) : Nat → DI := fun u => if u = v then D else Ls u
theorem Lp_upd (Ls : Nat → DI) (v : Nat) (D : DI) : Lp (updL Ls v D) = fun u => if u = v then D.k.map toDT else Lp Ls u := by
 funext u
 unfold Lp updL
 split <;> rfl
/-- what the reference's First has laid in memory -/
structure FM (w0 : World) (N : Nat) (A : Option Addr) (n c : Nat) (ok : Nat → Prop) (wr : World) (Ls : Nat → DI) : Prop where
 fut : Fut w0 wr
 hyp : Blk wr w0.heap.size 24 #[.int .i64 (N : Int), .slice A n c]
 row : wr.rowIs (w0.heap.size + 1) 28 N (fun v => .slice (Ls v).A (Ls v).k.length (Ls v).c)
 lst : ∀ v, v < N → RdP ok wr (Ls v) ∧ LstA (Ls v).A (Ls v).c (Ls v).k
section
variable {w0 w w' : World} {N n c : Nat} {A : Option Addr} {ok ok' : Nat → Prop} {Ls : Nat → DI}
theorem FM.keep (h : FM w0 N A n c ok w Ls) {S : Nat → Bool} (hf : FutS S w w') (h1 : S w0.heap.size = false) (h2 : S (w0.heap.size + 1) = false) (h3 : ∀ b, S b = true → w0.heap.size ≤ b) (h4 : ∀ b, ok b → b < w.heap.size → S b = false ∧ ok' b) : FM w0 N A n c ok' w' Ls :=
 ⟨hf.fut h.fut h3, h.hyp.futS hf h1, rowIs_futS h.row hf h2, fun v hv => ⟨(h.lst v hv).1.keep (fun b hb hl => ⟨hf.block b hl (h4 b hb hl).1, (h4 b hb hl).2⟩), (h.lst v hv).2⟩⟩
theorem FM.grow (h : FM w0 N A n c ok w Ls) (hf : Fut w w') : FM w0 N A n c ok w' Ls :=
 ⟨h.fut.trans hf, h.hyp.fut hf, h.row.of_block (hf.block _ h.row.lt), fun v hv => ⟨(h.lst v hv).1.keep (fun b hb hl => ⟨hf.block b hl, hb⟩), (h.lst v hv).2⟩⟩
theorem FM.weak (h : FM w0 N A n c ok w Ls) (hk : ∀ b, ok b → ok' b) : FM w0 N A n c ok' w Ls :=
 ⟨h.fut, h.hyp, h.row, fun v hv => ⟨(h.lst v hv).1.keep (fun b hb _ => ⟨rfl, hk b hb⟩), (h.lst v hv).2⟩⟩
/-- a list is stored -/
theorem FM.set (h : FM w0 N A n c ok w Ls) (hok : ∀ b, ok b → b ≠ w0.heap.size + 1) {v : Nat} {D : DI} (hD : RdP ok w D) (hL : LstA D.A D.c D.k) : FM w0 N A n c ok (w.setCell ⟨w0.heap.size + 1, v, none⟩ (.slice D.A D.k.length D.c)) (updL Ls v D) := by
 have hk : ∀ b, ok b → b < w.heap.size → (w.setCell ⟨w0.heap.size + 1, v, none⟩ (.slice D.A D.k.length D.c)).heap[b]? = w.heap[b]? ∧ ok b := fun b hb _ => ⟨blk_setCell_other _ _ _ _ (hok b hb), hb⟩
 refine ⟨h.fut.setCell (by simp only; omega) _, h.hyp.setOther (by simp) _, (World.rowIs.set h.row v _).congr (fun u _ => ?_), fun u hu => ?_⟩
 ·
  unfold updL
  by_cases e : u = v
  ·
   simp [e]
  ·
   simp [e]
 ·
  unfold updL
  by_cases e : u = v
  ·
   rw [if_pos e]; exact ⟨hD.keep hk, hL⟩
  ·
   rw [if_neg e]; exact ⟨(h.lst u hu).1.keep hk, (h.lst u hu).2⟩
/-- an element of a list -/
theorem FM.el (h : FM w0 N A n c ok w Ls) {v i : Nat} (hv : v < N) {x : DI} (hx : (Ls v).k[i]? = some x) : ∃ g, (Ls v).A = some ⟨g, 0, none⟩ ∧ w.cell? ⟨g, i * 2, none⟩ = some (.int .i64 x.e) ∧ w.cell? ⟨g, i * 2 + 1, none⟩ = some (.slice x.A x.k.length x.c) ∧ RdP ok w x := by
 obtain ⟨h1, h2⟩ := h.lst v hv
 rcases h2 with ⟨_, h3, _⟩ | ⟨g, h3, _⟩
 ·
  rw [h3] at hx; simp at hx
 ·
  refine ⟨g, h3, ?_⟩
  obtain ⟨D, hL⟩ : ∃ D, Ls v = D := ⟨_, rfl⟩
  rw [hL] at h1 hx h3
  obtain ⟨e, B, d, k⟩ := D
  simp only [DI.A, DI.k] at hx h3
  obtain ⟨p1, _, _, p4⟩ := h1.parts
  obtain ⟨b, o, e1, hc⟩ := p1 i x hx
  rw [h3] at e1
  injection e1 with e1
  injection e1 with e2 e3
  subst e2 e3
  have c0 := hc 0 _ (by decide) rfl
  have c1 := hc 1 _ (by decide) rfl
  simp only [Nat.zero_add, Nat.add_zero] at c0 c1
  exact ⟨c0, c1, p4 x (List.mem_of_getElem? hx)⟩
end
/-- the trees of a tree list are those of the list -/
theorem LstA.nil : LstA none 0 [] := .inl ⟨rfl, rfl, rfl⟩
/-- at the start: no lists -/
def L00 : Nat → DI := fun _ => .node 0 none 0 []
end Go.Proofs.YtajbmdjlfniofaaDoor
