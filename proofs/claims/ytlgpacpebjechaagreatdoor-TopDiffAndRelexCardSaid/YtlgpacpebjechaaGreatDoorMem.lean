/-
  Words for memory: a slice that reads as a list (of one-cell elements, of structs); rows of the call's own; all kept while memory only grows.
-/
import Derived.Test.YtlgpacpebjechaaGreatDoorReg
import Derived.WalkKit
import Derived.WalkSpells
import Derived.WalkLawsBesides
import Derived.Laws.OwnMore
import Derived.Deep.AppendLies
import Derived.Deep.Draws
import Derived.Laws.Rows
import Derived.Lib.Hide
namespace Go.Proofs.YtlgpacpebjechaaGreatDoor
open Go.RowKit

/-! ### lists -/
section
variable {α β : Type}
theorem flat_len (enc : α → List β) (sz : Nat) (h : ∀ a, (enc a).length = sz) (l : List α) : (l.flatMap enc).length = l.length * sz := by
  induction l with
  | nil => simp
  | cons a l ih => simp only [List.flatMap_cons, List.length_append, List.length_cons, h, ih, Nat.add_mul, Nat.one_mul]; omega
theorem flat_get (enc : α → List β) (sz : Nat) (h : ∀ a, (enc a).length = sz) : ∀ (l : List α) (i : Nat) (a : α) (j : Nat), l[i]? = some a → j < sz → (l.flatMap enc)[i * sz + j]? = (enc a)[j]? := by
  intro l
  induction l with
  | nil => intro i a j hi; simp at hi
  | cons x l ih =>
    intro i a j hi hj
    cases i with
    | zero =>
      simp only [List.getElem?_cons_zero, Option.some.injEq] at hi
      subst hi
      rw [List.flatMap_cons, List.getElem?_append_left (by rw [h]; omega)]
      simp
    | succ i =>
      rw [List.flatMap_cons, List.getElem?_append_right (by rw [h, Nat.add_mul]; omega)]
      simp only [List.getElem?_cons_succ] at hi
      rw [← ih i a j hi hj, h]
      congr 1
      rw [Nat.add_mul]
      omega
theorem flat_inv (enc : α → List β) (sz : Nat) (h : ∀ a, (enc a).length = sz) : ∀ (l : List α) (k : Nat) (u : β), (l.flatMap enc)[k]? = some u → ∃ i j a, k = i * sz + j ∧ j < sz ∧ l[i]? = some a ∧ (enc a)[j]? = some u := by
  intro l
  induction l with
  | nil => intro k u hk; simp at hk
  | cons x l ih =>
    intro k u hk
    rw [List.flatMap_cons] at hk
    by_cases hlt : k < sz
    · rw [List.getElem?_append_left (by rw [h]; omega)] at hk
      exact ⟨0, k, x, by omega, hlt, rfl, hk⟩
    · rw [List.getElem?_append_right (by rw [h]; omega), h] at hk
      obtain ⟨i, j, a, e, hj, hi, hu⟩ := ih _ u hk
      exact ⟨i + 1, j, a, by rw [Nat.add_mul]; omega, hj, hi, hu⟩
end

/-! ### cells of new blocks -/
theorem cell_al_new (w : World) (cs : Array Value) (t : TypeId) (fr : Nat × Nat) (b i : Nat) (h : b = w.heap.size) : (w.alloc (.cells cs t fr)).cell? ⟨b, i, none⟩ = cs[i]? := by
  subst h
  exact cell_of_row _ _ i cs t fr (heap_alloc_new w _)
theorem cell_al_old (w : World) (o : Obj) (a : Addr) (h : a.block < w.heap.size) : (w.alloc o).cell? a = w.cell? a := World.cell?_alloc_lt _ _ _ h
theorem cell_dr (w : World) (a : Addr) : w.drew.cell? a = w.cell? a := rfl

/-! ### reading -/
section
variable {α : Type} {w w' : World} {A : Option Addr} {f : α → Value} {sz : Nat} {enc : α → List Value} {l : List α}
/-- behind A lie the elements l, of one cell each -/
def Rd1 (w : World) (A : Option Addr) (f : α → Value) (l : List α) : Prop :=
  ∀ (i : Nat) (a : α), l[i]? = some a → ∃ b o, A = some ⟨b, o, none⟩ ∧ w.cell? ⟨b, o + i, none⟩ = some (f a)
/-- behind A lie the elements l, of sz cells each -/
def RdS (w : World) (A : Option Addr) (sz : Nat) (enc : α → List Value) (l : List α) : Prop :=
  ∀ (i : Nat) (a : α), l[i]? = some a → ∃ b o, A = some ⟨b, o, none⟩ ∧ ∀ j u, j < sz → (enc a)[j]? = some u → w.cell? ⟨b, o + i * sz + j, none⟩ = some u
theorem Rd1.nil : Rd1 w A f [] := fun i a h => by simp at h
theorem RdS.nil : RdS w A sz enc [] := fun i a h => by simp at h
theorem Rd1.fut (h : Rd1 w A f l) (hf : Fut w w') : Rd1 w' A f l := fun i a hi => by
  obtain ⟨b, o, e, hc⟩ := h i a hi
  exact ⟨b, o, e, hf.cell hc⟩
theorem RdS.fut (h : RdS w A sz enc l) (hf : Fut w w') : RdS w' A sz enc l := fun i a hi => by
  obtain ⟨b, o, e, hc⟩ := h i a hi
  exact ⟨b, o, e, fun j u hj hu => hf.cell (hc j u hj hu)⟩
theorem Rd1.keep {B : Nat} (h : Rd1 w A f l) (hB : ∀ b o, A = some ⟨b, o, none⟩ → b < B) (hf : Below B w w') : Rd1 w' A f l := fun i a hi => by
  obtain ⟨b, o, e, hc⟩ := h i a hi
  exact ⟨b, o, e, (hf.cell (p := ⟨b, o + i, none⟩) (hB b o e)).trans hc⟩
/-- of a row of the call's own -/
theorem Rd1.of_own {B : Nat} {t : TypeId} {c n : Nat} (h : w.ownsRow B t 1 (.slice A n c) n (l.map f)) : Rd1 w A f l := by
  intro i a hi
  have hl : i < n := by
    have h1 := h.1
    have h2 := (List.getElem?_eq_some_iff.1 hi).1
    simp at h1; omega
  obtain ⟨g, cap, hv, _, hlt⟩ := h.form (by omega)
  have hA : A = some ⟨g, 0, none⟩ := by injection hv
  subst hA
  refine ⟨g, 0, rfl, ?_⟩
  have h1 := h.cells (g := g) rfl i (f a) (by simp [hi])
  have e : (⟨g, 0, none⟩ : Addr).add i = ⟨g, 0 + i, none⟩ := by unfold Addr.add; split <;> simp_all
  rw [e] at h1; exact h1
theorem RdS.of_own {B : Nat} {t : TypeId} {c n : Nat} (he : ∀ a, (enc a).length = sz) (hz : 0 < sz) (h : w.ownsRow B t sz (.slice A n c) n (l.flatMap enc)) : RdS w A sz enc l := by
  intro i a hi
  have hl : i < n := by
    have h1 := h.1
    have h2 := (List.getElem?_eq_some_iff.1 hi).1
    rw [flat_len enc sz he] at h1
    have := Nat.eq_of_mul_eq_mul_right hz h1
    omega
  obtain ⟨g, cap, hv, _, hlt⟩ := h.form (by omega)
  have hA : A = some ⟨g, 0, none⟩ := by injection hv
  subst hA
  refine ⟨g, 0, rfl, fun j u hj hu => ?_⟩
  have h1 := h.cells (g := g) rfl (i * sz + j) u (by rw [flat_get enc sz he l i a j hi hj]; exact hu)
  have e : (⟨g, 0, none⟩ : Addr).add (i * sz + j) = ⟨g, 0 + i * sz + j, none⟩ := by unfold Addr.add; split <;> simp_all
  rw [e] at h1; exact h1
/-- the cells as append asks for them -/
theorem Rd1.news {b o : Nat} (h : Rd1 w (some ⟨b, o, none⟩) f l) : ∀ j u, (l.map f)[j]? = some u → w.cell? ((⟨b, o, none⟩ : Addr).add j) = some u := by
  intro j u hu
  rw [List.getElem?_map] at hu
  obtain ⟨a, ha, rfl⟩ := Option.map_eq_some_iff.1 hu
  obtain ⟨b', o', e, hc⟩ := h j a ha
  simp only [Option.some.injEq, Addr.mk.injEq] at e
  obtain ⟨rfl, rfl, _⟩ := e
  have e : (⟨b, o, none⟩ : Addr).add j = ⟨b, o + j, none⟩ := by unfold Addr.add; split <;> simp_all
  rw [e]; exact hc
theorem RdS.news {b o : Nat} (he : ∀ a, (enc a).length = sz) (h : RdS w (some ⟨b, o, none⟩) sz enc l) : ∀ j u, (l.flatMap enc)[j]? = some u → w.cell? ((⟨b, o, none⟩ : Addr).add j) = some u := by
  intro k u hu
  obtain ⟨i, j, a, rfl, hj, hi, hu⟩ := flat_inv enc sz he l k u hu
  obtain ⟨b', o', e, hc⟩ := h i a hi
  simp only [Option.some.injEq, Addr.mk.injEq] at e
  obtain ⟨rfl, rfl, _⟩ := e
  have e : (⟨b, o, none⟩ : Addr).add (i * sz + j) = ⟨b, o + i * sz + j, none⟩ := by unfold Addr.add; split <;> simp_all [Nat.add_assoc]
  rw [e]; exact hc j u hj hu
end

end Go.Proofs.YtlgpacpebjechaaGreatDoor
