/-
  Hypergraphs: how one lies in memory; its validity as plain mathematics.
-/
import Derived.Test.YtleapckcihcpaaaOrders
import Derived.Test.YtleapckcihcpaaaPder
import Derived.Test.YtleapckcihcpaaaMem
import Derived.Test.YtleapckcihcpaaaProg
import Derived.Handy
import Derived.Deep.RegionHeld
import Derived.LoopTactic
import Derived.WalkKit
import Derived.WalkSpells
import Derived.WalkLawsBesides
import Derived.BigQuiet
namespace Go.Proofs.Ytleapckcihcpaaa
open Go.RowKit
attribute [local go_sem] Oper.lit fut_fut fut_drew World.cell?_alloc_some
/-- a hyperedge, and where its tails lie -/
structure EI where
  h : Int
  t : List Int
  c : Int
  l0 : Int
  l1 : Int
  A : Option Addr
  k : Nat
def encE (e : EI) : List Value := [.int .i64 e.h, .slice e.A e.t.length e.k, .int .i64 e.c, .int .i64 e.l0, .int .i64 e.l1]
def RdE (w : World) (A : Option Addr) (es : List EI) : Prop := RdS w A 5 encE es ∧ ∀ e ∈ es, Rd1 w e.A (.int .i64 ·) e.t ∧ e.t.length ≤ maxLen
theorem RdE.fut {w w' : World} {A : Option Addr} {es : List EI} (h : RdE w A es) (hf : Fut w w') : RdE w' A es :=
  ⟨h.1.fut hf, fun e he => ⟨(h.2 e he).1.fut hf, (h.2 e he).2⟩⟩
abbrev hv (N : Int) (A : Option Addr) (n c : Nat) : Value := .agg #[.int .i64 N, .slice A n c]
def inB' (N x : Int) : Bool := decide (0 ≤ x) && decide (x < N)
def okE (N : Int) (e : EI) : Bool := inB' N e.h && decide (0 ≤ e.c) && decide (e.c ≤ 1099511627776) && e.t.all (inB' N)
def validB (N : Int) (es : List EI) : Bool := decide (1 ≤ N) && decide (N ≤ 1048576) && es.all (okE N)
def smallB (N : Int) (es : List EI) : Bool := decide (N ≤ 30) && decide (es.length ≤ 60) && es.all (fun e => decide (e.t.length ≤ 4)) && validB N es

theorem take_all {α : Type} {p : α → Bool} {l : List α} {k : Nat} {x : α} (h : (l.take k).all p = true) (hx : l[k]? = some x) (hp : p x = true) : (l.take (k + 1)).all p = true := by
  rw [List.take_add_one, hx, List.all_append, h]; simp [hp]
theorem all_not {α : Type} {p : α → Bool} {l : List α} {k : Nat} {x : α} (hx : l[k]? = some x) (hp : p x = false) : l.all p = false :=
  List.all_eq_false.2 ⟨x, List.mem_of_getElem? hx, by simp [hp]⟩
theorem all_take {α : Type} {p : α → Bool} {l : List α} {k : Nat} (h : (l.take k).all p = true) (hk : l.length ≤ k) : l.all p = true := by
  rwa [List.take_of_length_le hk] at h
theorem get_lt {α : Type} {l : List α} {k n : Nat} (hl : l.length = n) (hk : k < n) : ∃ x, l[k]? = some x := ⟨_, List.getElem?_eq_getElem (by omega)⟩
/-- the same, in plain mathematics -/
def toEE (e : EI) : PK.EE := ⟨e.h.toNat, e.t.map Int.toNat, e.c⟩
abbrev EEs (es : List EI) : List PK.EE := es.map toEE
theorem okE_parts {N : Int} {e : EI} (h : okE N e = true) : 0 ≤ e.h ∧ e.h < N ∧ 0 ≤ e.c ∧ e.c ≤ 1099511627776 ∧ ∀ t ∈ e.t, 0 ≤ t ∧ t < N := by
  simp only [okE, inB', Bool.and_eq_true, decide_eq_true_eq, List.all_eq_true] at h
  exact ⟨h.1.1.1.1, h.1.1.1.2, h.1.1.2, h.1.2, fun t ht => h.2 t ht⟩
theorem validB_parts {N : Int} {es : List EI} (h : validB N es = true) : 1 ≤ N ∧ N ≤ 1048576 ∧ ∀ e ∈ es, okE N e = true := by
  simp only [validB, Bool.and_eq_true, decide_eq_true_eq, List.all_eq_true] at h
  exact ⟨h.1.1, h.1.2, h.2⟩
theorem EEs_ok {N : Int} {es : List EI} (h : validB N es = true) : ∀ e ∈ EEs es, PK.okE e := by
  intro e he
  obtain ⟨x, hx, rfl⟩ := List.mem_map.1 he
  obtain ⟨_, _, h3, h4, _⟩ := okE_parts ((validB_parts h).2.2 x hx)
  exact ⟨h3, h4⟩
end Go.Proofs.Ytleapckcihcpaaa
