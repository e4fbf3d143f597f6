/-
  The lexer's walks: what they lean on; an automaton in memory.
-/
import Derived.Test.YtlgpacpebjechaaGreatDoorOrders
import Derived.Test.YtlgpacpebjechaaGreatDoorBlk
import Derived.Test.YtlgpacpebjechaaGreatDoorProg
import Derived.Handy
import Derived.Deep.RegionHeld
import Derived.LoopTactic
import Derived.WalkKit
import Derived.WalkSpells
import Derived.WalkLawsBesides
import Derived.BigQuiet
namespace Go.Proofs.YtlgpacpebjechaaGreatDoor
open Go.RowKit Go.Deep
theorem get_lt {α : Type} {l : List α} {k n : Nat} (hl : l.length = n) (hk : k < n) : ∃ x, l[k]? = some x := ⟨_, List.getElem?_eq_getElem (by omega)⟩
/-- an automaton: classes, states; the class of a byte, what follows, what is accepted -/
structure DA where
  K : Nat
  n : Nat
  cls : Nat → Nat
  nxt : Nat → Nat → Int
  acc : Nat → Int
structure DA.OK (D : DA) : Prop where
  K : 1 ≤ D.K ∧ D.K ≤ 1000
  n : 1 ≤ D.n ∧ D.n ≤ 1000
  cls : ∀ b, b < 256 → D.cls b < D.K
  nxt : ∀ q c, q < D.n → c < D.K → -1 ≤ D.nxt q c ∧ D.nxt q c < D.n
  acc : ∀ q, q < D.n → -1 ≤ D.acc q ∧ D.acc q ≤ 1000
/-- where it lies -/
structure DP where
  C : Nat
  cc : Nat
  N : Nat
  cn : Nat
  A : Nat
  ca : Nat
abbrev dcells (p : DP) (n : Nat) : List Value := [.slice (some ⟨p.C, 0, none⟩) 256 p.cc, .slice (some ⟨p.N, 0, none⟩) n p.cn, .slice (some ⟨p.A, 0, none⟩) n p.ca]
abbrev dval (p : DP) (n : Nat) : Value := .agg #[.slice (some ⟨p.C, 0, none⟩) 256 p.cc, .slice (some ⟨p.N, 0, none⟩) n p.cn, .slice (some ⟨p.A, 0, none⟩) n p.ca]
/-- the automaton lies in memory -/
structure RdA (w : World) (p : DP) (D : DA) : Prop where
  cls : ∀ b, b < 256 → w.cell? ⟨p.C, b, none⟩ = some (.int .i64 (D.cls b))
  nxt : ∀ q, q < D.n → ∃ br cr, w.cell? ⟨p.N, q, none⟩ = some (.slice (some ⟨br, 0, none⟩) D.K cr) ∧ ∀ c, c < D.K → w.cell? ⟨br, c, none⟩ = some (.int .i64 (D.nxt q c))
  acc : ∀ q, q < D.n → w.cell? ⟨p.A, q, none⟩ = some (.int .i64 (D.acc q))
theorem RdA.keep {w w' : World} {p : DP} {D : DA} (h : RdA w p D) (hf : ∀ a v, w.cell? a = some v → w'.cell? a = some v) : RdA w' p D :=
  ⟨fun b hb => hf _ _ (h.cls b hb), fun q hq => let ⟨br, cr, h1, h2⟩ := h.nxt q hq; ⟨br, cr, hf _ _ h1, fun c hc => hf _ _ (h2 c hc)⟩, fun q hq => hf _ _ (h.acc q hq)⟩
theorem RdA.fut {w w' : World} {p : DP} {D : DA} (h : RdA w p D) (hf : Fut w w') : RdA w' p D := h.keep (fun _ _ hc => hf.cell hc)
end Go.Proofs.YtlgpacpebjechaaGreatDoor
