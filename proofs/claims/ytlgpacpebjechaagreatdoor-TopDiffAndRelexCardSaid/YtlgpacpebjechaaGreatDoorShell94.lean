/-
  What both laws close with.
-/
import Derived.Test.YtlgpacpebjechaaGreatDoorCtr4
import Derived.Test.YtlgpacpebjechaaGreatDoorShell
import Derived.Test.YtlgpacpebjechaaGreatDoorTie
import Derived.Test.YtlgpacpebjechaaGreatDoorCards
import Derived.LaidHandle
import Derived.LaidLaws
import Derived.LaidMore
import Derived.Lay
import Derived.Handed
import Derived.SevenTiedAt
import Derived.MakeChecks
namespace Go.Proofs.YtlgpacpebjechaaGreatDoor
open Go.ChangeShapes Go.WideShapes Go.ChangeAt Go.RowKit Go.Joins Go.Deep
open Go.ChangeMaps (open_string)
abbrev LAID : List (String × DataW Unit) := [("emendate/lexspec.layoutTerms", Rows.laid_emendate_lexspec_layoutTerms)]
theorem str_of {s : ByteArray} {l : List Nat} (h : s.data.toList = l.map UInt8.ofNat) : s = Ev.bs l := by
  obtain ⟨a⟩ := s
  unfold Ev.bs
  congr 1
  exact Array.toList_inj.1 (by rw [List.toList_toArray]; exact h)
theorem len3 {α : Type} {l : List α} (h : l.length = 3) : ∃ a b c, l = [a, b, c] := by
  match l, h with
  | [a, b, c], _ => exact ⟨a, b, c, rfl⟩
set_option maxRecDepth 100000 in
theorem gw_of_laid {W : World} (h : laidMetH Tryz.prog LAID W) : GW W := by
  rw [MakeChecks.laidMetH_plain _ _ _ (by kernel_rfl)] at h
  obtain ⟨ps, ⟨g, t, cs, fuel, p, q, hg, ht, hv, hd, _, _⟩, _, _⟩ := h
  obtain rfl := Option.some.inj ((show Tryz.prog.globalNamed "emendate/lexspec.layoutTerms" = some 0 by kernel_rfl).symm.trans hg)
  obtain rfl := Option.some.inj ((show (Tryz.prog.globals[0]?).map (·.type) = some 145 by kernel_rfl).symm.trans ht)
  have c5 : Tryz.prog.cellsOf 9 = 1 := by kernel_rfl
  have c29 : Tryz.prog.cellsOf 145 = 3 := by kernel_rfl
  obtain ⟨xs, m, _, ex, hlen, hl, hel⟩ := DataW.trod_array Tryz.underlying145 hd
  rw [c29] at hlen
  have hw : ∃ ty fr, W.heap[0]? = some (.cells cs ty fr) := by
    unfold World.var? at hv
    rw [hg] at hv
    simp only [Option.bind_some] at hv
    split at hv
    · rename_i cs' ty fr e
      injection hv with hv
      subst hv
      exact ⟨ty, fr, e⟩
    · cases hv
  obtain ⟨ty, fr, hw⟩ := hw
  obtain ⟨l⟩ := cs
  obtain ⟨a, b, c, rfl⟩ := len3 (l := l) hlen
  obtain ⟨x0, x1, x2, rfl⟩ := len3 hl
  have e3 := (DataW.agg.inj (Prod.mk.inj ex).1)
  obtain ⟨e3, e3'⟩ := List.cons.inj e3
  obtain ⟨e4, e4'⟩ := List.cons.inj e3'
  obtain ⟨e5, _⟩ := List.cons.inj e4' 
  have k0 := hel 0 (by omega); have k1 := hel 1 (by omega); have k2 := hel 2 (by omega)
  rw [c5] at k0 k1 k2
  obtain ⟨z0, a0, b0, _⟩ := DataW.trod_string Tryz.underlying9 k0
  obtain ⟨z1, a1, b1, _⟩ := DataW.trod_string Tryz.underlying9 k1
  obtain ⟨z2, a2, b2, _⟩ := DataW.trod_string Tryz.underlying9 k2
  replace e3 := Lit.string.inj (DataW.lit.inj (e3.trans (congrArg Prod.fst b0)))
  replace e4 := Lit.string.inj (DataW.lit.inj (e4.trans (congrArg Prod.fst b1)))
  replace e5 := Lit.string.inj (DataW.lit.inj (e5.trans (congrArg Prod.fst b2)))
  refine ⟨_, ty, fr, hw, rfl, ?_, ?_, ?_⟩
  · have : a = .string z0 := by simpa using a0
    rw [this, str_of (s := z0) (l := [110, 101, 119, 108, 105, 110, 101]) (by rw [← e3]; rfl)]; rfl
  · have : b = .string z1 := by simpa using a1
    rw [this, str_of (s := z1) (l := [105, 110, 100, 101, 110, 116]) (by rw [← e4]; rfl)]; rfl
  · have : c = .string z2 := by simpa using a2
    rw [this, str_of (s := z2) (l := [100, 101, 100, 101, 110, 116]) (by rw [← e5]; rfl)]; rfl
end Go.Proofs.YtlgpacpebjechaaGreatDoor
