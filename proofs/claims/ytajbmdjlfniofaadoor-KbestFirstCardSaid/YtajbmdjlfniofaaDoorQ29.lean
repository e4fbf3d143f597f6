/-
  The law: the first k are the beginning of the first k + 1.
-/
import Derived.Test.YtajbmdjlfniofaaDoorBL
namespace Go.Proofs.YtajbmdjlfniofaaDoor
open Go.RowKit Go.Deep PK
attribute [local go_sem] Oper.lit Oper.litS fut_fut fut_drew World.cell?_alloc_some
attribute [local go_sem] fut_base_drew
/-- what First answers -/
def ListQ (es : List EI) (v : Nat) (k : Int) (ks : List DI) : Prop := PreD (EEs es) v (ks.map toDT) ∧ (k ≤ 0 → ks = []) ∧ (0 < k → (ks.length : Int) ≤ k ∧ ((ks.length : Int) = k ∨ FullD (EEs es) v (ks.map toDT)))
theorem ListQ.len {es : List EI} {v : Nat} {k : Int} {ks : List DI} (h : ListQ es v k ks) (hk : 0 ≤ k) : (ks.length : Int) ≤ k := by
 by_cases h0 : 0 < k
 ·
  exact (h.2.2 h0).1
 ·
  rw [h.2.1 (by omega)]; simpa using hk
theorem ListQ.next {es : List EI} {v : Nat} {k : Int} {a b : List DI} (h : ListQ es v k a) (g : ListQ es v (k + 1) b) (hk : 0 ≤ k) : a.length ≤ b.length ∧ ((a.length : Int) = k ∨ b.length = a.length) ∧ a.map toDT = (b.take a.length).map toDT := by
 have hla := h.len hk
 have hlb := (g.2.2 (by omega)).1
 have key : a.length ≤ b.length := by
  rcases (g.2.2 (by omega)).2 with h1 | h1
  ·
   omega
  ·
   have := h1.len g.1 h.1
   rwa [List.length_map, List.length_map] at this
 refine ⟨key, ?_, ?_⟩
 ·
  by_cases h0 : 0 < k
  ·
   rcases (h.2.2 h0).2 with h1 | h1
   ·
    exact .inl h1
   ·
    right
    have := h1.len h.1 g.1
    rw [List.length_map, List.length_map] at this
    omega
  ·
   left
   rw [h.2.1 (by omega)]
   simp only [List.length_nil]
   omega
 ·
  have := h.1.eq_take g.1 (by rw [List.length_map, List.length_map]; exact key)
  rw [this, List.length_map, List.map_take]
theorem ListQ.same {es : List EI} {v : Nat} {k : Int} {a b : List DI} (h : ListQ es v k a) (g : ListQ es v k b) : a.map toDT = b.map toDT := by
 by_cases h0 : 0 < k
 ·
  have hl : (a.map toDT).length = (b.map toDT).length := by
   have h1 := (h.2.2 h0)
   have h2 := (g.2.2 h0)
   rw [List.length_map, List.length_map]
   rcases h1.2 with h3 | h3
   ·
    rcases h2.2 with h4 | h4
    ·
     omega
    ·
     have := h4.len g.1 h.1
     rw [List.length_map, List.length_map] at this
     omega
   ·
    have := h3.len h.1 g.1
    rw [List.length_map, List.length_map] at this
    rcases h2.2 with h4 | h4
    ·
     omega
    ·
     have := h4.len g.1 h.1
     rw [List.length_map, List.length_map] at this
     omega
  have h1 := h.1.eq_take g.1 (by omega)
  rw [hl, List.take_length] at h1
  exact h1
 ·
  rw [h.2.1 (by omega), g.2.1 (by omega)]
end Go.Proofs.YtajbmdjlfniofaaDoor
