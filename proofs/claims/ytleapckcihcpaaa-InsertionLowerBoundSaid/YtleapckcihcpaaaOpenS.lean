/-
  Opening an argument that is a slice: it reads as a list.
-/
import Derived.Test.YtleapckcihcpaaaShell
import Derived.Test.YtleapckcihcpaaaMem
import Derived.Deep.Slices
namespace Go.Proofs.Ytleapckcihcpaaa
open Go.ChangeShapes Go.WideShapes Go.ChangeAt Go.RowKit Go.Joins Go.Deep
theorem spot_none {w : World} {a : Addr} {v : Value} (h : w.cell? a = some v) : a = ⟨a.block, a.off, none⟩ := by
  obtain ⟨b, o, s⟩ := a
  cases s with
  | none => rfl
  | some s =>
    unfold World.cell? at h
    split at h <;> simp at h
theorem add_plain (b o k : Nat) : (⟨b, o, none⟩ : Addr).add k = ⟨b, o + k, none⟩ := by unfold Addr.add; split <;> simp_all
section
variable {H : Type} {enc : TypeId × Value → H} {P : Program} {w : World} {base : Nat} {held : Bool} {α : Type}
theorem open_sl {t e : TypeId} {sz : Nat} (f : α → List Value) (Q : α → Prop) (hz : 0 < sz) (ht : P.underlying t = some (.slice e)) (hc : P.cellsOf e = sz)
    (hp : ∀ fuel cs y, DataW.trod enc P w base (fun _ => true) held fuel e cs = some y → ∃ a, cs = f a ∧ Q a)
    {fuel : Nat} {cs : List Value} {x : DataW H × List MemPlace} (h : DataW.trod enc P w base (fun _ => true) held fuel t cs = some x) :
    ∃ (A : Option Addr) (n c : Nat) (l : List α), cs = [.slice A n c] ∧ l.length = n ∧ n ≤ c ∧ c ≤ maxLen ∧ RdS w A sz f l ∧ (∀ a ∈ l, Q a) ∧ ∃ es sp, (x.1 = .slice es sp ∧ es.length = n) ∨ (x.1 = .nil ∧ n = 0) := by
  rcases open_slice ht h with ⟨rfl, rfl⟩ | ⟨a, len, cap, m, n, D, Pl, rfl, hb, hl, hm, hmm, rfl, hx⟩
  · exact ⟨none, 0, 0, [], rfl, rfl, Nat.le_refl _, Nat.zero_le _, RdS.nil, fun _ h => by simp at h, [], [], .inr ⟨rfl, rfl⟩⟩
  simp only [if_true] at hmm
  subst hmm
  have each : ∀ i, i < len → ∃ u : α, Q u ∧ ∀ j v, (f u)[j]? = some v → j < sz → w.cell? (a.add (i * sz + j)) = some v := by
    intro i hi
    obtain ⟨cs', h1, h2⟩ := hx i (by omega)
    obtain ⟨u, rfl, hQ⟩ := hp _ _ _ h2
    rw [hc] at h1
    obtain ⟨_, hlen, hcell⟩ := World.cells?_some h1
    refine ⟨u, hQ, fun j v hv hj => ?_⟩
    have := hcell j (by omega)
    rw [add_add] at this
    rw [this]
    have h3 := List.getElem?_eq_some_iff.1 hv
    obtain ⟨h4, h5⟩ := h3
    simp [hv]
  by_cases h0 : len = 0
  · subst h0
    exact ⟨some a, 0, m, [], rfl, rfl, Nat.zero_le _, hm, RdS.nil, fun _ h => by simp at h, _, _, .inl ⟨rfl, by simp⟩⟩
  have hne : Nonempty α := let ⟨u, _⟩ := each 0 (by omega); ⟨u⟩
  have hi : Inhabited α := ⟨Classical.choice hne⟩
  obtain ⟨V, hV⟩ := choose_lt each
  have hsp : a = ⟨a.block, a.off, none⟩ := by
    obtain ⟨cs', h1, h2⟩ := hx 0 (by omega)
    rw [hc] at h1
    obtain ⟨_, hlen, hcell⟩ := World.cells?_some h1
    have := hcell 0 (by omega)
    rw [add_add] at this
    simp only [Nat.zero_mul, Nat.add_zero, Addr.add, if_true] at this
    rw [List.getElem?_eq_getElem (by omega)] at this
    exact spot_none this
  refine ⟨some a, len, m, (List.range len).map V, rfl, by simp, hl, hm, ?_, ?_, _, _, .inl ⟨rfl, by simp⟩⟩
  · intro i u hu
    rw [List.getElem?_map] at hu
    obtain ⟨k, hk, rfl⟩ := Option.map_eq_some_iff.1 hu
    have hk2 := List.getElem?_eq_some_iff.1 hk
    obtain ⟨hk3, hk4⟩ := hk2
    simp at hk3 hk4
    subst hk4
    refine ⟨a.block, a.off, by rw [← hsp], fun j v hj hv => ?_⟩
    have := (hV i hk3).2 j v hv hj
    rw [hsp] at this
    rw [add_plain, ← Nat.add_assoc] at this; exact this
  · intro u hu
    simp at hu
    obtain ⟨i, hi, rfl⟩ := hu
    exact (hV i hi).1
theorem rd1_of_S {f : α → Value} {A : Option Addr} {l : List α} (h : RdS w A 1 (fun a => [f a]) l) : Rd1 w A f l := by
  intro i a hi
  obtain ⟨b, o, e, hc⟩ := h i a hi
  have := hc 0 (f a) (by decide) rfl
  rw [Nat.mul_one, Nat.add_zero] at this
  exact ⟨b, o, e, this⟩
/-- of numbers -/
theorem open_is {t e : TypeId} {k : IntKind} (ht : P.underlying t = some (.slice e)) (he : P.underlying e = some (.int k)) (hc : P.cellsOf e = 1)
    {fuel : Nat} {cs : List Value} {x : DataW H × List MemPlace} (h : DataW.trod enc P w base (fun _ => true) held fuel t cs = some x) :
    ∃ (A : Option Addr) (n c : Nat) (l : List Int), cs = [.slice A n c] ∧ l.length = n ∧ n ≤ c ∧ c ≤ maxLen ∧ Rd1 w A (.int k ·) l ∧ (∀ a ∈ l, (Lit.int k a).wf = true) ∧ ∃ es sp, (x.1 = .slice es sp ∧ es.length = n) ∨ (x.1 = .nil ∧ n = 0) := by
  obtain ⟨A, n, c, l, h1, h2, h3, h4, h5, h6, h7⟩ := open_sl (fun a : Int => [.int k a]) (fun a => (Lit.int k a).wf = true) (by decide) ht hc (fun fuel cs y hy => by
    obtain ⟨a, e0, _, wa⟩ := DataW.trod_int he hy
    exact ⟨a, e0, wa⟩) h
  exact ⟨A, n, c, l, h1, h2, h3, h4, rd1_of_S h5, h6, h7⟩
/-- an argument -/
theorem open_arg {t e : TypeId} {r : Reach} {b0 : Nat} {v : Value} {d : DataW H} {p : List MemPlace} (ht : P.underlying t = some (.slice e)) (hv : Value.okWide P w r b0 t v) (h : DataW.Trod enc P w base (fun _ => true) held t v d p) :
    ∃ a n c fuel, v = .slice a n c ∧ DataW.trod enc P w base (fun _ => true) held fuel t [.slice a n c] = some (d, p) := by
  obtain ⟨a, n, c, rfl⟩ := okWide_slice ht hv
  obtain ⟨fuel, hf⟩ := h
  exact ⟨a, n, c, fuel, rfl, hf⟩
end
end Go.Proofs.Ytleapckcihcpaaa
