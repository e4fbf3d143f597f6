/-
  Inside values, as plain mathematics.
-/
import Derived.Test.YtjoejkfchnooaaaHord
import Derived.Test.YtjoejkfchnooaaaHval
import Derived.Test.YtjoejkfchnooaaaHreach
namespace Go.Proofs.Ytjoejkfchnooaaa
abbrev uu : Value := .agg #[]
theorem info_str : (Try.prog.info? 9).map (fun i => (i.zero, i.size, i.bytes)) = some (some (.string ByteArray.empty), 1, 16) := by kernel_rfl
theorem valid_parts {N : Nat} {es : List EI} (h : validB N es = true) : 1 ≤ N ∧ N ≤ 1048576 ∧ (∀ e ∈ es, 0 ≤ e.h ∧ e.h < N) ∧ (∀ e ∈ es, ∀ t ∈ e.t, 0 ≤ t ∧ t < N) := by
  unfold validB at h
  simp only [Bool.and_eq_true, decide_eq_true_eq, List.all_eq_true] at h
  obtain ⟨⟨h1, h2⟩, h3⟩ := h
  refine ⟨by omega, by omega, fun e he => ?_, fun e he t ht => ?_⟩
  · have := h3 e he
    unfold okE at this
    simp only [Bool.and_eq_true, inB', decide_eq_true_eq] at this
    exact this.1.1.1
  · have := h3 e he
    unfold okE at this
    simp only [Bool.and_eq_true, List.all_eq_true] at this
    have := this.2 t ht
    simpa [inB'] using this
theorem ordGo_lt (es : List EI) (N : Nat) : ∀ (f : Nat) (D : Nat → Bool) (l r : List Nat), (∀ x ∈ l, x < N) → ordGo es N f D l = some r → (∀ x ∈ r, x < N) ∧ r.length = l.length + f
  | 0, D, l, r, hl, h => by
    unfold ordGo at h
    obtain rfl := Option.some.inj h
    exact ⟨hl, rfl⟩
  | f + 1, D, l, r, hl, h => by
    unfold ordGo at h
    cases hn : nextO es N D with
    | none => rw [hn] at h; cases h
    | some v =>
      rw [hn] at h
      have hv : v < N := by
        unfold nextO at hn
        exact List.mem_range.1 (List.mem_of_find?_eq_some hn)
      have := ordGo_lt es N f (upd D v true) (l ++ [v]) r (fun x hx => by
        rcases List.mem_append.1 hx with hx | hx
        · exact hl x hx
        · simp only [List.mem_singleton] at hx; subst hx; exact hv) h
      exact ⟨this.1, by rw [this.2]; simp; omega⟩
theorem ordS_lt {es : List EI} {N : Nat} {l : List Nat} (h : ordS es N = some l) : (∀ x ∈ l, x < N) ∧ l.length = N := by
  have := ordGo_lt es N N (fun _ => false) [] l (by simp) h
  exact ⟨this.1, by simpa using this.2⟩
section
variable {α : Type} (Z z0 : α) (mul add : α → α → α) (es : List EI) (ws : List α) (n : Nat)
/-- the product of an edge -/
def edgeV (O : Nat → α) (x : α) (i : Nat) : α := (tl es i).foldl (fun a t => mul a (O t)) x
/-- the value of a node -/
def nodeV (O : Nat → α) (v : Nat) : α := (eof es n v).foldl (fun s i => add s (edgeV mul es O (ws.getD i z0) i)) Z
def insStep (O : Nat → α) (v : Nat) : Nat → α := upd O v (nodeV Z z0 mul add es ws n O v)
def insO (l : List Nat) : Nat → α := l.foldl (insStep Z z0 mul add es ws n) (fun _ => z0)
end
/-- as Inside answers -/
def InsRes {α : Type} (f : α → Value) (w' : World) (e : Ending) (N : Nat) (O : List Nat → Nat → α) (r : Option (List Nat)) : Prop :=
  match r with
  | some l => ∃ b, e = .returned (.tuple #[.slice (some ⟨b, 0, none⟩) N N, .int .i64 0]) ∧ Rd1 w' (some ⟨b, 0, none⟩) f ((List.range N).map (O l))
  | none => e = .returned (.tuple #[.slice none 0 0, .int .i64 9])
/-- every cell of w is as it was -/
def Kp (w w' : World) : Prop := ∀ a v, w.cell? a = some v → w'.cell? a = some v
theorem Kp.refl (w : World) : Kp w w := fun _ _ h => h
theorem Kp.fut {w w' w'' : World} (h : Kp w w') (k : Fut w' w'') : Kp w w'' := fun a v hc => k.cell (h a v hc)
theorem Kp.set {w w' : World} (h : Kp w w') {a : Addr} (ha : w.heap.size ≤ a.block) (u : Value) : Kp w (w'.setCell a u) := fun p v hc => cell_set (h p v hc) (by have := World.block_lt_of_cell? w p hc; omega)
theorem Rd1.kp {α : Type} {f : α → Value} {w w' : World} {A : Option Addr} {l : List α} (h : Rd1 w A f l) (k : Kp w w') : Rd1 w' A f l := fun i a hi => by
  obtain ⟨b, o, e, hc⟩ := h i a hi
  exact ⟨b, o, e, k _ _ hc⟩
end Go.Proofs.Ytjoejkfchnooaaa
