/-
  Small hypergraphs.
-/
import Derived.Test.YtjoejkfchnooaaaHawake
import Derived.Test.YtjoejkfchnooaaaHval2
namespace Go.Proofs.Ytjoejkfchnooaaa
theorem sumT_le {es : List EI} (h : ∀ e ∈ es, e.t.length ≤ 4) : ∀ k, sumT es k ≤ 4 * k
  | 0 => by simp [sumT]
  | k + 1 => by
    rw [sumT_succ]
    have := sumT_le h k
    have h2 : (tl es k).length ≤ 4 := by
      unfold tl
      cases he : es[k]? with
      | none => simp
      | some e => simp only [List.length_map]; exact h e (List.mem_of_getElem? he)
    omega
theorem small_parts {N : Int} {es : List EI} {n : Nat} (hl : es.length = n) (h : smallB N es = true) : ∃ M : Nat, N = M ∧ M ≤ 30 ∧ n ≤ 60 ∧ validB M es = true ∧ sumT es n ≤ 2000000 ∧ 1 ≤ M ∧ (∀ e ∈ es, 0 ≤ e.h ∧ e.h < M) ∧ (∀ e ∈ es, ∀ t ∈ e.t, 0 ≤ t ∧ t < M) ∧ (∀ e ∈ es, e.t.length ≤ 4) := by
  unfold smallB at h
  simp only [Bool.and_eq_true, decide_eq_true_eq, List.all_eq_true] at h
  obtain ⟨⟨⟨h1, h2⟩, h3⟩, h4⟩ := h
  have h5 : 1 ≤ N := by
    have := h4
    unfold validB at this
    simp only [Bool.and_eq_true, decide_eq_true_eq] at this
    exact this.1.1
  obtain ⟨M, rfl⟩ : ∃ M : Nat, N = M := Int.eq_ofNat_of_zero_le (by omega)
  have hp := valid_parts h4
  refine ⟨M, rfl, by omega, by omega, h4, ?_, hp.1, hp.2.2.1, hp.2.2.2, h3⟩
  have := sumT_le (es := es) h3 n
  omega
theorem derL_len (es : List EI) (N : Nat) : (derL es N).length = N := by unfold derL; simp
theorem rchL_len (es : List EI) (r N : Nat) : (rchL es r N).length = N := by unfold rchL; simp
theorem reachL_len (es : List EI) (N : Nat) (r : Int) : (reachL es N r).length = N := by
  unfold reachL; split
  · exact rchL_len _ _ _
  · simp
theorem fut_base_drew (b : World) (d : Nat) (os : Array Obj) : fut b.drew d os = fut b d os := rfl
end Go.Proofs.Ytjoejkfchnooaaa
