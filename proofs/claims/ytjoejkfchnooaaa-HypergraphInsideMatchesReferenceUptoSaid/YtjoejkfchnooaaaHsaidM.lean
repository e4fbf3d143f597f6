/-
  HypergraphInsideMatchesReference returns true and its arguments read behind the call as before, for every argument of the bulk told.
-/
import Derived.Test.YtjoejkfchnooaaaHlawM
import Derived.Test.YtjoejkfchnooaaaHopen2
import Derived.JoinedCond
namespace Go.Proofs.Ytjoejkfchnooaaa
open Go.ChangeShapes Go.WideShapes Go.ChangeAt Go.RowKit Go.Joins
open Go.ChangeMaps (open_string)
set_option maxRecDepth 100000 in
theorem HypergraphInsideMatchesReference_lifted (os : Os) (started : os.Started) (H : Type) (enc : TypeId × Value → H) (F : Stop.Interp) :
    ReturnsInHanded {} Try.checked os 7 .any ((Rows.OpenSpec.upto Rows.hypergraphInsideMatchesReferenceSpec).pre6 enc Try.prog Try.f7 Rows.hypergraphInsideMatchesReferenceUptoRow.domain false) (((Rows.OpenSpec.upto Rows.hypergraphInsideMatchesReferenceSpec).at F).post enc Try.prog Try.f7 false true false false) := by
  refine returnsInHanded_of_cond (C := Try.checked) (s := Rows.OpenSpec.upto Rows.hypergraphInsideMatchesReferenceSpec) (k := Rows.uptoSmall) rfl own started (by kernel_rfl) Try.func7
    (OpenSpec.witness (enc := enc) (C := Try.checked) (s := Rows.OpenSpec.upto Rows.hypergraphInsideMatchesReferenceSpec) (k := Rows.uptoSmall) rfl false ⟨#[], #[.agg #[.int .i64 0, .slice none 0 0], .slice none 0 0], []⟩ 8 (by kernel_rfl) (by kernel_rfl) (by kernel_rfl) (x := ([.agg [.lit (.int .i64 0), .nil], .nil], [], [])) (by kernel_rfl) rfl (by kernel_rfl)) ?_
  intro W base args ds gs before hval0 hW _ hk _
  have hval : ∀ (j : Nat) t v, Try.f7.params[j]? = some t → args[j]? = some v → Value.okWide Try.prog W .any base t v := hval0
  have hW' := hW
  obtain ⟨p, q, hA0, hV, rfl, hfz, hnd⟩ := hW
  have hA : DataW.TrodAll enc Try.prog W 0 (fun _ => true) true Try.f7.params.toList args.toList ds p := hA0
  rw [Try.params7] at hA hval
  obtain ⟨v0, vs0, d0, ds0, p0, q0, hargs, rfl, rfl, h0, r0⟩ := trodAll_cons hA
  obtain ⟨v1, vs1, d1, ds1, p1, q1, rfl, rfl, rfl, h1, r1⟩ := trodAll_cons r0
  obtain ⟨rfl, rfl, rfl⟩ := trodAll_nil r1
  obtain rfl : args = #[v0, v1] := by cases args; simp_all
  obtain ⟨rfl, rfl⟩ := trodVars_none hV
  have hbulk := of_decide_eq_true hk
  simp only [List.append_nil, Rows.uptoBulkAll] at hbulk
  obtain ⟨N, A, n, c, es, rfl, hesl, hesn, hesR, hesB⟩ := open_hg2 (hval 0 24 v0 rfl rfl) h0
  obtain ⟨B0, m0, e0, fu0, rfl, hf0⟩ := open_arg Try.underlying32 (hval 1 32 v1 rfl rfl) h1
  obtain ⟨B, m, e, ws, hcs0, hwl, hmc, hcm, hwR, _, es2, sp2, hd2⟩ := open_is Try.underlying32 Try.underlying3 cells1 hf0
  simp only [List.cons.injEq, and_true, Value.slice.injEq] at hcs0
  obtain ⟨rfl, rfl, rfl⟩ := hcs0
  clear hA0 hval0 hval hA hk
  have hm2 : m0 ≤ Rows.uptoBulk d1 := by
    rcases hd2 with ⟨g1, g2⟩ | ⟨g1, g2⟩
    · rw [show d1 = .slice es2 sp2 from g1]
      have g3 := bulk_slice es2 sp2
      have g4 := bulk_len es2
      omega
    · omega
  clear hf0 hd2
  refine (law_hmatch N A B0 n c m0 e0 es ws W hesl hesn hwl (by omega) (by omega) hesR hwR).mono fun e W' ⟨he, hb⟩ => ?_
  subst he
  exact ⟨_, rfl, law_post laidOut rfl (by kernel_rfl) rfl Try.underlying4 hW' rfl hb⟩

theorem HypergraphInsideMatchesReference_holds : Rows.HypergraphInsideMatchesReferenceUptoSaid :=
  OpenClaim.holds_of_cond 7 Try.f7 rfl rfl rfl rfl rfl rfl rfl ⟨rfl, rfl, rfl, rfl, rfl⟩ rfl rfl rfl rfl rfl (by kernel_rfl) Try.func7 (by kernel_rfl)
    (of_decide_eq_true (by kernel_rfl)) (by unfold Func.isWrapper; first | (rw [if_pos (by decide +kernel)]; kernel_rfl) | (rw [if_neg (by decide +kernel)]; exact ⟨rfl, rfl⟩))
    (fun os started H enc _ F => HypergraphInsideMatchesReference_lifted os started H enc F)

end Go.Proofs.Ytjoejkfchnooaaa
