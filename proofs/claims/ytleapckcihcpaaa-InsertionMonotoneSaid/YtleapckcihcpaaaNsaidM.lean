/-
  InsertionMonotone returns true and its arguments read behind the call as before, for every argument.
-/
import Derived.Test.YtleapckcihcpaaaN19
import Derived.Test.YtleapckcihcpaaaN14
import Derived.OpenShut
namespace Go.Proofs.Ytleapckcihcpaaa
open Go.ChangeShapes Go.WideShapes Go.ChangeAt Go.RowKit Go.Joins
open Go.ChangeMaps (open_string)
set_option maxRecDepth 4000
theorem cellsU8 : Try.prog.cellsOf 5 = 1 := by kernel_rfl
theorem cellsA2 : Try.prog.cellsOf 50 = 2 := by kernel_rfl
theorem open_u2 {H : Type} {enc : TypeId × Value → H} {W : World} {base : Nat} {v : Value} {d : DataW H} {p : List MemPlace} (hv1 : Value.okWide Try.prog W .any base 50 v) (h : DataW.Trod enc Try.prog W 0 (fun _ => true) true 50 v d p) :
    ∃ a b, v = .agg #[.int .u8 a, .int .u8 b] ∧ (0 ≤ a ∧ a ≤ 255) ∧ 0 ≤ b ∧ b ≤ 255 := by
  simp only [Value.okWide, Try.underlying50] at hv1
  obtain ⟨cs, rfl, hsz, _⟩ := hv1
  rw [cellsA2] at hsz
  obtain ⟨fuel, hf⟩ := h
  obtain ⟨xs, m, _, _, _, hlen, hfs⟩ := DataW.trod_array Try.underlying50 hf
  have hsz' : (Value.cells (.agg cs)).toList.length = 2 := by show cs.toList.length = 2; simpa using hsz
  generalize hcl : (Value.cells (.agg cs)).toList = l at hfs hsz' hf
  have hcs : cs = l.toArray := by rw [← hcl]; simp [Value.cells]
  match l, hsz' with
  | [v0, v1], _ =>
    have k0 := hfs 0 (by decide)
    have k1 := hfs 1 (by decide)
    simp only [cellsU8, Nat.mul_one, List.drop_zero, List.drop_succ_cons, List.take_succ_cons, List.take_zero] at k0 k1
    obtain ⟨u0, g0⟩ : ∃ u, xs[0]? = some u := ⟨_, List.getElem?_eq_getElem (by rw [hlen]; decide)⟩
    obtain ⟨u1, g1⟩ : ∃ u, xs[1]? = some u := ⟨_, List.getElem?_eq_getElem (by rw [hlen]; decide)⟩
    rw [g0] at k0
    rw [g1] at k1
    obtain ⟨a, e0, _, w0⟩ := DataW.trod_int Try.underlying5 k0
    obtain ⟨b, e1, _, w1⟩ := DataW.trod_int Try.underlying5 k1
    simp only [List.cons.injEq, and_true] at e0 e1
    subst e0 e1
    simp [Lit.wf, IntKind.min, IntKind.max, IntKind.signed, IntKind.bits] at w0 w1
    exact ⟨a, b, by rw [hcs], by omega, by omega⟩
set_option maxRecDepth 100000 in
theorem InsertionMonotone_lifted (os : Os) (started : os.Started) (H : Type) (enc : TypeId × Value → H) :
    ReturnsInHanded {} Try.checked os 7 .any (Rows.insertionMonotoneSpec.pre6 enc Try.prog Try.f7 Rows.insertionMonotoneRow.domain false) (Rows.insertionMonotoneSpec.post enc Try.prog Try.f7 false true false false) := by
  refine returnsInHanded_of_change_sized (C := Try.checked) own started (by kernel_rfl) Try.func7
    (ChangeSpec.witness6 (enc := enc) (C := Try.checked) false ⟨#[], #[.agg #[.int .i64 0, .int .i64 0, .int .i64 0, .slice none 0 0], .slice none 0 0, .agg #[.int .u8 0, .int .u8 0]], []⟩ 8 (by kernel_rfl) (by kernel_rfl) (by kernel_rfl) (by kernel_rfl)) ?_
  intro W base args ds gs before hval0 hW _ hsz0 _
  have hval : ∀ (j : Nat) t v, Try.f7.params[j]? = some t → args[j]? = some v → Value.okWide Try.prog W .any base t v := hval0
  have hW' := hW
  obtain ⟨p, q, hA0, hV, rfl, hfz, hnd⟩ := hW
  have hA : DataW.TrodAll enc Try.prog W 0 (fun _ => true) true Try.f7.params.toList args.toList ds p := hA0
  rw [Try.params7] at hA hval
  obtain ⟨v0, vs0, d0, ds0, p0, q0, hargs, rfl, rfl, h0, r0⟩ := trodAll_cons hA
  obtain ⟨v1, vs1, d1, ds1, p1, q1, rfl, rfl, rfl, h1, r1⟩ := trodAll_cons r0
  obtain ⟨v2, vs2, d2, ds2, p2, q2, rfl, rfl, rfl, h2, r2⟩ := trodAll_cons r1
  obtain ⟨rfl, rfl, rfl⟩ := trodAll_nil r2
  obtain rfl : args = #[v0, v1, v2] := by cases args; simp_all
  obtain ⟨rfl, rfl⟩ := trodVars_none hV
  obtain ⟨T, N, st, A, n, c, rs, rfl, hrl, hrn, hrR⟩ := open_norm (hval 0 24 v0 rfl rfl) h0
  obtain ⟨B, m, e, ins, rfl, hil, him, hiR⟩ := open_ints (hval 1 25 v1 rfl rfl) h1
  obtain ⟨a0, a1, rfl, wa, wb⟩ := open_u2 (hval 2 50 v2 rfl rfl) h2
  clear hA0 hval0 hval hA
  refine (law_imono T N st A n c rs B m e ins a0 a1 W hrl hrn hrR hil him hiR wa wb).mono fun e W' ⟨he, hb⟩ => ?_
  subst he
  exact ⟨_, rfl, law_post laidOut rfl (by kernel_rfl) rfl Try.underlying4 hW' rfl hb⟩

theorem InsertionMonotone_holds : Rows.InsertionMonotoneSaid :=
  OpenClaim.holds_of_wide 7 Try.f7 rfl rfl rfl rfl rfl rfl rfl ⟨rfl, rfl, rfl, rfl, rfl⟩ rfl rfl rfl rfl rfl (by kernel_rfl) Try.func7 (by kernel_rfl)
    (of_decide_eq_true (by kernel_rfl)) (by unfold Func.isWrapper; first | (rw [if_pos (by decide +kernel)]; kernel_rfl) | (rw [if_neg (by decide +kernel)]; exact ⟨rfl, rfl⟩))
    (fun os started H enc _ => InsertionMonotone_lifted os started H enc)

end Go.Proofs.Ytleapckcihcpaaa
