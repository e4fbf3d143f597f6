/-
  regex.Match on the four expressions.
-/
import Derived.Test.YtlgpacpebjechaaGreatDoorRx
import Derived.Test.YtlgpacpebjechaaGreatDoorLx2
namespace Go.Proofs.YtlgpacpebjechaaGreatDoor
open Go.RowKit Go.Deep Ev
attribute [local go_sem] Oper.lit Oper.litS fut_fut fut_drew World.cell?_alloc_some
/-- value v is expression i over its given memory; the blocks are those of S; the expression that one began with is there as well -/
structure RepX (N : Nat) (i : Nat) (S : Nat → Bool) (w : World) (v x : Value) : Prop where
  ex : ∃ σ, HR σ N (litH (rL i)) w ∧ R σ (rV i) v ∧ R σ (rV (ini i)) x ∧ ∀ b g q, ownB (hget (litH (rL i)) b) = true → σ.blk b = some (g, q) → S g = true
theorem HR.futS {σ : Sg} {N : Nat} {h : Hp} {w w' : World} {S : Nat → Bool} (hr : HR σ N h w) (hS : ∀ b g q, ownB (hget h b) = true → σ.blk b = some (g, q) → S g = true) (hf : FutS (fun k => !S k) w w') (hz : ∀ g, g < N → S g = true) : HR σ N h w' := by
  refine ⟨Nat.le_trans hr.base hf.size, hr.glob, hr.pos, fun b => ?_, hr.inj, hr.fresh⟩
  by_cases hn : hget h b = .none
  · rw [hn]; exact trivial
  · obtain ⟨g, q, h1, h2⟩ := (hr.blk b).lt hn
    refine (hr.blk b).keep σ.le_refl (fun g' q' e => ?_)
    rw [h1] at e; injection e with e; injection e with e1 e2; subst e1
    refine hf.block g h2 ?_
    have : S g = true := by
      by_cases ho : ownB (hget h b) = true
      · exact hS b g q ho h1
      · have hb := hr.blk b
        cases hx : hget h b with
        | none => exact absurd hx hn
        | row _ _ _ => rw [hx] at ho; exact absurd rfl ho
        | map _ _ => rw [hx] at ho; exact absurd rfl ho
        | ro _ _ =>
          rw [hx] at hb
          obtain ⟨g3, q3, _, _, _, h4, h5, _⟩ := hb
          rw [h1] at h4; injection h4 with h4; injection h4 with h4 _; subst h4
          exact hz _ h5
    rw [this]; rfl
theorem dlt_ini : ∀ i b, i < 15 → b < 256 → ini (dlt i b) = ini i ∧ mst (dlt i b) = mst i := by
  intro i b hi hb
  have h : ((List.range 15).all fun i => (List.range 256).all fun b => ini (dlt i b) == ini i && mst (dlt i b) == mst i) = true := by kernel_rfl
  have := List.all_eq_true.1 (List.all_eq_true.1 h i (List.mem_range.2 hi)) b (List.mem_range.2 hb)
  rw [Bool.and_eq_true] at this
  exact ⟨eq_of_beq this.1, eq_of_beq this.2⟩
/-- an expression that one began with looks only at its own rows -/
theorem keepX {σ σ' : Sg} {i : Nat} (hi : i < 15) {x : Value} (hR : R σ (rV (ini i)) x) (h : ∀ b, b.num ≤ mst i → σ'.blk b = σ.blk b) : R σ' (rV (ini i)) x := by
  have key : ∀ j, j < 15 → mV (mkR (idsP (rL (ini j)) (.l .z))) (rV (ini j)) (rV (ini j)) = true ∧ (rL (ini j)).length = mst j := by
    intro j hj
    have h : ((List.range 15).all fun j => mV (mkR (idsP (rL (ini j)) (.l .z))) (rV (ini j)) (rV (ini j)) && (rL (ini j)).length == mst j) = true := by kernel_rfl
    have := List.all_eq_true.1 h j (List.mem_range.2 hj)
    rw [Bool.and_eq_true] at this
    exact ⟨this.1, eq_of_beq this.2⟩
  obtain ⟨h1, h2⟩ := key i hi
  refine mV_R (fun b b' o e y hy => ?_) hR _ h1
  have e := mkR_ptr e
  unfold at? at e
  by_cases h0 : b.num = 0
  · rw [if_pos h0] at e
    injection e with e
    subst e
    have : b = .z := num_inj (q := .z) h0
    subst this
    rw [h _ (by show 0 ≤ _; omega)]; exact hy
  · rw [if_neg h0] at e
    have h3 := idsP_get _ _ _ _ e
    have h4 := (List.getElem?_eq_some_iff.1 e).1
    rw [idsP_len, h2] at h4
    have h5 : (Pa.l .z).num = 1 := rfl
    have : b' = b := num_inj (by omega)
    subst this
    rw [h _ (by omega)]; exact hy
theorem der_any {N i b : Nat} {S : Nat → Bool} {w : World} {v x : Value} (hi : i < 15) (hb : b < 256) (h : RepX N i S w v x) (hS : ∀ g, w.heap.size ≤ g → S g = true) :
    Calls Tryz.prog 22 #[v, .int .u8 b] w fun e w' => ∃ v', e = .returned v' ∧ RepX N (dlt i b) S w' v' x ∧ FutS S w w' := by
  obtain ⟨σ, hr, hv, hx, hI⟩ := h.ex
  refine ((der_all b hb i hi).calls σ N [v, .int .u8 b] w hr (.cons _ _ _ _ hv (.cons _ _ _ _ (.int _ _) .nil))).mono ?_
  rintro e w' ⟨σ', u, hr', hf, hst, hu, rfl⟩
  obtain ⟨e1, _⟩ := dlt_ini i b hi hb
  refine ⟨u, rfl, ⟨σ', hr', hu, by rw [e1]; exact keepX hi hx hst, fun b' g q ho e => ?_⟩, ⟨hf.os, hf.tape, hf.output, hf.size, fun k hk hSk => hf.frame k hk (fun b0 q ho e => by rw [hI b0 k q ho e] at hSk; cases hSk)⟩⟩
  rcases hf.img b' g q ho e with ⟨b0, q0, h1, h2⟩ | h1
  · exact hI b0 g q0 h1 h2
  · exact hS g h1
theorem ini_ini : ∀ i, i < 15 → ini (ini i) = ini i ∧ ini i < 15 := by decide
theorem nul_any {N i : Nat} {S : Nat → Bool} {w : World} {v x : Value} (hi : i < 15) (h : RepX N i S w v x) (hS : ∀ g, w.heap.size ≤ g → S g = true) :
    Calls Tryz.prog 23 #[v] w fun e w' => e = .returned (.bool (nul i)) ∧ RepX N (ini i) S w' x x ∧ FutS S w w' := by
  obtain ⟨σ, hr, hv, hx, hI⟩ := h.ex
  refine ((nul_all i hi).calls σ N [v] w hr (.cons _ _ _ _ hv .nil)).mono ?_
  rintro e w' ⟨σ', u, hr', hf, hst, hu, rfl⟩
  have hx' := keepX hi hx hst
  refine ⟨by rw [R_bool hu], ⟨σ', hr', hx', by rw [(ini_ini i hi).1]; exact hx', fun b' g q ho e => ?_⟩, ⟨hf.os, hf.tape, hf.output, hf.size, fun k hk hSk => hf.frame k hk (fun b0 q ho e => by rw [hI b0 k q ho e] at hSk; cases hSk)⟩⟩
  rcases hf.img b' g q ho e with ⟨b0, q0, h1, h2⟩ | h1
  · exact hI b0 g q0 h1 h2
  · exact hS g h1
end Go.Proofs.YtlgpacpebjechaaGreatDoor
