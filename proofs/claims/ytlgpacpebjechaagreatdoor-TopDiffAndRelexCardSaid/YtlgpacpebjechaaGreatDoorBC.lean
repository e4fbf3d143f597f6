/-
  Texts joined: The evaluator's operations, one by one: lengths, slices, strings out of bytes, structs, equality of rows of numbers; The evaluator's operations, one by one: strings out of bytes, structs, equality of rows of numbers; The evaluator's operations, one by one: equality of small structs and arrays of numbers; The evaluator's operations, one by one: new blocks; The evaluator's operations, one by one: stores, maps; The evaluator's operations, one by one: keys of maps, calls, what is put off.
-/
import Derived.Test.YtlgpacpebjechaaGreatDoorBB
import Derived.Laws.Tables
import Derived.KernelRfl
import Derived.Laws.MakeOwn
import Derived.Carry
import Derived.MapKept
import Derived.Laws.IdiomCopy
import Derived.Deep.Upon
import Derived.Lib.BufferMore
import Derived.Defers
/-
  The evaluator's operations, one by one: lengths, slices, strings out of bytes, structs, equality of rows of numbers.
-/
namespace Go.Proofs.YtlgpacpebjechaaGreatDoor
open Go.RowKit Go.Deep
namespace Ev
section
variable {P : Program} {nt : Nat} {cf : CF} {o : Oper} {σ : Sg}
theorem exec_builtin {q : Call} {b : Builtin} (ho : o.op = .call q) (hq : q.callee = .builtin b) (ρ : Operand → Value) : ∃ cs, execOp ρ o = builtin b q.argTypes o.type cs (q.args.map ρ) := by
  obtain ⟨dst, op, ty, pos, after, guard⟩ := o
  cases ho
  obtain ⟨callee, args, tys⟩ := q
  cases hq
  exact ⟨_, rfl⟩
theorem args1 {xs : Array Operand} {x : Operand} (h : xs.toList = [x]) : xs = #[x] := by apply Array.ext'; simpa using h
theorem args2 {xs : Array Operand} {x y : Operand} (h : xs.toList = [x, y]) : xs = #[x, y] := by apply Array.ext'; simpa using h
theorem tys1 {xs : Array TypeId} {x : TypeId} (h : xs.toList = [x]) : xs = #[x] := by apply Array.ext'; simpa using h
theorem tys2 {xs : Array TypeId} {x y : TypeId} (h : xs.toList = [x, y]) : xs = #[x, y] := by apply Array.ext'; simpa using h
theorem lenA_pure {q : Call} {x : Operand} {t el : TypeId} {n : Nat} (ho : o.op = .call q) (hq : q.callee = .builtin .len) (ha : q.args.toList = [x]) (ht : q.argTypes.toList = [t]) (hu : P.underlying t = some (.array n el)) : PureS P nt cf (oLenA n) o := by
  intro σ N e h a w k he hr hn
  refine ⟨_, .int .i64 (n : Int), rfl, .int _ _, fun w' => ?_⟩
  obtain ⟨cs, hx⟩ := exec_builtin ho hq a.eval
  rw [hx, args1 ha, tys1 ht]
  simp [builtin, Builtin.len_, run_underlying hu, goInt]
theorem lenStr_pure {q : Call} {x : Operand} {t : TypeId} (ho : o.op = .call q) (hq : q.callee = .builtin .len) (ha : q.args.toList = [x]) (ht : q.argTypes.toList = [t]) (hu : P.underlying t = some .string) : PureS P nt cf (oLenStr (cO nt x)) o := by
  intro σ N e h a w k he hr hn
  unfold oLenStr at hn ⊢
  obtain ⟨l, hl⟩ := onStr_ne hn
  rw [hl]
  have h1 := R_cO he hr x
  rw [hl] at h1
  obtain ⟨h1, _⟩ := R_str h1
  refine ⟨_, .int .i64 (l.length : Int), rfl, by unfold nI; rw [lenN_eq]; exact .int _ _, fun w' => ?_⟩
  obtain ⟨cs, hx⟩ := exec_builtin ho hq a.eval
  rw [hx, args1 ha, tys1 ht]
  simp [builtin, Builtin.len_, run_underlying hu, goInt, h1, bs_size]
theorem lenSl_pure {q : Call} {x : Operand} {t el : TypeId} (ho : o.op = .call q) (hq : q.callee = .builtin .len) (ha : q.args.toList = [x]) (ht : q.argTypes.toList = [t]) (hu : P.underlying t = some (.slice el)) : PureS P nt cf (oLenSl (cO nt x)) o := by
  intro σ N e h a w k he hr hn
  obtain ⟨cs, hx⟩ := exec_builtin ho hq a.eval
  have h1 := R_cO he hr x
  have key : ∀ A n c, a.eval x = .slice A n c → ∀ w', (execOp a.eval o).run P w' = .ok (.value (.int .i64 (n : Int))) w' := fun A n c hA w' => by
    rw [hx, args1 ha, tys1 ht]
    simp [builtin, Builtin.len_, run_underlying hu, goInt, hA]
  unfold oLenSl at hn ⊢
  cases hv : cO nt x e <;> first
    | (rw [hv] at hn; exact absurd rfl hn)
    | skip
  · rw [hv] at h1
    obtain ⟨g, q', _, h1⟩ := R_slice h1
    exact ⟨_, _, rfl, .int _ _, key _ _ _ h1⟩
  · rw [hv] at h1
    exact ⟨_, _, rfl, .int _ _, key _ _ _ (R_nils h1)⟩
  · rw [hv] at h1
    obtain ⟨A, h1⟩ := R_cut h1
    exact ⟨_, _, rfl, .int _ _, key _ _ _ h1⟩
  · rw [hv] at h1
    obtain ⟨A, c, h1⟩ := R_emp h1
    exact ⟨_, _, rfl, .int _ _, key _ _ _ h1⟩
theorem EsOK.len : ∀ {es : List (AV × AV)} {ms : List MapEntry}, EsOK σ es ms → ms.length = es.length
  | _, _, .nil => rfl
  | _, _, .cons _ _ _ _ _ _ h => by simp [EsOK.len h]
theorem lenM_op {q : Call} {x : Operand} {t kt el : TypeId} (ho : o.op = .call q) (hq : q.callee = .builtin .len) (ha : q.args.toList = [x]) (ht : q.argTypes.toList = [t]) (hu : P.underlying t = some (.map kt el)) : OpS P nt cf (oLenM (cO nt x)) o := by
  intro σ N e h a w k Q next he hr hn hk
  obtain ⟨cs, hx⟩ := exec_builtin ho hq a.eval
  have h1 := R_cO he hr x
  have hn0 := hn
  unfold oLenM at hn0
  cases hv : cO nt x e <;> first
    | (rw [hv] at hn0; exact absurd rfl hn0)
    | skip
  · rename_i b
    rw [hv] at h1 hn0
    obtain ⟨g, q', hg, h1⟩ := R_map h1
    obtain ⟨es, n, hb⟩ := onMapB_ne (v := hget h b) hn0
    have hblk := hr.blk b
    rw [hb] at hblk
    obtain ⟨g', q2, ms, hg', _, hms, hes, _⟩ := hblk
    rw [hg] at hg'; injection hg' with hg'; injection hg' with e1 e2; subst e1
    refine OpS.of_value hk (v := nI (lenE es)) (u := .int .i64 (es.length : Int)) ?_ (Go.refl hr) (by unfold nI; rw [lenE_eq]; exact .int _ _) ?_
    · unfold oLenM
      rw [hv]
      show onMapB (hget h b) .no (fun es _ => k (nI (lenE es)) h) = _
      rw [hb]; rfl
    · rw [hx, args1 ha, tys1 ht]
      have hl := hes.len
      simp [builtin, Builtin.len_, run_underlying hu, goInt, h1, getObj, Sem.run, hms]
      exact_mod_cast hl
  · rw [hv] at h1
    refine OpS.of_value hk (v := nI 0) (u := .int .i64 0) ?_ (Go.refl hr) (.int _ _) ?_
    · unfold oLenM
      rw [hv]; rfl
    · rw [hx, args1 ha, tys1 ht]
      simp [builtin, Builtin.len_, run_underlying hu, goInt, R_nilm h1]
theorem cap_pure {q : Call} {x : Operand} {t el : TypeId} (ho : o.op = .call q) (hq : q.callee = .builtin .cap) (ha : q.args.toList = [x]) (ht : q.argTypes.toList = [t]) (hu : P.underlying t = some (.slice el)) : PureS P nt cf (oCap (cO nt x)) o := by
  intro σ N e h a w k he hr hn
  obtain ⟨cs, hx⟩ := exec_builtin ho hq a.eval
  have h1 := R_cO he hr x
  unfold oCap at hn ⊢
  cases hv : cO nt x e <;> first
    | (rw [hv] at hn; exact absurd rfl hn)
    | skip
  rw [hv] at h1
  refine ⟨nI 0, .int .i64 0, rfl, .int _ _, fun w' => ?_⟩
  rw [hx, args1 ha, tys1 ht]
  simp [builtin, Builtin.cap_, run_underlying hu, goInt, R_nils h1]
/-! parts of slices and strings -/
theorem bounds_ne {e : EN} {lo hi : Option AO} {n : Nat} {yes : Nat → Nat → Res} (h : bounds e lo hi n .no yes ≠ .no) :
    ∃ l hh, (lo = none ∧ l = 0 ∨ ∃ x j, lo = some x ∧ x e = .int j (.ofNat l)) ∧ (hi = none ∧ hh = n ∨ ∃ x j, hi = some x ∧ x e = .int j (.ofNat hh)) ∧ l ≤ hh ∧ hh ≤ n ∧ bounds e lo hi n .no yes = yes l hh := by
  unfold bounds at h ⊢
  obtain ⟨hh, h1⟩ := onOpt_ne h
  rw [h1] at h ⊢
  have h : onOpt (onOpt lo (some 0) (fun x => onNat (x e) none some)) .no (fun l => iff (iff (Nat.ble hh n) false (Nat.ble l hh)) .no (yes l hh)) ≠ .no := h
  obtain ⟨l, h2⟩ := onOpt_ne h
  rw [h2] at h
  have hb := iff_ne (b := iff (Nat.ble hh n) false (Nat.ble l hh)) h
  have hb' := hb
  rw [iff_and, Bool.and_eq_true, bleN, bleN, decide_eq_true_eq, decide_eq_true_eq] at hb'
  refine ⟨l, hh, ?_, ?_, hb'.2, hb'.1, ?_⟩
  · cases lo with
    | none => exact .inl ⟨rfl, (Option.some.inj h2).symm⟩
    | some x =>
      obtain ⟨j, hj⟩ := onNat_some (v := x e) h2
      exact .inr ⟨x, j, rfl, hj⟩
  · cases hi with
    | none => exact .inl ⟨rfl, (Option.some.inj h1).symm⟩
    | some x =>
      obtain ⟨j, hj⟩ := onNat_some (v := x e) h1
      exact .inr ⟨x, j, rfl, hj⟩
  · show onOpt (onOpt lo (some 0) (fun x => onNat (x e) none some)) .no (fun l => iff (iff (Nat.ble hh n) false (Nat.ble l hh)) .no (yes l hh)) = _
    rw [h2]
    show iff (iff (Nat.ble hh n) false (Nat.ble l hh)) .no (yes l hh) = _
    rw [hb]; rfl
theorem run_bound {v : Value} {j : IntKind} {i y : Nat} {code : BoundsCode} (hv : v = .int j (i : Int)) (h : i ≤ y) (w : World) : (Instr.sliceBound v y code).run P w = .ok i w := by
  subst hv
  have : (0 : Int) ≤ (i : Int) ∧ (i : Int) ≤ (y : Int) := by omega
  simp [Instr.sliceBound, asIntOf, this]
theorem run_bounds {σ : Sg} {N : Nat} {e : EN} {h : Hp} {a : Act} {w : World} (he : ER σ nt e a) (hr : HR σ N h w) {lo hi : Option Operand} {l hh n cap : Nat} {isS : Bool}
    (hlo : lo.map (cO nt) = none ∧ l = 0 ∨ ∃ x j, lo.map (cO nt) = some x ∧ x e = .int j (.ofNat l)) (hhi : hi.map (cO nt) = none ∧ hh = n ∨ ∃ x j, hi.map (cO nt) = some x ∧ x e = .int j (.ofNat hh)) (h1 : l ≤ hh) (h2 : hh ≤ cap) (w' : World) :
    (Instr.sliceBounds isS n cap (lo.map a.eval) (hi.map a.eval) none).run P w' = .ok (l, hh, cap) w' := by
  have k1 : (lo = none ∧ l = 0) ∨ ∃ x j, lo = some x ∧ a.eval x = .int j (l : Int) := by
    cases lo with
    | none => rcases hlo with ⟨_, h⟩ | ⟨x, j, h, _⟩
              · exact .inl ⟨rfl, h⟩
              · cases h
    | some x =>
      rcases hlo with ⟨h, _⟩ | ⟨y, j, h, hj⟩
      · cases h
      · have h : cO nt x = y := Option.some.inj h
        have h3 := R_cO he hr x
        rw [h, hj] at h3
        exact .inr ⟨x, j, rfl, R_int h3⟩
  have k2 : (hi = none ∧ hh = n) ∨ ∃ x j, hi = some x ∧ a.eval x = .int j (hh : Int) := by
    cases hi with
    | none => rcases hhi with ⟨_, h⟩ | ⟨x, j, h, _⟩
              · exact .inl ⟨rfl, h⟩
              · cases h
    | some x =>
      rcases hhi with ⟨h, _⟩ | ⟨y, j, h, hj⟩
      · cases h
      · have h : cO nt x = y := Option.some.inj h
        have h3 := R_cO he hr x
        rw [h, hj] at h3
        exact .inr ⟨x, j, rfl, R_int h3⟩
  unfold Instr.sliceBounds
  rcases k1 with ⟨rfl, rfl⟩ | ⟨x, j, rfl, hx⟩ <;> rcases k2 with ⟨rfl, rfl⟩ | ⟨y, j', rfl, hy⟩
  · simp
  · simp [run_bound hy h2]
  · simp [run_bound hx h1]
  · simp [run_bound hx h1, run_bound hy h2]
theorem exec_slice {t : TypeId} {x : Operand} {lo hi mx : Option Operand} (ho : o.op = .slice t x lo hi mx) (ρ : Operand → Value) : execOp ρ o = (Instr.sliceAt t (ρ x) (lo.map ρ) (hi.map ρ) (mx.map ρ) >>= fun z => pure (.value z)) := by
  obtain ⟨dst, op, ty, pos, after, guard⟩ := o
  cases ho
  rfl
theorem sliceS_pure {t : TypeId} {x : Operand} {lo hi : Option Operand} (ho : o.op = .slice t x lo hi none) (hu : P.underlying t = some .string) : PureS P nt cf (oSliceS (cO nt x) (lo.map (cO nt)) (hi.map (cO nt))) o := by
  intro σ N e h a w k he hr hn
  unfold oSliceS at hn ⊢
  obtain ⟨s, hs⟩ := onStr_ne hn
  rw [hs] at hn ⊢
  obtain ⟨l, hh, hlo, hhi, h1, h2, hb⟩ := bounds_ne (n := lenN s) hn
  rw [lenN_eq] at h2 hhi
  have h3 := R_cO he hr x
  rw [hs] at h3
  obtain ⟨h3, hlt⟩ := R_str h3
  refine ⟨.str ((s.take hh).drop l), .string (bs ((s.take hh).drop l)), hb, .str _ (fun z hz => hlt z (List.mem_of_mem_take (List.mem_of_mem_drop hz))), fun w' => ?_⟩
  have hbb := run_bounds (P := P) (isS := false) he hr hlo hhi h1 (cap := s.length) h2 w'
  have hex : (bs s).extract l hh = bs ((s.take hh).drop l) := by
    unfold bs
    apply ByteArray.ext
    rw [ByteArray.data_extract]
    apply Array.ext'
    simp [List.map_take, List.map_drop, List.drop_take]
  rw [exec_slice ho, h3]
  simp [Instr.sliceAt, run_underlying hu, Instr.slice, bs_size, hbb, hex]
theorem slice_pure {t : TypeId} {x : Operand} {lo hi : Option Operand} {el : TypeId} {inf : TypeInfo} (ho : o.op = .slice t x lo hi none) (hu : P.underlying t = some (.slice el)) (hi' : P.info? el = some inf) : PureS P nt cf (oSlice (P.cellsOf el) (cO nt x) (lo.map (cO nt)) (hi.map (cO nt))) o := by
  intro σ N e h a w k he hr hn
  have h3 := R_cO he hr x
  unfold oSlice at hn ⊢
  cases hv : cO nt x e <;> first
    | (rw [hv] at hn; exact absurd rfl hn)
    | skip
  · rename_i b off n j
    rw [hv] at hn h3
    obtain ⟨g, q, hg, h3⟩ := R_slice h3
    have hn : onRow (hget h b) .no (fun sz' len _ => iff (iff (Nat.beq sz' (P.cellsOf el)) false (iff (Nat.ble 1 (P.cellsOf el)) false (Nat.ble (Nat.mul (Nat.add j n) (P.cellsOf el)) len))) .no (bounds e (lo.map (cO nt)) (hi.map (cO nt)) n .no (fun l hh => iff (iff (Nat.beq l hh) false (Nat.ble 1 l)) (k (.slice b (Nat.add off (Nat.mul l (P.cellsOf el))) (Nat.sub hh l) (Nat.add j l)) h) (k .emp h)))) ≠ .no := hn
    show ∃ v u, onRow (hget h b) .no (fun sz' len _ => iff (iff (Nat.beq sz' (P.cellsOf el)) false (iff (Nat.ble 1 (P.cellsOf el)) false (Nat.ble (Nat.mul (Nat.add j n) (P.cellsOf el)) len))) .no (bounds e (lo.map (cO nt)) (hi.map (cO nt)) n .no (fun l hh => iff (iff (Nat.beq l hh) false (Nat.ble 1 l)) (k (.slice b (Nat.add off (Nat.mul l (P.cellsOf el))) (Nat.sub hh l) (Nat.add j l)) h) (k .emp h)))) = k v h ∧ _
    obtain ⟨sz', len, c, hb⟩ := onRow_ne (v := hget h b) hn
    rw [hb] at hn ⊢
    have hc := iff_ne (b := iff (Nat.beq sz' (P.cellsOf el)) false (iff (Nat.ble 1 (P.cellsOf el)) false (Nat.ble (Nat.mul (Nat.add j n) (P.cellsOf el)) len))) hn
    have hn2 : iff (iff (Nat.beq sz' (P.cellsOf el)) false (iff (Nat.ble 1 (P.cellsOf el)) false (Nat.ble (Nat.mul (Nat.add j n) (P.cellsOf el)) len))) .no (bounds e (lo.map (cO nt)) (hi.map (cO nt)) n .no (fun l hh => iff (iff (Nat.beq l hh) false (Nat.ble 1 l)) (k (.slice b (Nat.add off (Nat.mul l (P.cellsOf el))) (Nat.sub hh l) (Nat.add j l)) h) (k .emp h))) ≠ .no := hn
    show ∃ v u, iff (iff (Nat.beq sz' (P.cellsOf el)) false (iff (Nat.ble 1 (P.cellsOf el)) false (Nat.ble (Nat.mul (Nat.add j n) (P.cellsOf el)) len))) .no (bounds e (lo.map (cO nt)) (hi.map (cO nt)) n .no (fun l hh => iff (iff (Nat.beq l hh) false (Nat.ble 1 l)) (k (.slice b (Nat.add off (Nat.mul l (P.cellsOf el))) (Nat.sub hh l) (Nat.add j l)) h) (k .emp h))) = k v h ∧ _
    rw [hc] at hn2 ⊢
    rw [iff_and, iff_and, Bool.and_eq_true, Bool.and_eq_true, beqN, bleN, bleN, decide_eq_true_eq, decide_eq_true_eq, decide_eq_true_eq] at hc
    obtain ⟨e1, hpos, hle⟩ := hc
    subst e1
    have hblk := hr.blk b
    rw [hb] at hblk
    obtain ⟨g', q', cs, ty, hg', _, _, hsz, hrow⟩ := hblk
    rw [hg] at hg'; injection hg' with hg'; injection hg' with e1 e2; subst e1 e2
    have hcap : j + n ≤ q := by
      have h4 : cs.size = q * P.cellsOf el := hsz.resolve_left (by omega)
      have h5 : (j + n) * P.cellsOf el ≤ q * P.cellsOf el := by have := hrow.le; have hle : (j + n) * P.cellsOf el ≤ len := hle; omega
      exact Nat.le_of_mul_le_mul_right h5 (by omega)
    obtain ⟨l, hh, hlo, hhi, h1, h2, hbd⟩ := bounds_ne (n := n) (show bounds e (lo.map (cO nt)) (hi.map (cO nt)) n .no (fun l hh => iff (iff (Nat.beq l hh) false (Nat.ble 1 l)) (k (.slice b (Nat.add off (Nat.mul l (P.cellsOf el))) (Nat.sub hh l) (Nat.add j l)) h) (k .emp h)) ≠ .no from hn2)
    have hrun : ∀ w', (execOp a.eval o).run P w' = .ok (.value (.slice (some (if q - j = l then ⟨g, off, none⟩ else ⟨g, off + l * P.cellsOf el, none⟩)) (hh - l) (q - j - l))) w' := fun w' => by
      have hbb := run_bounds (P := P) (isS := true) he hr hlo hhi h1 (cap := q - j) (by omega) w'
      rw [exec_slice ho, h3]
      simp [Instr.sliceAt, run_underlying hu, Instr.slice, hbb, r_sizeOf hi', addr_add]
      split <;> rfl
    show ∃ v u, bounds e (lo.map (cO nt)) (hi.map (cO nt)) n .no (fun l hh => iff (iff (Nat.beq l hh) false (Nat.ble 1 l)) (k (.slice b (Nat.add off (Nat.mul l (P.cellsOf el))) (Nat.sub hh l) (Nat.add j l)) h) (k .emp h)) = k v h ∧ _
    rw [hbd]
    cases hem : iff (Nat.beq l hh) false (Nat.ble 1 l) with
    | true =>
      rw [iff_and, Bool.and_eq_true, beqN, bleN, decide_eq_true_eq, decide_eq_true_eq] at hem
      refine ⟨.emp, _, rfl, ?_, hrun⟩
      rw [show hh - l = 0 from by omega]
      exact .emp _ _
    | false =>
      refine ⟨_, _, rfl, ?_, hrun⟩
      rw [iff_and, Bool.and_eq_false_iff, beqN, bleN, decide_eq_false_iff_not, decide_eq_false_iff_not] at hem
      have e9 : (if q - j = l then (⟨g, off, none⟩ : Addr) else ⟨g, off + l * P.cellsOf el, none⟩) = ⟨g, off + l * P.cellsOf el, none⟩ := by
        split
        · have : l = 0 := by omega
          subst this; simp
        · rfl
      rw [e9, Nat.sub_sub]
      exact .slice b _ _ _ g q hg
  · rw [hv] at hn h3
    obtain ⟨l, hh, hlo, hhi, h1, h2, hbd⟩ := bounds_ne (n := 0) hn
    refine ⟨.nils, .slice none 0 0, hbd, .nils, fun w' => ?_⟩
    have hbb := run_bounds (P := P) (isS := true) he hr hlo hhi h1 (cap := 0) h2 w'
    have : hh = 0 := by omega
    subst this
    have : l = 0 := by omega
    subst this
    rw [exec_slice ho, R_nils h3]
    simp [Instr.sliceAt, run_underlying hu, Instr.slice, hbb, r_sizeOf hi']
end
end Ev
end Go.Proofs.YtlgpacpebjechaaGreatDoor
/-
  The evaluator's operations, one by one: strings out of bytes, structs, equality of rows of numbers.
-/
namespace Go.Proofs.YtlgpacpebjechaaGreatDoor
open Go.RowKit Go.Deep
namespace Ev
theorem cellsO_R {σ : Sg} {a : AV} {v : Value} {l : List AV} (h : cellsO a = some l) (hr : R σ a v) : Rs σ l v.cells.toList := by
  have key : ∀ x, isCell x = true → cellsO x = some [x] := by
    intro x hx
    cases x <;> first
      | (cases hx; done)
      | rfl
  cases hr with
  | agg l' vs h' =>
    have h : some l' = some l := h
    injection h with h
    subst h
    exact h'
  | bad v => cases h
  | tup l' vs h' => cases h
  | bool b => rw [key _ rfl] at h; injection h with h; subst h; exact .cons _ _ _ _ (.bool b) .nil
  | int k n => rw [key _ rfl] at h; injection h with h; subst h; exact .cons _ _ _ _ (.int k n) .nil
  | str l h' => rw [key _ rfl] at h; injection h with h; subst h; exact .cons _ _ _ _ (.str l h') .nil
  | ptr b o g q e => rw [key _ rfl] at h; injection h with h; subst h; exact .cons _ _ _ _ (.ptr b o g q e) .nil
  | slice b o n k g q e => rw [key _ rfl] at h; injection h with h; subst h; exact .cons _ _ _ _ (.slice b o n k g q e) .nil
  | map b g q e => rw [key _ rfl] at h; injection h with h; subst h; exact .cons _ _ _ _ (.map b g q e) .nil
  | fn f a c vs ws h1 h2 => rw [key _ rfl] at h; injection h with h; subst h; exact .cons _ _ _ _ (.fn f a c vs ws h1 h2) .nil
  | nils => rw [key _ rfl] at h; injection h with h; subst h; exact .cons _ _ _ _ .nils .nil
  | nilm => rw [key _ rfl] at h; injection h with h; subst h; exact .cons _ _ _ _ .nilm .nil
  | nili => rw [key _ rfl] at h; injection h with h; subst h; exact .cons _ _ _ _ .nili .nil
  | nilp => rw [key _ rfl] at h; injection h with h; subst h; exact .cons _ _ _ _ .nilp .nil
  | cut A => rw [key _ rfl] at h; injection h with h; subst h; exact .cons _ _ _ _ (.cut A) .nil
  | emp A c => rw [key _ rfl] at h; injection h with h; subst h; exact .cons _ _ _ _ (.emp A c) .nil
  | sym => rw [key _ rfl] at h; injection h with h; subst h; exact .cons _ _ _ _ .sym .nil
section
variable {P : Program} {nt : Nat} {cf : CF} {o : Oper} {σ : Sg}
theorem Rs.set : ∀ {l : List AV} {vs : List Value}, Rs σ l vs → ∀ (i : Nat) {a : AV} {v : Value}, R σ a v → Rs σ (l.set i a) (vs.set i v)
  | _, _, .nil, _i, _, _, _ => .nil
  | _, _, .cons _ _ _ _ _ h2, 0, _, _, h => .cons _ _ _ _ h h2
  | _, _, .cons _ _ _ _ h1 h2, i + 1, _, _, h => .cons _ _ _ _ h1 (Rs.set h2 i h)
theorem Rs.over : ∀ {cs : List AV} {us : List Value}, Rs σ cs us → ∀ {l : List AV} {vs : List Value} (i : Nat), Rs σ l vs → Rs σ (over cs l i) ((us.zipIdx.foldl (fun x (y : Value × Nat) => x.setIfInBounds (i + y.2) y.1) vs.toArray).toList)
  | _, _, .nil, l, vs, i, h => h
  | c :: cs, u :: us, .cons _ _ _ _ h1 h2, l, vs, i, h => by
    show Rs σ (Ev.over cs (setA l c i) (Nat.succ i)) _
    rw [setA_eq]
    have ih := Rs.over h2 (l := l.set i c) (vs := vs.set i u) (i + 1) (h.set i h1)
    rw [List.zipIdx_cons, List.foldl_cons]
    have e : ((vs.toArray).setIfInBounds (i + 0) u) = (vs.set i u).toArray := by simp
    simp only [e]
    have e2 : us.zipIdx (0 + 1) = us.zipIdx.map (fun y => (y.1, y.2 + 1)) := by rw [← List.zipIdx_succ]
    rw [e2, List.foldl_map]
    have e3 : (fun (x : Array Value) (y : Value × Nat) => x.setIfInBounds (i + (y.2 + 1)) y.1) = (fun x y => x.setIfInBounds (i + 1 + y.2) y.1) := by
      funext x y; rw [show i + (y.2 + 1) = i + 1 + y.2 by omega]
    rw [e3]
    exact ih
theorem fill_ok {N : Nat} {e : EN} {h : Hp} {a : Act} {w : World} (he : ER σ nt e a) (hr : HR σ N h w) {place : Nat → Option (Nat × Nat)} : ∀ {parts : List (Nat × Operand)} {ps : List (Nat × Nat × AO)}, cParts nt place parts = some ps → ∀ {z l : List AV} {zs : List Value}, Rs σ z zs → fill e ps z = some l →
    ∃ cs : List Value, Instr.fill place zs.toArray (parts.map fun p => (p.1, a.eval p.2)) = some cs.toArray ∧ Rs σ l cs
  | [], ps, hp, z, l, zs, hz, hf => by
    have hp : some [] = some ps := hp
    injection hp with hp
    subst hp
    have hf : some z = some l := hf
    injection hf with hf
    subst hf
    exact ⟨zs, rfl, hz⟩
  | (i, x) :: parts, ps, hp, z, l, zs, hz, hf => by
    unfold cParts at hp
    cases hpl : place i with
    | none => rw [hpl] at hp; cases hp
    | some os =>
      obtain ⟨off, size⟩ := os
      rw [hpl] at hp
      cases hr' : cParts nt place parts with
      | none => rw [hr'] at hp; cases hp
      | some r =>
        rw [hr'] at hp
        have hp : some ((off, size, cO nt x) :: r) = some ps := hp
        injection hp with hp
        subst hp
        have hf : onOpt (cellsO (cO nt x e)) none (fun cs => iff (iff (Nat.beq (lenA cs) size) false (Nat.ble (Nat.add off size) (lenA z))) none (fill e r (over cs z off))) = some l := hf
        cases hc : cellsO (cO nt x e) with
        | none => rw [hc] at hf; cases hf
        | some cs =>
          rw [hc] at hf
          have hf : iff (iff (Nat.beq (lenA cs) size) false (Nat.ble (Nat.add off size) (lenA z))) none (fill e r (over cs z off)) = some l := hf
          cases hb : iff (Nat.beq (lenA cs) size) false (Nat.ble (Nat.add off size) (lenA z)) with
          | false => rw [hb] at hf; cases hf
          | true =>
            rw [hb] at hf
            have hf : fill e r (over cs z off) = some l := hf
            rw [iff_and, Bool.and_eq_true, beqN, bleN, lenA_eq, lenA_eq, decide_eq_true_eq, decide_eq_true_eq] at hb
            have hR := cellsO_R hc (R_cO he hr x)
            have hlen : (a.eval x).cells.size = size := by
              have := hR.len
              rw [Array.length_toList] at this
              omega
            have hb2 : off + size ≤ z.length := hb.2
            have hzl := hz.len
            obtain ⟨cs', h1, h2⟩ := fill_ok he hr hr' (hR.over off hz) hf
            refine ⟨cs', ?_, h2⟩
            show Instr.fill place zs.toArray ((i, a.eval x) :: _) = _
            unfold Instr.fill
            simp only [hpl]
            rw [if_neg (by simp [hlen]; omega)]
            rw [← h1]
            congr 1
            rw [← Array.foldl_toList]
            simp [Array.toList_zipIdx]
theorem exec_build {t : TypeId} {ps : Array (Nat × Operand)} (ho : o.op = .build t ps) (ρ : Operand → Value) : execOp ρ o = (Instr.build t (ps.map fun p => (p.1, ρ p.2)) >>= fun z => pure (.value z)) := by
  obtain ⟨dst, op, ty, pos, after, guard⟩ := o
  cases ho
  rfl
theorem zeroL_eq {t : TypeId} {z : List AV} (h : zeroL P t = some z) : ∃ i v, P.info? t = some i ∧ i.zero = some v ∧ z = v.cells.toList.map cV := by
  unfold zeroL at h
  cases hi : P.info? t with
  | none => rw [hi] at h; cases h
  | some i =>
    rw [hi] at h
    dsimp only at h
    cases hz : i.zero with
    | none => rw [hz] at h; cases h
    | some v => rw [hz] at h; dsimp only at h; injection h with h; exact ⟨i, v, rfl, hz, h.symm⟩
theorem zeroL_R {t : TypeId} {z : List AV} (h : zeroL P t = some z) : ∃ i v, P.info? t = some i ∧ i.zero = some v ∧ Rs σ z v.cells.toList := by
  obtain ⟨i, v, h1, h2, rfl⟩ := zeroL_eq h
  exact ⟨i, v, h1, h2, Rs_cV σ _⟩
theorem places_ok : ∀ (fs : List Field), (fs.all fun f => (P.info? f.type).isSome) = true → fs.mapM (fun f => (P.info? f.type).map fun i => (f.offset, i.size)) = some (fs.map fun f => (f.offset, P.cellsOf f.type))
  | [], _ => by simp
  | f :: fs, h => by
    simp only [List.all_cons, Bool.and_eq_true] at h
    obtain ⟨i, hi⟩ := Option.isSome_iff_exists.1 h.1
    simp [List.mapM_cons, hi, places_ok fs h.2, cells_size hi]
theorem build_struct {t : TypeId} {parts : Array (Nat × Operand)} {fs : Array Field} {z : List AV} {ps : List (Nat × Nat × AO)} (ho : o.op = .build t parts) (hz : zeroL P t = some z) (hu : P.underlying t = some (.struct fs)) (hall : (fs.all fun f => (P.info? f.type).isSome) = true)
    (hps : cParts nt (fun i => (fs[i]?).map fun f => (f.offset, P.cellsOf f.type)) parts.toList = some ps) : PureS P nt cf (oBuild z ps) o := by
  intro σ N e h a w k he hr hn
  obtain ⟨i, v, hi, hzv, hR⟩ := zeroL_R (σ := σ) hz
  unfold oBuild at hn ⊢
  obtain ⟨l, hl⟩ := onOpt_ne hn
  obtain ⟨cs, h1, h2⟩ := fill_ok he hr hps hR hl
  refine ⟨.agg l, .agg cs.toArray, by rw [hl]; rfl, .agg _ _ h2, fun w' => ?_⟩
  have hall' : (fs.toList.all fun f => (P.info? f.type).isSome) = true := by rw [← hall]; simp
  have hb : P.built t (parts.map fun p => (p.1, a.eval p.2)).toList = some cs.toArray := by
    unfold Program.built
    rw [hi, hu]
    dsimp only
    rw [hzv, places_ok fs.toList hall']
    dsimp only
    rw [Array.toList_map]
    rw [← h1]
    congr 1
    funext i
    simp
  rw [exec_build ho, Sem.run_bind, run_build w' t _ _ hb]
  rfl
theorem build_array {t el : TypeId} {n : Nat} {parts : Array (Nat × Operand)} {z : List AV} {ps : List (Nat × Nat × AO)} (ho : o.op = .build t parts) (hz : zeroL P t = some z) (hu : P.underlying t = some (.array n el)) (hel : (P.info? el).isSome = true)
    (hps : cParts nt (fun i => some (i * P.cellsOf el, P.cellsOf el)) parts.toList = some ps) : PureS P nt cf (oBuild z ps) o := by
  intro σ N e h a w k he hr hn
  obtain ⟨i, v, hi, hzv, hR⟩ := zeroL_R (σ := σ) hz
  unfold oBuild at hn ⊢
  obtain ⟨l, hl⟩ := onOpt_ne hn
  obtain ⟨cs, h1, h2⟩ := fill_ok he hr hps hR hl
  refine ⟨.agg l, .agg cs.toArray, by rw [hl]; rfl, .agg _ _ h2, fun w' => ?_⟩
  obtain ⟨ie, hie⟩ := Option.isSome_iff_exists.1 hel
  have hb : P.built t (parts.map fun p => (p.1, a.eval p.2)).toList = some cs.toArray := by
    unfold Program.built
    rw [hi, hu]
    dsimp only
    rw [hzv, hie]
    dsimp only
    rw [Array.toList_map, ← h1, cells_size hie]
  rw [exec_build ho, Sem.run_bind, run_build w' t _ _ hb]
  rfl
/-! strings out of bytes -/
theorem bytesOf_eq : ∀ {l : List AV} {s : List Nat}, bytesOf l = some s → l = s.map (fun (c : Nat) => AV.int .u8 (Int.ofNat c)) ∧ ∀ c ∈ s, c < 256
  | [], s, h => by have h : some [] = some s := h; injection h with h; subst h; exact ⟨rfl, fun c hc => by simp at hc⟩
  | x :: l, s, h => by
    have h : onInt x none (fun j n => iff (kbeq j .u8) none (Int.rec (motive := fun _ => Option (List Nat)) (fun m => iff (Nat.ble m 255) none (onOpt (bytesOf l) none (fun r => some (m :: r)))) (fun _ => none) n)) = some s := h
    obtain ⟨j, n, rfl⟩ : ∃ j n, x = .int j n := by
      cases x <;> first
        | exact ⟨_, _, rfl⟩
        | (cases h; done)
    have h : iff (kbeq j .u8) none (Int.rec (motive := fun _ => Option (List Nat)) (fun m => iff (Nat.ble m 255) none (onOpt (bytesOf l) none (fun r => some (m :: r)))) (fun _ => none) n) = some s := h
    cases hk : kbeq j .u8 with
    | false => rw [hk] at h; cases h
    | true =>
      rw [hk] at h
      have e1 := kbeq_eq hk
      subst e1
      cases n with
      | negSucc m => cases h
      | ofNat m =>
        have h : iff (Nat.ble m 255) none (onOpt (bytesOf l) none (fun r => some (m :: r))) = some s := h
        cases hb : Nat.ble m 255 with
        | false => rw [hb] at h; cases h
        | true =>
          rw [hb] at h
          have h : onOpt (bytesOf l) none (fun r => some (m :: r)) = some s := h
          cases hl : bytesOf l with
          | none => rw [hl] at h; cases h
          | some r =>
            rw [hl] at h
            have h : some (m :: r) = some s := h
            injection h with h
            subst h
            obtain ⟨h1, h2⟩ := bytesOf_eq hl
            rw [bleN, decide_eq_true_eq] at hb
            refine ⟨by rw [h1]; rfl, fun c hc => ?_⟩
            rcases List.mem_cons.1 hc with rfl | hc
            · omega
            · exact h2 c hc
theorem push_bs : ∀ (s : List Nat) (r : List Nat), (s.map (fun (c : Nat) => (c : Int))).foldl (fun (r : ByteArray) n => r.push (UInt8.ofNat n.toNat)) (bs r) = bs (r ++ s)
  | [], r => by simp
  | c :: s, r => by
    rw [List.map_cons, List.foldl_cons]
    have : (bs r).push (UInt8.ofNat (c : Int).toNat) = bs (r ++ [c]) := by
      unfold bs ByteArray.push
      simp
    rw [this, push_bs s (r ++ [c])]
    simp
theorem toStr_op {s d el : TypeId} {x : Operand} (ho : o.op = .convert s d x) (hs : P.underlying s = some (.slice el)) (hd : P.underlying d = some .string) (he' : P.underlying el = some (.int .u8)) : OpS P nt cf (oToStr (cO nt x)) o := by
  obtain ⟨dst, op, ty, pos, after, guard⟩ := o
  cases ho
  intro σ N e h a w k Q next he hr hn hk
  have h3 := R_cO he hr x
  have hn0 := hn
  unfold oToStr at hn0
  cases hv : cO nt x e <;> first
    | (rw [hv] at hn0; exact absurd rfl hn0)
    | skip
  · rename_i b off n j
    rw [hv] at hn0 h3
    obtain ⟨g, q, hg, h3⟩ := R_slice h3
    have hn1 : onOpt (readn (asRow (hget h b)) n off) .no (fun l => onOpt (bytesOf l) .no (fun s => k (.str s) h)) ≠ .no := hn0
    obtain ⟨l, hl⟩ := onOpt_ne hn1
    rw [hl] at hn1
    obtain ⟨s', hs'⟩ := onOpt_ne (v := bytesOf l) hn1
    obtain ⟨e1, e2⟩ := bytesOf_eq hs'
    have hop : oToStr (cO nt x) cf e h k = k (.str s') h := by
      unfold oToStr
      rw [hv]
      show onOpt (readn (asRow (hget h b)) n off) .no (fun l => onOpt (bytesOf l) .no (fun s => k (.str s) h)) = _
      rw [hl]
      show onOpt (bytesOf l) .no (fun s => k (.str s) h) = _
      rw [hs']; rfl
    refine OpS.of_value hk hop (Go.refl hr) (u := .string (bs s')) (.str _ e2) ?_
    have hlen := (readn_eq _ _ _ _ hl).1
    have hld : (loadCells (⟨g, off, none⟩ : Addr) n).run P w = .ok ((s'.map (fun (c : Nat) => (c : Int))).map (Value.int .u8)).toArray w := by
      have hvl : ((s'.map (fun (c : Nat) => (c : Int))).map (Value.int .u8)).length = n := by rw [← hlen, e1]; simp
      rw [← hvl]
      refine run_loadCells_list w _ _ (fun i v hi => ?_)
      rw [addr_add]
      simp only [List.getElem?_map, List.map_map] at hi
      cases hc : s'[i]? with
      | none => rw [hc] at hi; cases hi
      | some c =>
        rw [hc] at hi
        have hi : some (Value.int .u8 (c : Int)) = some v := hi
        injection hi with hi
        subst hi
        have hli : l[i]? = some (.int .u8 (Int.ofNat c)) := by rw [e1, List.getElem?_map, hc]; rfl
        obtain ⟨g', q', u, hg', hu, hR⟩ := hr.cell ((readn_eq _ _ _ _ hl).2 i _ hli)
        rw [hg] at hg'; injection hg' with hg'; injection hg' with e3 e4; subst e3
        rw [hu, R_int hR]; rfl
    have hrun := run_bytesToString (P := P) w ⟨g, off, none⟩ n (q - j) _ hld
    rw [show ByteArray.empty = bs [] from rfl, push_bs] at hrun
    rw [List.nil_append] at hrun
    have hcv := run_convert_bytes_string (P := P) w s d el (some ⟨g, off, none⟩) n (q - j) hs he' hd
    show ((convert s d (a.eval x) >>= fun z => pure (.value z)) : Sem Next).run P w = _
    rw [h3, Sem.run_bind, hcv, hrun]
    rfl
  · rw [hv] at h3
    have hop : oToStr (cO nt x) cf e h k = k (.str []) h := by unfold oToStr; rw [hv]; rfl
    refine OpS.of_value hk hop (Go.refl hr) (u := .string (bs [])) (.str _ (fun c hc => by simp at hc)) ?_
    show ((convert s d (a.eval x) >>= fun z => pure (.value z)) : Sem Next).run P w = _
    rw [R_nils h3, Sem.run_bind, run_convert_bytes_string (P := P) w s d el none 0 0 hs he' hd]
    rfl
end
end Ev
end Go.Proofs.YtlgpacpebjechaaGreatDoor
/-
  The evaluator's operations, one by one: equality of small structs and arrays of numbers.
-/
namespace Go.Proofs.YtlgpacpebjechaaGreatDoor
open Go.RowKit Go.Deep
namespace Ev
abbrev lefts (ps : List (IntKind × Int × Int)) : List Value := ps.map fun p => .int p.1 p.2.1
abbrev rights (ps : List (IntKind × Int × Int)) : List Value := ps.map fun p => .int p.1 p.2.2
def allEq (ps : List (IntKind × Int × Int)) : Bool := ps.all fun p => p.2.1 == p.2.2
theorem beqL_spec {σ : Sg} : ∀ {l m : List AV} {vs ws : List Value}, Rs σ l vs → Rs σ m ws → ∀ {q : Bool}, beqL l m = some q → ∃ ps, vs = lefts ps ∧ ws = rights ps ∧ q = allEq ps ∧ ps.length = l.length
  | [], [], _, _, .nil, .nil, q, h => by
    have h : some true = some q := h
    injection h with h
    exact ⟨[], rfl, rfl, h.symm, rfl⟩
  | [], _ :: _, _, _, .nil, _, q, h => by cases h
  | _ :: _, [], _, _, _, .nil, q, h => by cases h
  | x :: l, y :: m, _, _, .cons _ v _ vs h1 h2, .cons _ u _ ws k1 k2, q, h => by
    have h : onInt x none (fun j a => onInt y none (fun k b => iff (kbeq j k) none (onOpt (beqL l m) none (fun q => some (iff (ibeq a b) false q))))) = some q := h
    obtain ⟨j, a, rfl⟩ : ∃ j a, x = .int j a := by
      cases x <;> first
        | exact ⟨_, _, rfl⟩
        | (cases h; done)
    have h : onInt y none (fun k b => iff (kbeq j k) none (onOpt (beqL l m) none (fun q => some (iff (ibeq a b) false q)))) = some q := h
    obtain ⟨j', b, rfl⟩ : ∃ j a, y = .int j a := by
      cases y <;> first
        | exact ⟨_, _, rfl⟩
        | (cases h; done)
    have h : iff (kbeq j j') none (onOpt (beqL l m) none (fun q => some (iff (ibeq a b) false q))) = some q := h
    cases hk : kbeq j j' with
    | false => rw [hk] at h; cases h
    | true =>
      rw [hk] at h
      have e1 := kbeq_eq hk
      have h : onOpt (beqL l m) none (fun q => some (iff (ibeq a b) false q)) = some q := h
      cases hl : beqL l m with
      | none => rw [hl] at h; cases h
      | some r =>
        rw [hl] at h
        have h9 : iff (ibeq a b) false r = q := Option.some.inj h
        obtain ⟨ps, e2, e3, e4, e5⟩ := beqL_spec h2 k2 hl
        refine ⟨(j, a, b) :: ps, ?_, ?_, ?_, by simp [e5]⟩
        · rw [R_int h1, e2]; rfl
        · rw [R_int k1, e3, ← e1]; rfl
        · rw [← h9, iff_and, ibeq_eq, e4]
          show _ = ((a == b) && allEq ps)
          by_cases e6 : a = b <;> simp [e6]
/-- equality of values of the type ty is that of their n numbers -/
structure Flat (P : Program) (ty n : Nat) : Prop where
  eq : ∀ ps : List (IntKind × Int × Int), ps.length = n → ∀ w, (Op.equal ty (.agg (lefts ps).toArray) (.agg (rights ps).toArray)).run P w = .ok (allEq ps) w
  gd : P.eqGuardType P.depth ty = false
structure FlatK (P : Program) (ty n : Nat) : Prop where
  fl : Flat P ty n
  ck : ∀ (b : Bool) (ps : List (IntKind × Int × Int)), ps.length = n → ∀ w, (Instr.checkKey b 10000 ty (.agg (lefts ps).toArray)).run P w = .ok () w
theorem keqL_spec {σ : Sg} {n : Nat} {x y : AV} {u v : Value} (hx : R σ x u) (hy : R σ y v) {q : Bool} (h : keqL n x y = some q) : ∃ ps, u = .agg (lefts ps).toArray ∧ v = .agg (rights ps).toArray ∧ q = allEq ps ∧ ps.length = n := by
  unfold keqL at h
  obtain ⟨l, rfl⟩ : ∃ l, x = .agg l := by
    cases x <;> first
      | exact ⟨_, rfl⟩
      | (cases h; done)
  have h : onAgg y none (fun m => iff (Nat.beq (lenA l) n) none (beqL l m)) = some q := h
  obtain ⟨m, rfl⟩ : ∃ l, y = .agg l := by
    cases y <;> first
      | exact ⟨_, rfl⟩
      | (cases h; done)
  have h : iff (Nat.beq (lenA l) n) none (beqL l m) = some q := h
  cases hb : Nat.beq (lenA l) n with
  | false => rw [hb] at h; cases h
  | true =>
    rw [hb] at h
    rw [beqN, lenA_eq, decide_eq_true_eq] at hb
    obtain ⟨vs, hvs, rfl⟩ := R_agg hx
    obtain ⟨ws, hws, rfl⟩ := R_agg hy
    obtain ⟨ps, rfl, rfl, h3, h4⟩ := beqL_spec hvs hws h
    exact ⟨ps, rfl, rfl, h3, h4.trans hb⟩
section
variable {P : Program} {nt : Nat} {cf : CF} {o : Oper} {σ : Sg}
theorem eqGuard_flat {ty n : Nat} (hf : Flat P ty n) (op : BinOp) (x y : Operand) (xs ys : Array Value) (w : World) : (eqGuard op ty x y (.agg xs) (.agg ys)).run P w = .ok () w := by
  unfold eqGuard
  cases op <;> first
    | rfl
    | simp [hf.gd]
theorem eqL_pure {ty ty' : TypeId} {x y : Operand} {n : Nat} (ho : o.op = .binOp .eql ty x y ty') (hf : Flat P ty n) : PureS P nt cf (oEqL n (cO nt x) (cO nt y)) o := by
  intro σ N e h a w k he hr hn
  obtain ⟨q, hq⟩ := onOpt_ne hn
  obtain ⟨ps, h1, h2, rfl, h4⟩ := keqL_spec (R_cO he hr x) (R_cO he hr y) hq
  refine ⟨_, _, by unfold oEqL; rw [hq]; rfl, .bool _, fun w' => ?_⟩
  rw [exec_bin ho, h1, h2, Sem.run_bind, Sem.run_bind, eqGuard_flat hf]
  simp [binOp, hf.eq ps h4 w']
theorem neL_pure {ty ty' : TypeId} {x y : Operand} {n : Nat} (ho : o.op = .binOp .neq ty x y ty') (hf : Flat P ty n) : PureS P nt cf (oNeL n (cO nt x) (cO nt y)) o := by
  intro σ N e h a w k he hr hn
  obtain ⟨q, hq⟩ := onOpt_ne hn
  obtain ⟨ps, h1, h2, rfl, h4⟩ := keqL_spec (R_cO he hr x) (R_cO he hr y) hq
  refine ⟨_, _, by unfold oNeL; rw [hq]; rfl, .bool _, fun w' => ?_⟩
  rw [exec_bin ho, h1, h2, Sem.run_bind, Sem.run_bind, eqGuard_flat hf, inot_eq]
  simp [binOp, hf.eq ps h4 w']
end
/-! the three types -/
theorem fields122 : (Tryz.prog.fieldsOf 122).toList = [{ name := "rule", type := 3, offset := 0, embedded := false, tag := "", pkgPath := "emendate/recognizer", byteOffset := 0 }, { name := "dot", type := 3, offset := 1, embedded := false, tag := "", pkgPath := "emendate/recognizer", byteOffset := 8 }, { name := "from", type := 3, offset := 2, embedded := false, tag := "", pkgPath := "emendate/recognizer", byteOffset := 16 }] := by kernel_rfl
theorem fields179 : (Tryz.prog.fieldsOf 179).toList = [{ name := "a", type := 3, offset := 0, embedded := false, tag := "", pkgPath := "emendate/dfa", byteOffset := 0 }, { name := "b", type := 3, offset := 1, embedded := false, tag := "", pkgPath := "emendate/dfa", byteOffset := 8 }] := by kernel_rfl
theorem hst122 : Tryz.prog.underlying 122 = some (.struct (Tryz.prog.fieldsOf 122)) := by kernel_rfl
theorem hst179 : Tryz.prog.underlying 179 = some (.struct (Tryz.prog.fieldsOf 179)) := by kernel_rfl
theorem plain36 : Tryz.prog.plainKey 36 = true := by kernel_rfl
theorem plain3 : Tryz.prog.plainKey 3 = true := by kernel_rfl
theorem run_eqI {d t : Nat} {k j : IntKind} {a b : Int} (h : Tryz.prog.underlying t = some (.int j)) (w : World) : (Op.equalIn (d + 1) t (.int k a) (.int k b)).run Tryz.prog w = .ok (a == b) w := by
  simp [Op.equalIn, run_underlying h]
theorem part_at {t : TypeId} {xs : Array Value} {i : Nat} {v : Value} (ht : Tryz.prog.plainKey t = true) (h : xs[i]? = some v) (w : World) : (part t xs i).run Tryz.prog w = .ok v w := run_part_plain w ht h
theorem len2 {α : Type} {l : List α} (h : l.length = 2) : ∃ a b, l = [a, b] := by
  match l, h with
  | [a, b], _ => exact ⟨a, b, rfl⟩
theorem len3 {α : Type} {l : List α} (h : l.length = 3) : ∃ a b c, l = [a, b, c] := by
  match l, h with
  | [a, b, c], _ => exact ⟨a, b, c, rfl⟩
theorem len4 {α : Type} {l : List α} (h : l.length = 4) : ∃ a b c d, l = [a, b, c, d] := by
  match l, h with
  | [a, b, c, d], _ => exact ⟨a, b, c, d, rfl⟩
theorem cells36 : Tryz.prog.cellsOf 36 = 1 := by kernel_rfl
theorem run_eqI' {c d t : Nat} {k j : IntKind} {a b : Int} (hd : d = c + 1) (h : Tryz.prog.underlying t = some (.int j)) (w : World) : (Op.equalIn d t (.int k a) (.int k b)).run Tryz.prog w = .ok (a == b) w := by
  subst hd
  exact run_eqI h w
theorem flat38 : Flat Tryz.prog 38 4 := by
  refine ⟨fun ps hl w => ?_, by kernel_rfl⟩
  obtain ⟨⟨j0, x0, y0⟩, ⟨j1, x1, y1⟩, ⟨j2, x2, y2⟩, ⟨j3, x3, y3⟩, rfl⟩ := len4 hl
  have hsome : (Tryz.prog.info? 36).isSome = true := by kernel_rfl
  obtain ⟨i, hi⟩ := Option.isSome_iff_exists.1 hsome
  show (Op.equalIn (9999 + 1) 38 _ _).run Tryz.prog w = _
  rw [run_equalIn_array w 9999 _ _ Tryz.underlying38 hi, cells36]
  have p0 := fun w => part_at (t := 36) (xs := (lefts [(j0, x0, y0), (j1, x1, y1), (j2, x2, y2), (j3, x3, y3)]).toArray) (i := 0) (v := .int j0 x0) plain36 rfl w
  have p1 := fun w => part_at (t := 36) (xs := (lefts [(j0, x0, y0), (j1, x1, y1), (j2, x2, y2), (j3, x3, y3)]).toArray) (i := 1) (v := .int j1 x1) plain36 rfl w
  have p2 := fun w => part_at (t := 36) (xs := (lefts [(j0, x0, y0), (j1, x1, y1), (j2, x2, y2), (j3, x3, y3)]).toArray) (i := 2) (v := .int j2 x2) plain36 rfl w
  have p3 := fun w => part_at (t := 36) (xs := (lefts [(j0, x0, y0), (j1, x1, y1), (j2, x2, y2), (j3, x3, y3)]).toArray) (i := 3) (v := .int j3 x3) plain36 rfl w
  have q0 := fun w => part_at (t := 36) (xs := (rights [(j0, x0, y0), (j1, x1, y1), (j2, x2, y2), (j3, x3, y3)]).toArray) (i := 0) (v := .int j0 y0) plain36 rfl w
  have q1 := fun w => part_at (t := 36) (xs := (rights [(j0, x0, y0), (j1, x1, y1), (j2, x2, y2), (j3, x3, y3)]).toArray) (i := 1) (v := .int j1 y1) plain36 rfl w
  have q2 := fun w => part_at (t := 36) (xs := (rights [(j0, x0, y0), (j1, x1, y1), (j2, x2, y2), (j3, x3, y3)]).toArray) (i := 2) (v := .int j2 y2) plain36 rfl w
  have q3 := fun w => part_at (t := 36) (xs := (rights [(j0, x0, y0), (j1, x1, y1), (j2, x2, y2), (j3, x3, y3)]).toArray) (i := 3) (v := .int j3 y3) plain36 rfl w
  have nine : (9999 : Nat) = 9998 + 1 := by omega
  simp only [show List.range 4 = [0, 1, 2, 3] from rfl, Op.eqItems, Sem.run_bind, Nat.mul_one, p0, p1, p2, p3, q0, q1, q2, q3, Result.andThen_ok, run_eqI' nine Tryz.underlying36, Sem.run_ite, Sem.run_pure]
  show _ = Result.ok ((x0 == y0) && ((x1 == y1) && ((x2 == y2) && ((x3 == y3) && true)))) w
  cases h0 : x0 == y0 <;> cases h1 : x1 == y1 <;> cases h2 : x2 == y2 <;> cases h3 : x3 == y3 <;> simp
theorem run_ck3 (b : Bool) (d : Nat) (k : IntKind) (x : Int) (w : World) : (Instr.checkKey b (d + 1) 3 (.int k x)).run Tryz.prog w = .ok () w := by
  rw [Instr.checkKey, Sem.run_bind, run_underlying Tryz.underlying3]
  rfl
theorem flat122 : FlatK Tryz.prog 122 3 := by
  refine ⟨⟨fun ps hl w => ?_, by kernel_rfl⟩, fun b ps hl w => ?_⟩ <;> obtain ⟨⟨j0, x0, y0⟩, ⟨j1, x1, y1⟩, ⟨j2, x2, y2⟩, rfl⟩ := len3 hl
  · show (Op.equalIn (9999 + 1) 122 _ _).run Tryz.prog w = _
    rw [run_equalIn_struct w 9999 _ _ _ hst122 (by kernel_rfl)]
    have p0 := fun w => part_at (t := 3) (xs := (lefts [(j0, x0, y0), (j1, x1, y1), (j2, x2, y2)]).toArray) (i := 0) (v := .int j0 x0) plain3 rfl w
    have p1 := fun w => part_at (t := 3) (xs := (lefts [(j0, x0, y0), (j1, x1, y1), (j2, x2, y2)]).toArray) (i := 1) (v := .int j1 x1) plain3 rfl w
    have p2 := fun w => part_at (t := 3) (xs := (lefts [(j0, x0, y0), (j1, x1, y1), (j2, x2, y2)]).toArray) (i := 2) (v := .int j2 x2) plain3 rfl w
    have q0 := fun w => part_at (t := 3) (xs := (rights [(j0, x0, y0), (j1, x1, y1), (j2, x2, y2)]).toArray) (i := 0) (v := .int j0 y0) plain3 rfl w
    have q1 := fun w => part_at (t := 3) (xs := (rights [(j0, x0, y0), (j1, x1, y1), (j2, x2, y2)]).toArray) (i := 1) (v := .int j1 y1) plain3 rfl w
    have q2 := fun w => part_at (t := 3) (xs := (rights [(j0, x0, y0), (j1, x1, y1), (j2, x2, y2)]).toArray) (i := 2) (v := .int j2 y2) plain3 rfl w
    rw [fields122]
    have nine : (9999 : Nat) = 9998 + 1 := by omega
    simp only [Op.eqFields, Sem.run_bind, p0, p1, p2, q0, q1, q2, Result.andThen_ok, run_eqI' nine Tryz.underlying3, Sem.run_ite, Sem.run_pure]
    show _ = Result.ok ((x0 == y0) && ((x1 == y1) && ((x2 == y2) && true))) w
    cases h0 : x0 == y0 <;> cases h1 : x1 == y1 <;> cases h2 : x2 == y2 <;> simp
  · show (Instr.checkKey b (9999 + 1) 122 _).run Tryz.prog w = _
    rw [Instr.checkKey, Sem.run_bind, run_underlying Tryz.underlying122]
    have p0 := fun w => part_at (t := 3) (xs := #[Value.int j0 x0, Value.int j1 x1, Value.int j2 x2]) (i := 0) plain3 rfl w
    have p1 := fun w => part_at (t := 3) (xs := #[Value.int j0 x0, Value.int j1 x1, Value.int j2 x2]) (i := 1) plain3 rfl w
    have p2 := fun w => part_at (t := 3) (xs := #[Value.int j0 x0, Value.int j1 x1, Value.int j2 x2]) (i := 2) plain3 rfl w
    simp only [Result.andThen_ok, ← Array.forIn_toList]
    simp [p0, p1, p2, run_ck3 b 9998]
theorem flat179 : FlatK Tryz.prog 179 2 := by
  refine ⟨⟨fun ps hl w => ?_, by kernel_rfl⟩, fun b ps hl w => ?_⟩ <;> obtain ⟨⟨j0, x0, y0⟩, ⟨j1, x1, y1⟩, rfl⟩ := len2 hl
  · show (Op.equalIn (9999 + 1) 179 _ _).run Tryz.prog w = _
    rw [run_equalIn_struct w 9999 _ _ _ hst179 (by kernel_rfl)]
    have p0 := fun w => part_at (t := 3) (xs := (lefts [(j0, x0, y0), (j1, x1, y1)]).toArray) (i := 0) (v := .int j0 x0) plain3 rfl w
    have p1 := fun w => part_at (t := 3) (xs := (lefts [(j0, x0, y0), (j1, x1, y1)]).toArray) (i := 1) (v := .int j1 x1) plain3 rfl w
    have q0 := fun w => part_at (t := 3) (xs := (rights [(j0, x0, y0), (j1, x1, y1)]).toArray) (i := 0) (v := .int j0 y0) plain3 rfl w
    have q1 := fun w => part_at (t := 3) (xs := (rights [(j0, x0, y0), (j1, x1, y1)]).toArray) (i := 1) (v := .int j1 y1) plain3 rfl w
    rw [fields179]
    have nine : (9999 : Nat) = 9998 + 1 := by omega
    simp only [Op.eqFields, Sem.run_bind, p0, p1, q0, q1, Result.andThen_ok, run_eqI' nine Tryz.underlying3, Sem.run_ite, Sem.run_pure]
    show _ = Result.ok ((x0 == y0) && ((x1 == y1) && true)) w
    cases h0 : x0 == y0 <;> cases h1 : x1 == y1 <;> simp
  · show (Instr.checkKey b (9999 + 1) 179 _).run Tryz.prog w = _
    rw [Instr.checkKey, Sem.run_bind, run_underlying Tryz.underlying179]
    have p0 := fun w => part_at (t := 3) (xs := #[Value.int j0 x0, Value.int j1 x1]) (i := 0) plain3 rfl w
    have p1 := fun w => part_at (t := 3) (xs := #[Value.int j0 x0, Value.int j1 x1]) (i := 1) plain3 rfl w
    simp only [Result.andThen_ok, ← Array.forIn_toList]
    simp [p0, p1, run_ck3 b 9998]
end Ev
end Go.Proofs.YtlgpacpebjechaaGreatDoor
/-
  The evaluator's operations, one by one: new blocks.
-/
namespace Go.Proofs.YtlgpacpebjechaaGreatDoor
open Go.RowKit Go.Deep
namespace Ev
/-- a block is made, of cells that no world changes -/
structure AllocF (P : Program) (σ : Sg) (N : Nat) (cf : CF) (op : AOp) (o : Oper) (e : EN) (h : Hp) (a : Act) (k : K) (x : Blk) (v : AV) (C : Obj) (q : Nat) (mk : Nat → Value) : Prop where
  own : ownB x = true
  eq : op cf e h k = k v ⟨HT.put h.n x h.t, Pa.succ h.n⟩
  run : ∀ w' : World, (execOp a.eval o).run P w' = .ok (.value (mk w'.heap.size)) (w'.alloc C)
  blk : ∀ (σ' : Sg) (g : Nat) (w' : World), σ.le σ' → σ'.blk h.n = some (g, q) → N ≤ g → w'.heap[g]? = some C → BlkOK σ' N w' h.n x
  val : ∀ (σ' : Sg) (g : Nat), σ.le σ' → σ'.blk h.n = some (g, q) → R σ' v (mk g)
def AllocS (P : Program) (nt : Nat) (cf : CF) (op : AOp) (o : Oper) : Prop :=
  ∀ (σ : Sg) (N : Nat) (e : EN) (h : Hp) (a : Act) (w : World) (k : K), ER σ nt e a → HR σ N h w → op cf e h k ≠ .no → ∃ x v C q mk, AllocF P σ N cf op o e h a k x v C q mk
section
variable {P : Program} {nt : Nat} {cf : CF} {o : Oper} {σ : Sg}
theorem alloc_last (w : World) (C : Obj) : (w.alloc C).heap[w.heap.size]? = some C := by
  show (w.heap.push C)[w.heap.size]? = _
  exact Array.getElem?_push_size
theorem AllocS.op {op : AOp} (hp : AllocS P nt cf op o) : OpS P nt cf op o := by
  intro σ N e h a w k Q next he hr hn hk
  obtain ⟨x, v, C, q, mk, hA⟩ := hp σ N e h a w k he hr hn
  have hle := Sg.le_put (σ := σ) (p := h.n) w.heap.size q (hr.fresh _ (Nat.le_refl _))
  have hput := Sg.put_same σ h.n w.heap.size q
  exact OpS.of_value hk hA.eq (hr.alloc C x hA.own q (hA.blk _ _ _ hle hput hr.base (alloc_last w C))) (hA.val _ _ hle hput) (hA.run w)
theorem row_list {l : List AV} {vs : List Value} (h : Rs σ l vs) (more : List Value) : RowOK σ l.length (laid l 0 .nil) (vs ++ more).toArray := by
  refine ⟨by simp [h.len], fun i v hi => ?_⟩
  have h1 := laid_nil hi
  obtain ⟨u, h2, h3⟩ := h.get h1
  have hlt := (List.getElem?_eq_some_iff.1 h2).1
  refine ⟨(List.getElem?_eq_some_iff.1 h1).1, u, ?_, h3⟩
  simp [List.getElem?_append_left hlt, h2]
theorem zeros_get (z : List AV) : ∀ (n j : Nat), j < n * z.length → (zeros z n)[j]? = z[j % z.length]?
  | 0, j, h => by omega
  | n + 1, j, h => by
    show (app z (zeros z n))[j]? = _
    rw [app_eq]
    by_cases hj : j < z.length
    · rw [List.getElem?_append_left hj, Nat.mod_eq_of_lt hj]
    · rw [List.getElem?_append_right (by omega), zeros_get z n (j - z.length) (by rw [Nat.succ_mul] at h; omega), ← Nat.mod_eq_sub_mod (by omega)]
theorem zeros_len (z : List AV) : ∀ n, (zeros z n).length = n * z.length
  | 0 => by simp [show zeros z 0 = [] from rfl]
  | n + 1 => by
    show (app z (zeros z n)).length = _
    rw [app_eq, List.length_append, zeros_len z n, Nat.succ_mul]; omega
theorem zeros_R {z : List AV} {zs : Array Value} (h : Rs σ z zs.toList) (n m : Nat) (h1 : 1 ≤ z.length) (hm : m = n * z.length) : Rs σ (zeros z n) (madeCells zs m).toList := by
  have hl := h.len
  rw [Array.length_toList] at hl
  refine Rs.of_get (by rw [Array.length_toList, size_madeCells, zeros_len, hm]) (fun j a v h2 h3 => ?_)
  have hj : j < n * z.length := by rw [← zeros_len]; exact (List.getElem?_eq_some_iff.1 h2).1
  rw [zeros_get z n j hj] at h2
  obtain ⟨u, h4, h5⟩ := h.get h2
  have hlt : j % z.length < z.length := Nat.mod_lt _ (by omega)
  unfold madeCells at h3
  rw [Array.getElem?_toList, Array.getElem?_map, Array.getElem?_range, if_pos (by omega)] at h3
  simp only [Option.map_some, Option.some.injEq] at h3
  rw [hl] at h3
  rw [getElem!_pos zs (j % z.length) (by omega)] at h3
  rw [Array.getElem?_toList, Array.getElem?_eq_getElem (by omega)] at h4
  injection h4 with h4
  rw [← h3, h4]; exact h5
theorem cellsOf_eq {t : TypeId} {i : TypeInfo} (hi : P.info? t = some i) : P.cellsOf t = i.size := cells_size hi
theorem fill_size (place : Nat → Option (Nat × Nat)) : ∀ (l : List (Nat × Value)) (cs ds : Array Value), Instr.fill place cs l = some ds → ds.size = cs.size
  | [], cs, ds, h => by
    have h : some cs = some ds := h
    injection h with h; rw [h]
  | (i, v) :: l, cs, ds, h => by
    unfold Instr.fill at h
    cases hp : place i with
    | none => simp [hp] at h
    | some p =>
      simp only [hp] at h
      split at h
      · cases h
      · refine (fill_size place l _ ds h).trans ?_
        have : ∀ (ys : List (Value × Nat)) (cs : Array Value), (ys.foldl (fun cs (y : Value × Nat) => cs.setIfInBounds (p.1 + y.2) y.1) cs).size = cs.size := by
          intro ys
          induction ys with
          | nil => intro cs; rfl
          | cons y ys ih => intro cs; rw [List.foldl_cons, ih]; simp
        rw [← Array.foldl_toList]
        exact this _ _
theorem run_buildSlice' (w : World) {t el : TypeId} {len : Nat} {parts : Array (Nat × Value)} {i : TypeInfo} {v : Value} {cs : List Value} (hu : P.underlying t = some (.slice el)) (hi : P.info? el = some i) (hz : i.zero = some v) (hb : len * i.size ≤ 1000)
    (hf : Instr.fill (fun j => some (j * i.size, i.size)) (madeCells v.cells (len * i.size)).toList.toArray parts.toList = some cs.toArray) :
    (Instr.buildSlice t len parts).run P w = .ok (.slice (some ⟨w.heap.size, 0, none⟩) len len) (w.alloc (.cells cs.toArray el)) := by
  unfold Instr.buildSlice
  have h1 : ¬ 16777216 < len * i.size := by omega
  simp only [madeCells, Array.toArray_toList] at hf
  by_cases h0 : len * i.size = 0
  · rw [h0] at hf
    have e0 : ∀ f : Nat → Value, (Array.range 0).map f = #[] := fun f => by simp
    rw [e0] at hf
    have e1 : (Array.range 0).map (fun _ : Nat => (default : Value)) = #[] := e0 _
    simp [run_underlying hu, sizeOf, typeInfo, hi, h0, e1, hf, newRow]
  · simp [run_underlying hu, sizeOf, typeInfo, zeroValue, hi, hz, h0, h1, hf, newRow]
theorem alloc_op {t : TypeId} {z : List AV} (ho : o.op = .alloc t) (hz : zeroL P t = some z) : AllocS P nt cf (oAlloc (.row 0 z.length (trk z 0 .nil (fun _ tr => tr)))) o := by
  obtain ⟨dst, op, ty, pos, after, guard⟩ := o
  cases ho
  intro σ N e h a w k he hr hn
  obtain ⟨i, v, hi, hzv, hR⟩ := zeroL_R (σ := σ) hz
  have htr : trk z 0 .nil (fun _ tr => tr) = laid z 0 .nil := trk_eq _ _ _ _
  refine ⟨_, _, .cells v.cells t, 0, fun g => .pointer (some ⟨g, 0, none⟩), rfl, hnew_eq _ _ _, fun w' => ?_, fun σ' g w' hle hb hN hg => ?_, fun σ' g hle hb => .ptr _ _ _ _ hb⟩
  · show ((Instr.alloc t true (.tuple #[]) >>= fun z => pure (.value z)) : Sem Next).run P w' = _
    simp [Instr.alloc, zeroValue, hi, hzv, newVar, newRow, typeInfo]
  · rw [htr]
    have := (row_list hR []).mono hle
    rw [List.append_nil] at this
    exact ⟨g, 0, v.cells, t, hb, hN, hg, .inl rfl, by simpa using this⟩
theorem box_op {t : TypeId} {x : Operand} (ho : o.op = .box t x) : AllocS P nt cf (oBox (cO nt x)) o := by
  obtain ⟨dst, op, ty, pos, after, guard⟩ := o
  cases ho
  intro σ N e h a w k he hr hn
  unfold oBox at hn
  obtain ⟨cs, hcs⟩ := onOpt_ne hn
  have hR := cellsO_R hcs (R_cO he hr x)
  refine ⟨.row 0 cs.length (laid cs 0 .nil), .ptr h.n 0, .cells (a.eval x).cells t, 0, fun g => .pointer (some ⟨g, 0, none⟩), rfl, ?_, fun w' => ?_, fun σ' g w' hle hb hN hg => ?_, fun σ' g hle hb => .ptr _ _ _ _ hb⟩
  · unfold oBox
    rw [hcs]
    show trk cs 0 .nil (fun n tr => hnew h (.row 0 n tr) (fun b h => k (.ptr b 0) h)) = _
    rw [trk_eq, hnew_eq, Nat.zero_add]
  · show ((Instr.box t (a.eval x) >>= fun z => pure (.value z)) : Sem Next).run P w' = _
    simp [Instr.box, newVar, newRow]
  · have := (row_list hR []).mono hle
    rw [List.append_nil] at this
    exact ⟨g, 0, _, t, hb, hN, hg, .inl rfl, by simpa using this⟩
theorem mkmap_op {t : TypeId} (ho : o.op = .makeMap t none) : AllocS P nt cf oMkmap o := by
  obtain ⟨dst, op, ty, pos, after, guard⟩ := o
  cases ho
  intro σ N e h a w k he hr hn
  refine ⟨.map [] 0, .map h.n, .map #[] 0, 0, fun g => .map (some g), rfl, hnew_eq _ _ _, fun w' => ?_, fun σ' g w' hle hb hN hg => ?_, fun σ' g hle hb => .map _ _ _ hb⟩
  · show ((Instr.makeMap t none >>= fun z => pure (.value z)) : Sem Next).run P w' = _
    rw [Sem.run_bind, run_makeMap]; rfl
  · exact ⟨g, 0, #[], hb, hN, hg, .nil, MapKept.stamped_empty 0⟩
theorem mkslice_op {t el : TypeId} {l q : Operand} {z : List AV} (ho : o.op = .makeSlice t l q) (hu : P.underlying t = some (.slice el)) (hz : zeroL P el = some z) (hb : (P.bytesOf el ≤ 1000 && z.length == P.cellsOf el && 1 ≤ P.cellsOf el) = true) :
    AllocS P nt cf (oMkslice (P.cellsOf el) z (cO nt l) (cO nt q)) o := by
  obtain ⟨dst, op, ty, pos, after, guard⟩ := o
  cases ho
  intro σ N e h a w k he hr hn
  obtain ⟨i, v, hi, hzv, hR⟩ := zeroL_R (σ := σ) hz
  simp only [Bool.and_eq_true, decide_eq_true_eq, beq_iff_eq] at hb
  obtain ⟨⟨hb1, hb2⟩, hb3⟩ := hb
  have hl1 := R_cO he hr l
  have hq1 := R_cO he hr q
  unfold oMkslice at hn
  obtain ⟨j, n, hl⟩ := onNat_ne hn
  rw [hl] at hn hl1
  have hn : onNat (cO nt q e) .no (fun q => iff (iff (Nat.beq n q) false (Nat.ble n 1000000)) .no (trk (zeros z n) 0 .nil (fun m tr => hnew h (.row (P.cellsOf el) m tr) (fun b h => k (.slice b 0 n 0) h)))) ≠ .no := hn
  obtain ⟨j', n', hq⟩ := onNat_ne hn
  rw [hq] at hn hq1
  have hn : iff (iff (Nat.beq n n') false (Nat.ble n 1000000)) .no (trk (zeros z n) 0 .nil (fun m tr => hnew h (.row (P.cellsOf el) m tr) (fun b h => k (.slice b 0 n 0) h))) ≠ .no := hn
  have hc := iff_ne hn
  have hc' := hc
  rw [iff_and, Bool.and_eq_true, beqN, bleN, decide_eq_true_eq, decide_eq_true_eq] at hc
  obtain ⟨rfl, hc2⟩ := hc
  have hbytes : i.bytes = P.bytesOf el := by simp [Program.bytesOf, hi]
  refine ⟨.row (P.cellsOf el) (n * z.length) (laid (zeros z n) 0 .nil), .slice h.n 0 n 0, .cells (madeCells v.cells (n * i.size)) el, n, fun g => .slice (some ⟨g, 0, none⟩) n n, rfl, ?_, fun w' => ?_, fun σ' g w' hle hb hN hg => ?_, fun σ' g hle hb => .slice _ _ _ _ _ _ hb⟩
  · unfold oMkslice
    rw [hl]
    show onNat (cO nt q e) .no (fun q => iff (iff (Nat.beq n q) false (Nat.ble n 1000000)) .no (trk (zeros z n) 0 .nil (fun m tr => hnew h (.row (P.cellsOf el) m tr) (fun b h => k (.slice b 0 n 0) h)))) = _
    rw [hq]
    show iff (iff (Nat.beq n n) false (Nat.ble n 1000000)) .no (trk (zeros z n) 0 .nil (fun m tr => hnew h (.row (P.cellsOf el) m tr) (fun b h => k (.slice b 0 n 0) h))) = _
    rw [hc']
    show trk (zeros z n) 0 .nil (fun m tr => hnew h (.row (P.cellsOf el) m tr) (fun b h => k (.slice b 0 n 0) h)) = _
    rw [trk_eq, hnew_eq, Nat.zero_add, zeros_len]
  · have e1 := R_int hl1
    have e2 := R_int hq1
    show ((Instr.makeSlice t (a.eval l) (a.eval q) >>= fun z => pure (.value z)) : Sem Next).run P w' = _
    rw [e1, e2, Sem.run_bind, run_make w' t el i v hu hi hzv j j' (Int.ofNat n) (Int.ofNat n) (by simp) (Int.le_refl _) ?_ (by simp; omega)]
    · rfl
    · rw [hbytes]
      have : P.bytesOf el * n ≤ 1000 * 1000000 := Nat.mul_le_mul hb1 hc2
      simp only [Int.ofNat_eq_natCast]
      omega
  · rw [cellsOf_eq hi] at hb2 hb3 ⊢
    have h1 := zeros_R (hR) n (n * i.size) (by omega) (by rw [hb2])
    have := (row_list h1 []).mono hle
    rw [List.append_nil, zeros_len] at this
    exact ⟨g, n, _, el, hb, hN, hg, .inr (by rw [size_madeCells]), by simpa using this⟩
theorem bslice_op {t el : TypeId} {len : Nat} {parts : Array (Nat × Operand)} {z : List AV} {ps : List (Nat × Nat × AO)} (ho : o.op = .buildSlice t len parts) (hu : P.underlying t = some (.slice el)) (hz : zeroL P el = some z)
    (hps : cParts nt (fun i => some (i * P.cellsOf el, P.cellsOf el)) parts.toList = some ps) (hb : (1 ≤ P.cellsOf el && len * P.cellsOf el ≤ 1000 && z.length == P.cellsOf el) = true) :
    AllocS P nt cf (oBslice (P.cellsOf el) len (zeros z len) ps) o := by
  obtain ⟨dst, op, ty, pos, after, guard⟩ := o
  cases ho
  intro σ N e h a w k he hr hn
  obtain ⟨i, v, hi, hzv, hR⟩ := zeroL_R (σ := σ) hz
  simp only [Bool.and_eq_true, decide_eq_true_eq, beq_iff_eq] at hb
  obtain ⟨⟨hb1, hb2⟩, hb3⟩ := hb
  unfold oBslice at hn
  obtain ⟨l, hl⟩ := onOpt_ne hn
  rw [cellsOf_eq hi] at hb1 hb2 hb3 hps
  have h1 := zeros_R hR len (len * i.size) (by omega) (by rw [hb3])
  obtain ⟨cs, hfill, hcs⟩ := fill_ok he hr hps h1 hl
  have hcl : cs.length = len * i.size := by
    have := fill_size _ _ _ _ hfill
    simpa [size_madeCells] using this
  refine ⟨.row (P.cellsOf el) l.length (laid l 0 .nil), .slice h.n 0 len 0, .cells cs.toArray el, len, fun g => .slice (some ⟨g, 0, none⟩) len len, rfl, ?_, fun w' => ?_, fun σ' g w' hle hb hN hg => ?_, fun σ' g hle hb => .slice _ _ _ _ _ _ hb⟩
  · unfold oBslice
    rw [hl]
    show trk l 0 .nil (fun n tr => hnew h (.row (P.cellsOf el) n tr) (fun b h => k (.slice b 0 len 0) h)) = _
    rw [trk_eq, hnew_eq, Nat.zero_add]
  · show ((Instr.buildSlice t len (parts.map fun p => (p.1, a.eval p.2)) >>= fun z => pure (.value z)) : Sem Next).run P w' = _
    rw [Sem.run_bind, run_buildSlice' w' hu hi hzv hb2 (by rw [Array.toList_map]; exact hfill)]
    rfl
  · have := (row_list hcs []).mono hle
    rw [List.append_nil] at this
    exact ⟨g, len, _, el, hb, hN, hg, .inr (by rw [cellsOf_eq hi]; simpa using hcl), by simpa using this⟩
end
end Ev
end Go.Proofs.YtlgpacpebjechaaGreatDoor
/-
  The evaluator's operations, one by one: stores, maps.
-/
namespace Go.Proofs.YtlgpacpebjechaaGreatDoor
open Go.RowKit Go.Deep
namespace Ev
section
variable {P : Program} {nt : Nat} {cf : CF} {o : Oper} {σ : Sg}
/-! stores -/
theorem allCell_R : ∀ {cs : List AV} {us : List Value}, Rs σ cs us → allCell cs = true → ∀ u ∈ us, u.oneCell' = true
  | _, _, .nil, _, u, h => by simp at h
  | _, _, .cons x v cs us h1 h2, h, u, hu => by
    have h : iff (isCell x) false (allCell cs) = true := h
    rw [iff_and, Bool.and_eq_true] at h
    rcases List.mem_cons.1 hu with rfl | hu
    · exact h1.oneCell h.1
    · exact allCell_R h2 h.2 u hu
def setL (cs : Array Value) : Nat → List Value → Array Value
  | _, [] => cs
  | o, v :: r => setL (cs.setIfInBounds o v) (o + 1) r
theorem setL_size : ∀ (vs : List Value) (o : Nat) (cs : Array Value), (setL cs o vs).size = cs.size
  | [], _, _ => rfl
  | v :: r, o, cs => by rw [setL, setL_size r]; simp
theorem setL_get : ∀ (vs : List Value) (o : Nat) (cs : Array Value) (m : Nat), o + vs.length ≤ cs.size → (setL cs o vs)[m]? = if o ≤ m ∧ m < o + vs.length then vs[m - o]? else cs[m]?
  | [], o, cs, m, _ => by
    rw [setL, if_neg (by simp only [List.length_nil]; omega)]
  | v :: r, o, cs, m, h => by
    simp only [List.length_cons] at h
    rw [setL, setL_get r (o + 1) _ m (by simp; omega)]
    by_cases h1 : m = o
    · subst h1
      rw [if_neg (by omega), if_pos (by simp), Nat.sub_self, Array.getElem?_setIfInBounds_self_of_lt (by omega)]
      rfl
    · by_cases h2 : o + 1 ≤ m ∧ m < o + 1 + r.length
      · rw [if_pos h2, if_pos (by simp only [List.length_cons]; omega), show m - o = (m - (o + 1)) + 1 by omega, List.getElem?_cons_succ]
      · rw [if_neg h2, if_neg (by simp only [List.length_cons]; omega), Array.getElem?_setIfInBounds_ne (by omega)]
theorem heap_setCells : ∀ (vs : List Value) (o : Nat) (w : World) (g : Nat) (cs : Array Value) (ty : TypeId) (fr : Nat × Nat), w.heap[g]? = some (.cells cs ty fr) → (w.setCells g o vs).heap[g]? = some (.cells (setL cs o vs) ty fr)
  | [], _, _, _, _, _, _, h => h
  | v :: r, o, w, g, cs, ty, fr, h => by
    rw [World.setCells, setL]
    refine heap_setCells r (o + 1) _ g _ ty fr ?_
    show (w.heap.modify g _)[g]? = _
    rw [Array.getElem?_modify, if_pos rfl, h]
    rfl
theorem heap_setCells_ne : ∀ (vs : List Value) (o : Nat) (w : World) (g k : Nat), k ≠ g → (w.setCells g o vs).heap[k]? = w.heap[k]?
  | [], _, _, _, _, _ => rfl
  | v :: r, o, w, g, k, h => by
    rw [World.setCells, heap_setCells_ne r (o + 1) _ g k h]
    show (w.heap.modify g _)[k]? = _
    rw [Array.getElem?_modify, if_neg (Ne.symm h)]
theorem setCells_same : ∀ (vs : List Value) (o : Nat) (w : World) (g : Nat), (w.setCells g o vs).os = w.os ∧ (w.setCells g o vs).tape = w.tape ∧ (w.setCells g o vs).output = w.output ∧ (w.setCells g o vs).heap.size = w.heap.size
  | [], _, _, _ => ⟨rfl, rfl, rfl, rfl⟩
  | v :: r, o, w, g => by
    obtain ⟨h1, h2, h3, h4⟩ := setCells_same r (o + 1) (w.setCell ⟨g, o, none⟩ v) g
    refine ⟨h1, h2, h3, h4.trans ?_⟩
    show (w.heap.modify g _).size = _
    simp
theorem store_op {t : TypeId} {x y : Operand} (ho : o.op = .store t x y) (ht : (P.info? t).isSome = true) : OpS P nt cf (oStore (P.cellsOf t) (cO nt x) (cO nt y)) o := by
  obtain ⟨dst, op, ty, pos, after, guard⟩ := o
  cases ho
  obtain ⟨i, hi⟩ := Option.isSome_iff_exists.1 ht
  intro σ N e h a w k Q next he hr hn hk
  have hx := R_cO he hr x
  have hy := R_cO he hr y
  have hn0 := hn
  unfold oStore at hn0
  obtain ⟨b, off, hp⟩ := onPtr_ne hn0
  rw [hp] at hn0 hx
  obtain ⟨g, q, hg, hx⟩ := R_ptr hx
  have hn1 : onOpt (cellsO (cO nt y e)) .no (fun cs => onRow (hget h b) .no (fun sz len tr => trk cs off tr (fun j tr => iff (iff (Nat.beq j (Nat.add off (P.cellsOf t))) false (iff (Nat.ble j len) false (allCell cs))) .no (k undefA (hput h b (.row sz len tr)))))) ≠ .no := hn0
  obtain ⟨cs, hcs⟩ := onOpt_ne hn1
  rw [hcs] at hn1
  have hn2 : onRow (hget h b) .no (fun sz len tr => trk cs off tr (fun j tr => iff (iff (Nat.beq j (Nat.add off (P.cellsOf t))) false (iff (Nat.ble j len) false (allCell cs))) .no (k undefA (hput h b (.row sz len tr))))) ≠ .no := hn1
  obtain ⟨sz, len, tr, hb⟩ := onRow_ne hn2
  rw [hb] at hn2
  have hn3 : trk cs off tr (fun j tr => iff (iff (Nat.beq j (Nat.add off (P.cellsOf t))) false (iff (Nat.ble j len) false (allCell cs))) .no (k undefA (hput h b (.row sz len tr)))) ≠ .no := hn2
  rw [trk_eq] at hn3
  have hc := iff_ne hn3
  have hop : oStore (P.cellsOf t) (cO nt x) (cO nt y) cf e h k = k undefA (hput h b (.row sz len (laid cs off tr))) := by
    unfold oStore
    rw [hp]
    show onOpt (cellsO (cO nt y e)) .no (fun cs => onRow (hget h b) .no (fun sz len tr => trk cs off tr (fun j tr => iff (iff (Nat.beq j (Nat.add off (P.cellsOf t))) false (iff (Nat.ble j len) false (allCell cs))) .no (k undefA (hput h b (.row sz len tr)))))) = _
    rw [hcs]
    show onRow (hget h b) .no (fun sz len tr => trk cs off tr (fun j tr => iff (iff (Nat.beq j (Nat.add off (P.cellsOf t))) false (iff (Nat.ble j len) false (allCell cs))) .no (k undefA (hput h b (.row sz len tr))))) = _
    rw [hb]
    show trk cs off tr (fun j tr => iff (iff (Nat.beq j (Nat.add off (P.cellsOf t))) false (iff (Nat.ble j len) false (allCell cs))) .no (k undefA (hput h b (.row sz len tr)))) = _
    rw [trk_eq, hc]; rfl
  rw [iff_and, iff_and, Bool.and_eq_true, Bool.and_eq_true, beqN, bleN, decide_eq_true_eq, decide_eq_true_eq] at hc
  obtain ⟨hc1, hc2, hc3⟩ := hc
  have hc1 : off + cs.length = off + P.cellsOf t := hc1
  have hR := cellsO_R hcs hy
  have hlen := hR.len
  rw [Array.length_toList] at hlen
  have hblk := hr.blk b
  rw [hb] at hblk
  obtain ⟨g', q', row, rty, hg', hN, hrow, hsz, hok⟩ := hblk
  rw [hg] at hg'; injection hg' with hg'; injection hg' with e1 e2; subst e1; subst e2
  have hle := hok.le
  have hroom : off + (a.eval y).cells.toList.length ≤ row.size := by rw [Array.length_toList]; omega
  have hall := allCell_R hR hc3
  have hst := run_storeCells_cells (P := P) g off (a.eval y).cells.toList 0 w (fun j hj => by
      rw [cell_of_row w g _ row rty _ hrow, Array.getElem?_eq_getElem (by omega)]; rfl) (fun j hj => by
      unfold World.frozen?
      rw [hrow]; simp) hall
  obtain ⟨s1, s2, s3, s4⟩ := setCells_same (a.eval y).cells.toList off w g
  refine OpS.of_skip hk hop (w' := w.setCells g off (a.eval y).cells.toList) (hr.put hg rfl (by rw [hb]; rfl) s1 s2 s3 s4 (fun k' hk' => heap_setCells_ne _ _ _ _ _ hk') ?_) (.tup [] [] .nil) ?_
  · refine ⟨g, q, _, rty, hg, hN, heap_setCells _ _ _ _ _ _ _ hrow, ?_, by rw [setL_size]; exact hok.le, fun m v hm => ?_⟩
    · rw [setL_size]; exact hsz
    · rw [setL_get _ _ _ _ hroom]
      rcases laid_get cs off tr m v hm with ⟨h1, h2⟩ | ⟨h1, h2⟩
      · have hlt := (List.getElem?_eq_some_iff.1 h2).1
        obtain ⟨u, h3, h4⟩ := hR.get h2
        refine ⟨by omega, u, ?_, h4⟩
        rw [if_pos ⟨h1, by rw [Array.length_toList]; omega⟩]
        exact h3
      · obtain ⟨h3, u, h4, h5⟩ := hok.get m v h2
        exact ⟨h3, u, by rw [if_neg (by rw [Array.length_toList]; omega)]; exact h4, h5⟩
  · show ((Instr.storeAt t (a.eval x) (a.eval y) >>= fun _ => pure .skip) : Sem Next).run P w = _
    rw [hx]
    have hsz' : (a.eval y).cells.size = i.size := by rw [← cellsOf_eq hi]; omega
    rw [Nat.add_zero] at hst
    simp [Instr.storeAt, Instr.sureAddr, storeVar, sizeOf, typeInfo, hi, hsz', hst]
/-! maps -/
structure KQ (P : Program) (kt : TypeId) (d : TypeDesc) (kq : AV → AV → Option Bool) : Prop where
  un : P.underlying kt = some d
  now : ∀ {σ : Sg} {x y : AV} {u v : Value} {q : Bool}, R σ x u → R σ y v → kq x y = some q → Instr.sameNow d u v = some q ∨ Instr.sameNow d u v = none
  ask : ∀ {σ : Sg} {x y : AV} {u v : Value} {q : Bool}, R σ x u → R σ y v → kq x y = some q → ∀ w, (Op.equal kt u v).run P w = .ok q w
  bits : ∀ {σ : Sg} {x y : AV} {u v : Value}, R σ x u → R σ y v → kq x y = some true → Instr.sameBits 10000 v u = true
  ck : ∀ {σ : Sg} {x y : AV} {u : Value} {q : Bool}, R σ x u → kq x y = some q → ∀ b w, (Instr.checkKey b 10000 kt u).run P w = .ok () w
  eq : ∀ {σ : Sg} {x y : AV} {u v : Value} {q : Bool}, R σ x u → R σ y v → kq x y = some q → (q = true ↔ u = v)
def FRok (σ : Sg) (u : Value) (ms : List MapEntry) (i : Nat) : FR → Option (Nat × Value) → Prop
  | .no, _ => False
  | .miss, r => r = none
  | .hit j v, r => ∃ m, i ≤ j ∧ ms[j - i]? = some m ∧ r = some (j, m.val) ∧ R σ v m.val ∧ Instr.sameBits 10000 m.key u = true
theorem find_ok {kt : TypeId} {d : TypeDesc} {kq : AV → AV → Option Bool} (hq : KQ P kt d kq) {x : AV} {u : Value} (hx : R σ x u) : ∀ {es : List (AV × AV)} {ms : List MapEntry}, EsOK σ es ms → ∀ i, find kq x es i ≠ .no →
    ∃ r, (Instr.findNow d u ms i = some r ∨ Instr.findNow d u ms i = none) ∧ (∀ w, (Instr.findAsking kt u ms i).run P w = .ok r w) ∧ FRok σ u ms i (find kq x es i) r
  | _, _, .nil, i, _ => ⟨none, .inl rfl, fun w => by simp [Instr.findAsking], rfl⟩
  | _, _, .cons e m es ms h1 h2 h3, i, hn => by
    have hn : onOpt (kq x e.1) FR.no (fun q => iff q (find kq x es (Nat.succ i)) (.hit i e.2)) ≠ .no := hn
    have hd : find kq x (e :: es) i = onOpt (kq x e.1) FR.no (fun q => iff q (find kq x es (Nat.succ i)) (.hit i e.2)) := rfl
    cases hk : kq x e.1 with
    | none => rw [hk] at hn; exact absurd rfl hn
    | some q =>
      rw [hk] at hn hd
      have ha := hq.ask hx h1 hk
      cases q with
      | true =>
        refine ⟨some (i, m.val), ?_, fun w => ?_, ?_⟩
        · rcases hq.now hx h1 hk with e1 | e1
          · exact .inl (by simp [Instr.findNow, e1])
          · exact .inr (by simp [Instr.findNow, e1])
        · rw [Instr.findAsking, Sem.run_bind, ha]
          simp
        · rw [hd]
          exact ⟨m, Nat.le_refl _, by simp, rfl, h2, hq.bits hx h1 hk⟩
      | false =>
        have hn : find kq x es (Nat.succ i) ≠ .no := hn
        obtain ⟨r, e1, e2, e3⟩ := find_ok hq hx h3 (i + 1) hn
        refine ⟨r, ?_, fun w => ?_, ?_⟩
        · rcases hq.now hx h1 hk with e4 | e4
          · rcases e1 with e1 | e1
            · exact .inl (by simp [Instr.findNow, e4, e1])
            · exact .inr (by simp [Instr.findNow, e4, e1])
          · exact .inr (by simp [Instr.findNow, e4])
        · rw [Instr.findAsking, Sem.run_bind, ha]
          simp [e2]
        · rw [hd]
          show FRok σ u (m :: ms) i (find kq x es (Nat.succ i)) r
          cases hf : find kq x es (Nat.succ i) with
          | no => exact absurd hf hn
          | miss => rw [hf] at e3; exact e3
          | hit j v =>
            rw [hf] at e3
            obtain ⟨m', h4, h5, h6, h7, h8⟩ := e3
            exact ⟨m', by omega, by rw [show j - i = (j - (i + 1)) + 1 by omega, List.getElem?_cons_succ]; exact h5, h6, h7, h8⟩
theorem find_miss {kt : TypeId} {d : TypeDesc} {kq : AV → AV → Option Bool} (hq : KQ P kt d kq) {x : AV} {u : Value} (hx : R σ x u) : ∀ {es : List (AV × AV)} {ms : List MapEntry}, EsOK σ es ms → ∀ i, find kq x es i = .miss → ∀ m ∈ ms, m.key ≠ u
  | _, _, .nil, i, _, m, hm => by cases hm
  | _, _, .cons e m0 es ms h1 h2 h3, i, hf, m, hm => by
    have hf : onOpt (kq x e.1) FR.no (fun q => iff q (find kq x es (Nat.succ i)) (.hit i e.2)) = .miss := hf
    cases hk : kq x e.1 with
    | none => rw [hk] at hf; cases hf
    | some q =>
      rw [hk] at hf
      cases q with
      | true => cases hf
      | false =>
        have hf : find kq x es (Nat.succ i) = .miss := hf
        rcases List.mem_cons.1 hm with rfl | hm
        · intro e0
          have := (hq.eq hx h1 hk).2 e0.symm
          cases this
        · exact find_miss hq hx h3 _ hf m hm
theorem find_hit {kt : TypeId} {d : TypeDesc} {kq : AV → AV → Option Bool} (hq : KQ P kt d kq) {x : AV} {u : Value} (hx : R σ x u) : ∀ {es : List (AV × AV)} {ms : List MapEntry}, EsOK σ es ms → ∀ i j v, find kq x es i = .hit j v → i ≤ j ∧ ∀ m, ms[j - i]? = some m → m.key = u
  | _, _, .nil, i, j, v, hf => by cases hf
  | _, _, .cons e m0 es ms h1 h2 h3, i, j, v, hf => by
    have hf : onOpt (kq x e.1) FR.no (fun q => iff q (find kq x es (Nat.succ i)) (.hit i e.2)) = .hit j v := hf
    cases hk : kq x e.1 with
    | none => rw [hk] at hf; cases hf
    | some q =>
      rw [hk] at hf
      cases q with
      | true =>
        have hf : FR.hit i e.2 = .hit j v := hf
        injection hf with hf _
        subst hf
        refine ⟨Nat.le_refl _, fun m hm => ?_⟩
        rw [Nat.sub_self, List.getElem?_cons_zero] at hm
        injection hm with hm
        subst hm
        exact ((hq.eq hx h1 hk).1 rfl).symm
      | false =>
        have hf : find kq x es (Nat.succ i) = .hit j v := hf
        obtain ⟨h4, h5⟩ := find_hit hq hx h3 _ _ _ hf
        have h4 : i + 1 ≤ j := h4
        refine ⟨by omega, fun m hm => ?_⟩
        rw [show j - i = (j - (i + 1)) + 1 by omega, List.getElem?_cons_succ] at hm
        exact h5 m hm
theorem findKey_ok {kt : TypeId} {d : TypeDesc} {kq : AV → AV → Option Bool} (hq : KQ P kt d kq) {x : AV} {u : Value} (hx : R σ x u) {es : List (AV × AV)} {ms : List MapEntry} (hes : EsOK σ es ms) (hn : find kq x es 0 ≠ .no) :
    ∃ r, (∀ w, (Instr.findKey kt u ms).run P w = .ok r w) ∧ FRok σ u ms 0 (find kq x es 0) r := by
  obtain ⟨r, e1, e2, e3⟩ := find_ok hq hx hes 0 hn
  refine ⟨r, fun w => ?_, e3⟩
  unfold Instr.findKey
  rw [Sem.run_bind, run_underlying hq.un]
  rcases e1 with e1 | e1
  · simp [e1]
  · simp [e1, e2]
theorem onMap_ne {v : AV} {f : Pa → Res} (h : onMap v .no .no f ≠ .no) : ∃ b, v = .map b := by
  cases v <;> first | exact ⟨_, rfl⟩ | exact absurd rfl h
theorem lookup_op {t kt el : TypeId} {d : TypeDesc} {x y : Operand} {ok : Bool} {i : TypeInfo} {z : Value} {kq : AV → AV → Option Bool} (ho : o.op = .lookup t x y ok) (hu : P.underlying t = some (.map kt el)) (hi : P.info? el = some i) (hz : i.zero = some z) (hq : KQ P kt d kq) :
    OpS P nt cf (oLookup kq (cVs z) (cO nt x) (cO nt y) ok) o := by
  obtain ⟨dst, op, ty, pos, after, guard⟩ := o
  cases ho
  intro σ N e h a w k Q next he hr hn hk
  have hx := R_cO he hr x
  have hy := R_cO he hr y
  have hn0 := hn
  unfold oLookup at hn0
  obtain ⟨q0, hq0⟩ := onOpt_ne hn0
  rw [hq0] at hn0
  have hn1 : onMap (cO nt x e) .no .no (fun b => onMapB (hget h b) .no (fun es _ => FR.rec (motive := fun _ => Res) .no (k (iff ok (cVs z) (.tup [(cVs z), .bool false])) h) (fun _ v => k (iff ok v (.tup [v, .bool true])) h) (find kq (cO nt y e) es 0))) ≠ .no := hn0
  obtain ⟨b, hb⟩ := onMap_ne hn1
  rw [hb] at hn1 hx
  obtain ⟨g, q, hg, hx⟩ := R_map hx
  have hn2 : onMapB (hget h b) .no (fun es _ => FR.rec (motive := fun _ => Res) .no (k (iff ok (cVs z) (.tup [(cVs z), .bool false])) h) (fun _ v => k (iff ok v (.tup [v, .bool true])) h) (find kq (cO nt y e) es 0)) ≠ .no := hn1
  obtain ⟨es, n, hm⟩ := onMapB_ne hn2
  rw [hm] at hn2
  have hn3 : FR.rec (motive := fun _ => Res) .no (k (iff ok (cVs z) (.tup [(cVs z), .bool false])) h) (fun _ v => k (iff ok v (.tup [v, .bool true])) h) (find kq (cO nt y e) es 0) ≠ .no := hn2
  have hblk := hr.blk b
  rw [hm] at hblk
  obtain ⟨g', q', ms, hg', hN, hms, hes, _⟩ := hblk
  rw [hg] at hg'; injection hg' with hg'; injection hg' with e1 e2; subst e1
  have hf : find kq (cO nt y e) es 0 ≠ .no := fun e0 => by rw [e0] at hn3; exact hn3 rfl
  obtain ⟨r, hr1, hr2⟩ := findKey_ok hq hy hes hf
  have hck := hq.ck hy hq0
  have hop : oLookup kq (cVs z) (cO nt x) (cO nt y) ok cf e h k = FR.rec (motive := fun _ => Res) .no (k (iff ok (cVs z) (.tup [(cVs z), .bool false])) h) (fun _ v => k (iff ok v (.tup [v, .bool true])) h) (find kq (cO nt y e) es 0) := by
    unfold oLookup
    rw [hq0]
    show onMap (cO nt x e) .no .no (fun b => onMapB (hget h b) .no (fun es _ => FR.rec (motive := fun _ => Res) .no (k (iff ok (cVs z) (.tup [(cVs z), .bool false])) h) (fun _ v => k (iff ok v (.tup [v, .bool true])) h) (find kq (cO nt y e) es 0))) = _
    rw [hb]
    show onMapB (hget h b) .no (fun es _ => FR.rec (motive := fun _ => Res) .no (k (iff ok (cVs z) (.tup [(cVs z), .bool false])) h) (fun _ v => k (iff ok v (.tup [v, .bool true])) h) (find kq (cO nt y e) es 0)) = _
    rw [hm]; rfl
  have hrun : ∀ r : Option (Nat × Value), (∀ w, (Instr.findKey kt (a.eval y) ms.toList).run P w = .ok r w) → (execOp a.eval ⟨dst, .lookup t x y ok, ty, pos, after, guard⟩).run P w = .ok (.value (if ok then .tuple #[(match r with | some (_, v) => v | none => z), .bool r.isSome] else (match r with | some (_, v) => v | none => z))) w := fun r hr1 => by
    show ((Instr.lookup t (a.eval x) (a.eval y) ok >>= fun z => pure (.value z)) : Sem Next).run P w = _
    rw [hx]
    cases r with
    | none => simp [Instr.lookup, run_underlying hu, MapKept.run_getObj_map hms, hck, hr1, zeroValue, typeInfo, hi, hz]
    | some p => simp [Instr.lookup, run_underlying hu, MapKept.run_getObj_map hms, hck, hr1]
  cases hfr : find kq (cO nt y e) es 0 with
  | no => exact absurd hfr hf
  | miss =>
    rw [hfr] at hop hr2
    have hr2 : r = none := hr2
    subst hr2
    refine OpS.of_value hk hop (Go.refl hr) ?_ (hrun _ hr1)
    cases ok with
    | false => exact R_cVs σ z
    | true => exact .tup _ [z, .bool false] (.cons _ _ _ _ (R_cVs σ z) (.cons _ _ _ _ (.bool _) .nil))
  | hit j v =>
    rw [hfr] at hop hr2
    obtain ⟨m, _, _, h3, h4, _⟩ := hr2
    subst h3
    refine OpS.of_value hk hop (Go.refl hr) ?_ (hrun _ hr1)
    cases ok with
    | false => exact h4
    | true => exact .tup _ [m.val, .bool true] (.cons _ _ _ _ h4 (.cons _ _ _ _ (.bool _) .nil))
theorem EsOK.snoc {x : AV × AV} {m : MapEntry} (h1 : R σ x.1 m.key) (h2 : R σ x.2 m.val) : ∀ {es : List (AV × AV)} {ms : List MapEntry}, EsOK σ es ms → EsOK σ (snocE es x) (ms ++ [m])
  | _, _, .nil => .cons _ _ _ _ h1 h2 .nil
  | _, _, .cons _ _ _ _ k1 k2 k3 => .cons _ _ _ _ k1 k2 (EsOK.snoc h1 h2 k3)
theorem EsOK.set {x : AV × AV} {f : MapEntry → MapEntry} (h1 : ∀ m, R σ x.1 (f m).key) (h2 : ∀ m, R σ x.2 (f m).val) : ∀ {es : List (AV × AV)} {ms : List MapEntry}, EsOK σ es ms → ∀ i, EsOK σ (setE es x i) (ms.modify i f)
  | _, _, .nil, i => by rw [List.modify_nil]; exact .nil
  | _, _, .cons e m es ms k1 k2 k3, 0 => .cons _ _ _ _ (h1 m) (h2 m) k3
  | _, _, .cons e m es ms k1 k2 k3, i + 1 => .cons _ _ _ _ k1 k2 (EsOK.set h1 h2 k3 i)
theorem mapset_op {t kt el : TypeId} {d : TypeDesc} {m x v : Operand} {kq : AV → AV → Option Bool} (ho : o.op = .mapUpdate t m x v ∨ o.op = .insert t m x v) (hu : P.underlying t = some (.map kt el)) (hq : KQ P kt d kq) :
    OpS P nt cf (oMapset kq (cO nt m) (cO nt x) (cO nt v)) o := by
  have hex : ∀ ρ, execOp ρ o = (Instr.mapUpdate t (ρ m) (ρ x) (ρ v) >>= fun _ => pure .skip) := by
    obtain ⟨dst, op, ty, pos, after, guard⟩ := o
    rcases ho with ho | ho <;> cases ho <;> exact fun _ => rfl
  intro σ N e h a w k Q next he hr hn hk
  have hm' := R_cO he hr m
  have hx := R_cO he hr x
  have hv := R_cO he hr v
  have hn0 := hn
  unfold oMapset at hn0
  obtain ⟨q0, hq0⟩ := onOpt_ne hn0
  rw [hq0] at hn0
  have hn1 : onMap (cO nt m e) .no .no (fun b => onMapB (hget h b) .no (fun es n => FR.rec (motive := fun _ => Res) .no (k undefA (hput h b (.map (snocE es (cO nt x e, cO nt v e)) (Nat.succ n)))) (fun i _ => k undefA (hput h b (.map (setE es (cO nt x e, cO nt v e) i) n))) (find kq (cO nt x e) es 0))) ≠ .no := hn0
  obtain ⟨b, hb⟩ := onMap_ne hn1
  rw [hb] at hn1 hm'
  obtain ⟨g, q, hg, hm'⟩ := R_map hm'
  have hn2 : onMapB (hget h b) .no (fun es n => FR.rec (motive := fun _ => Res) .no (k undefA (hput h b (.map (snocE es (cO nt x e, cO nt v e)) (Nat.succ n)))) (fun i _ => k undefA (hput h b (.map (setE es (cO nt x e, cO nt v e) i) n))) (find kq (cO nt x e) es 0)) ≠ .no := hn1
  obtain ⟨es, n, hmb⟩ := onMapB_ne hn2
  rw [hmb] at hn2
  have hn3 : FR.rec (motive := fun _ => Res) .no (k undefA (hput h b (.map (snocE es (cO nt x e, cO nt v e)) (Nat.succ n)))) (fun i _ => k undefA (hput h b (.map (setE es (cO nt x e, cO nt v e) i) n))) (find kq (cO nt x e) es 0) ≠ .no := hn2
  have hblk := hr.blk b
  rw [hmb] at hblk
  obtain ⟨g', q', ms, hg', hN, hms, hes, hst⟩ := hblk
  rw [hg] at hg'; injection hg' with hg'; injection hg' with e1 e2; subst e1; subst e2
  have hf : find kq (cO nt x e) es 0 ≠ .no := fun e0 => by rw [e0] at hn3; exact hn3 rfl
  obtain ⟨r, hr1, hr2⟩ := findKey_ok hq hx hes hf
  have hck := hq.ck hx hq0
  have hop : oMapset kq (cO nt m) (cO nt x) (cO nt v) cf e h k = FR.rec (motive := fun _ => Res) .no (k undefA (hput h b (.map (snocE es (cO nt x e, cO nt v e)) (Nat.succ n)))) (fun i _ => k undefA (hput h b (.map (setE es (cO nt x e, cO nt v e) i) n))) (find kq (cO nt x e) es 0) := by
    unfold oMapset
    rw [hq0]
    show onMap (cO nt m e) .no .no (fun b => onMapB (hget h b) .no (fun es n => FR.rec (motive := fun _ => Res) .no (k undefA (hput h b (.map (snocE es (cO nt x e, cO nt v e)) (Nat.succ n)))) (fun i _ => k undefA (hput h b (.map (setE es (cO nt x e, cO nt v e) i) n))) (find kq (cO nt x e) es 0))) = _
    rw [hb]
    show onMapB (hget h b) .no (fun es n => FR.rec (motive := fun _ => Res) .no (k undefA (hput h b (.map (snocE es (cO nt x e, cO nt v e)) (Nat.succ n)))) (fun i _ => k undefA (hput h b (.map (setE es (cO nt x e, cO nt v e) i) n))) (find kq (cO nt x e) es 0)) = _
    rw [hmb]; rfl
  have hgo : ∀ (x' : Blk) (O : Obj), ownB x' = true → BlkOK σ N { w with heap := w.heap.setIfInBounds g O } b x' → Go σ N h w σ (hput h b x') { w with heap := w.heap.setIfInBounds g O } := fun x' O ho hok =>
    hr.put hg ho (by rw [hmb]; rfl) rfl rfl rfl (by simp) (fun k' hk' => (MapKept.heap_set hms).2 k' hk') hok
  cases hfr : find kq (cO nt x e) es 0 with
  | no => exact absurd hfr hf
  | miss =>
    rw [hfr] at hop hr2
    have hr2 : r = none := hr2
    subst hr2
    refine OpS.of_skip hk hop (hgo _ (.map (ms.push { key := a.eval x, val := a.eval v, born := n }) (n + 1)) rfl ⟨g, q, _, hg, hN, (MapKept.heap_set hms).1, ?_, MapKept.stamped_push hst (find_miss hq hx hes 0 hfr)⟩) (.tup [] [] .nil) ?_
    · rw [Array.toList_push]
      exact hes.snoc hx hv
    · rw [hex, hm']
      simp [Instr.mapUpdate, run_underlying hu, MapKept.run_getObj_map hms, hck, hr1, MapKept.run_setObj_map _ hms]
  | hit j v' =>
    rw [hfr] at hop hr2
    obtain ⟨m0, _, h2, h3, h4, h5⟩ := hr2
    subst h3
    rw [Nat.sub_zero, Array.getElem?_toList] at h2
    refine OpS.of_skip hk hop (hgo _ (.map (ms.modify j fun e => { e with key := a.eval x, val := a.eval v }) n) rfl ⟨g, q, _, hg, hN, (MapKept.heap_set hms).1, ?_, MapKept.stamped_modify hst j _ (fun _ _ => rfl) (fun e0 _ he0 => ?_)⟩) (.tup [] [] .nil) ?_
    · rw [Array.toList_modify]
      exact hes.set (f := fun e => { e with key := a.eval x, val := a.eval v }) (x := (cO nt x e, cO nt v e)) (fun _ => hx) (fun _ => hv) j
    · exact ((find_hit hq hx hes 0 j v' hfr).2 e0 (by rw [Nat.sub_zero, Array.getElem?_toList]; exact he0)).symm
    · rw [hex, hm']
      simp [Instr.mapUpdate, run_underlying hu, MapKept.run_getObj_map hms, hck, hr1, h2, Instr.keyThatStays, h5, MapKept.run_setObj_map _ hms]
end
end Ev
end Go.Proofs.YtlgpacpebjechaaGreatDoor
/-
  The evaluator's operations, one by one: keys of maps, calls, what is put off.
-/
namespace Go.Proofs.YtlgpacpebjechaaGreatDoor
open Go.RowKit Go.Deep
namespace Ev
section
variable {P : Program} {nt : Nat} {cf : CF} {o : Oper} {σ : Sg}
theorem keqI_some {x y : AV} {q : Bool} (h : keqI x y = some q) : ∃ j a b, x = .int j a ∧ y = .int j b ∧ q = (a == b) := by
  unfold keqI at h
  obtain ⟨j, a, rfl⟩ : ∃ j a, x = .int j a := by
    cases x <;> first
      | exact ⟨_, _, rfl⟩
      | (cases h; done)
  have h : onInt y none (fun k b => iff (kbeq j k) none (some (ibeq a b))) = some q := h
  obtain ⟨j', b, rfl⟩ : ∃ j a, y = .int j a := by
    cases y <;> first
      | exact ⟨_, _, rfl⟩
      | (cases h; done)
  have h : iff (kbeq j j') none (some (ibeq a b)) = some q := h
  cases hk : kbeq j j' with
  | false => rw [hk] at h; cases h
  | true =>
    rw [hk] at h
    have h : some (ibeq a b) = some q := h
    injection h with h
    rw [ibeq_eq] at h
    refine ⟨j, a, b, rfl, by rw [kbeq_eq hk], ?_⟩
    rw [← h]
    by_cases e6 : a = b <;> simp [e6]
theorem keqS_some {x y : AV} {q : Bool} (h : keqS x y = some q) : ∃ l m, x = .str l ∧ y = .str m ∧ q = lbeq l m := by
  unfold keqS at h
  obtain ⟨l, rfl⟩ : ∃ l, x = .str l := by
    cases x <;> first
      | exact ⟨_, rfl⟩
      | (cases h; done)
  have h : onStr y none (fun m => some (lbeq l m)) = some q := h
  obtain ⟨m, rfl⟩ : ∃ l, y = .str l := by
    cases y <;> first
      | exact ⟨_, rfl⟩
      | (cases h; done)
  have h : some (lbeq l m) = some q := h
  injection h with h
  exact ⟨l, m, rfl, rfl, h.symm⟩
theorem lbeq_bs {l m : List Nat} (h1 : ∀ x ∈ l, x < 256) (h2 : ∀ x ∈ m, x < 256) : (bs l == bs m) = lbeq l m := by
  rw [lbeq_eq]
  by_cases e : l = m
  · subst e
    rw [(MapKept.bytes_beq _ _).2 rfl]; simp
  · rw [decide_eq_false e]
    cases hb : bs l == bs m with
    | false => rfl
    | true => exact absurd (bs_inj h1 h2 ((MapKept.bytes_beq _ _).1 hb)) e
theorem beqL_left : ∀ {l m : List AV} {vs : List Value}, Rs σ l vs → ∀ {q : Bool}, beqL l m = some q → ∃ ps, vs = lefts ps ∧ ps.length = l.length
  | [], [], _, .nil, q, h => ⟨[], rfl, rfl⟩
  | [], _ :: _, _, .nil, q, h => by cases h
  | _ :: _, [], _, .cons _ _ _ _ _ _, q, h => by cases h
  | x :: l, y :: m, _, .cons _ v _ vs h1 h2, q, h => by
    have h : onInt x none (fun j a => onInt y none (fun k b => iff (kbeq j k) none (onOpt (beqL l m) none (fun q => some (iff (ibeq a b) false q))))) = some q := h
    obtain ⟨j, a, rfl⟩ : ∃ j a, x = .int j a := by
      cases x <;> first
        | exact ⟨_, _, rfl⟩
        | (cases h; done)
    have h : onInt y none (fun k b => iff (kbeq j k) none (onOpt (beqL l m) none (fun q => some (iff (ibeq a b) false q)))) = some q := h
    obtain ⟨j', b, rfl⟩ : ∃ j a, y = .int j a := by
      cases y <;> first
        | exact ⟨_, _, rfl⟩
        | (cases h; done)
    have h : iff (kbeq j j') none (onOpt (beqL l m) none (fun q => some (iff (ibeq a b) false q))) = some q := h
    cases hk : kbeq j j' with
    | false => rw [hk] at h; cases h
    | true =>
      rw [hk] at h
      have h : onOpt (beqL l m) none (fun q => some (iff (ibeq a b) false q)) = some q := h
      cases hl : beqL l m with
      | none => rw [hl] at h; cases h
      | some r =>
        obtain ⟨ps, e2, e5⟩ := beqL_left h2 hl
        refine ⟨(j, a, b) :: ps, ?_, by simp [e5]⟩
        rw [R_int h1, e2]; rfl
theorem keqL_left {n : Nat} {l m : List AV} {u : Value} (hx : R σ (.agg l) u) {q : Bool} (h : keqL n (.agg l) (.agg m) = some q) : ∃ ps, u = .agg (lefts ps).toArray ∧ ps.length = n := by
  have h : iff (Nat.beq (lenA l) n) none (beqL l m) = some q := h
  cases hb : Nat.beq (lenA l) n with
  | false => rw [hb] at h; cases h
  | true =>
    rw [hb] at h
    rw [beqN, lenA_eq, decide_eq_true_eq] at hb
    obtain ⟨vs, hvs, rfl⟩ := R_agg hx
    obtain ⟨ps, rfl, h4⟩ := beqL_left hvs h
    exact ⟨ps, rfl, h4.trans hb⟩
theorem kq_int {kt : TypeId} {j : IntKind} (hu : P.underlying kt = some (.int j)) : KQ P kt (.int j) keqI := by
  refine ⟨hu, fun {σ x y u v q} hx hy h => ?_, fun {σ x y u v q} hx hy h w => ?_, fun {σ x y u v} hx hy h => ?_, fun {σ x y u q} hx h b w => ?_, fun {σ x y u v q} hx hy h => ?_⟩
  · obtain ⟨i, a, b, rfl, rfl, rfl⟩ := keqI_some h
    rw [R_int hx, R_int hy]
    exact .inl (by simp [Instr.sameNow])
  · obtain ⟨i, a, b, rfl, rfl, rfl⟩ := keqI_some h
    rw [R_int hx, R_int hy]
    exact run_equalIn_int w 9999 kt i j a b hu
  · obtain ⟨i, a, b, rfl, rfl, h1⟩ := keqI_some h
    rw [R_int hx, R_int hy]
    have : a = b := by simpa using h1.symm
    subst this
    simp [Instr.sameBits]
  · rw [Instr.checkKey, Sem.run_bind, run_underlying hu]
    rfl
  · obtain ⟨i, a, b, rfl, rfl, rfl⟩ := keqI_some h
    rw [R_int hx, R_int hy]
    simp
theorem kq_str {kt : TypeId} (hu : P.underlying kt = some .string) : KQ P kt .string keqS := by
  refine ⟨hu, fun {σ x y u v q} hx hy h => ?_, fun {σ x y u v q} hx hy h w => ?_, fun {σ x y u v} hx hy h => ?_, fun {σ x y u q} hx h b w => ?_, fun {σ x y u v q} hx hy h => ?_⟩
  · obtain ⟨l, m, rfl, rfl, rfl⟩ := keqS_some h
    obtain ⟨h1, h2⟩ := R_str hx
    obtain ⟨h3, h4⟩ := R_str hy
    rw [h1, h3]
    refine .inl ?_
    show some (bs l == bs m) = some (lbeq l m)
    rw [lbeq_bs h2 h4]
  · obtain ⟨l, m, rfl, rfl, rfl⟩ := keqS_some h
    obtain ⟨h1, h2⟩ := R_str hx
    obtain ⟨h3, h4⟩ := R_str hy
    rw [h1, h3, ← lbeq_bs h2 h4]
    show (Op.equalIn (9999 + 1) kt _ _).run P w = _
    rw [run_equalIn_string w 9999 kt _ _ hu, ← beq_toListBytes]
  · obtain ⟨l, m, rfl, rfl, h0⟩ := keqS_some h
    obtain ⟨h1, h2⟩ := R_str hx
    obtain ⟨h3, h4⟩ := R_str hy
    rw [h1, h3]
    rw [← lbeq_bs h2 h4] at h0
    have e : bs l = bs m := (MapKept.bytes_beq _ _).1 h0.symm
    show (bs m == bs l) = true
    exact (MapKept.bytes_beq _ _).2 e.symm
  · rw [Instr.checkKey, Sem.run_bind, run_underlying hu]
    rfl
  · obtain ⟨l, m, rfl, rfl, h0⟩ := keqS_some h
    obtain ⟨h1, h2⟩ := R_str hx
    obtain ⟨h3, h4⟩ := R_str hy
    rw [h1, h3, h0, ← lbeq_bs h2 h4, Value.string.injEq]
    exact MapKept.bytes_beq _ _
theorem allEq_iff : ∀ ps : List (IntKind × Int × Int), allEq ps = true ↔ lefts ps = rights ps
  | [] => by simp [allEq, lefts, rights]
  | (j, a, b) :: ps => by
    have ih := allEq_iff ps
    have e1 : allEq ((j, a, b) :: ps) = ((a == b) && allEq ps) := rfl
    have e2 : lefts ((j, a, b) :: ps) = .int j a :: lefts ps := rfl
    have e3 : rights ((j, a, b) :: ps) = .int j b :: rights ps := rfl
    rw [e1, e2, e3, Bool.and_eq_true, ih]
    simp
theorem sameBits_rows (n : Nat) : ∀ (ps : List (IntKind × Int × Int)), allEq ps = true → ((rights ps).zip (lefts ps)).all (fun p => Instr.sameBits n p.1 p.2) = true
  | [], _ => rfl
  | (j, a, b) :: ps, h => by
    have h : ((a == b) && allEq ps) = true := h
    rw [Bool.and_eq_true, beq_iff_eq] at h
    obtain ⟨e1, h7⟩ := h
    subst e1
    show (Instr.sameBits n (.int j a) (.int j a) && ((rights ps).zip (lefts ps)).all (fun p => Instr.sameBits n p.1 p.2)) = true
    rw [sameBits_rows n ps h7]
    cases n <;> simp [Instr.sameBits]
theorem kq_flat {kt : TypeId} {fs : Array Field} (hu : P.underlying kt = some (.struct fs)) {n : Nat} (hf : FlatK P kt n) : KQ P kt (.struct fs) (keqL n) := by
  refine ⟨hu, fun {σ x y u v q} hx hy h => .inr ?_, fun {σ x y u v q} hx hy h w => ?_, fun {σ x y u v} hx hy h => ?_, fun {σ x y u q} hx h b w => ?_, fun {σ x y u v q} hx hy h => ?_⟩
  · obtain ⟨ps, rfl, rfl, rfl, h4⟩ := keqL_spec hx hy h
    rfl
  · obtain ⟨ps, rfl, rfl, rfl, h4⟩ := keqL_spec hx hy h
    exact hf.fl.eq ps h4 w
  · obtain ⟨ps, rfl, rfl, h3, h4⟩ := keqL_spec hx hy h
    have hz := sameBits_rows 9999 ps h3.symm
    show Instr.sameBits (9999 + 1) _ _ = true
    rw [Instr.sameBits, Bool.and_eq_true]
    refine ⟨by simp, ?_⟩
    simpa using hz
  · obtain ⟨l, m, rfl⟩ : ∃ l : List AV, ∃ m : Unit, x = .agg l := by
      cases x <;> first
        | exact ⟨_, (), rfl⟩
        | (cases h; done)
    obtain ⟨l', m', rfl⟩ : ∃ l : List AV, ∃ m : Unit, y = .agg l := by
      cases y <;> first
        | exact ⟨_, (), rfl⟩
        | (cases h; done)
    obtain ⟨ps, rfl, hl⟩ := keqL_left hx h
    exact hf.ck b ps hl w
  · obtain ⟨ps, rfl, rfl, rfl, h4⟩ := keqL_spec hx hy h
    rw [allEq_iff]
    simp
/-! calls -/
def CFOK (P : Program) (cf : CF) : Prop :=
  ∀ (f : FuncId) (args : List AV) (h : Hp) (k : K), cf f args h k ≠ .no → (∃ fn c, P.funcs[f]? = some fn ∧ (fn.name == "runtime.NumGoroutine") = false ∧ fn.body = some c) ∧
    ∀ (σ : Sg) (N : Nat) (vs : List Value) (w : World), HR σ N h w → Rs σ args vs → Calls P f vs.toArray w (fun e w' => ∃ v h' σ' u, cf f args h k = k v h' ∧ Go σ N h w σ' h' w' ∧ R σ' v u ∧ e = .returned u)
theorem run_callFunc_in {f : FuncId} {fn : Func} {c : Code} (hf : P.funcs[f]? = some fn) (hname : (fn.name == "runtime.NumGoroutine") = false) (hb : fn.body = some c) (args : Array Value) (w : World) : (callFunc f args).run P w = .ok (.enter f args) w := by
  have h1 : fn.name ≠ "runtime.NumGoroutine" := by simpa using hname
  simp [callFunc, hf, h1, hb]
theorem call_common {f : FuncId} {args : List AV} {vs : List Value} {op : AOp} {e : EN} {h : Hp} {a : Act} {w : World} {k : K} {Q : Exit → Act → World → Prop} {next : Act → World → Prop} {N : Nat} (hcf : CFOK P cf) (hr : HR σ N h w) (hop : op cf e h k = cf f args h k) (hn : op cf e h k ≠ .no) (hR : Rs σ args vs)
    (hk : ∀ v h' σ' u w' ds, op cf e h k = k v h' → Go σ N h w σ' h' w' → R σ' v u → (ds = a.defers ∨ ∃ ws : Array Value, ws.size = 3 ∧ ds = inert ws :: a.defers) → next (({ a with defers := ds } : Act).put o.dst u) w')
    (hrun : execOp a.eval o = callFunc f vs.toArray) : o.wp P a w next Q := by
  rw [hop] at hn hk
  obtain ⟨⟨fn, c, h1, h2, h3⟩, h4⟩ := hcf f args h k hn
  unfold Oper.wp
  rw [hrun, run_callFunc_in h1 h2 h3, Oper.upon_enter]
  refine (h4 σ N vs w hr hR).mono ?_
  rintro e w' ⟨v, h', σ', u, e1, e2, e3, rfl⟩
  exact hk v h' σ' u w' a.defers e1 e2 e3 (.inl rfl)
theorem callF_op {q : Call} {f : FuncId} (hcf : CFOK P cf) (ho : o.op = .call q) (hq : q.callee = .value (.func f)) : OpS P nt cf (oCallF f (q.args.toList.map (cO nt))) o := by
  obtain ⟨dst, op, ty, pos, after, guard⟩ := o
  cases ho
  obtain ⟨callee, args, tys⟩ := q
  cases hq
  intro σ N e h a w k Q next he hr hn hk
  refine call_common hcf hr rfl hn (Rs_cO he hr args.toList) hk ?_
  show (resolve a.eval _ ty >>= fun d => invoke d.target d.args) = _
  have e0 : args.map a.eval = (args.toList.map a.eval).toArray := by apply Array.ext'; simp
  rw [← e0]
  simp [resolve, Deferred.ofValue, invoke, Act.eval]
theorem call_op {q : Call} {x : Operand} (hcf : CFOK P cf) (ho : o.op = .call q) (hq : q.callee = .value x) : OpS P nt cf (oCall (cO nt x) (q.args.toList.map (cO nt))) o := by
  obtain ⟨dst, op, ty, pos, after, guard⟩ := o
  cases ho
  obtain ⟨callee, args, tys⟩ := q
  cases hq
  intro σ N e h a w k Q next he hr hn hk
  have hx := R_cO he hr x
  have hn0 := hn
  unfold oCall at hn0
  obtain ⟨g, fa, fc, hf⟩ := onFn_ne hn0
  rw [hf] at hx
  obtain ⟨vs, ws, h1, h2, hx⟩ := R_fn hx
  refine call_common (f := g) (args := app fa (app (evs (args.toList.map (cO nt)) e) fc)) (vs := vs ++ ((args.toList.map a.eval) ++ ws)) hcf hr (by unfold oCall; rw [hf]; rfl) hn ?_ hk ?_
  · rw [app_eq, app_eq]
    exact h1.append ((Rs_cO he hr args.toList).append h2)
  · show (resolve a.eval _ ty >>= fun d => invoke d.target d.args) = _
    have e0 : (vs ++ ((args.toList.map a.eval) ++ ws)).toArray = vs.toArray ++ (args.map a.eval ++ ws.toArray) := by apply Array.ext'; simp
    rw [e0]
    simp [resolve, Deferred.ofValue, invoke, hx, Array.append_assoc]
theorem defer_op {q : Call} {x : Operand} (ho : o.op = .defer q) (hq : q.callee = .value x) (ha : q.args.toList = []) : OpS P nt cf (oDefer (cO nt x)) o := by
  obtain ⟨dst, op, ty, pos, after, guard⟩ := o
  cases ho
  obtain ⟨callee, args, tys⟩ := q
  cases hq
  have ha : args = #[] := by apply Array.ext'; simpa using ha
  subst ha
  intro σ N e h a w k Q next he hr hn hk
  have hx := R_cO he hr x
  have hn0 := hn
  unfold oDefer at hn0
  obtain ⟨g, fa, fc, hf⟩ := onFn_ne hn0
  rw [hf] at hx hn0
  obtain ⟨vs, ws, h1, h2, hx⟩ := R_fn hx
  have hn1 : iff (iff (Nat.beq g 18) false (iff (Nat.beq (lenA fa) 0) false (Nat.beq (lenA fc) 3))) .no (k undefA h) ≠ .no := hn0
  have hc := iff_ne hn1
  have hop : oDefer (cO nt x) cf e h k = k undefA h := by
    unfold oDefer
    rw [hf]
    show iff (iff (Nat.beq g 18) false (iff (Nat.beq (lenA fa) 0) false (Nat.beq (lenA fc) 3))) .no (k undefA h) = _
    rw [hc]; rfl
  rw [iff_and, iff_and, Bool.and_eq_true, Bool.and_eq_true, beqN, beqN, beqN, decide_eq_true_eq, decide_eq_true_eq, decide_eq_true_eq, lenA_eq, lenA_eq] at hc
  obtain ⟨rfl, h3, h4⟩ := hc
  have hvs : vs = [] := List.eq_nil_of_length_eq_zero (by rw [h1.len, h3])
  subst hvs
  have hrun : (execOp a.eval (⟨dst, .defer ⟨.value x, #[], tys⟩, ty, pos, after, guard⟩ : Oper)).run P w = .ok (.defer (inert ws.toArray)) w := by
    show ((resolve a.eval _ ty >>= fun d => pure (.defer d)) : Sem Next).run P w = _
    simp [resolve, Deferred.ofValue, hx, inert]
  unfold Oper.wp
  rw [hrun, Oper.upon_defer]
  exact hk undefA h σ undef w (inert ws.toArray :: a.defers) hop (Go.refl hr) (.tup [] [] .nil) (.inr ⟨ws.toArray, by rw [List.size_toArray, h2.len, h4], rfl⟩)
end
end Ev
end Go.Proofs.YtlgpacpebjechaaGreatDoor
