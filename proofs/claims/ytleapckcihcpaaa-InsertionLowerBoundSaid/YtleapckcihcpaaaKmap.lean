/-
  A map keyed by numbers of which nothing is asked but that it is one: stores, entries, deletions succeed and leave a map.
-/
import Derived.Test.YtleapckcihcpaaaK5
import Derived.Maps.OwnSet
import Derived.MapKept
import Derived.WideKeyEntry
namespace Go.Proofs.Ytleapckcihcpaaa
open Go.RowKit Go.Deep PK
open Go.ChangeMaps (setBlock heap_setBlock_same heap_setBlock_other)
open Go.MapKept
open Go.Maps (Keyed)
def MP (P : Program) (k : TypeId) (w : World) (b : Nat) : Prop := ∃ es clock, w.heap[b]? = some (.map es clock) ∧ Stamped es clock ∧ ∀ x ∈ es.toList, ∃ l, keyOf P k x.key = some l
section
variable {P : Program} {k t e : TypeId} {w w' : World} {b : Nat}
theorem MP.lt (h : MP P k w b) : b < w.heap.size := by
  obtain ⟨es, clock, hb, _⟩ := h
  exact (Array.getElem?_eq_some_iff.1 hb).1
theorem MP.of_block (h : MP P k w b) (e : w'.heap[b]? = w.heap[b]?) : MP P k w' b := by
  obtain ⟨es, clock, hb, r⟩ := h
  exact ⟨es, clock, e.trans hb, r⟩
theorem MP.fut (h : MP P k w b) (hf : Fut w w') : MP P k w' b := h.of_block (hf.block b h.lt)
theorem MP.setCell (h : MP P k w b) {a : Addr} (ha : b ≠ a.block) (u : Value) : MP P k (w.setCell a u) b := h.of_block (Go.RowKit.Below.heap_setCell w a u b ha)
theorem MP.made (w : World) (P : Program) (k : TypeId) : MP P k (w.alloc (.map #[] 0)) w.heap.size := ⟨#[], 0, (MapKept.heap_alloc w _).1, stamped_empty 0, by simp⟩
/-- m[k] = v -/
theorem MP.store (h : MP P k w b) (K : Keyed P k) (ht : P.underlying t = some (.map k e)) {key val : Value} {kl : Lit} (hkey : keyOf P k key = some kl) :
    ∃ w', (Instr.mapUpdate t (.map (some b)) key val).run P w = .ok () w' ∧ MP P k w' b ∧ w.mapTurned w' b := by
  obtain ⟨es, clock, hb, hs, hk⟩ := h
  rcases K.find w hkey es.toList hk with ⟨h1, h2⟩ | ⟨j, e0, h1, h2, h3⟩
  · refine ⟨setBlock w b (.map (es.push ⟨key, val, clock⟩) (clock + 1)), ?_, ⟨_, _, heap_setBlock_same hb _, stamped_push hs h2, ?_⟩, ⟨es, clock, _, _, hb, rfl⟩⟩
    · simp [Instr.mapUpdate, run_underlying ht, MapKept.run_getObj_map hb, K.check w false hkey, h1, MapKept.run_setObj_map _ hb, Result.andThen, setBlock]
    · intro x hx
      simp only [Array.toList_push, List.mem_append, List.mem_singleton] at hx
      rcases hx with hx | rfl
      · exact hk x hx
      · exact ⟨_, hkey⟩
  · have hj : es[j]? = some e0 := by simpa using h2
    refine ⟨setBlock w b (.map (es.modify j (fun e' => { e' with key := key, val := val })) clock), ?_, ⟨_, _, heap_setBlock_same hb _, stamped_modify hs j _ (fun _ _ => rfl) (fun x _ hx => ?_), ?_⟩, ⟨es, clock, _, _, hb, rfl⟩⟩
    · simp [Instr.mapUpdate, run_underlying ht, MapKept.run_getObj_map hb, K.check w false hkey, h1, hj, h3, K.stays w hkey, MapKept.run_setObj_map _ hb, Result.andThen, setBlock]
    · rw [hj] at hx
      obtain rfl := Option.some.inj hx
      exact h3.symm
    · intro x hx
      rw [Array.toList_modify, ChangeMaps.modify_eq_set _ _ _ _ h2] at hx
      rcases List.mem_or_eq_of_mem_set hx with hx | rfl
      · exact hk x hx
      · exact ⟨_, hkey⟩
/-- delete -/
theorem MP.drop (h : MP P k w b) (K : Keyed P k) (ht : P.underlying t = some (.map k e)) {key : Value} {kl : Lit} (hkey : keyOf P k key = some kl) (ty : TypeId) :
    ∃ w', (Builtin.delete_ #[t, k] ty #[.map (some b), key]).run P w = .ok (.tuple #[]) w' ∧ MP P k w' b ∧ w.mapTurned w' b := by
  obtain ⟨es, clock, hb, hs, hk⟩ := h
  rcases K.find w hkey es.toList hk with ⟨h1, h2⟩ | ⟨j, e0, h1, h2, h3⟩
  · refine ⟨setBlock w b (.map es clock), ?_, ⟨_, _, heap_setBlock_same hb _, hs, hk⟩, ⟨es, clock, _, _, hb, rfl⟩⟩
    simp [Builtin.delete_, run_underlying ht, MapKept.run_getObj_map hb, K.check w _ hkey, h1, MapKept.run_setObj_map _ hb, Result.andThen, setBlock]
  · have hjs : j < es.size := by have := (List.getElem?_eq_some_iff.1 h2).1; simpa using this
    have hsub : (es.eraseIdxIfInBounds j).toList = es.toList.eraseIdx j := by
      unfold Array.eraseIdxIfInBounds
      rw [dif_pos hjs]
      simp
    refine ⟨setBlock w b (.map (es.eraseIdxIfInBounds j) clock), ?_, ⟨_, _, heap_setBlock_same hb _, stamped_erase hs j, ?_⟩, ⟨es, clock, _, _, hb, rfl⟩⟩
    · simp [Builtin.delete_, run_underlying ht, MapKept.run_getObj_map hb, K.check w _ hkey, h1, MapKept.run_setObj_map _ hb, Result.andThen, setBlock]
    · intro x hx
      rw [hsub] at hx
      exact hk x ((List.eraseIdx_sublist _ _).subset hx)
/-- an entry is come by, and a store into it then succeeds -/
theorem MP.entry (h : MP P k w b) (K : Keyed P k) (ht : P.underlying t = some (.map k e)) {z : Value} (hz : ∀ u : World, (zeroValue e).run P u = .ok z u) {key : Value} {kl : Lit} (hkey : keyOf P k key = some kl) :
    ∃ (v0 : Value) (st : Nat) (w1 : World), (Instr.mapEntry t (.map (some b)) key).run P w = .ok (.tuple #[v0, goInt st]) w1 ∧ MP P k w1 b ∧ w.mapTurned w1 b ∧
      ∀ (w2 : World) (val : Value), w2.heap[b]? = w1.heap[b]? → ∃ w3, (Instr.entryStore t (.map (some b)) (goInt st) val).run P w2 = .ok () w3 ∧ MP P k w3 b ∧ w2.mapTurned w3 b := by
  obtain ⟨es, clock, hb, hs, hk⟩ := h
  have key2 : ∀ (es1 : Array MapEntry) (clock1 : Nat) (j : Nat) (e0 : MapEntry), Stamped es1 clock1 → (∀ x ∈ es1.toList, ∃ l, keyOf P k x.key = some l) → es1.toList[j]? = some e0 →
      ∀ (w2 : World) (val : Value), w2.heap[b]? = some (.map es1 clock1) → ∃ w3, (Instr.entryStore t (.map (some b)) (goInt e0.born) val).run P w2 = .ok () w3 ∧ MP P k w3 b ∧ w2.mapTurned w3 b := by
    intro es1 clock1 j e0 hs1 hk1 hj w2 val hw2
    have hidx : es1.findIdx? (fun e => ((e.born : Nat) : Int) == ((e0.born : Nat) : Int)) = some j := by
      rw [WideElems.findIdx_arr]
      exact WideElems.findIdx_born hs1.2.1 hj
    refine ⟨setBlock w2 b (.map (es1.modify j (fun e => { e with val := val })) clock1), ?_, ⟨_, _, heap_setBlock_same hw2 _, stamped_modify hs1 j _ (fun _ _ => rfl) (fun _ _ _ => rfl), ?_⟩, ⟨es1, clock1, _, _, hw2, rfl⟩⟩
    · simp [Instr.entryStore, MapKept.run_getObj_map hw2, asInt, asIntOf, goInt, hidx, MapKept.run_setObj_map _ hw2, Result.andThen, setBlock]
    · intro x hx
      rw [Array.toList_modify, ChangeMaps.modify_eq_set _ _ _ _ hj] at hx
      rcases List.mem_or_eq_of_mem_set hx with hx | rfl
      · exact hk1 x hx
      · exact hk1 e0 (List.mem_of_getElem? hj)
  rcases K.find w hkey es.toList hk with ⟨h1, h2⟩ | ⟨j, e0, h1, h2, h3⟩
  · have hs1 := stamped_push hs h2 (val := z)
    have hk1 : ∀ x ∈ (es.push ⟨key, z, clock⟩).toList, ∃ l, keyOf P k x.key = some l := by
      intro x hx
      simp only [Array.toList_push, List.mem_append, List.mem_singleton] at hx
      rcases hx with hx | rfl
      · exact hk x hx
      · exact ⟨_, hkey⟩
    refine ⟨z, clock, setBlock w b (.map (es.push ⟨key, z, clock⟩) (clock + 1)), ?_, ⟨_, _, heap_setBlock_same hb _, hs1, hk1⟩, ⟨es, clock, _, _, hb, rfl⟩, fun w2 val hw2 => ?_⟩
    · simp [Instr.mapEntry, run_underlying ht, MapKept.run_getObj_map hb, K.check w false hkey, h1, hz, MapKept.run_setObj_map _ hb, Result.andThen, setBlock]
    · exact key2 (es.push ⟨key, z, clock⟩) (clock + 1) es.size ⟨key, z, clock⟩ hs1 hk1 (by simp) w2 val (hw2.trans (heap_setBlock_same hb _))
  · have hj : es[j]? = some e0 := by simpa using h2
    have hsame : es.modify j (fun e => { e with key := key }) = es := by
      apply Array.ext'
      rw [Array.toList_modify, ChangeMaps.modify_eq_set _ _ _ _ h2]
      have : ({ e0 with key := key } : MapEntry) = e0 := by rw [← h3]
      rw [this]
      exact WideElems.set_self _ _ _ h2
    refine ⟨e0.val, e0.born, setBlock w b (.map es clock), ?_, ⟨_, _, heap_setBlock_same hb _, hs, hk⟩, ⟨es, clock, _, _, hb, rfl⟩, fun w2 val hw2 => ?_⟩
    · simp [Instr.mapEntry, run_underlying ht, MapKept.run_getObj_map hb, K.check w false hkey, h1, hj, h3, K.stays w hkey, hsame, MapKept.run_setObj_map _ hb, Result.andThen, setBlock]
    · exact key2 es clock j e0 hs hk h2 w2 val (hw2.trans (heap_setBlock_same hb _))
end
/-! ### at the operation -/
abbrev MPi (w : World) (b : Nat) : Prop := MP Try.prog 3 w b
theorem klaw : Keyed Try.prog 3 := Maps.int_keyed Try.underlying3
theorem kzero (w : World) : (zeroValue 3).run Try.prog w = .ok (.int .i64 0) w := by kernel_rfl
theorem keyI {a : Int} (h0 : 0 ≤ a) (h1 : a ≤ 1000000000000) : keyOf Try.prog 3 (.int .i64 a) = some (.int .i64 a) :=
  Maps.keyOf_int_mk Try.underlying3 (by simp [Lit.wf, IntKind.min, IntKind.max, IntKind.signed, IntKind.bits]; omega)
section
variable {w : World} {o : Oper} {a : Act} {K : Act → World → Prop} {Q : Exit → Act → World → Prop} {b : Nat}
theorem wp_mput (m x v : Operand) (ho : o.op = .mapUpdate 94 m x v) (hm : a.eval m = .map (some b)) (hM : MPi w b) (key : Int) (hx : a.eval x = .int .i64 key) (h0 : 0 ≤ key) (h1 : key ≤ 1000000000000)
    (h : ∀ w', MPi w' b → w.grownBy w' (some b) → K (a.put o.dst undef) w') : o.wp Try.prog a w K Q := by
  obtain ⟨w', hrun, r1, r2⟩ := hM.store klaw Try.underlying94 (val := a.eval v) (keyI h0 h1)
  unfold Oper.wp
  simp [execOp, ho, hm, hx, hrun, Result.andThen]
  exact h w' r1 r2.grown
theorem wpList_mput {ops : Array Oper} {rest : List Oper} (hg : o.guard = none) (m x v : Operand) (ho : o.op = .mapUpdate 94 m x v) (hm : a.eval m = .map (some b)) (hM : MPi w b) (key : Int) (hx : a.eval x = .int .i64 key) (h0 : 0 ≤ key) (h1 : key ≤ 1000000000000)
    (h : ∀ w', MPi w' b → w.grownBy w' (some b) → wpList Try.prog ops Q rest (a.put o.dst undef) w') : wpList Try.prog ops Q (o :: rest) a w :=
  wpList_plain hg fun _ hK => wp_mput m x v ho hm hM key hx h0 h1 fun w' h2 h3 => hK _ _ (h w' h2 h3)
theorem wp_mdel (m x : Operand) (ho : o.op = .call { callee := .builtin .delete, args := #[m, x], argTypes := #[94, 3] }) (hm : a.eval m = .map (some b)) (hM : MPi w b) (key : Int) (hx : a.eval x = .int .i64 key) (h0 : 0 ≤ key) (h1 : key ≤ 1000000000000)
    (h : ∀ w', MPi w' b → w.grownBy w' (some b) → K (a.put o.dst (.tuple #[])) w') : o.wp Try.prog a w K Q := by
  obtain ⟨w', hrun, r1, r2⟩ := hM.drop klaw Try.underlying94 (keyI h0 h1) o.type
  unfold Oper.wp
  simp [execOp, ho, resolve, invoke, builtin, hm, hx, hrun, Result.andThen]
  exact h w' r1 r2.grown
/-- the entry, then the store: what the store asks is told as ES -/
def ES (w1 : World) (b st : Nat) : Prop := ∀ (w2 : World) (val : Value), w2.heap[b]? = w1.heap[b]? → ∃ w3, (Instr.entryStore 94 (.map (some b)) (goInt st) val).run Try.prog w2 = .ok () w3 ∧ MPi w3 b ∧ w2.mapTurned w3 b
theorem wp_ment (m x : Operand) (ho : o.op = .mapEntry 94 m x) (hm : a.eval m = .map (some b)) (hM : MPi w b) (key : Int) (hx : a.eval x = .int .i64 key) (h0 : 0 ≤ key) (h1 : key ≤ 1000000000000)
    (h : ∀ v0 st w', MPi w' b → w.grownBy w' (some b) → ES w' b st → K (a.put o.dst (.tuple #[v0, .int .i64 (st : Int)])) w') : o.wp Try.prog a w K Q := by
  obtain ⟨v0, st, w', hrun, r1, r2, r3⟩ := hM.entry klaw Try.underlying94 kzero (keyI h0 h1)
  unfold Oper.wp
  simp [execOp, ho, hm, hx, hrun, Result.andThen]
  exact h v0 st w' r1 r2.grown r3
theorem wp_mest (m s x : Operand) (ho : o.op = .entryStore 94 m s x) (hm : a.eval m = .map (some b)) (st : Nat) (hs : a.eval s = .int .i64 (st : Int)) (hE : ES w b st)
    (h : ∀ w', MPi w' b → w.grownBy w' (some b) → K (a.put o.dst undef) w') : o.wp Try.prog a w K Q := by
  obtain ⟨w', hrun, r1, r2⟩ := hE w (a.eval x) rfl
  unfold goInt at hrun
  unfold Oper.wp
  simp [execOp, ho, hm, hs, hrun, Result.andThen]
  exact h w' r1 r2.grown
end
end Go.Proofs.Ytleapckcihcpaaa
