/-
  Rows of numbers of the call's own; Clone and Repeat.
-/
import Derived.Test.YtagmpbgidooibaaC8
import Derived.Test.YtagmpbgidooibaaShelf
import Derived.Laws.CopyOwn
import Derived.Laws.AppendOwn
import Derived.Deep.OwnRows
import Derived.Deep.Heap
import Derived.Lib.Walk
import Derived.Lib.SliceRun
import Derived.Deep.RegionLaw
namespace Go.Proofs.Ytagmpbgidooibaa
open Go.RowKit Go.Deep
attribute [local go_sem] Oper.lit fut_fut fut_drew World.cell?_alloc_some
theorem info_int : (Try.prog.info? 3).map (fun i => (i.zero, i.size, i.bytes)) = some (some (.int .i64 0), 1, 8) := by kernel_rfl
theorem info_sz : (Try.prog.info? 3).map (·.size) = some 1 := by kernel_rfl
def upd {α : Type} (f : Nat → α) (i : Nat) (x : α) : Nat → α := fun j => if j = i then x else f j
theorem upd_same {α : Type} (f : Nat → α) (i : Nat) (x : α) : upd f i x i = x := if_pos rfl
theorem upd_other {α : Type} (f : Nat → α) (i j : Nat) (x : α) (h : j ≠ i) : upd f i x j = f j := if_neg h
/-- block g holds, in its first T cells, the numbers f 0, f 1, .. -/
def RowA (w : World) (g T : Nat) (f : Nat → Int) : Prop := ∃ cap F, T ≤ cap ∧ w.rowIs g 3 cap F ∧ ∀ i, i < T → F i = .int .i64 (f i)
section
variable {w w' : World} {g T : Nat} {f : Nat → Int}
theorem RowA.cell (h : RowA w g T f) {i : Nat} (hi : i < T) : w.cell? ⟨g, i, none⟩ = some (.int .i64 (f i)) := by
  obtain ⟨cap, F, hc, hr, hF⟩ := h
  rw [hr.cell (by omega), hF i hi]
theorem RowA.frozen (h : RowA w g T f) (i : Nat) : w.frozen? ⟨g, i, none⟩ = false := by
  obtain ⟨cap, F, hc, hr, hF⟩ := h
  exact hr.frozen i
theorem RowA.lt (h : RowA w g T f) : g < w.heap.size := by
  obtain ⟨cap, F, hc, hr, hF⟩ := h
  exact hr.lt
theorem RowA.of_block (h : RowA w g T f) (e : w'.heap[g]? = w.heap[g]?) : RowA w' g T f := by
  obtain ⟨cap, F, hc, hr, hF⟩ := h
  exact ⟨cap, F, hc, hr.of_block e, hF⟩
theorem RowA.fut (h : RowA w g T f) (hf : Fut w w') : RowA w' g T f := h.of_block (hf.block g h.lt)
theorem RowA.setOther (h : RowA w g T f) {a : Addr} (ha : g ≠ a.block) (v : Value) : RowA (w.setCell a v) g T f := h.of_block (blk_setCell_other _ _ _ _ ha)
theorem RowA.alloc (h : RowA w g T f) (o : Obj) : RowA (w.alloc o) g T f := h.of_block (blk_alloc_lt _ _ _ h.lt)
theorem RowA.drew (h : RowA w g T f) : RowA w.drew g T f := h
theorem RowA.set (h : RowA w g T f) (i : Nat) (x : Int) : RowA (w.setCell ⟨g, i, none⟩ (.int .i64 x)) g T (upd f i x) := by
  obtain ⟨cap, F, hc, hr, hF⟩ := h
  refine ⟨cap, _, hc, hr.set i _, fun j hj => ?_⟩
  unfold upd
  split
  · rfl
  · exact hF j hj
theorem RowA.congr (h : RowA w g T f) {f' : Nat → Int} (e : ∀ i, i < T → f i = f' i) : RowA w g T f' := by
  obtain ⟨cap, F, hc, hr, hF⟩ := h
  exact ⟨cap, F, hc, hr, fun i hi => by rw [hF i hi, e i hi]⟩
theorem RowA.rd (h : RowA w g T f) : Rd1 w (some ⟨g, 0, none⟩) (.int .i64 ·) ((List.range T).map f) := by
  intro i a hi
  obtain ⟨hlt, he⟩ := List.getElem?_eq_some_iff.1 hi
  simp at hlt he
  subst he
  exact ⟨g, 0, rfl, by rw [Nat.zero_add]; exact h.cell hlt⟩
theorem RowA.of_owns {B n : Nat} {v : Value} {xs : List Int} (h : w.ownsRow B 3 1 v n (xs.map (.int .i64 ·))) (hn : 0 < n) : ∃ g c, v = .slice (some ⟨g, 0, none⟩) n c ∧ B ≤ g ∧ RowA w g n (gi xs) := by
  rcases h.2 with ⟨_, h0⟩ | ⟨g, cap, cur, hv, hb, hg, h1, h2, h3, h4⟩
  · omega
  · refine ⟨g, cap, hv, hb, cap, fun i => cur.toList.getD i (.int .i64 0), h1, ⟨cur, hg, by omega, fun i hi => ?_⟩, fun i hi => ?_⟩
    · have : i < cur.toList.length := by simp; omega
      show cur[i]? = some (cur.toList.getD i (.int .i64 0))
      rw [List.getD_eq_getElem?_getD, List.getElem?_eq_getElem this]
      simp
    · have hx : xs.length = n := by have := h.1; simpa using this
      have e := congrArg (fun l => l[i]?) h4
      simp only [Nat.mul_one] at e
      obtain ⟨y, hy⟩ := get_lt hx hi
      rw [List.getElem?_take_of_lt hi, List.getElem?_map, hy] at e
      show cur.toList.getD i (.int .i64 0) = .int .i64 (gi xs i)
      rw [List.getD_eq_getElem?_getD, e, gi_get hy]
      rfl
end
theorem made_empty (w : World) : (w.alloc (.cells #[] 3)).ownsRow w.heap.size 3 1 (.slice (some ⟨w.heap.size, 0, none⟩) 0 0) 0 ([].map (Value.int .i64 ·)) := World.ownsRow_made w #[] 0 (Nat.le_refl _) (Nat.zero_le _) (by simp)
set_option maxHeartbeats 2000000 in
theorem clone_any (A : Option Addr) (n c : Nat) (l : List Int) (w : World) (hl : l.length = n) (hn : n ≤ 1000000) (h0 : 0 < n) (hR : Rd1 w A (.int .i64 ·) l) :
    Calls Try.prog 40 #[.slice A n c] w fun e w' => (∃ g c', e = .returned (.slice (some ⟨g, 0, none⟩) n c') ∧ w.heap.size ≤ g ∧ RowA w' g n (gi l)) ∧ Below w.heap.size w w' := by
  obtain ⟨x, hx⟩ := get_lt hl h0
  obtain ⟨b, o, rfl, _⟩ := hR 0 x hx
  have HR := Lib.hid hR
  have HL := Lib.hid hl
  clear hR hl hx
  obtain ⟨i1, ki, kz0, kz1, kz2⟩ := info_parts info_int
  have q22 : ∀ (w : World) (a : Option Addr) (n c n' c' : Nat), (binOp .eql 23 (.slice a n c) (.slice none n' c')).run Try.prog w = .ok (.bool a.isNone) w := fun w a n c n' c' => Lib.run_eql_slice_nil w _ _ a n c n' c' Try.underlying23
  go_enter Try.func40, Try.ntmps40
  go_wp2_with (at_builtin; refine wpList_append_own _ rfl _ _ 23 rfl w.heap.size 3 i1 (.int .i64 0) 1 8 Try.underlying23 ki kz0 kz1 kz2 rfl (by decide) _ _ _ rfl (made_empty w) ⟨b, o, none⟩ n c (l.map (.int .i64 ·)) rfl ?qc1 ?qc2 ?qc3 ?qc4 ?qc5 ?qc6 ?_)
  case qc1 => exact HL.out
  case qc2 =>
    intro j a hj
    obtain ⟨b', o', e, hc⟩ := HR.out j a hj
    simp only [Option.some.injEq, Addr.mk.injEq] at e
    obtain ⟨rfl, rfl, _⟩ := e
    exact ((Fut.refl w).alloc _).cell hc
  case qc3 => exact fun u hu => rfl
  case qc4 => unfold maxLen; omega
  case qc5 => omega
  intro v' w1 hown hgrow hnil
  have HO := Lib.hid hown
  have HG := Lib.hid hgrow
  clear hown hgrow
  go_wp2_with fail
  go_ret
  have ho := HO.out
  try simp only [List.map_nil, List.nil_append, Nat.zero_add] at ho
  obtain ⟨g, c', rfl, hb, hrow⟩ := RowA.of_owns ho h0
  exact ⟨⟨g, c', rfl, hb, hrow⟩, ((Below.refl _ w).alloc (Nat.le_refl _) _).grown HG.out (by simp) (by intro k hk; simp [Value.ownBlock] at hk; omega)⟩
theorem wp_copy_own {P : Program} {o : Oper} {a : Act} {w : World} {K : Act → World → Prop} {Q : Exit → Act → World → Prop} (d s : Operand) (dT sT : TypeId)
    (ho : o.op = .call { callee := .builtin .copy, args := #[d, s], argTypes := #[dT, sT] }) (elem : TypeId) (hu : P.underlying dT = some (.slice elem)) (hsz : (P.info? elem).map (·.size) = some 1)
    (g off dLen dCap : Nat) (ad : Addr) (sLen sCap : Nat) (hd : a.eval d = .slice (some ⟨g, off, none⟩) dLen dCap) (hs : a.eval s = .slice (some ad) sLen sCap)
    (cur : List Value) (t : TypeId) (hg : w.heap[g]? = some (.cells cur.toArray t (0, 0))) (cs : List Value) (hn : cs.length = Nat.min sLen dLen)
    (hsrc : ∀ j v, cs[j]? = some v → w.cell? (ad.add j) = some v) (hfit : off + cs.length ≤ cur.length) (h1 : ∀ v ∈ cs, v.oneCell' = true)
    (h : K (a.put o.dst (goInt cs.length)) (w.setRow g (splice cur off cs).toArray)) : o.wp P a w K Q := by
  have hrun := run_copy_row (P := P) w dT sT o.type elem g off dLen dCap ad sLen sCap cur.toArray t cs hu hsz hg hn hsrc (by simpa using hfit) h1
  have e : (cur.toArray.toList.take off ++ cs ++ cur.toArray.toList.drop (off + cs.length)).toArray = (splice cur off cs).toArray := by simp [splice]
  rw [e] at hrun
  unfold Oper.wp
  simp [execOp, ho, resolve, invoke, builtin, hd, hs, hrun, Result.andThen]
  exact h
def rp (T k : Nat) : List Value := List.replicate k (.int .i64 (-1)) ++ List.replicate (T - k) (.int .i64 0)
theorem rp_len (T k : Nat) (h : k ≤ T) : (rp T k).length = T := by simp [rp]; omega
theorem rp_get (T k j : Nat) (h : j < k) : (rp T k)[j]? = some (.int .i64 (-1)) := by
  unfold rp
  rw [List.getElem?_append_left (by simpa using h)]
  simp [h]
theorem rp_splice (T k m : Nat) (h : k + m ≤ T) : splice (rp T k) k (List.replicate m (.int .i64 (-1))) = rp T (k + m) := by
  unfold splice rp
  rw [List.take_left' (by simp), List.length_replicate, ← List.append_assoc, List.replicate_append_replicate]
  congr 1
  rw [List.drop_append, List.length_replicate, List.drop_replicate, List.drop_replicate]
  rw [show k - (k + m) = 0 by omega, show k + m - k = m by omega, show T - k - m = T - (k + m) by omega]
  rfl
theorem made_list (z : Value) (n : Nat) : madeCells #[z] n = (List.replicate n z).toArray := by
  apply Array.ext
  · simp [madeCells]
  · intro i h1 h2
    simp [madeCells, Nat.mod_one]
end Go.Proofs.Ytagmpbgidooibaa
