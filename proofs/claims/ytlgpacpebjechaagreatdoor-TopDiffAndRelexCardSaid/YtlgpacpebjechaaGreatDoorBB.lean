/-
  Texts joined: The evaluator's relation: abstract values and values, the abstract memory and the world; new blocks, stores; The evaluator's operations that neither make nor write memory: each does what the program's operation does; The evaluator's operations, one by one: numbers, strings, addresses, loads; The evaluator's operations, one by one: equality, strings, bits, conversions; The evaluator's operations, one by one: division, bits, shifts; addresses, loads, slices, strings; The evaluator's operations, one by one: addresses, loads, slices, strings, tuples, lengths.
-/
import Derived.Test.YtlgpacpebjechaaGreatDoorBA
import Derived.Test.YtlgpacpebjechaaGreatDoorMem
import Derived.Laws.Sem
import Derived.Deep.Heap
import Derived.MapKept
import Derived.Laws.Cells
import Derived.Laws.Append
import Derived.Laws.Slices
import Derived.Laws.StructEq
import Derived.Laws.Concat
import Derived.Laws.BytesString
import Derived.Laws.Shifts
import Derived.Laws.Bits64
import Derived.ChangeKeysEq
import Derived.Laws.BitsLemmas
/-
  The evaluator's relation: abstract values and values, the abstract memory and the world; new blocks, stores.
-/
namespace Go.Proofs.YtlgpacpebjechaaGreatDoor
open Go.RowKit Go.Deep
namespace Ev
/-- where the blocks lie, with how many elements they have room for; the byte that is not told -/
structure Sg where
  blk : Pa → Option (Nat × Nat)
  byte : Nat
def Sg.le (s t : Sg) : Prop := t.byte = s.byte ∧ ∀ b x, s.blk b = some x → t.blk b = some x
theorem Sg.le_refl (s : Sg) : s.le s := ⟨rfl, fun _ _ h => h⟩
theorem Sg.le_trans {s t u : Sg} (h : s.le t) (k : t.le u) : s.le u := ⟨k.1.trans h.1, fun b x hb => k.2 b x (h.2 b x hb)⟩
def bs (l : List Nat) : ByteArray := ⟨(l.map UInt8.ofNat).toArray⟩
mutual
inductive R (σ : Sg) : AV → Value → Prop
  | bool (b) : R σ (.bool b) (.bool b)
  | int (k n) : R σ (.int k n) (.int k n)
  | str (l) : (∀ x ∈ l, x < 256) → R σ (.str l) (.string (bs l))
  | ptr (b o g q) : σ.blk b = some (g, q) → R σ (.ptr b o) (.pointer (some ⟨g, o, none⟩))
  | slice (b o n k g q) : σ.blk b = some (g, q) → R σ (.slice b o n k) (.slice (some ⟨g, o, none⟩) n (q - k))
  | map (b g q) : σ.blk b = some (g, q) → R σ (.map b) (.map (some g))
  | fn (f a c vs ws) : Rs σ a vs → Rs σ c ws → R σ (.fn f a c) (.func (.func f) vs.toArray ws.toArray)
  | agg (l vs) : Rs σ l vs → R σ (.agg l) (.agg vs.toArray)
  | tup (l vs) : Rs σ l vs → R σ (.tup l) (.tuple vs.toArray)
  | nils : R σ .nils (.slice none 0 0)
  | nilm : R σ .nilm (.map none)
  | nili : R σ .nili .nilIface
  | nilp : R σ .nilp (.pointer none)
  | cut (A) : R σ .cut (.slice A 0 0)
  | emp (A c) : R σ .emp (.slice A 0 c)
  | sym : R σ .sym (.int .u8 σ.byte)
  | bad (v) : R σ .bad v
inductive Rs (σ : Sg) : List AV → List Value → Prop
  | nil : Rs σ [] []
  | cons (a v l vs) : R σ a v → Rs σ l vs → Rs σ (a :: l) (v :: vs)
end
section
variable {σ σ' : Sg}
theorem R.mono (h : σ.le σ') {a : AV} {v : Value} (hr : R σ a v) : R σ' a v := by
  refine R.rec (motive_1 := fun a v _ => R σ' a v) (motive_2 := fun l vs _ => Rs σ' l vs) ?_ ?_ ?_ ?_ ?_ ?_ ?_ ?_ ?_ ?_ ?_ ?_ ?_ ?_ ?_ ?_ ?_ ?_ ?_ hr
  · exact fun b => .bool b
  · exact fun k n => .int k n
  · exact fun l hl => .str l hl
  · exact fun b o g q e => .ptr b o g q (h.2 _ _ e)
  · exact fun b o n k g q e => .slice b o n k g q (h.2 _ _ e)
  · exact fun b g q e => .map b g q (h.2 _ _ e)
  · exact fun f a c vs ws _ _ h1 h2 => .fn f a c vs ws h1 h2
  · exact fun l vs _ h1 => .agg l vs h1
  · exact fun l vs _ h1 => .tup l vs h1
  · exact .nils
  · exact .nilm
  · exact .nili
  · exact .nilp
  · exact fun A => .cut A
  · exact fun A c => .emp A c
  · rw [← h.1]; exact .sym
  · exact fun v => .bad v
  · exact .nil
  · exact fun a v l vs _ _ h1 h2 => .cons a v l vs h1 h2
theorem Rs.mono (h : σ.le σ') : ∀ {l : List AV} {vs : List Value}, Rs σ l vs → Rs σ' l vs
  | [], _, .nil => .nil
  | _ :: _, _, .cons _ _ _ _ h1 h2 => .cons _ _ _ _ (h1.mono h) (Rs.mono h h2)
theorem Rs.len : ∀ {l : List AV} {vs : List Value}, Rs σ l vs → vs.length = l.length
  | [], _, .nil => rfl
  | _ :: _, _, .cons _ _ _ _ _ h => by simp [Rs.len h]
theorem Rs.get : ∀ {l : List AV} {vs : List Value}, Rs σ l vs → ∀ {j : Nat} {a : AV}, l[j]? = some a → ∃ v, vs[j]? = some v ∧ R σ a v
  | [], _, .nil, j, a, h => by simp at h
  | _ :: _, _, .cons _ _ _ _ h1 h2, 0, a, h => by simp only [List.getElem?_cons_zero, Option.some.injEq] at h; subst h; exact ⟨_, rfl, h1⟩
  | _ :: _, _, .cons _ _ _ _ h1 h2, j + 1, a, h => by
    rw [List.getElem?_cons_succ] at h
    exact Rs.get h2 h
theorem Rs.of_get : ∀ {l : List AV} {vs : List Value}, vs.length = l.length → (∀ (j : Nat) (a : AV) (v : Value), l[j]? = some a → vs[j]? = some v → R σ a v) → Rs σ l vs
  | [], [], _, _ => .nil
  | a :: l, v :: vs, hl, h => .cons _ _ _ _ (h 0 a v rfl rfl) (Rs.of_get (by simpa using hl) (fun j x y h1 h2 => h (j + 1) x y (by simpa using h1) (by simpa using h2)))
  | [], _ :: _, hl, _ => by simp at hl
  | _ :: _, [], hl, _ => by simp at hl
theorem Rs.append : ∀ {l m : List AV} {vs ws : List Value}, Rs σ l vs → Rs σ m ws → Rs σ (l ++ m) (vs ++ ws)
  | [], _, _, _, .nil, h => h
  | _ :: _, _, _, _, .cons _ _ _ _ h1 h2, h => .cons _ _ _ _ h1 (Rs.append h2 h)
/-- what a value's cells are -/
theorem R.cells {a : AV} {v : Value} (h : R σ a v) (hb : a ≠ .bad) : Rs σ (Ev.cells a) v.cells.toList := by
  cases h with
  | agg l vs h => exact h
  | bad v => exact absurd rfl hb
  | bool b => exact .cons _ _ _ _ (.bool b) .nil
  | int k n => exact .cons _ _ _ _ (.int k n) .nil
  | str l h => exact .cons _ _ _ _ (.str l h) .nil
  | ptr b o g q e => exact .cons _ _ _ _ (.ptr b o g q e) .nil
  | slice b o n k g q e => exact .cons _ _ _ _ (.slice b o n k g q e) .nil
  | map b g q e => exact .cons _ _ _ _ (.map b g q e) .nil
  | fn f a c vs ws h1 h2 => exact .cons _ _ _ _ (.fn f a c vs ws h1 h2) .nil
  | tup l vs h => exact .cons _ _ _ _ (.tup l vs h) .nil
  | nils => exact .cons _ _ _ _ .nils .nil
  | nilm => exact .cons _ _ _ _ .nilm .nil
  | nili => exact .cons _ _ _ _ .nili .nil
  | nilp => exact .cons _ _ _ _ .nilp .nil
  | cut A => exact .cons _ _ _ _ (.cut A) .nil
  | emp A c => exact .cons _ _ _ _ (.emp A c) .nil
  | sym => exact .cons _ _ _ _ .sym .nil
theorem R.oneCell {a : AV} {v : Value} (h : R σ a v) (hc : isCell a = true) : v.oneCell' = true := by
  cases h with
  | agg l vs h => cases hc
  | tup l vs h => cases hc
  | bad v => cases hc
  | _ => rfl
end
theorem allCell_get : ∀ {l : List AV}, allCell l = true → ∀ a ∈ l, isCell a = true
  | [], _, a, h => by simp at h
  | x :: l, h, a, ha => by
    have h : iff (isCell x) false (allCell l) = true := h
    rw [iff_and, Bool.and_eq_true] at h
    rcases List.mem_cons.1 ha with rfl | ha
    · exact h.1
    · exact allCell_get h.2 a ha

/-! ### the memory -/
structure RowOK (σ : Sg) (len : Nat) (c : Tr) (cs : Array Value) : Prop where
  le : len ≤ cs.size
  get : ∀ i v, Tr.get c i = some v → i < len ∧ ∃ u, cs[i]? = some u ∧ R σ v u
inductive EsOK (σ : Sg) : List (AV × AV) → List MapEntry → Prop
  | nil : EsOK σ [] []
  | cons (e m es ms) : R σ e.1 m.key → R σ e.2 m.val → EsOK σ es ms → EsOK σ (e :: es) (m :: ms)
def BlkOK (σ : Sg) (N : Nat) (w : World) (b : Pa) : Blk → Prop
  | .none => True
  | .row sz len c => ∃ g q cs ty, σ.blk b = some (g, q) ∧ N ≤ g ∧ w.heap[g]? = some (.cells cs ty (0, 0)) ∧ (sz = 0 ∨ cs.size = q * sz) ∧ RowOK σ len c cs
  | .ro len c => ∃ g q cs ty fr, σ.blk b = some (g, q) ∧ g < N ∧ w.heap[g]? = some (.cells cs ty fr) ∧ RowOK σ len c cs
  | .map es n => ∃ g q ms, σ.blk b = some (g, q) ∧ N ≤ g ∧ w.heap[g]? = some (.map ms n) ∧ EsOK σ es ms.toList ∧ MapKept.Stamped ms n
def ownB : Blk → Bool
  | .row .. => true
  | .map .. => true
  | _ => false
structure HR (σ : Sg) (N : Nat) (h : Hp) (w : World) : Prop where
  base : N ≤ w.heap.size
  glob : σ.blk .z = some (0, 0)
  pos : 0 < N
  blk : ∀ b, BlkOK σ N w b (hget h b)
  inj : ∀ b b' g q q', ownB (hget h b) = true → ownB (hget h b') = true → σ.blk b = some (g, q) → σ.blk b' = some (g, q') → b = b'
  fresh : ∀ p, h.n.num ≤ p.num → σ.blk p = none
/-- from one abstract memory to another, and from a world to another -/
structure Go (σ : Sg) (N : Nat) (h : Hp) (w : World) (σ' : Sg) (h' : Hp) (w' : World) : Prop where
  le : σ.le σ'
  hr : HR σ' N h' w'
  os : w'.os = w.os
  tape : w'.tape = w.tape
  output : w'.output = w.output
  size : w.heap.size ≤ w'.heap.size
  frame : ∀ g, g < w.heap.size → (∀ b q, ownB (hget h b) = true → σ.blk b ≠ some (g, q)) → w'.heap[g]? = w.heap[g]?
  img : ∀ b g q, ownB (hget h' b) = true → σ'.blk b = some (g, q) → (∃ b0 q0, ownB (hget h b0) = true ∧ σ.blk b0 = some (g, q0)) ∨ w.heap.size ≤ g
section
variable {σ σ' σ'' : Sg} {N : Nat} {h h' h'' : Hp} {w w' w'' : World}
theorem Go.refl (hr : HR σ N h w) : Go σ N h w σ h w :=
  ⟨σ.le_refl, hr, rfl, rfl, rfl, Nat.le_refl _, fun _ _ _ => rfl, fun b _g q ho e => .inl ⟨b, q, ho, e⟩⟩
theorem Go.trans (a : Go σ N h w σ' h' w') (b : Go σ' N h' w' σ'' h'' w'') : Go σ N h w σ'' h'' w'' := by
  refine ⟨Sg.le_trans a.le b.le, b.hr, b.os.trans a.os, b.tape.trans a.tape, b.output.trans a.output, Nat.le_trans a.size b.size, fun g hg hn => ?_, fun x g q ho e => ?_⟩
  · refine (b.frame g (Nat.lt_of_lt_of_le hg a.size) (fun x q ho e => ?_)).trans (a.frame g hg hn)
    rcases a.img x g q ho e with ⟨b0, q0, h1, h2⟩ | h1
    · exact hn b0 q0 h1 h2
    · omega
  · rcases b.img x g q ho e with ⟨b0, q0, h1, h2⟩ | h1
    · exact a.img b0 g q0 h1 h2
    · exact .inr (Nat.le_trans a.size h1)
theorem RowOK.mono {len : Nat} {c : Tr} {cs : Array Value} (hr : RowOK σ len c cs) (hl : σ.le σ') : RowOK σ' len c cs :=
  ⟨hr.le, fun i v e => let ⟨h1, u, h2, h3⟩ := hr.get i v e; ⟨h1, u, h2, h3.mono hl⟩⟩
theorem EsOK.mono (hl : σ.le σ') : ∀ {es : List (AV × AV)} {ms : List MapEntry}, EsOK σ es ms → EsOK σ' es ms
  | _, _, .nil => .nil
  | _, _, .cons e m es ms h1 h2 h3 => .cons e m es ms (h1.mono hl) (h2.mono hl) (EsOK.mono hl h3)
theorem BlkOK.keep {b : Pa} {x : Blk} (hb : BlkOK σ N w b x) (hl : σ.le σ') (hk : ∀ g q, σ.blk b = some (g, q) → w'.heap[g]? = w.heap[g]?) : BlkOK σ' N w' b x := by
  cases x with
  | none => exact trivial
  | row sz len c => obtain ⟨g, q, cs, ty, h1, h2, h3, h4, h5⟩ := hb; exact ⟨g, q, cs, ty, hl.2 _ _ h1, h2, (hk g q h1).trans h3, h4, h5.mono hl⟩
  | ro len c => obtain ⟨g, q, cs, ty, fr, h1, h2, h3, h4⟩ := hb; exact ⟨g, q, cs, ty, fr, hl.2 _ _ h1, h2, (hk g q h1).trans h3, h4.mono hl⟩
  | map es n => obtain ⟨g, q, ms, h1, h2, h3, h4, h5⟩ := hb; exact ⟨g, q, ms, hl.2 _ _ h1, h2, (hk g q h1).trans h3, h4.mono hl, h5⟩
theorem BlkOK.lt {b : Pa} {x : Blk} (hb : BlkOK σ N w b x) (hx : x ≠ .none) : ∃ g q, σ.blk b = some (g, q) ∧ g < w.heap.size := by
  cases x with
  | none => exact absurd rfl hx
  | row sz len c => obtain ⟨g, q, cs, ty, h1, h2, h3, _⟩ := hb; exact ⟨g, q, h1, (Array.getElem?_eq_some_iff.1 h3).1⟩
  | ro len c => obtain ⟨g, q, cs, ty, fr, h1, h2, h3, _⟩ := hb; exact ⟨g, q, h1, (Array.getElem?_eq_some_iff.1 h3).1⟩
  | map es n => obtain ⟨g, q, ms, h1, h2, h3, _⟩ := hb; exact ⟨g, q, h1, (Array.getElem?_eq_some_iff.1 h3).1⟩
theorem HR.none_fresh (hr : HR σ N h w) {p : Pa} (hp : h.n.num ≤ p.num) : hget h p = .none := by
  cases e : hget h p with
  | none => rfl
  | _ =>
    obtain ⟨g, q, h1, _⟩ := (hr.blk p).lt (by rw [e]; intro k; cases k)
    rw [hr.fresh p hp] at h1; cases h1
/-- the world has only grown, outside -/
theorem HR.grow (hr : HR σ N h w) (hos : w'.os = w.os) (ht : w'.tape = w.tape) (ho : w'.output = w.output) (hs : w.heap.size ≤ w'.heap.size) (hk : ∀ g, g < w.heap.size → w'.heap[g]? = w.heap[g]?) : Go σ N h w σ h w' := by
  refine ⟨σ.le_refl, ⟨Nat.le_trans hr.base hs, hr.glob, hr.pos, fun b => ?_, hr.inj, hr.fresh⟩, hos, ht, ho, hs, fun g hg _ => hk g hg, fun b g q ho e => .inl ⟨b, q, ho, e⟩⟩
  by_cases hn : hget h b = .none
  · rw [hn]; exact trivial
  · obtain ⟨g, q, h1, h2⟩ := (hr.blk b).lt hn
    exact (hr.blk b).keep σ.le_refl (fun g' q' e => by rw [h1] at e; injection e with e; injection e with e1 e2; subst e1; exact hk g h2)
theorem HR.drew (hr : HR σ N h w) : Go σ N h w σ h w.drew := hr.grow rfl rfl rfl (Nat.le_refl _) (fun _ _ => rfl)
def Sg.put (σ : Sg) (p : Pa) (g q : Nat) : Sg := ⟨fun b => if b.num = p.num then some (g, q) else σ.blk b, σ.byte⟩
theorem Sg.put_same (σ : Sg) (p : Pa) (g q : Nat) : (σ.put p g q).blk p = some (g, q) := if_pos rfl
theorem Sg.put_other (σ : Sg) {p b : Pa} (g q : Nat) (hb : b ≠ p) : (σ.put p g q).blk b = σ.blk b := if_neg (fun e => hb (num_inj e))
theorem Sg.le_put {σ : Sg} {p : Pa} (g q : Nat) (hp : σ.blk p = none) : σ.le (σ.put p g q) :=
  ⟨rfl, fun b x hb => by
    by_cases e : b = p
    · subst e; rw [hp] at hb; cases hb
    · rw [Sg.put_other _ _ _ e]; exact hb⟩
theorem hnew_eq {β : Type} (h : Hp) (x : Blk) (k : Pa → Hp → β) : hnew h x k = k h.n ⟨HT.put h.n x h.t, Pa.succ h.n⟩ := rfl
/-- a new block, which may be one that lay there, or one that is made -/
theorem HR.new (hr : HR σ N h w) (hg : Go σ N h w σ h w') (x : Blk) (_hx : ownB x = true) (g q : Nat) (hfree : ∀ b q', ownB (hget h b) = true → σ.blk b ≠ some (g, q')) (himg : w.heap.size ≤ g)
    (hok : BlkOK (σ.put h.n g q) N w' h.n x) : Go σ N h w (σ.put h.n g q) ⟨HT.put h.n x h.t, Pa.succ h.n⟩ w' := by
  have hle := Sg.le_put (σ := σ) (p := h.n) g q (hr.fresh _ (Nat.le_refl _))
  have hsame : hget ⟨HT.put h.n x h.t, Pa.succ h.n⟩ h.n = x := ht_same _ _ _
  have hother : ∀ b, b ≠ h.n → hget ⟨HT.put h.n x h.t, Pa.succ h.n⟩ b = hget h b := fun b hb => ht_other _ _ _ _ (Ne.symm hb)
  refine ⟨hle, ⟨hg.hr.base, hle.2 _ _ hr.glob, hr.pos, fun b => ?_, fun b b' g1 q1 q2 h1 h2 e1 e2 => ?_, fun p hp => ?_⟩, hg.os, hg.tape, hg.output, hg.size, hg.frame, fun b g1 q1 h1 e1 => ?_⟩
  · by_cases e : b = h.n
    · subst e; rw [hsame]; exact hok
    · rw [hother b e]; exact (hg.hr.blk b).keep hle (fun _ _ _ => rfl)
  · by_cases e : b = h.n <;> by_cases e' : b' = h.n
    · rw [e, e']
    · subst e
      rw [Sg.put_same] at e1
      rw [Sg.put_other _ _ _ e'] at e2
      rw [hother b' e'] at h2
      injection e1 with e1; injection e1 with e3 e4; subst e3
      exact absurd e2 (hfree b' q2 h2)
    · subst e'
      rw [Sg.put_same] at e2
      rw [Sg.put_other _ _ _ e] at e1
      rw [hother b e] at h1
      injection e2 with e2; injection e2 with e3 e4; subst e3
      exact absurd e1 (hfree b q1 h1)
    · rw [Sg.put_other _ _ _ e] at e1
      rw [Sg.put_other _ _ _ e'] at e2
      rw [hother b e] at h1
      rw [hother b' e'] at h2
      exact hr.inj b b' g1 q1 q2 h1 h2 e1 e2
  · have hp : (Pa.succ h.n).num ≤ p.num := hp
    rw [num_succ] at hp
    rw [Sg.put_other _ _ _ (fun e => by rw [e] at hp; omega)]
    exact hr.fresh p (by omega)
  · by_cases e : b = h.n
    · subst e
      rw [Sg.put_same] at e1
      injection e1 with e1; injection e1 with e3 e4; subst e3
      exact .inr himg
    · rw [Sg.put_other _ _ _ e] at e1
      rw [hother b e] at h1
      exact .inl ⟨b, q1, h1, e1⟩
/-- a block is made -/
theorem HR.alloc (hr : HR σ N h w) (O : Obj) (x : Blk) (hx : ownB x = true) (q : Nat) (hok : BlkOK (σ.put h.n w.heap.size q) N (w.alloc O) h.n x) :
    Go σ N h w (σ.put h.n w.heap.size q) ⟨HT.put h.n x h.t, Pa.succ h.n⟩ (w.alloc O) := by
  refine hr.new (hr.grow (w' := w.alloc O) rfl rfl rfl (by simp only [World.size_alloc]; omega) (fun g hg => ((Fut.refl w).alloc O).block g hg)) x hx w.heap.size q (fun b q' ho e => ?_) (Nat.le_refl _) hok
  obtain ⟨g, q2, h1, h2⟩ := (hr.blk b).lt (fun e => by rw [e] at ho; cases ho)
  rw [h1] at e; injection e with e; injection e with e1 e2; omega
/-- a block is written -/
theorem HR.put (hr : HR σ N h w) {b : Pa} {x : Blk} {g q : Nat} (hb : σ.blk b = some (g, q)) (_hx : ownB x = true) (ho : ownB (hget h b) = true)
    (hos : w'.os = w.os) (ht : w'.tape = w.tape) (hou : w'.output = w.output) (hs : w'.heap.size = w.heap.size) (hk : ∀ k, k ≠ g → w'.heap[k]? = w.heap[k]?)
    (hok : BlkOK σ N w' b x) : Go σ N h w σ (hput h b x) w' := by
  have hsame := hget_same h b x
  have hother : ∀ p, p ≠ b → hget (hput h b x) p = hget h p := fun p hp => hget_other h x (Ne.symm hp)
  have hown : ∀ p, ownB (hget (hput h b x) p) = true → ownB (hget h p) = true := fun p hp => by
    by_cases e : p = b
    · subst e; exact ho
    · rw [← hother p e]; exact hp
  refine ⟨σ.le_refl, ⟨by rw [hs]; exact hr.base, hr.glob, hr.pos, fun p => ?_, fun p p' g1 q1 q2 h1 h2 => hr.inj p p' g1 q1 q2 (hown p h1) (hown p' h2), hr.fresh⟩, hos, ht, hou, Nat.le_of_eq hs.symm, fun k hk1 hn => hk k (fun e => hn b q ho (by rw [e]; exact hb)), fun p g1 q1 h1 e1 => .inl ⟨p, q1, hown p h1, e1⟩⟩
  by_cases e : p = b
  · subst e; rw [hsame]; exact hok
  · rw [hother p e]
    have h0 := hr.blk p
    cases hx' : hget h p with
    | none => exact trivial
    | row sz len c => rw [hx'] at h0; exact h0.keep σ.le_refl (fun g' q' e' => hk g' (fun e2 => by subst e2; exact e (hr.inj p b g' q' q (by rw [hx']; rfl) ho e' hb)))
    | map es n => rw [hx'] at h0; exact h0.keep σ.le_refl (fun g' q' e' => hk g' (fun e2 => by subst e2; exact e (hr.inj p b g' q' q (by rw [hx']; rfl) ho e' hb)))
    | ro len c =>
      rw [hx'] at h0
      refine BlkOK.keep (w := w) h0 σ.le_refl (fun g' q' e' => hk g' (fun e2 => ?_))
      subst e2
      obtain ⟨g1, q1, cs, ty, fr, h2, h3, _⟩ := h0
      rw [h2] at e'; injection e' with e'; injection e' with e1 e2
      have h4 := hr.blk b
      cases hb' : hget h b with
      | none => rw [hb'] at ho; cases ho
      | ro _ _ => rw [hb'] at ho; cases ho
      | row _ _ _ => rw [hb'] at h4; obtain ⟨g5, _, _, _, h5, h6, _⟩ := h4; rw [hb] at h5; injection h5 with h5; injection h5 with h5 _; omega
      | map _ _ => rw [hb'] at h4; obtain ⟨g5, _, _, h5, h6, _⟩ := h4; rw [hb] at h5; injection h5 with h5; injection h5 with h5 _; omega
end
end Ev
end Go.Proofs.YtlgpacpebjechaaGreatDoor
/-
  The evaluator's operations that neither make nor write memory: each does what the program's operation does.
-/
namespace Go.Proofs.YtlgpacpebjechaaGreatDoor
open Go.RowKit Go.Deep
namespace Ev
/-! ### slots and operands -/
structure ER (σ : Sg) (nt : Nat) (e : EN) (a : Act) : Prop where
  le : nt ≤ 4096
  size : nt ≤ a.tmps.size
  get : ∀ i, i < nt → R σ (EN.get (paB 12 i) e) (a.tmps.getD i undef)
theorem ER.mono {σ σ' : Sg} {nt : Nat} {e : EN} {a : Act} (h : ER σ nt e a) (hl : σ.le σ') : ER σ' nt e a := ⟨h.le, h.size, fun i hi => (h.get i hi).mono hl⟩
theorem getD_set {t : Array Value} {d i : Nat} {u : Value} : (t.setIfInBounds d u).getD i undef = if d = i ∧ d < t.size then u else t.getD i undef := by
  rw [Array.getD_eq_getD_getElem?, Array.getElem?_setIfInBounds, Array.getD_eq_getD_getElem?]
  by_cases h : d = i
  · subst h
    by_cases h2 : d < t.size
    · simp [h2]
    · simp [h2]
  · simp [h]
theorem ER.put {σ : Sg} {nt : Nat} {e : EN} {a : Act} (h : ER σ nt e a) (d : Nat) (hd : d < 4096) {v : AV} {u : Value} (hr : R σ v u) : ER σ nt (EN.put (paB 12 d) v e) (a.put (some d) u) := by
  refine ⟨h.le, by simpa [Act.put] using h.size, fun i hi => ?_⟩
  show R σ _ ((a.tmps.setIfInBounds d u).getD i undef)
  rw [getD_set]
  by_cases e1 : d = i
  · subst e1
    rw [if_pos ⟨rfl, Nat.lt_of_lt_of_le hi h.size⟩, en_same]
    exact hr
  · rw [if_neg (fun k => e1 k.1), en_other _ _ _ _ (fun k => e1 (paB_inj (by omega) (by have := h.le; omega) k))]
    exact h.get i hi
theorem ER.put_none {σ : Sg} {nt : Nat} {e : EN} {a : Act} (h : ER σ nt e a) (u : Value) : ER σ nt e (a.put none u) := h
theorem ER.defers {σ : Sg} {nt : Nat} {e : EN} {a : Act} (h : ER σ nt e a) (ds : List Deferred) : ER σ nt e { a with defers := ds } := ⟨h.le, h.size, h.get⟩
theorem bs_toList (s : ByteArray) : bs (s.data.toList.map (·.toNat)) = s := by
  unfold bs
  rw [List.map_map]
  have : (UInt8.ofNat ∘ fun (x : UInt8) => x.toNat) = id := by funext x; simp
  rw [this]; simp
theorem R_cV (σ : Sg) (v : Value) : R σ (cV v) v := by
  cases v with
  | bool b => exact .bool b
  | int k n => exact .int k n
  | string s =>
    have h := R.str (σ := σ) (s.data.toList.map (·.toNat)) (fun x hx => by
      obtain ⟨y, _, rfl⟩ := List.mem_map.1 hx
      exact y.toNat_lt)
    rw [bs_toList] at h
    exact h
  | pointer a =>
    cases a
    · exact .nilp
    · exact .bad _
  | slice a n c =>
    cases a with
    | none =>
      cases n with
      | zero =>
        cases c with
        | zero => exact .nils
        | succ c => exact .bad _
      | succ n => exact .bad _
    | some a => exact .bad _
  | map r =>
    cases r
    · exact .nilm
    · exact .bad _
  | nilIface => exact .nili
  | _ => exact .bad _
theorem Rs_cV (σ : Sg) : ∀ l : List Value, Rs σ (l.map cV) l
  | [] => .nil
  | v :: l => .cons _ _ _ _ (R_cV σ v) (Rs_cV σ l)
theorem R_cVs (σ : Sg) (v : Value) : R σ (cVs v) v := by
  cases v with
  | agg cs =>
    have := R.agg (σ := σ) _ _ (Rs_cV σ cs.toList)
    simpa [cVs] using this
  | _ => unfold cVs; exact R_cV σ _
section
variable {σ : Sg} {N nt : Nat} {e : EN} {h : Hp} {a : Act} {w : World} {P : Program} {cf : CF} {k : K} {o : Oper}
theorem R_cO (he : ER σ nt e a) (hr : HR σ N h w) (x : Operand) : R σ (cO nt x e) (a.eval x) := by
  cases x with
  | tmp i =>
    show R σ ((if i < nt then t (paB 12 i) else c .bad) e) (a.tmps.getD i undef)
    split
    · rename_i hi; exact he.get i hi
    · exact .bad _
  | const v => exact R_cVs σ v
  | global g =>
    cases g with
    | zero => exact .ptr _ _ _ _ hr.glob
    | succ g => exact .bad _
  | func f => exact .fn _ _ _ _ _ .nil .nil
theorem Rs_cO (he : ER σ nt e a) (hr : HR σ N h w) : ∀ l : List Operand, Rs σ (evs (l.map (cO nt)) e) (l.map a.eval)
  | [] => .nil
  | x :: l => .cons _ _ _ _ (R_cO he hr x) (Rs_cO he hr l)
end
/-! ### what is asked of an operation -/
def inert (ws : Array Value) : Deferred := { target := .fn (.func 18) ws, args := #[] }
def OpS (P : Program) (nt : Nat) (cf : CF) (op : AOp) (o : Oper) : Prop :=
  ∀ (σ : Sg) (N : Nat) (e : EN) (h : Hp) (a : Act) (w : World) (k : K) (Q : Exit → Act → World → Prop) (next : Act → World → Prop), ER σ nt e a → HR σ N h w → op cf e h k ≠ .no →
    (∀ v h' σ' u w' ds, op cf e h k = k v h' → Go σ N h w σ' h' w' → R σ' v u → (ds = a.defers ∨ ∃ ws : Array Value, ws.size = 3 ∧ ds = inert ws :: a.defers) → next (({ a with defers := ds } : Act).put o.dst u) w') → o.wp P a w next Q
/-- one value in every world -/
def PureS (P : Program) (nt : Nat) (cf : CF) (op : AOp) (o : Oper) : Prop :=
  ∀ (σ : Sg) (N : Nat) (e : EN) (h : Hp) (a : Act) (w : World) (k : K), ER σ nt e a → HR σ N h w → op cf e h k ≠ .no →
    ∃ v u, op cf e h k = k v h ∧ R σ v u ∧ ∀ w', (execOp a.eval o).run P w' = .ok (.value u) w'
/-- n cells from a on are read -/
def LoadS (P : Program) (nt : Nat) (cf : CF) (n : Nat) (x : AO) (op : AOp) (o : Oper) : Prop :=
  ∀ (σ : Sg) (N : Nat) (e : EN) (h : Hp) (a : Act) (w : World) (k : K), ER σ nt e a → HR σ N h w → op cf e h k ≠ .no →
    ∃ b i v u g q, x e = .ptr b i ∧ σ.blk b = some (g, q) ∧ op cf e h k = k v h ∧ R σ v u ∧ (∀ j, j < n → (w.cell? ⟨g, i + j, none⟩).isSome = true) ∧ ∀ w', (∀ j, j < n → w'.cell? ⟨g, i + j, none⟩ = w.cell? ⟨g, i + j, none⟩) → (execOp a.eval o).run P w' = .ok (.value u) w'
section
variable {P : Program} {nt : Nat} {cf : CF} {o : Oper}
theorem OpS.of_stuck : OpS P nt cf oStuck o := fun _ _ _ _ _ _ _ _ _ _ _ hn => absurd rfl hn
theorem OpS.of_value {σ : Sg} {N : Nat} {e : EN} {h : Hp} {a : Act} {w : World} {k : K} {Q : Exit → Act → World → Prop} {next : Act → World → Prop} {op : AOp} {v : AV} {h' : Hp} {σ' : Sg} {u : Value} {w' : World}
    (hk : ∀ v h' σ' u w' ds, op cf e h k = k v h' → Go σ N h w σ' h' w' → R σ' v u → (ds = a.defers ∨ ∃ ws : Array Value, ws.size = 3 ∧ ds = inert ws :: a.defers) → next (({ a with defers := ds } : Act).put o.dst u) w')
    (h1 : op cf e h k = k v h') (h2 : Go σ N h w σ' h' w') (h3 : R σ' v u) (hrun : (execOp a.eval o).run P w = .ok (.value u) w') : o.wp P a w next Q := by
  unfold Oper.wp
  rw [hrun]
  exact hk v h' σ' u w' a.defers h1 h2 h3 (.inl rfl)
theorem OpS.of_skip {σ : Sg} {N : Nat} {e : EN} {h : Hp} {a : Act} {w : World} {k : K} {Q : Exit → Act → World → Prop} {next : Act → World → Prop} {op : AOp} {v : AV} {h' : Hp} {σ' : Sg} {w' : World}
    (hk : ∀ v h' σ' u w' ds, op cf e h k = k v h' → Go σ N h w σ' h' w' → R σ' v u → (ds = a.defers ∨ ∃ ws : Array Value, ws.size = 3 ∧ ds = inert ws :: a.defers) → next (({ a with defers := ds } : Act).put o.dst u) w')
    (h1 : op cf e h k = k v h') (h2 : Go σ N h w σ' h' w') (h3 : R σ' v undef) (hrun : (execOp a.eval o).run P w = .ok .skip w') : o.wp P a w next Q := by
  unfold Oper.wp
  rw [hrun]
  exact hk v h' σ' undef w' a.defers h1 h2 h3 (.inl rfl)
theorem PureS.op {op : AOp} (hp : PureS P nt cf op o) : OpS P nt cf op o := by
  intro σ N e h a w k Q next he hr hn hk
  obtain ⟨v, u, h1, h2, h3⟩ := hp σ N e h a w k he hr hn
  exact OpS.of_value hk h1 (Go.refl hr) h2 (h3 w)
theorem LoadS.op {n : Nat} {x : AO} {op : AOp} (hp : LoadS P nt cf n x op o) : OpS P nt cf op o := by
  intro σ N e h a w k Q next he hr hn hk
  obtain ⟨b, i, v, u, g, q, _, _, h1, h2, _, h3⟩ := hp σ N e h a w k he hr hn
  exact OpS.of_value hk h1 (Go.refl hr) h2 (h3 w (fun _ _ => rfl))
end
/-! ### looks that succeed -/
section
variable {σ : Sg} {v : AV} {u : Value} {f : Pa → Nat → Res}
theorem onPtr_ne {v : AV} {f : Pa → Nat → Res} (h : onPtr v .no f ≠ .no) : ∃ b o, v = .ptr b o := by
  cases v <;> first | exact ⟨_, _, rfl⟩ | exact absurd rfl h
theorem onInt_ne {v : AV} {f : IntKind → Int → Res} (h : onInt v .no f ≠ .no) : ∃ j n, v = .int j n := by
  cases v <;> first | exact ⟨_, _, rfl⟩ | exact absurd rfl h
theorem onNat_ne {v : AV} {f : Nat → Res} (h : onNat v .no f ≠ .no) : ∃ j n, v = .int j (.ofNat n) := by
  cases v <;> first
    | exact absurd rfl h
    | (rename_i j n
       cases n with
       | ofNat m => exact ⟨_, _, rfl⟩
       | negSucc m => exact absurd rfl h)
theorem onNat_some {v : AV} {m : Nat} (h : onNat v none some = some m) : ∃ j, v = .int j (.ofNat m) := by
  cases v <;> first
    | (cases h; done)
    | (rename_i j n
       cases n with
       | ofNat x => have h : some x = some m := h; injection h with h; subst h; exact ⟨_, rfl⟩
       | negSucc x => cases h)
theorem onBool_ne {v : AV} {f : Bool → Res} (h : onBool v .no f ≠ .no) : ∃ b, v = .bool b := by
  cases v <;> first | exact ⟨_, rfl⟩ | exact absurd rfl h
theorem onStr_ne {v : AV} {f : List Nat → Res} (h : onStr v .no f ≠ .no) : ∃ l, v = .str l := by
  cases v <;> first | exact ⟨_, rfl⟩ | exact absurd rfl h
theorem onAgg_ne {v : AV} {f : List AV → Res} (h : onAgg v .no f ≠ .no) : ∃ l, v = .agg l := by
  cases v <;> first | exact ⟨_, rfl⟩ | exact absurd rfl h
theorem onTup_ne {v : AV} {f : List AV → Res} (h : onTup v .no f ≠ .no) : ∃ l, v = .tup l := by
  cases v <;> first | exact ⟨_, rfl⟩ | exact absurd rfl h
theorem onFn_ne {v : AV} {f : FuncId → List AV → List AV → Res} (h : onFn v .no f ≠ .no) : ∃ g a q, v = .fn g a q := by
  cases v <;> first | exact ⟨_, _, _, rfl⟩ | exact absurd rfl h
theorem onOpt_ne {α : Type} {v : Option α} {f : α → Res} (h : onOpt v .no f ≠ .no) : ∃ x, v = some x := by
  cases v
  · exact absurd rfl h
  · exact ⟨_, rfl⟩
theorem onRow_ne {v : Blk} {f : Nat → Nat → Tr → Res} (h : onRow v .no f ≠ .no) : ∃ sz len c, v = .row sz len c := by
  cases v <;> first | exact ⟨_, _, _, rfl⟩ | exact absurd rfl h
theorem onMapB_ne {v : Blk} {f : List (AV × AV) → Nat → Res} (h : onMapB v .no f ≠ .no) : ∃ es n, v = .map es n := by
  cases v <;> first | exact ⟨_, _, rfl⟩ | exact absurd rfl h
theorem iff_ne {b : Bool} {yes : Res} (h : iff b .no yes ≠ .no) : b = true := by
  cases b
  · exact absurd rfl h
  · rfl
theorem iff_ne' {b : Bool} {nx : Res} (h : iff b nx .no ≠ .no) : b = false := by
  cases b
  · rfl
  · exact absurd rfl h
theorem ofNat_cast (n : Nat) : (Int.ofNat n) = (n : Int) := rfl
end
/-! ### memory that is read -/
section
variable {σ : Sg} {N : Nat} {h : Hp} {w : World}
/-- a cell that is told -/
theorem HR.cell (hr : HR σ N h w) {b : Pa} {i : Nat} {v : AV} (hv : Tr.get (asRow (hget h b)) i = some v) : ∃ g q u, σ.blk b = some (g, q) ∧ w.cell? ⟨g, i, none⟩ = some u ∧ R σ v u := by
  have hb := hr.blk b
  cases hx : hget h b with
  | none => rw [hx] at hv; cases hv
  | map es n => rw [hx] at hv; cases hv
  | row sz len c =>
    rw [hx] at hb hv
    obtain ⟨g, q, cs, ty, h1, _, h3, _, h5⟩ := hb
    obtain ⟨_, u, hu, hR⟩ := h5.get i v hv
    exact ⟨g, q, u, h1, (cell_of_row w g i cs ty _ h3).trans hu, hR⟩
  | ro len c =>
    rw [hx] at hb hv
    obtain ⟨g, q, cs, ty, fr, h1, _, h3, h5⟩ := hb
    obtain ⟨_, u, hu, hR⟩ := h5.get i v hv
    exact ⟨g, q, u, h1, (cell_of_row w g i cs ty _ h3).trans hu, hR⟩
theorem addr_add (g i j : Nat) : (⟨g, i, none⟩ : Addr).add j = ⟨g, i + j, none⟩ := by unfold Addr.add; split <;> simp_all
/-- n cells that are told -/
theorem HR.cells (hr : HR σ N h w) {b : Pa} {i n : Nat} {l : List AV} (hl : readn (asRow (hget h b)) n i = some l) (hn : 0 < n) : ∃ g q vs, σ.blk b = some (g, q) ∧ Rs σ l vs ∧ l.length = n ∧ ∀ j v, vs[j]? = some v → w.cell? ⟨g, i + j, none⟩ = some v := by
  obtain ⟨e1, e2⟩ := readn_eq _ _ _ _ hl
  obtain ⟨a0, h0⟩ : ∃ a, l[0]? = some a := ⟨_, List.getElem?_eq_getElem (by omega)⟩
  obtain ⟨g, q, u0, hg, _, _⟩ := hr.cell (e2 0 a0 h0)
  refine ⟨g, q, (List.range n).map (fun j => (w.cell? ⟨g, i + j, none⟩).getD undef), hg, Rs.of_get (by simp [e1]) (fun j a v h1 h2 => ?_), e1, fun j v hj => ?_⟩
  · obtain ⟨g', q', u, hg', hc, hR⟩ := hr.cell (e2 j a h1)
    rw [hg] at hg'; injection hg' with hg'; injection hg' with e3 e4; subst e3
    have hj : j < n := by rw [← e1]; exact (List.getElem?_eq_some_iff.1 h1).1
    simp only [List.getElem?_map, List.getElem?_range hj, Option.map_some, Option.some.injEq, hc, Option.getD_some] at h2
    rw [← h2]; exact hR
  · have hj' : j < n := by
      have := (List.getElem?_eq_some_iff.1 hj).1
      simpa using this
    obtain ⟨a, ha⟩ : ∃ a, l[j]? = some a := ⟨_, List.getElem?_eq_getElem (by omega)⟩
    obtain ⟨g', q', u, hg', hc, hR⟩ := hr.cell (e2 j a ha)
    rw [hg] at hg'; injection hg' with hg'; injection hg' with e3 e4; subst e3
    simp only [List.getElem?_map, List.getElem?_range hj', Option.map_some, Option.some.injEq, hc, Option.getD_some] at hj
    rw [← hj]; exact hc
end
end Ev
end Go.Proofs.YtlgpacpebjechaaGreatDoor
/-
  The evaluator's operations, one by one: numbers, strings, addresses, loads.
-/
namespace Go.Proofs.YtlgpacpebjechaaGreatDoor
open Go.RowKit Go.Deep
namespace Ev
section
variable {σ : Sg} {u : Value}
theorem R_bool {b : Bool} (h : R σ (.bool b) u) : u = .bool b := by cases h; rfl
theorem R_int {j : IntKind} {n : Int} (h : R σ (.int j n) u) : u = .int j n := by cases h; rfl
theorem R_str {l : List Nat} (h : R σ (.str l) u) : u = .string (bs l) ∧ ∀ x ∈ l, x < 256 := by cases h; exact ⟨rfl, by assumption⟩
theorem R_ptr {b : Pa} {i : Nat} (h : R σ (.ptr b i) u) : ∃ g q, σ.blk b = some (g, q) ∧ u = .pointer (some ⟨g, i, none⟩) := by cases h; exact ⟨_, _, by assumption, rfl⟩
theorem R_slice {b : Pa} {i n j : Nat} (h : R σ (.slice b i n j) u) : ∃ g q, σ.blk b = some (g, q) ∧ u = .slice (some ⟨g, i, none⟩) n (q - j) := by cases h; exact ⟨_, _, by assumption, rfl⟩
theorem R_map {b : Pa} (h : R σ (.map b) u) : ∃ g q, σ.blk b = some (g, q) ∧ u = .map (some g) := by cases h; exact ⟨_, _, by assumption, rfl⟩
theorem R_fn {f : FuncId} {a c : List AV} (h : R σ (.fn f a c) u) : ∃ vs ws, Rs σ a vs ∧ Rs σ c ws ∧ u = .func (.func f) vs.toArray ws.toArray := by cases h; exact ⟨_, _, by assumption, by assumption, rfl⟩
theorem R_agg {l : List AV} (h : R σ (.agg l) u) : ∃ vs, Rs σ l vs ∧ u = .agg vs.toArray := by cases h; exact ⟨_, by assumption, rfl⟩
theorem R_tup {l : List AV} (h : R σ (.tup l) u) : ∃ vs, Rs σ l vs ∧ u = .tuple vs.toArray := by cases h; exact ⟨_, by assumption, rfl⟩
theorem R_nils (h : R σ .nils u) : u = .slice none 0 0 := by cases h; rfl
theorem R_nilm (h : R σ .nilm u) : u = .map none := by cases h; rfl
theorem R_cut (h : R σ .cut u) : ∃ A, u = .slice A 0 0 := by cases h; exact ⟨_, rfl⟩
theorem R_emp (h : R σ .emp u) : ∃ A c, u = .slice A 0 c := by cases h; exact ⟨_, _, rfl⟩
theorem R_undef : R σ undefA undef := .tup _ _ .nil
end
theorem wrapA_eq (k : IntKind) (n : Int) : wrapA k n = k.wrap n := by
  cases k with
  | i64 =>
    cases n with
    | ofNat m =>
      show iff (Nat.ble m 9223372036854775807) (IntKind.i64.wrap (.ofNat m)) (.ofNat m) = _
      rw [iff_ite]
      split
      · rename_i h
        have h := Nat.le_of_ble_eq_true h
        rw [IntKind.wrap_i64]
        have : (Int.ofNat m) = (m : Int) := rfl
        rw [this]; omega
      · rfl
    | negSucc m =>
      show iff (Nat.ble m 9223372036854775807) (IntKind.i64.wrap (.negSucc m)) (.negSucc m) = _
      rw [iff_ite]
      split
      · rename_i h
        have h := Nat.le_of_ble_eq_true h
        rw [IntKind.wrap_i64]
        have : (Int.negSucc m) = -(m : Int) - 1 := by omega
        rw [this]; omega
      · rfl
  | u8 =>
    rw [IntKind.wrap_u8]
    cases n with
    | ofNat m =>
      show ((m % 256 : Nat) : Int) = (m : Int) % 256
      omega
    | negSucc m =>
      have e : wrapA .u8 (Int.negSucc m) = ((255 - m % 256 : Nat) : Int) := rfl
      rw [e]
      omega
  | u64 =>
    cases n with
    | ofNat m =>
      rw [IntKind.wrap_u64]
      show ((m % 18446744073709551616 : Nat) : Int) = (m : Int) % 18446744073709551616
      omega
    | negSucc m => rfl
  | _ => rfl
theorem beqN (x y : Nat) : Nat.beq x y = decide (x = y) := by
  by_cases h : x = y
  · subst h; rw [decide_eq_true rfl]; exact Nat.beq_refl x
  · rw [decide_eq_false h]
    cases e : Nat.beq x y with
    | false => rfl
    | true => exact absurd (Nat.eq_of_beq_eq_true e) h
theorem bleN (x y : Nat) : Nat.ble x y = decide (x ≤ y) := by
  by_cases h : x ≤ y
  · rw [decide_eq_true h]; exact Nat.ble_eq_true_of_le h
  · rw [decide_eq_false h]
    cases e : Nat.ble x y with
    | false => rfl
    | true => exact absurd (Nat.le_of_ble_eq_true e) h
theorem ile_eq (a b : Int) : ile a b = decide (a ≤ b) := by
  cases a with
  | ofNat a =>
    cases b with
    | ofNat b => show Nat.ble a b = decide ((a : Int) ≤ (b : Int)); rw [bleN]; apply decide_eq_decide.2; omega
    | negSucc b => show false = decide ((a : Int) ≤ Int.negSucc b); symm; simp; omega
  | negSucc a =>
    cases b with
    | ofNat b => show true = decide (Int.negSucc a ≤ (b : Int)); symm; simp; omega
    | negSucc b => show Nat.ble b a = decide (Int.negSucc a ≤ Int.negSucc b); rw [bleN]; apply decide_eq_decide.2; omega
theorem ibeq_eq (a b : Int) : ibeq a b = decide (a = b) := by
  cases a with
  | ofNat a =>
    cases b with
    | ofNat b => show Nat.beq a b = decide ((a : Int) = (b : Int)); rw [beqN]; apply decide_eq_decide.2; omega
    | negSucc b => show false = decide ((a : Int) = Int.negSucc b); symm; simp
  | negSucc a =>
    cases b with
    | ofNat b => show false = decide (Int.negSucc a = (b : Int)); symm; simp
    | negSucc b => show Nat.beq a b = decide (Int.negSucc a = Int.negSucc b); rw [beqN]; apply decide_eq_decide.2; omega
theorem lbeq_eq : ∀ (l m : List Nat), lbeq l m = decide (l = m)
  | [], [] => rfl
  | [], _ :: _ => rfl
  | _ :: _, [] => rfl
  | x :: l, y :: m => by
    show iff (Nat.beq x y) false (lbeq l m) = _
    rw [iff_and, lbeq_eq l m, beqN, ← Bool.decide_and]
    apply decide_eq_decide.2
    simp
section
variable {P : Program} {nt : Nat} {cf : CF} {o : Oper}
theorem mov_pure {x : Operand} (ho : o.op = .move x) : PureS P nt cf (oMov (cO nt x)) o := by
  obtain ⟨dst, op, ty, pos, after, guard⟩ := o
  cases ho
  intro σ N e h a w k he hr hn
  exact ⟨_, _, rfl, R_cO he hr x, fun w' => rfl⟩
theorem assign_pure {x : Operand} (ho : o.op = .assign x) : PureS P nt cf (oMov (cO nt x)) o := by
  obtain ⟨dst, op, ty, pos, after, guard⟩ := o
  cases ho
  intro σ N e h a w k he hr hn
  exact ⟨_, _, rfl, R_cO he hr x, fun w' => rfl⟩
theorem pick_pure {q x y : Operand} (ho : o.op = .pick q x y) : PureS P nt cf (oPick (cO nt q) (cO nt x) (cO nt y)) o := by
  obtain ⟨dst, op, ty, pos, after, guard⟩ := o
  cases ho
  intro σ N e h a w k he hr hn
  obtain ⟨b, hb⟩ := onBool_ne hn
  have hq := R_cO he hr q
  rw [hb] at hq
  have hq := R_bool hq
  cases b with
  | true => exact ⟨_, _, by unfold oPick; rw [hb]; rfl, R_cO he hr x, fun w' => by simp [execOp, hq, asBool]⟩
  | false => exact ⟨_, _, by unfold oPick; rw [hb]; rfl, R_cO he hr y, fun w' => by simp [execOp, hq, asBool]⟩
theorem exec_bin {bop : BinOp} {ty ty' : TypeId} {x y : Operand} (ho : o.op = .binOp bop ty x y ty') (ρ : Operand → Value) : execOp ρ o = ((eqGuard bop ty x y (ρ x) (ρ y) >>= fun _ => binOp bop ty (ρ x) (ρ y)) >>= fun z => pure (.value z)) := by
  obtain ⟨dst, op, ty, pos, after, guard⟩ := o
  cases ho
  rfl
/-- two numbers -/
theorem int2_pure {bop : BinOp} {ty ty' : TypeId} {x y : Operand} {f : IntKind → Int → Int → AV} (ho : o.op = .binOp bop ty x y ty') (hg : bop ≠ .eql ∧ bop ≠ .neq) {s : IntKind → Int → Int → Value}
    (hf : ∀ (σ : Sg) j m n, R σ (f j m n) (s j m n)) (hs : ∀ j m n w, (binOp bop ty (.int j m) (.int j n)).run P w = .ok (s j m n) w) : PureS P nt cf (oInt2 f (cO nt x) (cO nt y)) o := by
  intro σ N e h a w k he hr hn
  obtain ⟨j, m, hx⟩ := onInt_ne hn
  unfold oInt2 at hn ⊢
  rw [hx] at hn ⊢
  obtain ⟨j', n, hy⟩ := onInt_ne (v := cO nt y e) hn
  rw [hy] at hn ⊢
  have hj := kbeq_eq (iff_ne (b := kbeq j j') hn)
  subst hj
  have h1 := R_cO he hr x
  have h2 := R_cO he hr y
  rw [hx] at h1
  rw [hy] at h2
  have h1 := R_int h1
  have h2 := R_int h2
  refine ⟨_, _, ?_, hf σ j m n, fun w' => ?_⟩
  · show iff (kbeq j j) .no (k (f j m n) h) = _
    rw [kbeq_self]; rfl
  · have hgd : (eqGuard bop ty x y (.int j m) (.int j n)).run P w' = .ok () w' := by
      unfold eqGuard
      cases bop <;> first | rfl | exact absurd rfl hg.1 | exact absurd rfl hg.2
    rw [exec_bin ho, h1, h2]
    simp only [Sem.run_bind, hgd, Result.andThen, hs, Sem.run_pure]
theorem add_pure {ty ty' : TypeId} {x y : Operand} (ho : o.op = .binOp .add ty x y ty') : PureS P nt cf (oAdd (cO nt x) (cO nt y)) o :=
  int2_pure ho ⟨by decide, by decide⟩ (s := fun j m n => .int j (j.wrap (m + n))) (fun σ j m n => by rw [wrapA_eq]; exact .int _ _) (fun j m n w => by simp [binOp, Op.intArith])
theorem sub_pure {ty ty' : TypeId} {x y : Operand} (ho : o.op = .binOp .sub ty x y ty') : PureS P nt cf (oSub (cO nt x) (cO nt y)) o :=
  int2_pure ho ⟨by decide, by decide⟩ (s := fun j m n => .int j (j.wrap (m - n))) (fun σ j m n => by rw [wrapA_eq]; exact .int _ _) (fun j m n w => by simp [binOp, Op.intArith])
theorem mul_pure {ty ty' : TypeId} {x y : Operand} (ho : o.op = .binOp .mul ty x y ty') : PureS P nt cf (oMul (cO nt x) (cO nt y)) o :=
  int2_pure ho ⟨by decide, by decide⟩ (s := fun j m n => .int j (j.wrap (m * n))) (fun σ j m n => by rw [wrapA_eq]; exact .int _ _) (fun j m n w => by simp [binOp, Op.intArith])
theorem lss_pure {ty ty' : TypeId} {x y : Operand} (ho : o.op = .binOp .lss ty x y ty') : PureS P nt cf (oLss (cO nt x) (cO nt y)) o :=
  int2_pure ho ⟨by decide, by decide⟩ (s := fun _ m n => .bool (decide (m < n))) (fun σ j m n => by rw [inot_eq, ile_eq, show (!decide (n ≤ m)) = decide (m < n) from by simp [← decide_not]]; exact .bool _) (fun j m n w => by simp [binOp, Op.intCmp])
theorem leq_pure {ty ty' : TypeId} {x y : Operand} (ho : o.op = .binOp .leq ty x y ty') : PureS P nt cf (oLeq (cO nt x) (cO nt y)) o :=
  int2_pure ho ⟨by decide, by decide⟩ (s := fun _ m n => .bool (decide (m ≤ n))) (fun σ j m n => by rw [ile_eq]; exact .bool _) (fun j m n w => by simp [binOp, Op.intCmp])
theorem gtr_pure {ty ty' : TypeId} {x y : Operand} (ho : o.op = .binOp .gtr ty x y ty') : PureS P nt cf (oGtr (cO nt x) (cO nt y)) o :=
  int2_pure ho ⟨by decide, by decide⟩ (s := fun _ m n => .bool (decide (m > n))) (fun σ j m n => by rw [inot_eq, ile_eq, show (!decide (m ≤ n)) = decide (m > n) from by simp [← decide_not]]; exact .bool _) (fun j m n w => by simp [binOp, Op.intCmp])
theorem geq_pure {ty ty' : TypeId} {x y : Operand} (ho : o.op = .binOp .geq ty x y ty') : PureS P nt cf (oGeq (cO nt x) (cO nt y)) o :=
  int2_pure ho ⟨by decide, by decide⟩ (s := fun _ m n => .bool (decide (m ≥ n))) (fun σ j m n => by rw [ile_eq]; exact .bool _) (fun j m n w => by simp [binOp, Op.intCmp])
end
end Ev
end Go.Proofs.YtlgpacpebjechaaGreatDoor
/-
  The evaluator's operations, one by one: equality, strings, bits, conversions.
-/
namespace Go.Proofs.YtlgpacpebjechaaGreatDoor
open Go.RowKit Go.Deep
namespace Ev
theorem bs_size (l : List Nat) : (bs l).size = l.length := by simp [bs, ByteArray.size]
theorem bs_toL (l : List Nat) : (bs l).toList = l.map UInt8.ofNat := by unfold bs; exact ByteArray.toList_mk _
theorem map_ofNat_inj : ∀ {l m : List Nat}, (∀ x ∈ l, x < 256) → (∀ x ∈ m, x < 256) → l.map UInt8.ofNat = m.map UInt8.ofNat → l = m
  | [], [], _, _, _ => rfl
  | [], _ :: _, _, _, h => by simp at h
  | _ :: _, [], _, _, h => by simp at h
  | x :: l, y :: m, hl, hm, h => by
    simp only [List.map_cons, List.cons.injEq] at h
    have h1 := congrArg UInt8.toNat h.1
    have hx := hl x (by simp)
    have hy := hm y (by simp)
    rw [UInt8.toNat_ofNat', UInt8.toNat_ofNat'] at h1
    have h1 : x = y := by omega
    rw [h1, map_ofNat_inj (fun z hz => hl z (by simp [hz])) (fun z hz => hm z (by simp [hz])) h.2]
theorem bs_inj {l m : List Nat} (hl : ∀ x ∈ l, x < 256) (hm : ∀ x ∈ m, x < 256) (h : bs l = bs m) : l = m := by
  have := congrArg ByteArray.toList h
  rw [bs_toL, bs_toL] at this
  exact map_ofNat_inj hl hm this
theorem bs_append (l m : List Nat) : bs l ++ bs m = bs (l ++ m) := by
  unfold bs
  rw [ByteArray.mk_append_mk, List.map_append]
section
variable {P : Program} {nt : Nat} {cf : CF} {o : Oper} {σ : Sg}
/-- two numbers or two strings -/
theorem beqA_spec {x y : AV} {u v : Value} (hx : R σ x u) (hy : R σ y v) {q : Bool} (h : beqA x y = some q) :
    (∃ j m n, u = .int j m ∧ v = .int j n ∧ q = decide (m = n)) ∨ (∃ l m, u = .string (bs l) ∧ v = .string (bs m) ∧ q = decide (l = m) ∧ (∀ z ∈ l, z < 256) ∧ ∀ z ∈ m, z < 256) := by
  cases x <;> first
    | (cases h; done)
    | skip
  · rename_i j m
    left
    cases y <;> first
      | (cases h; done)
      | skip
    rename_i j' n
    have h : iff (kbeq j j') none (some (ibeq m n)) = some q := h
    cases hk : kbeq j j' with
    | false => rw [hk] at h; cases h
    | true =>
      rw [hk] at h
      have h9 : ibeq m n = q := Option.some.inj h
      have := kbeq_eq hk
      subst this
      exact ⟨j, m, n, R_int hx, R_int hy, h9.symm.trans (ibeq_eq m n)⟩
  · rename_i l
    right
    cases y <;> first
      | (cases h; done)
      | skip
    rename_i m
    have h : lbeq l m = q := Option.some.inj h
    obtain ⟨h1, h2⟩ := R_str hx
    obtain ⟨h3, h4⟩ := R_str hy
    exact ⟨l, m, h1, h3, by rw [← h, lbeq_eq], h2, h4⟩
theorem beqA_run {x y : AV} {u v : Value} (hx : R σ x u) (hy : R σ y v) {q : Bool} (h : beqA x y = some q) (ty : TypeId) (p p' : Operand) (w : World) :
    ((eqGuard .eql ty p p' u v >>= fun _ => binOp .eql ty u v) : Sem Value).run P w = .ok (.bool q) w ∧ ((eqGuard .neq ty p p' u v >>= fun _ => binOp .neq ty u v) : Sem Value).run P w = .ok (.bool (!q)) w := by
  rcases beqA_spec hx hy h with ⟨j, m, n, rfl, rfl, rfl⟩ | ⟨l, m, rfl, rfl, rfl, h1, h2⟩
  · refine ⟨?_, ?_⟩
    · simp [eqGuard, binOp, Op.intCmp]
      by_cases e : m = n <;> simp [e]
    · simp [eqGuard, binOp, Op.intCmp]
      by_cases e : m = n <;> simp [e]
  · have e : ((bs l).toList == (bs m).toList) = decide (l = m) := by
      rw [bs_toL, bs_toL]
      by_cases e : l = m
      · subst e; simp
      · rw [decide_eq_false e]
        apply Bool.eq_false_iff.2
        intro k
        exact e (map_ofNat_inj h1 h2 (by simpa using k))
    refine ⟨?_, ?_⟩
    · simp [eqGuard, binOp, Op.stringOp, e]
    · simp [eqGuard, binOp, Op.stringOp, e]
theorem eq_pure {ty ty' : TypeId} {x y : Operand} (ho : o.op = .binOp .eql ty x y ty') : PureS P nt cf (oEq (cO nt x) (cO nt y)) o := by
  intro σ N e h a w k he hr hn
  obtain ⟨q, hq⟩ := onOpt_ne hn
  exact ⟨_, _, by unfold oEq; rw [hq]; rfl, .bool q, fun w' => by rw [exec_bin ho, Sem.run_bind, (beqA_run (R_cO he hr x) (R_cO he hr y) hq ty x y w').1]; rfl⟩
theorem ne_pure {ty ty' : TypeId} {x y : Operand} (ho : o.op = .binOp .neq ty x y ty') : PureS P nt cf (oNe (cO nt x) (cO nt y)) o := by
  intro σ N e h a w k he hr hn
  obtain ⟨q, hq⟩ := onOpt_ne hn
  exact ⟨_, _, by unfold oNe; rw [hq]; rfl, .bool (inot q), fun w' => by rw [exec_bin ho, Sem.run_bind, (beqA_run (R_cO he hr x) (R_cO he hr y) hq ty x y w').2, inot_eq]; rfl⟩
theorem run_equalB {ty : TypeId} (hu : P.underlying ty = some .bool) (a b : Bool) (w : World) : (Op.equal ty (.bool a) (.bool b)).run P w = .ok (a == b) w := by
  show (Op.equalIn (9999 + 1) ty (.bool a) (.bool b)).run P w = _
  rw [Op.equalIn, Sem.run_bind, run_underlying hu]
  rfl
theorem run_equalM {ty kt el : TypeId} (hu : P.underlying ty = some (.map kt el)) (r : Option Nat) (w : World) : (Op.equal ty (.map r) (.map none)).run P w = .ok r.isNone w := by
  show (Op.equalIn (9999 + 1) ty (.map r) (.map none)).run P w = _
  rw [Op.equalIn, Sem.run_bind, run_underlying hu]
  cases r <;> rfl
theorem run_equalS {ty el : TypeId} (hu : P.underlying ty = some (.slice el)) (r : Option Addr) (n c : Nat) (w : World) : (Op.equal ty (.slice r n c) (.slice none 0 0)).run P w = .ok r.isNone w := by
  show (Op.equalIn (9999 + 1) ty (.slice r n c) (.slice none 0 0)).run P w = _
  rw [Op.equalIn, Sem.run_bind, run_underlying hu]
  cases r <;> rfl
theorem eqB_pure {ty ty' : TypeId} {x y : Operand} (ho : o.op = .binOp .eql ty x y ty') (hu : P.underlying ty = some .bool) : PureS P nt cf (oEqB (cO nt x) (cO nt y)) o := by
  intro σ N e h a w k he hr hn
  obtain ⟨b, hb⟩ := onBool_ne hn
  unfold oEqB at hn ⊢
  rw [hb] at hn ⊢
  obtain ⟨b', hb'⟩ := onBool_ne (v := cO nt y e) hn
  rw [hb']
  have h1 := R_cO he hr x
  have h2 := R_cO he hr y
  rw [hb] at h1
  rw [hb'] at h2
  have h1 := R_bool h1
  have h2 := R_bool h2
  refine ⟨_, _, rfl, .bool _, fun w' => ?_⟩
  rw [exec_bin ho, h1, h2]
  simp only [eqGuard, binOp, Sem.run_bind, Sem.run_pure, Result.andThen_ok, run_equalB hu]
  cases b <;> cases b' <;> rfl
theorem neB_pure {ty ty' : TypeId} {x y : Operand} (ho : o.op = .binOp .neq ty x y ty') (hu : P.underlying ty = some .bool) : PureS P nt cf (oNeB (cO nt x) (cO nt y)) o := by
  intro σ N e h a w k he hr hn
  obtain ⟨b, hb⟩ := onBool_ne hn
  unfold oNeB at hn ⊢
  rw [hb] at hn ⊢
  obtain ⟨b', hb'⟩ := onBool_ne (v := cO nt y e) hn
  rw [hb']
  have h1 := R_cO he hr x
  have h2 := R_cO he hr y
  rw [hb] at h1
  rw [hb'] at h2
  have h1 := R_bool h1
  have h2 := R_bool h2
  refine ⟨_, _, rfl, .bool _, fun w' => ?_⟩
  rw [exec_bin ho, h1, h2]
  simp only [eqGuard, binOp, Sem.run_bind, Sem.run_pure, Result.andThen_ok, run_equalB hu]
  cases b <;> cases b' <;> rfl
theorem eqM_pure {ty ty' : TypeId} {x : Operand} {kt el : TypeId} (ho : o.op = .binOp .eql ty x (.const (.map none)) ty') (hu : P.underlying ty = some (.map kt el)) : PureS P nt cf (oEqM (cO nt x)) o := by
  intro σ N e h a w k he hr hn
  have h1 := R_cO he hr x
  unfold oEqM at hn ⊢
  cases hx : cO nt x e <;> first
    | (rw [hx] at hn; exact absurd rfl hn)
    | skip
  · rw [hx] at h1
    obtain ⟨g, q, _, h1⟩ := R_map h1
    refine ⟨_, _, rfl, .bool false, fun w' => ?_⟩
    rw [exec_bin ho, h1]
    have := run_equalM hu (some g) w'
    simp [eqGuard, binOp, this, Act.eval]
  · rw [hx] at h1
    have h1 := R_nilm h1
    refine ⟨_, _, rfl, .bool true, fun w' => ?_⟩
    rw [exec_bin ho, h1]
    have := run_equalM hu none w'
    simp [eqGuard, binOp, this, Act.eval]
theorem eqS_pure {ty ty' : TypeId} {x : Operand} {el : TypeId} (ho : o.op = .binOp .eql ty x (.const (.slice none 0 0)) ty') (hu : P.underlying ty = some (.slice el)) : PureS P nt cf (oEqS (cO nt x)) o := by
  intro σ N e h a w k he hr hn
  have h1 := R_cO he hr x
  unfold oEqS at hn ⊢
  cases hx : cO nt x e <;> first
    | (rw [hx] at hn; exact absurd rfl hn)
    | skip
  · rw [hx] at h1
    obtain ⟨g, q, _, h1⟩ := R_slice h1
    refine ⟨_, _, rfl, .bool false, fun w' => ?_⟩
    rw [exec_bin ho, h1]
    have := fun i n c => run_equalS hu (some ⟨g, i, none⟩) n c w'
    simp [eqGuard, binOp, this, Act.eval]
  · rw [hx] at h1
    have h1 := R_nils h1
    refine ⟨_, _, rfl, .bool true, fun w' => ?_⟩
    rw [exec_bin ho, h1]
    have := run_equalS hu none 0 0 w'
    simp [eqGuard, binOp, this, Act.eval]
theorem cat_pure {ty ty' : TypeId} {x y : Operand} (ho : o.op = .binOp .add ty x y ty') : PureS P nt cf (oCat (cO nt x) (cO nt y)) o := by
  intro σ N e h a w k he hr hn
  unfold oCat at hn ⊢
  obtain ⟨l, hl⟩ := onStr_ne hn
  rw [hl] at hn ⊢
  obtain ⟨m, hm⟩ := onStr_ne (v := cO nt y e) hn
  rw [hm] at hn ⊢
  have hb := iff_ne (b := iff (Nat.ble (lenN l) 1000000) false (Nat.ble (lenN m) 1000000)) hn
  have hb' := hb
  rw [iff_and, Bool.and_eq_true, bleN, bleN, lenN_eq, lenN_eq, decide_eq_true_eq, decide_eq_true_eq] at hb'
  have h1 := R_cO he hr x
  have h2 := R_cO he hr y
  rw [hl] at h1
  rw [hm] at h2
  obtain ⟨h1, k1⟩ := R_str h1
  obtain ⟨h2, k2⟩ := R_str h2
  refine ⟨.str (appN l m), .string (bs (l ++ m)), ?_, ?_, fun w' => ?_⟩
  · show iff (iff (Nat.ble (lenN l) 1000000) false (Nat.ble (lenN m) 1000000)) .no (k (.str (appN l m)) h) = _
    rw [hb]; rfl
  · rw [appN_eq]
    exact .str _ (fun z hz => (List.mem_append.1 hz).elim (k1 z) (k2 z))
  · rw [exec_bin ho, h1, h2]
    have := run_string_add_sum (P := P) w' (bs l) (bs m) (by rw [bs_size, bs_size]; omega)
    rw [bs_append] at this
    simp [eqGuard, binOp, this]
theorem not_pure {ty : TypeId} {x : Operand} (ho : o.op = .unOp .not ty x) : PureS P nt cf (oNot (cO nt x)) o := by
  obtain ⟨dst, op, ty, pos, after, guard⟩ := o
  cases ho
  intro σ N e h a w k he hr hn
  unfold oNot at hn ⊢
  obtain ⟨b, hb⟩ := onBool_ne hn
  rw [hb]
  have h1 := R_cO he hr x
  rw [hb] at h1
  have h1 := R_bool h1
  exact ⟨_, _, rfl, .bool _, fun w' => by simp [execOp, h1, Op.unary, inot_eq]⟩
theorem xor_pure {ty : TypeId} {x : Operand} (ho : o.op = .unOp .xor ty x) : PureS P nt cf (oXor (cO nt x)) o := by
  obtain ⟨dst, op, ty, pos, after, guard⟩ := o
  cases ho
  intro σ N e h a w k he hr hn
  unfold oXor at hn ⊢
  obtain ⟨j, n, hx⟩ := onInt_ne hn
  rw [hx] at hn ⊢
  have hj := iff_ne (b := kbeq j .u64) hn
  have hj' := kbeq_eq hj
  subst hj'
  cases n with
  | negSucc n => exact absurd rfl hn
  | ofNat n =>
    have hb := iff_ne (b := Nat.ble n 18446744073709551615) hn
    have h1 := R_cO he hr x
    rw [hx] at h1
    have h1 := R_int h1
    refine ⟨.int .u64 (.ofNat (Nat.xor 18446744073709551615 n)), _, ?_, .int _ _, fun w' => ?_⟩
    · show iff (Nat.ble n 18446744073709551615) .no (k (.int .u64 (.ofNat (Nat.xor 18446744073709551615 n))) h) = _
      rw [hb]; rfl
    · rw [bleN, decide_eq_true_eq] at hb
      have e : (18446744073709551615 ^^^ n) < 18446744073709551616 := Nat.xor_lt_two_pow (n := 64) (by decide) (by omega)
      have e2 : n % 18446744073709551616 = n := by omega
      have e3 : (18446744073709551615 ^^^ n) % 18446744073709551616 = 18446744073709551615 ^^^ n := by omega
      simp [execOp, h1, Op.unary, Op.intBits, IntKind.max, IntKind.signed, IntKind.bits, IntKind.wrap_u64]
      show ((18446744073709551615 ^^^ ((n : Int) % 18446744073709551616).toNat : Nat) : Int) % 18446744073709551616 = ((18446744073709551615 ^^^ n : Nat) : Int)
      rw [show ((n : Int) % 18446744073709551616).toNat = n from by omega]
      omega
theorem conv_pure {s d : TypeId} {x : Operand} {j0 j : IntKind} (ho : o.op = .convert s d x) (hs : P.underlying s = some (.int j0)) (hd : P.underlying d = some (.int j)) : PureS P nt cf (oConv j (cO nt x)) o := by
  obtain ⟨dst, op, ty, pos, after, guard⟩ := o
  cases ho
  intro σ N e h a w k he hr hn
  unfold oConv at hn ⊢
  obtain ⟨j', n, hx⟩ := onInt_ne hn
  rw [hx]
  have h1 := R_cO he hr x
  rw [hx] at h1
  have h1 := R_int h1
  exact ⟨_, .int j (j.wrap n), rfl, by rw [wrapA_eq]; exact .int _ _, fun w' => by simp [execOp, h1, convert, run_underlying hs, run_underlying hd, Conv.intToInt]⟩
end
end Ev
end Go.Proofs.YtlgpacpebjechaaGreatDoor
/-
  The evaluator's operations, one by one: division, bits, shifts; addresses, loads, slices, strings.
-/
namespace Go.Proofs.YtlgpacpebjechaaGreatDoor
open Go.RowKit Go.Deep
namespace Ev
theorem r_typeInfo {P : Program} {t : TypeId} {i : TypeInfo} (h : P.info? t = some i) (w : World) : (typeInfo t).run P w = .ok i w := run_typeInfo w h
theorem r_sizeOf {P : Program} {t : TypeId} {i : TypeInfo} (h : P.info? t = some i) (w : World) : (sizeOf t).run P w = .ok (P.cellsOf t) w := run_sizeOf w h
section
variable {P : Program} {nt : Nat} {cf : CF} {o : Oper} {σ : Sg}
theorem quo_pure {ty ty' : TypeId} {x y : Operand} (ho : o.op = .binOp .quo ty x y ty') : PureS P nt cf (oQuo (cO nt x) (cO nt y)) o := by
  intro σ N e h a w k he hr hn
  unfold oQuo at hn ⊢
  obtain ⟨j, m, hx⟩ := onInt_ne hn
  rw [hx] at hn ⊢
  obtain ⟨j', n, hy⟩ := onInt_ne (v := cO nt y e) hn
  rw [hy] at hn ⊢
  have hk := iff_ne (b := kbeq j j') hn
  have hj := kbeq_eq hk
  subst hj
  have h1 := R_cO he hr x
  have h2 := R_cO he hr y
  rw [hx] at h1
  rw [hy] at h2
  have h1 := R_int h1
  have h2 := R_int h2
  cases m with
  | negSucc m => rw [show onInt (.int j (.negSucc m)) Res.no _ = _ from rfl] at hn; exact absurd (by show iff (kbeq j j) Res.no Res.no = Res.no; rw [hk]; rfl) hn
  | ofNat m =>
    cases n with
    | negSucc n => exact absurd (by show iff (kbeq j j) Res.no Res.no = Res.no; rw [hk]; rfl) hn
    | ofNat n =>
      have hn' : iff (kbeq j j) .no (iff (Nat.beq n 0) (k (.int j (wrapA j (.ofNat (Nat.div m n)))) h) .no) ≠ .no := hn
      rw [hk] at hn'
      have hz := iff_ne' (b := Nat.beq n 0) hn'
      refine ⟨.int j (wrapA j (.ofNat (Nat.div m n))), _, ?_, .int _ _, fun w' => ?_⟩
      · show iff (kbeq j j) .no (iff (Nat.beq n 0) (k (.int j (wrapA j (.ofNat (Nat.div m n)))) h) .no) = _
        rw [hk, hz]; rfl
      · rw [beqN, decide_eq_false_iff_not] at hz
        have _hz' : ¬ ((n : Int) = 0) := by omega
        rw [exec_bin ho, h1, h2, wrapA_eq]
        simp [eqGuard, binOp, Op.intDiv]
        rw [if_neg hz]
        rfl
theorem rem_pure {ty ty' : TypeId} {x y : Operand} (ho : o.op = .binOp .rem ty x y ty') : PureS P nt cf (oRem (cO nt x) (cO nt y)) o := by
  intro σ N e h a w k he hr hn
  unfold oRem at hn ⊢
  obtain ⟨j, m, hx⟩ := onInt_ne hn
  rw [hx] at hn ⊢
  obtain ⟨j', n, hy⟩ := onInt_ne (v := cO nt y e) hn
  rw [hy] at hn ⊢
  have hk := iff_ne (b := kbeq j j') hn
  have hj := kbeq_eq hk
  subst hj
  have h1 := R_cO he hr x
  have h2 := R_cO he hr y
  rw [hx] at h1
  rw [hy] at h2
  have h1 := R_int h1
  have h2 := R_int h2
  cases m with
  | negSucc m => exact absurd (by show iff (kbeq j j) Res.no Res.no = Res.no; rw [hk]; rfl) hn
  | ofNat m =>
    cases n with
    | negSucc n => exact absurd (by show iff (kbeq j j) Res.no Res.no = Res.no; rw [hk]; rfl) hn
    | ofNat n =>
      have hn' : iff (kbeq j j) .no (iff (Nat.beq n 0) (k (.int j (.ofNat (Nat.mod m n))) h) .no) ≠ .no := hn
      rw [hk] at hn'
      have hz := iff_ne' (b := Nat.beq n 0) hn'
      refine ⟨.int j (.ofNat (Nat.mod m n)), _, ?_, .int _ _, fun w' => ?_⟩
      · show iff (kbeq j j) .no (iff (Nat.beq n 0) (k (.int j (.ofNat (Nat.mod m n))) h) .no) = _
        rw [hk, hz]; rfl
      · rw [beqN, decide_eq_false_iff_not] at hz
        have _hz' : ¬ ((n : Int) = 0) := by omega
        rw [exec_bin ho, h1, h2]
        simp [eqGuard, binOp, Op.intDiv]
        rw [if_neg hz]
        rfl
theorem bits_pure {bop : BinOp} {ty ty' : TypeId} {x y : Operand} {f : Nat → Nat → Nat} (ho : o.op = .binOp bop ty x y ty')
    (hs : ∀ m n : Nat, m < 18446744073709551616 → n < 18446744073709551616 → ∀ w, ((eqGuard bop ty x y (.int .u64 (m : Int)) (.int .u64 (n : Int)) >>= fun _ => binOp bop ty (.int .u64 (m : Int)) (.int .u64 (n : Int))) : Sem Value).run P w = .ok (.int .u64 ((f m n : Nat) : Int)) w) : PureS P nt cf (oBits f (cO nt x) (cO nt y)) o := by
  intro σ N e h a w k he hr hn
  unfold oBits at hn ⊢
  obtain ⟨j, m, hx⟩ := onInt_ne hn
  rw [hx] at hn ⊢
  obtain ⟨j', n, hy⟩ := onInt_ne (v := cO nt y e) hn
  rw [hy] at hn ⊢
  have hk := iff_ne (b := iff (kbeq j .u64) false (kbeq j' .u64)) hn
  have hk' := hk
  rw [iff_and, Bool.and_eq_true] at hk'
  have e1 := kbeq_eq hk'.1
  have e2 := kbeq_eq hk'.2
  subst e1 e2
  have h1 := R_cO he hr x
  have h2 := R_cO he hr y
  rw [hx] at h1
  rw [hy] at h2
  have h1 := R_int h1
  have h2 := R_int h2
  cases m with
  | negSucc m => exact absurd rfl hn
  | ofNat m =>
    cases n with
    | negSucc n => exact absurd rfl hn
    | ofNat n =>
      have hn' : iff (iff (Nat.ble m 18446744073709551615) false (Nat.ble n 18446744073709551615)) .no (k (.int .u64 (.ofNat (f m n))) h) ≠ .no := hn
      have hb := iff_ne hn'
      refine ⟨.int .u64 (.ofNat (f m n)), _, ?_, .int _ _, fun w' => ?_⟩
      · show iff (iff (Nat.ble m 18446744073709551615) false (Nat.ble n 18446744073709551615)) .no (k (.int .u64 (.ofNat (f m n))) h) = _
        rw [hb]; rfl
      · rw [iff_and, Bool.and_eq_true, bleN, bleN, decide_eq_true_eq, decide_eq_true_eq] at hb
        rw [exec_bin ho, h1, h2, Sem.run_bind]
        have := hs m n (by omega) (by omega) w'
        have e3 : ∀ z : Nat, Int.ofNat z = (z : Int) := fun _ => rfl
        rw [e3, e3, e3, this]
        rfl
theorem and_pure {ty ty' : TypeId} {x y : Operand} (ho : o.op = .binOp .and ty x y ty') : PureS P nt cf (oAnd (cO nt x) (cO nt y)) o :=
  bits_pure ho (fun m n hm hn w => by
    have e : m &&& n < 18446744073709551616 := Nat.lt_of_le_of_lt Nat.and_le_left hm
    simp [eqGuard, binOp, Op.intBits, IntKind.bits, IntKind.wrap_u64]
    have e9 : (BitVec.ofNat 64 m &&& BitVec.ofNat 64 n).toNat = m &&& n := by
      rw [BitVec.toNat_and, BitVec.toNat_ofNat, BitVec.toNat_ofNat, Nat.mod_eq_of_lt (by simpa using hm), Nat.mod_eq_of_lt (by simpa using hn)]
    show (((BitVec.ofNat 64 m &&& BitVec.ofNat 64 n).toNat : Nat) : Int) % 18446744073709551616 = ((m &&& n : Nat) : Int)
    rw [e9]
    omega)
theorem or_pure {ty ty' : TypeId} {x y : Operand} (ho : o.op = .binOp .or ty x y ty') : PureS P nt cf (oOr (cO nt x) (cO nt y)) o :=
  bits_pure ho (fun m n hm hn w => by
    have e : m ||| n < 18446744073709551616 := Nat.or_lt_two_pow (n := 64) hm hn
    simp [eqGuard, binOp, Op.intBits, IntKind.bits, IntKind.wrap_u64]
    have e9 : (BitVec.ofNat 64 m ||| BitVec.ofNat 64 n).toNat = m ||| n := by
      rw [BitVec.toNat_or, BitVec.toNat_ofNat, BitVec.toNat_ofNat, Nat.mod_eq_of_lt (by simpa using hm), Nat.mod_eq_of_lt (by simpa using hn)]
    show (((BitVec.ofNat 64 m ||| BitVec.ofNat 64 n).toNat : Nat) : Int) % 18446744073709551616 = ((m ||| n : Nat) : Int)
    rw [e9]
    omega)
theorem shl_pure {ty ty' : TypeId} {x y : Operand} (ho : o.op = .binOp .shl ty x y ty') : PureS P nt cf (oShl (cO nt x) (cO nt y)) o := by
  intro σ N e h a w k he hr hn
  unfold oShl at hn ⊢
  obtain ⟨j, m, hx⟩ := onInt_ne hn
  rw [hx] at hn ⊢
  obtain ⟨j', b, hy⟩ := onNat_ne (v := cO nt y e) hn
  rw [hy] at hn ⊢
  have hb := iff_ne (b := Nat.ble b 63) hn
  have hn : iff (Nat.ble b 63) .no (iff (kbeq j .u64) .no (Int.rec (motive := fun _ => Res) (fun a => k (.int j (wrapA j (.ofNat (Nat.shiftLeft a b)))) h) (fun _ => .no) m)) ≠ .no := hn
  rw [hb] at hn
  have hj := iff_ne (b := kbeq j .u64) hn
  have e1 := kbeq_eq hj
  subst e1
  have h1 := R_cO he hr x
  have h2 := R_cO he hr y
  rw [hx] at h1
  rw [hy] at h2
  have h1 := R_int h1
  have h2 := R_int h2
  cases m with
  | negSucc m => exact absurd rfl hn
  | ofNat m =>
    refine ⟨.int .u64 (wrapA .u64 (.ofNat (Nat.shiftLeft m b))), _, ?_, .int _ _, fun w' => ?_⟩
    · show iff (Nat.ble b 63) .no (k (.int .u64 (wrapA .u64 (.ofNat (Nat.shiftLeft m b)))) h) = _
      rw [hb]; rfl
    · rw [bleN, decide_eq_true_eq] at hb
      have hm : min b 64 = b := by omega
      have hlt : ¬ ((b : Int) < 0) := by omega
      rw [exec_bin ho, h1, h2, wrapA_eq]
      simp [eqGuard, binOp, Op.shift, hlt, IntKind.bits, hm]
      have e5 : ((Nat.shiftLeft m b : Nat) : Int) = (m : Int) * 2 ^ b := by
        show ((m <<< b : Nat) : Int) = _
        rw [Nat.shiftLeft_eq]
        push_cast
        rfl
      rw [← e5]
      rfl
theorem shr_pure {ty ty' : TypeId} {x y : Operand} (ho : o.op = .binOp .shr ty x y ty') : PureS P nt cf (oShr (cO nt x) (cO nt y)) o := by
  intro σ N e h a w k he hr hn
  unfold oShr at hn ⊢
  obtain ⟨j, m, hx⟩ := onInt_ne hn
  rw [hx] at hn ⊢
  obtain ⟨j', b, hy⟩ := onNat_ne (v := cO nt y e) hn
  rw [hy] at hn ⊢
  have hb := iff_ne (b := Nat.ble b 63) hn
  have hn : iff (Nat.ble b 63) .no (iff (iff (kbeq j .u64) (kbeq j .i64) true) .no (Int.rec (motive := fun _ => Res) (fun a => k (.int j (.ofNat (Nat.shiftRight a b))) h) (fun a => k (.int j (.negSucc (Nat.shiftRight a b))) h) m)) ≠ .no := hn
  rw [hb] at hn
  have hj := iff_ne (b := iff (kbeq j .u64) (kbeq j .i64) true) hn
  have hj2 : min b j.bits = b := by
    rw [bleN, decide_eq_true_eq] at hb
    cases h9 : kbeq j .u64 with
    | true => rw [kbeq_eq h9]; show min b 64 = b; omega
    | false =>
      rw [h9] at hj
      have hj : kbeq j .i64 = true := hj
      rw [kbeq_eq hj]; show min b 64 = b; omega
  have h1 := R_cO he hr x
  have h2 := R_cO he hr y
  rw [hx] at h1
  rw [hy] at h2
  have h1 := R_int h1
  have h2 := R_int h2
  have hlt : ¬ ((b : Int) < 0) := by omega
  have hpos : (0 : Int) < 2 ^ b := Int.pow_pos (by decide)
  cases m with
  | negSucc m =>
    refine ⟨.int j (.negSucc (Nat.shiftRight m b)), _, ?_, .int _ _, fun w' => ?_⟩
    · show iff (Nat.ble b 63) .no (iff (iff (kbeq j .u64) (kbeq j .i64) true) .no (k (.int j (.negSucc (Nat.shiftRight m b))) h)) = _
      rw [hb, hj]; rfl
    · rw [exec_bin ho, h1, h2]
      simp [eqGuard, binOp, Op.shift, hlt, hj2]
      have e5 : Int.fdiv (Int.negSucc m) (2 ^ b) = Int.negSucc (Nat.shiftRight m b) := by
        rw [Int.fdiv_eq_ediv_of_nonneg _ (Int.le_of_lt hpos)]
        have : (2 ^ b : Int) = ((2 ^ b : Nat) : Int) := by push_cast; rfl
        rw [this]
        show Int.negSucc m / ((2 ^ b : Nat) : Int) = Int.negSucc (m >>> b)
        rw [Nat.shiftRight_eq_div_pow]
        have h0 : 0 < 2 ^ b := Nat.two_pow_pos b
        rw [Int.negSucc_ediv _ (by exact_mod_cast h0)]
        have e6 : (Int.negSucc (m / 2 ^ b)) = -((m / 2 ^ b : Nat) : Int) - 1 := by omega
        rw [e6]
        have e7 : ((m : Int) / ((2 ^ b : Nat) : Int)) = ((m / 2 ^ b : Nat) : Int) := by push_cast; rfl
        have e8 : Int.ediv (m : Int) ((2 ^ b : Nat) : Int) = ((m / 2 ^ b : Nat) : Int) := e7
        rw [e8]; omega
      exact e5
  | ofNat m =>
    refine ⟨.int j (.ofNat (Nat.shiftRight m b)), _, ?_, .int _ _, fun w' => ?_⟩
    · show iff (Nat.ble b 63) .no (iff (iff (kbeq j .u64) (kbeq j .i64) true) .no (k (.int j (.ofNat (Nat.shiftRight m b))) h)) = _
      rw [hb, hj]; rfl
    · rw [exec_bin ho, h1, h2]
      simp [eqGuard, binOp, Op.shift, hlt, hj2]
      have e5 : Int.fdiv (m : Int) (2 ^ b) = ((Nat.shiftRight m b : Nat) : Int) := by
        rw [Int.fdiv_eq_ediv_of_nonneg _ (Int.le_of_lt hpos)]
        have : (2 ^ b : Int) = ((2 ^ b : Nat) : Int) := by push_cast; rfl
        rw [this]
        show (m : Int) / ((2 ^ b : Nat) : Int) = ((m >>> b : Nat) : Int)
        rw [Nat.shiftRight_eq_div_pow]
        push_cast
        rfl
      exact e5
end
end Ev
end Go.Proofs.YtlgpacpebjechaaGreatDoor
/-
  The evaluator's operations, one by one: addresses, loads, slices, strings, tuples, lengths.
-/
namespace Go.Proofs.YtlgpacpebjechaaGreatDoor
open Go.RowKit Go.Deep
namespace Ev
theorem cells_info {P : Program} {t : TypeId} (h : P.cellsOf t ≠ 0) : ∃ i, P.info? t = some i := by
  unfold Program.cellsOf at h
  cases hi : P.info? t with
  | none => rw [hi] at h; exact absurd rfl h
  | some i => exact ⟨i, rfl⟩
theorem cells_size {P : Program} {t : TypeId} {i : TypeInfo} (h : P.info? t = some i) : P.cellsOf t = i.size := by unfold Program.cellsOf; rw [h]; rfl
section
variable {P : Program} {nt : Nat} {cf : CF} {o : Oper} {σ : Sg}
theorem nil_pure {x : Operand} (ho : o.op = .nilCheck x) : PureS P nt cf (oNil (cO nt x)) o := by
  obtain ⟨dst, op, ty, pos, after, guard⟩ := o
  cases ho
  intro σ N e h a w k he hr hn
  unfold oNil at hn ⊢
  obtain ⟨b, i, hx⟩ := onPtr_ne hn
  rw [hx]
  have h1 := R_cO he hr x
  rw [hx] at h1
  obtain ⟨g, q, hg, h1⟩ := R_ptr h1
  exact ⟨_, _, rfl, .ptr b i g q hg, fun w' => by simp [execOp, h1]⟩
theorem field_pure {s : TypeId} {x : Operand} {f : Nat} {fs : Array Field} {fld : Field} (ho : o.op = .fieldAddr s x f) (hs : P.underlying s = some (.struct fs)) (hf : fs[f]? = some fld) (hz : P.cellsOf fld.type ≠ 0) : PureS P nt cf (oFieldAddr (cO nt x) fld.offset) o := by
  obtain ⟨dst, op, ty, pos, after, guard⟩ := o
  cases ho
  intro σ N e h a w k he hr hn
  unfold oFieldAddr at hn ⊢
  obtain ⟨b, i, hx⟩ := onPtr_ne hn
  rw [hx]
  have h1 := R_cO he hr x
  rw [hx] at h1
  obtain ⟨g, q, hg, h1⟩ := R_ptr h1
  obtain ⟨inf, hi⟩ := cells_info hz
  refine ⟨_, _, rfl, .ptr b (i + fld.offset) g q hg, fun w' => ?_⟩
  simp [execOp, h1, Instr.fieldAt, run_underlying hs, hf, Instr.sureAddr, fieldPlace, r_sizeOf hi, hz, addr_add]
theorem indexA_pure {t : TypeId} {x i : Operand} {n : Nat} {el : TypeId} {inf : TypeInfo} (ho : o.op = .indexAddr t x i) (hs : P.underlying t = some (.array n el)) (hi : P.info? el = some inf) : PureS P nt cf (oIndexA n (P.cellsOf el) (cO nt x) (cO nt i)) o := by
  obtain ⟨dst, op, ty, pos, after, guard⟩ := o
  cases ho
  intro σ N e h a w k he hr hn
  unfold oIndexA at hn ⊢
  obtain ⟨b, off, hx⟩ := onPtr_ne hn
  rw [hx] at hn ⊢
  obtain ⟨j, m, hy⟩ := onNat_ne (v := cO nt i e) hn
  rw [hy] at hn ⊢
  have hb := iff_ne (b := Nat.ble (Nat.succ m) n) hn
  have h1 := R_cO he hr x
  have h2 := R_cO he hr i
  rw [hx] at h1
  rw [hy] at h2
  obtain ⟨g, q, hg, h1⟩ := R_ptr h1
  have h2 := R_int h2
  refine ⟨.ptr b (off + m * P.cellsOf el), _, ?_, .ptr b _ g q hg, fun w' => ?_⟩
  · show iff (Nat.ble (Nat.succ m) n) .no (k (.ptr b (off + m * P.cellsOf el)) h) = _
    rw [hb]; rfl
  · rw [bleN, decide_eq_true_eq] at hb
    have hlt : (0 : Int) ≤ (m : Int) ∧ (m : Int) < (n : Int) := by omega
    simp [execOp, h1, h2, Instr.indexAt, run_underlying hs, Instr.sureAddr, asIntOf, r_sizeOf hi, addr_add]
    omega
theorem indexS_pure {t : TypeId} {x i : Operand} {el : TypeId} {inf : TypeInfo} (ho : o.op = .indexAddr t x i) (hs : P.underlying t = some (.slice el)) (hi : P.info? el = some inf) : PureS P nt cf (oIndexS (P.cellsOf el) (cO nt x) (cO nt i)) o := by
  obtain ⟨dst, op, ty, pos, after, guard⟩ := o
  cases ho
  intro σ N e h a w k he hr hn
  unfold oIndexS at hn ⊢
  cases hx : cO nt x e <;> first
    | (rw [hx] at hn; exact absurd rfl hn)
    | skip
  rename_i b off n c
  rw [hx] at hn
  obtain ⟨j, m, hy⟩ := onNat_ne (v := cO nt i e) hn
  have hn : onNat (cO nt i e) .no (fun i => iff (Nat.ble (Nat.succ i) n) .no (k (.ptr b (Nat.add off (Nat.mul i (P.cellsOf el)))) h)) ≠ .no := hn
  rw [hy] at hn
  have hb := iff_ne (b := Nat.ble (Nat.succ m) n) hn
  have h1 := R_cO he hr x
  have h2 := R_cO he hr i
  rw [hx] at h1
  rw [hy] at h2
  obtain ⟨g, q, hg, h1⟩ := R_slice h1
  have h2 := R_int h2
  refine ⟨.ptr b (off + m * P.cellsOf el), _, ?_, .ptr b _ g q hg, fun w' => ?_⟩
  · show onNat (cO nt i e) .no (fun i => iff (Nat.ble (Nat.succ i) n) .no (k (.ptr b (Nat.add off (Nat.mul i (P.cellsOf el)))) h)) = _
    rw [hy]
    show iff (Nat.ble (Nat.succ m) n) .no (k (.ptr b (off + m * P.cellsOf el)) h) = _
    rw [hb]; rfl
  · rw [bleN, decide_eq_true_eq] at hb
    have hlt : (0 : Int) ≤ (m : Int) ∧ (m : Int) < (n : Int) := by omega
    simp [execOp, h1, h2, Instr.indexAt, run_underlying hs, Instr.sureAddr, asIntOf, r_sizeOf hi, addr_add]
    omega
theorem bs_get (l : List Nat) (i : Nat) : (bs l)[i]? = (l[i]?).map UInt8.ofNat := by
  by_cases h : i < (bs l).size
  · rw [ByteArray.getElem?_lt' _ _ h]
    rw [bs_size] at h
    rw [List.getElem?_eq_getElem h]
    simp only [Option.map_some, Option.some.injEq]
    show (bs l).data[i]'(by simpa [bs] using h) = _
    simp [bs]
  · rw [ByteArray.getElem?_ge' _ _ h]
    rw [bs_size] at h
    rw [List.getElem?_eq_none (by omega)]
    rfl
theorem indexStr_pure {t : TypeId} {x i : Operand} (ho : o.op = .index t x i) (hs : P.underlying t = some .string) : PureS P nt cf (oIndexStr (cO nt x) (cO nt i)) o := by
  obtain ⟨dst, op, ty, pos, after, guard⟩ := o
  cases ho
  intro σ N e h a w k he hr hn
  unfold oIndexStr at hn ⊢
  obtain ⟨l, hx⟩ := onStr_ne hn
  rw [hx] at hn ⊢
  obtain ⟨j, m, hy⟩ := onNat_ne (v := cO nt i e) hn
  rw [hy] at hn ⊢
  obtain ⟨z, hz⟩ := onOpt_ne (v := nthN l m) hn
  have h1 := R_cO he hr x
  have h2 := R_cO he hr i
  rw [hx] at h1
  rw [hy] at h2
  obtain ⟨h1, hlt⟩ := R_str h1
  have h2 := R_int h2
  have hz' := hz
  rw [nthN_eq] at hz'
  have hb := hlt z (List.mem_of_getElem? hz')
  refine ⟨.int .u8 (.ofNat z), .int .u8 (z : Int), ?_, .int _ _, fun w' => ?_⟩
  · show onOpt (nthN l m) .no (fun b => k (.int .u8 (.ofNat b)) h) = _
    rw [hz]; rfl
  · have hg : (bs l)[m]? = some (UInt8.ofNat z) := by rw [bs_get, hz']; rfl
    have hzz : (UInt8.ofNat z).toNat = z := by rw [UInt8.toNat_ofNat']; omega
    simp [execOp, h1, h2, Instr.index, run_underlying hs, asIntOf, hg, hzz]
theorem extract_pure {x : Operand} {i : Nat} (ho : o.op = .extract x i) : PureS P nt cf (oExtract (cO nt x) i) o := by
  obtain ⟨dst, op, ty, pos, after, guard⟩ := o
  cases ho
  intro σ N e h a w k he hr hn
  unfold oExtract at hn ⊢
  obtain ⟨l, hx⟩ := onTup_ne hn
  rw [hx] at hn ⊢
  obtain ⟨v, hv⟩ := onOpt_ne (v := nth l i) hn
  have h1 := R_cO he hr x
  rw [hx] at h1
  obtain ⟨vs, hvs, h1⟩ := R_tup h1
  have hv' := hv
  rw [nth_eq] at hv'
  obtain ⟨u, hu, hR⟩ := hvs.get hv'
  refine ⟨v, u, ?_, hR, fun w' => ?_⟩
  · show onOpt (nth l i) .no (fun v => k v h) = _
    rw [hv]; rfl
  · simp [execOp, h1, Instr.extract, hu]
theorem mkfn_pure {f : FuncId} {xs ys : Array Operand} (ho : o.op = .makeFunc (.func f) xs ys) : PureS P nt cf (oMkfn f (xs.toList.map (cO nt)) (ys.toList.map (cO nt))) o := by
  obtain ⟨dst, op, ty, pos, after, guard⟩ := o
  cases ho
  intro σ N e h a w k he hr hn
  refine ⟨_, _, rfl, .fn f _ _ _ _ (Rs_cO he hr xs.toList) (Rs_cO he hr ys.toList), fun w' => ?_⟩
  simp [execOp, Instr.makeFunc]
  constructor <;> (apply Array.ext'; simp)
/-! loads -/
theorem load1_load {t : TypeId} {x : Operand} {inf : TypeInfo} {d : TypeDesc} (ho : o.op = .load t x) (_hi : P.info? t = some inf) (hd : P.underlying t = some d) (hagg : isAggB P t = false) : LoadS P nt cf 1 (cO nt x) (oLoad1 (cO nt x)) o := by
  obtain ⟨dst, op, ty, pos, after, guard⟩ := o
  cases ho
  intro σ N e h a w k he hr hn
  unfold oLoad1 at hn ⊢
  obtain ⟨b, i, hx⟩ := onPtr_ne hn
  rw [hx] at hn ⊢
  obtain ⟨v, hv⟩ := onOpt_ne (v := Tr.get (asRow (hget h b)) i) hn
  have h1 := R_cO he hr x
  rw [hx] at h1
  obtain ⟨g, q, hg, h1⟩ := R_ptr h1
  obtain ⟨g', q', u, hg', hu, hR⟩ := hr.cell hv
  rw [hg] at hg'; injection hg' with hg'; injection hg' with e1 e2; subst e1
  refine ⟨b, i, v, u, g, q, rfl, hg, ?_, hR, fun j hj => ?_, fun w' hk => ?_⟩
  · show onOpt (Tr.get (asRow (hget h b)) i) .no (fun v => k v h) = _
    rw [hv]; rfl
  · have : j = 0 := by omega
    subst this
    rw [Nat.add_zero, hu]; rfl
  · have hu' : w'.cell? ⟨g, i, none⟩ = some u := by have := hk 0 (by omega); rw [Nat.add_zero] at this; rw [this, hu]
    have hag : (isAgg t).run P w' = .ok false w' := by
      unfold isAgg
      rw [Sem.run_bind, run_underlying hd]
      unfold isAggB at hagg
      rw [hd] at hagg
      cases d <;> first | rfl | cases hagg
    simp [execOp, h1, Instr.loadAt, Instr.sureAddr, loadVar, hag, hu']
theorem loadn_load {t : TypeId} {x : Operand} {inf : TypeInfo} {d : TypeDesc} (ho : o.op = .load t x) (hi : P.info? t = some inf) (hd : P.underlying t = some d) (hagg : isAggB P t = true) (hpos : 0 < P.cellsOf t) : LoadS P nt cf (P.cellsOf t) (cO nt x) (oLoadn (P.cellsOf t) (cO nt x)) o := by
  obtain ⟨dst, op, ty, pos, after, guard⟩ := o
  cases ho
  intro σ N e h a w k he hr hn
  unfold oLoadn at hn ⊢
  obtain ⟨b, i, hx⟩ := onPtr_ne hn
  rw [hx] at hn ⊢
  obtain ⟨l, hl⟩ := onOpt_ne (v := readn (asRow (hget h b)) (P.cellsOf t) i) hn
  have h1 := R_cO he hr x
  rw [hx] at h1
  obtain ⟨g, q, hg, h1⟩ := R_ptr h1
  obtain ⟨g', q', vs, hg', hRs, hlen, hc⟩ := hr.cells hl hpos
  rw [hg] at hg'; injection hg' with hg'; injection hg' with e1 e2; subst e1
  have hvl : vs.length = P.cellsOf t := hRs.len.trans hlen
  refine ⟨b, i, .agg l, .agg vs.toArray, g, q, rfl, hg, ?_, .agg _ _ hRs, fun j hj => ?_, fun w' hk => ?_⟩
  · show onOpt (readn (asRow (hget h b)) (P.cellsOf t) i) .no (fun l => k (.agg l) h) = _
    rw [hl]; rfl
  · rw [hc j _ (List.getElem?_eq_getElem (by omega))]; rfl
  · have hag : (isAgg t).run P w' = .ok true w' := by
      unfold isAgg
      rw [Sem.run_bind, run_underlying hd]
      unfold isAggB at hagg
      rw [hd] at hagg
      cases d <;> first | rfl | cases hagg
    have hld : (loadCells (⟨g, i, none⟩ : Addr) (P.cellsOf t)).run P w' = .ok vs.toArray w' := by
      rw [← hvl]
      refine run_loadCells_list w' _ vs (fun j v hj => ?_)
      rw [addr_add, hk j (by have := (List.getElem?_eq_some_iff.1 hj).1; omega)]
      exact hc j v hj
    simp [execOp, h1, Instr.loadAt, Instr.sureAddr, loadVar, hag, r_sizeOf hi, hld]
end
end Ev
end Go.Proofs.YtlgpacpebjechaaGreatDoor
