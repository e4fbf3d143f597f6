/-
  Texts joined: The evaluator's operations, one by one: append; The evaluator's operations, one by one: append as it is compiled; The evaluator's operations: as they are compiled; The evaluator's steps: lists of operations; code, but for regions that draw; The evaluator's steps: regions that draw their order, all of whose heavy operations are bound.
-/
import Derived.Test.YtlgpacpebjechaaGreatDoorBC
import Derived.Deep.AppendSrc
import Derived.Lib.AppendZerosOnto
import Derived.Laws.AppendOwn
import Derived.LoopN
import Derived.Scope
/-
  The evaluator's operations, one by one: append.
-/
namespace Go.Proofs.YtlgpacpebjechaaGreatDoor
open Go.RowKit Go.Deep
namespace Ev
section
variable {P : Program} {nt : Nat} {cf : CF} {o : Oper} {σ : Sg} {N : Nat} {h : Hp} {w w' : World}
open Classical in
theorem hget_killed (h : Hp) (b : Pa) (x : Blk) (p : Pa) : hget ⟨HT.put h.n x (hput h b .none).t, Pa.succ h.n⟩ p = if p = h.n then x else if p = b then .none else hget h p := by
  by_cases e : p = h.n
  · subst e
    rw [if_pos rfl]
    exact ht_same _ _ _
  · rw [if_neg e]
    have h1 : hget ⟨HT.put h.n x (hput h b .none).t, Pa.succ h.n⟩ p = hget (hput h b .none) p := ht_other _ _ _ _ (Ne.symm e)
    rw [h1]
    by_cases e2 : p = b
    · subst e2; rw [if_pos rfl]; exact hget_same _ _ _
    · rw [if_neg e2]; exact hget_other _ _ (Ne.symm e2)
/-- a block is given up; another is laid in its place, or behind all -/
theorem HR.renew (hr : HR σ N h w) {b : Pa} {g0 q0 : Nat} (ho : ownB (hget h b) = true) (hb : σ.blk b = some (g0, q0)) (hos : w'.os = w.os) (ht : w'.tape = w.tape) (hou : w'.output = w.output) (hs : w.heap.size ≤ w'.heap.size)
    (hk : ∀ k, k < w.heap.size → k ≠ g0 → w'.heap[k]? = w.heap[k]?) (x : Blk) (_hx : ownB x = true) (g q : Nat) (hg : g = g0 ∨ w.heap.size ≤ g) (hok : BlkOK (σ.put h.n g q) N w' h.n x) :
    Go σ N h w (σ.put h.n g q) ⟨HT.put h.n x (hput h b .none).t, Pa.succ h.n⟩ w' := by
  have hfr := hr.fresh h.n (Nat.le_refl _)
  have hle := Sg.le_put (σ := σ) (p := h.n) g q hfr
  have hbn : b ≠ h.n := fun e => by rw [e, hfr] at hb; cases hb
  have hget := hget_killed h b x
  have hlt0 : g0 < w.heap.size := by
    obtain ⟨g1, q1, h1, h2⟩ := (hr.blk b).lt (fun e => by rw [e] at ho; cases ho)
    rw [hb] at h1; injection h1 with h1; injection h1 with h1 _; rw [h1]; exact h2
  have hown : ∀ p, ownB (Ev.hget ⟨HT.put h.n x (hput h b .none).t, Pa.succ h.n⟩ p) = true → p ≠ h.n → ownB (Ev.hget h p) = true ∧ p ≠ b := fun p hp e => by
    rw [hget p, if_neg e] at hp
    by_cases e2 : p = b
    · rw [if_pos e2] at hp; cases hp
    · rw [if_neg e2] at hp; exact ⟨hp, e2⟩
  have hfree : ∀ p q', p ≠ b → ownB (Ev.hget h p) = true → σ.blk p ≠ some (g, q') := fun p q' e hp hq => by
    rcases hg with rfl | hg
    · exact e (hr.inj p b g q' q0 hp ho hq hb)
    · obtain ⟨g1, q1, h1, h2⟩ := (hr.blk p).lt (fun e => by rw [e] at hp; cases hp)
      rw [hq] at h1; injection h1 with h1; injection h1 with h1 _; omega
  refine ⟨hle, ⟨Nat.le_trans hr.base hs, hle.2 _ _ hr.glob, hr.pos, fun p => ?_, fun p p' g1 q1 q2 h1 h2 e1 e2 => ?_, fun p hp => ?_⟩, hos, ht, hou, hs, fun k hk1 hn => hk k hk1 (fun e => hn b q0 ho (by rw [e]; exact hb)), fun p g1 q1 h1 e1 => ?_⟩
  · rw [hget p]
    by_cases e : p = h.n
    · subst e; rw [if_pos rfl]; exact hok
    · rw [if_neg e]
      by_cases e2 : p = b
      · rw [if_pos e2]; exact trivial
      · rw [if_neg e2]
        have h0 := hr.blk p
        by_cases hnone : Ev.hget h p = .none
        · rw [hnone]; exact trivial
        · obtain ⟨g1, q1, h1, h2⟩ := h0.lt hnone
          refine h0.keep hle (fun g' q' e' => ?_)
          rw [h1] at e'; injection e' with e'; injection e' with e3 e4; subst e3; subst e4
          refine hk g1 h2 (fun e5 => ?_)
          subst e5
          cases hx' : Ev.hget h p with
          | none => exact hnone hx'
          | row _ _ _ => exact e2 (hr.inj p b g1 q1 q0 (by rw [hx']; rfl) ho h1 hb)
          | map _ _ => exact e2 (hr.inj p b g1 q1 q0 (by rw [hx']; rfl) ho h1 hb)
          | ro _ _ =>
            rw [hx'] at h0
            obtain ⟨g6, q6, _, _, _, h6, h7, _⟩ := h0
            rw [h1] at h6; injection h6 with h6; injection h6 with h6 _; subst h6
            have h4 := hr.blk b
            cases hb' : Ev.hget h b with
            | none => rw [hb'] at ho; cases ho
            | ro _ _ => rw [hb'] at ho; cases ho
            | row _ _ _ => rw [hb'] at h4; obtain ⟨g5, _, _, _, h5, h6, _⟩ := h4; rw [hb] at h5; injection h5 with h5; injection h5 with h5 _; omega
            | map _ _ => rw [hb'] at h4; obtain ⟨g5, _, _, h5, h6, _⟩ := h4; rw [hb] at h5; injection h5 with h5; injection h5 with h5 _; omega
  · by_cases e : p = h.n <;> by_cases e' : p' = h.n
    · rw [e, e']
    · obtain ⟨h3, h4⟩ := hown p' h2 e'
      subst e
      rw [Sg.put_same] at e1
      rw [Sg.put_other _ _ _ e'] at e2
      injection e1 with e1; injection e1 with e5 e6; subst e5
      exact absurd e2 (hfree p' q2 h4 h3)
    · obtain ⟨h3, h4⟩ := hown p h1 e
      subst e'
      rw [Sg.put_same] at e2
      rw [Sg.put_other _ _ _ e] at e1
      injection e2 with e2; injection e2 with e5 e6; subst e5
      exact absurd e1 (hfree p q1 h4 h3)
    · rw [Sg.put_other _ _ _ e] at e1
      rw [Sg.put_other _ _ _ e'] at e2
      exact hr.inj p p' g1 q1 q2 (hown p h1 e).1 (hown p' h2 e').1 e1 e2
  · have hp : (Pa.succ h.n).num ≤ p.num := hp
    rw [num_succ] at hp
    rw [Sg.put_other _ _ _ (fun e => by rw [e] at hp; omega)]
    exact hr.fresh p (by omega)
  · by_cases e : p = h.n
    · subst e
      rw [Sg.put_same] at e1
      injection e1 with e1; injection e1 with e3 e4; subst e3
      rcases hg with rfl | hg
      · exact .inl ⟨b, q0, ho, hb⟩
      · exact .inr hg
    · rw [Sg.put_other _ _ _ e] at e1
      exact .inl ⟨p, q1, (hown p h1 e).1, e1⟩
/-- what is laid behind -/
structure Ap (P : Program) (t tx ty e : TypeId) (i : TypeInfo) (z : Value) (x : Value) (n : Nat) (news : List Value) (w : World) : Prop where
  len : news.length = n * i.size
  one : ∀ u ∈ news, u.oneCell' = true
  room : ∀ b off sLen sCap, sLen + n ≤ sCap → (∀ j, j < news.length → (w.cell? ⟨b, off + sLen * i.size + j, none⟩).isSome = true) → (∀ j, j < news.length → w.frozen? ⟨b, off + sLen * i.size + j, none⟩ = false) →
    (Builtin.append_ #[t, tx] ty #[.slice (some ⟨b, off, none⟩) sLen sCap, x]).run P w = .ok (.slice (some ⟨b, off, none⟩) (sLen + n) sCap) (w.setCells b (off + sLen * i.size) news)
  grow : ∀ (base : Option Addr) (sLen sCap : Nat) (olds : List Value), (Builtin.firstCells i.size sLen (.slice base sLen sCap)).run P w.drew = .ok olds.toArray w.drew → sCap < sLen + n → ((sLen + n : Nat) : Int) ≤ 9223372036854775807 → n * i.bytes ≤ 281474976710656 → Builtin.nextslicecap (sLen + n) sCap * i.bytes ≤ 281474976710656 →
    (Builtin.append_ #[t, tx] ty #[.slice base sLen sCap, x]).run P w = .ok (.slice (some ⟨w.heap.size, 0, none⟩) (sLen + n) (grownCap w (sLen + n) sCap e)) (w.drew.alloc (.cells ((olds ++ news).toArray ++ Builtin.zeroCells z.cells (grownCap w (sLen + n) sCap e - (sLen + n))) e))
theorem Ap.ofSrc {t tx ty e : TypeId} {i : TypeInfo} {z x : Value} {n : Nat} {news : List Value} (ht : P.underlying t = some (.slice e)) (hi : P.info? e = some i) (hz : i.zero = some z) (hs : Src P i.size tx x n news w) : Ap P t tx ty e i z x n news w :=
  ⟨hs.newsLen, hs.one, fun b off sLen sCap hroom hc hf => run_append_room_src w t tx ty e i ht hi b off sLen sCap x n news hs hroom hc hf,
    fun base sLen sCap olds hold hg h63 _ hfit => run_append_grow_src w t tx ty e i z ht hi hz base sLen sCap olds hold x n news hs hg h63 hfit⟩
theorem Ap.ofZeros {t tx ty e : TypeId} {i : TypeInfo} {z : Value} {n : Nat} {kq kn : IntKind} (ht : P.underlying t = some (.slice e)) (htn : P.underlying tx = some (.int kn)) (hi : P.info? e = some i) (hz : i.zero = some z) (hzs : z.cells.size = i.size) (h0 : 0 < n) (hs : 0 < i.size) (hb : n * i.bytes ≤ 281474976710656)
    (hn : n ≤ 1000000) (h1 : ∀ u ∈ (Builtin.zeroCells z.cells n).toList, u.oneCell' = true) : Ap P t tx ty e i z (.int kq n) n (Builtin.zeroCells z.cells n).toList w := by
  have hlen : (Builtin.zeroCells z.cells n).toList.length = n * i.size := by simp [Builtin.zeroCells, hzs]
  refine ⟨hlen, h1, fun b off sLen sCap hroom hc hf => ?_, fun base sLen sCap olds hold hg h63 h48 hfit => ?_⟩
  · have hst := run_storeCells_cells (P := P) b (off + sLen * i.size) (Builtin.zeroCells z.cells n).toList 0 w (by simpa using hc) (by simpa using hf) h1
    simp only [Nat.add_zero] at hst
    have hw : IntKind.i64.wrap (n : Int) = n := by rw [IntKind.wrap_i64]; omega
    have h48i : ¬ (281474976710656 < (n : Int) * (i.bytes : Int)) := by
      have : ((n * i.bytes : Nat) : Int) ≤ 281474976710656 := by omega
      rw [Int.natCast_mul] at this
      omega
    have hneg : ¬ ((n : Int) < 0) := by omega
    have hns : ¬ (n * i.size = 0) := Nat.mul_ne_zero (by omega) (by omega)
    simp [Builtin.append_, run_underlying ht, run_underlying htn, sizeOf, typeInfo, zeroValue, hi, hz, asInt, asIntOf, hw, h48i, hneg, hns, hroom, Addr.add_lit, hst]
  · have := Lib.run_append_grow_zeros (P := P) w t tx ty e i z kq kn ht htn hi hz base sLen sCap olds hold n h0 hs hg h63 h48 hfit
    rw [this]
    congr 4
    apply Array.ext'
    simp
theorem setL_app {os news : List Value} {cs : Array Value} (hl : os.length + news.length ≤ cs.size) (ho : ∀ (j : Nat) (v : Value), os[j]? = some v → cs[j]? = some v) (j : Nat) (v : Value) (hj : (os ++ news)[j]? = some v) : (setL cs os.length news)[j]? = some v := by
  rw [setL_get _ _ _ _ hl]
  by_cases h1 : j < os.length
  · rw [List.getElem?_append_left h1] at hj
    rw [if_neg (by omega)]; exact ho j v hj
  · rw [List.getElem?_append_right (by omega)] at hj
    have h2 := (List.getElem?_eq_some_iff.1 hj).1
    rw [if_pos (by omega)]; exact hj
noncomputable def growF (sz n : Nat) (l : List AV) (h : Hp) (b : Pa) (m : Nat) (k : K) : Nat → Nat → Tr → Res := fun sz' len tr => iff (iff (Nat.beq sz' sz) false (Nat.ble 1 sz)) .no
      (iff (Nat.beq len (Nat.mul m sz))
        (onOpt (readn tr (Nat.mul m sz) 0) .no (fun old => iff (Nat.ble (Nat.mul m sz) len) .no (trk (app old l) 0 .nil (fun i tr => hnew (hput h b .none) (.row sz i tr) (fun b h => k (.slice b 0 (Nat.add m n) 0) h)))))
        (trk l len tr (fun i tr => hnew (hput h b .none) (.row sz i tr) (fun b h => k (.slice b 0 (Nat.add m n) 0) h))))
theorem grow_slice (sz : Nat) (b : Pa) (off m j n : Nat) (l : List AV) (h : Hp) (k : K) : grow sz (.slice b off m j) n l h k = iff (Nat.ble n 1000000) .no (iff (iff (Nat.beq off 0) false (iff (Nat.beq j 0) false (Nat.ble m 1000000))) .no (onRow (hget h b) .no (growF sz n l h b m k))) := rfl
theorem grow_nils (sz n : Nat) (l : List AV) (h : Hp) (k : K) : grow sz .nils n l h k = iff (Nat.ble n 1000000) .no (trk l 0 .nil (fun j tr => hnew h (.row sz j tr) (fun b h => k (.slice b 0 n 0) h))) := rfl
theorem growF_eq {sz n : Nat} {l : List AV} {h : Hp} {b : Pa} {m : Nat} {k : K} {sz' len : Nat} {tr : Tr} (hlt : ∀ p v, Tr.get tr p = some v → p < len) (hn : growF sz n l h b m k sz' len tr ≠ .no) :
    ∃ tr', sz' = sz ∧ 1 ≤ sz ∧ m * sz ≤ len ∧ growF sz n l h b m k sz' len tr = k (.slice h.n 0 (m + n) 0) ⟨HT.put h.n (.row sz (m * sz + l.length) tr') (hput h b .none).t, Pa.succ h.n⟩ ∧
      ∀ p v, Tr.get tr' p = some v → (p < m * sz ∧ Tr.get tr p = some v) ∨ (m * sz ≤ p ∧ l[p - m * sz]? = some v) := by
  unfold growF at hn ⊢
  have hc := iff_ne hn
  rw [hc] at hn ⊢
  rw [iff_and, Bool.and_eq_true, beqN, bleN, decide_eq_true_eq, decide_eq_true_eq] at hc
  obtain ⟨rfl, h1⟩ := hc
  cases hb : Nat.beq len (Nat.mul m sz') with
  | false =>
    rw [hb] at hn
    have hn : onOpt (readn tr (Nat.mul m sz') 0) .no (fun old => iff (Nat.ble (Nat.mul m sz') len) .no (trk (app old l) 0 .nil (fun i tr => hnew (hput h b .none) (.row sz' i tr) (fun b h => k (.slice b 0 (Nat.add m n) 0) h)))) ≠ .no := hn
    obtain ⟨old, ho⟩ := onOpt_ne hn
    rw [ho] at hn
    have hn : iff (Nat.ble (Nat.mul m sz') len) .no (trk (app old l) 0 .nil (fun i tr => hnew (hput h b .none) (.row sz' i tr) (fun b h => k (.slice b 0 (Nat.add m n) 0) h))) ≠ .no := hn
    have hc2 := iff_ne hn
    have hc3 := hc2
    rw [bleN, decide_eq_true_eq] at hc3
    obtain ⟨e1, e2⟩ := readn_eq _ _ _ _ ho
    have e1 : old.length = m * sz' := e1
    refine ⟨laid (old ++ l) 0 .nil, rfl, h1, hc3, ?_, fun p v hp => ?_⟩
    · show onOpt (readn tr (Nat.mul m sz') 0) .no (fun old => iff (Nat.ble (Nat.mul m sz') len) .no (trk (app old l) 0 .nil (fun i tr => hnew (hput h b .none) (.row sz' i tr) (fun b h => k (.slice b 0 (Nat.add m n) 0) h)))) = _
      rw [ho]
      show iff (Nat.ble (Nat.mul m sz') len) .no (trk (app old l) 0 .nil (fun i tr => hnew (hput h b .none) (.row sz' i tr) (fun b h => k (.slice b 0 (Nat.add m n) 0) h))) = _
      rw [hc2]
      show trk (app old l) 0 .nil (fun i tr => hnew (hput h b .none) (.row sz' i tr) (fun b h => k (.slice b 0 (Nat.add m n) 0) h)) = _
      rw [trk_eq, app_eq, hnew_eq, Nat.zero_add, List.length_append, e1]
      rfl
    · have h3 := laid_nil hp
      by_cases h4 : p < old.length
      · rw [List.getElem?_append_left h4] at h3
        have := e2 p v h3
        rw [Nat.zero_add] at this
        exact .inl ⟨by omega, this⟩
      · rw [List.getElem?_append_right (by omega)] at h3
        exact .inr ⟨by omega, by rw [← e1]; exact h3⟩
  | true =>
    rw [hb] at hn
    rw [beqN, decide_eq_true_eq] at hb
    have hb : len = m * sz' := hb
    refine ⟨laid l len tr, rfl, h1, by omega, ?_, fun p v hp => ?_⟩
    · show trk l len tr (fun i tr => hnew (hput h b .none) (.row sz' i tr) (fun b h => k (.slice b 0 (Nat.add m n) 0) h)) = _
      rw [trk_eq, hnew_eq, hb]
      rfl
    · rcases laid_get l len tr p v hp with ⟨h3, h4⟩ | ⟨h3, h4⟩
      · exact .inr ⟨by omega, by rw [← hb]; exact h4⟩
      · have := hlt p v h4
        exact .inl ⟨by omega, h4⟩
theorem grow_ok {op : AOp} {t tx ty el : TypeId} {i : TypeInfo} {z x : Value} {n : Nat} {news : List Value} {l : List AV} {s : AV} {sv : Value} {e : EN} {a : Act} {k : K} {Q : Exit → Act → World → Prop} {next : Act → World → Prop}
    (hr : HR σ N h w) (hzs : z.cells.size = i.size) (hb1 : i.bytes ≤ 1000) (hap : Ap P t tx ty el i z x n news w) (hl : Rs σ l news) (hs : R σ s sv) (hn0 : 0 < n)
    (hop : op cf e h k = grow i.size s n l h k) (hn : op cf e h k ≠ .no) (hrun : (execOp a.eval o).run P w = ((Builtin.append_ #[t, tx] ty #[sv, x] >>= fun z => pure (.value z)) : Sem Next).run P w)
    (hk : ∀ v h' σ' u w' ds, op cf e h k = k v h' → Go σ N h w σ' h' w' → R σ' v u → (ds = a.defers ∨ ∃ ws : Array Value, ws.size = 3 ∧ ds = inert ws :: a.defers) → next (({ a with defers := ds } : Act).put o.dst u) w') : o.wp P a w next Q := by
  have hll := hl.len
  have hnl := hap.len
  have hfin : ∀ {v : AV} {h' : Hp} {σ' : Sg} {u : Value} {w' : World}, op cf e h k = k v h' → Go σ N h w σ' h' w' → R σ' v u → (Builtin.append_ #[t, tx] ty #[sv, x]).run P w = .ok u w' → o.wp P a w next Q := fun h1 h2 h3 h4 =>
    OpS.of_value (cf := cf) (k := k) (op := op) (e := e) (h := h) hk h1 h2 h3 (by rw [hrun, Sem.run_bind, h4]; rfl)
  -- a row that is made
  have hmade : ∀ (olds : List Value) (need cap' : Nat), olds.length + news.length = need * i.size → need ≤ cap' →
      ∀ (tr : Tr) (hp : Hp) (w1 : World) (σ' : Sg), σ.le σ' → (∀ p v, Tr.get tr p = some v → ∃ u, (olds ++ news)[p]? = some u ∧ R σ v u) → σ'.blk hp.n = some (w1.heap.size, cap') → N ≤ w1.heap.size →
      BlkOK σ' N (w1.alloc (.cells ((olds ++ news).toArray ++ Builtin.zeroCells z.cells (cap' - need)) el)) hp.n (.row i.size (need * i.size) tr) := by
    intro olds need cap' h2 h3 tr hp w1 σ' hle h4 h5 h6
    refine ⟨_, _, _, el, h5, h6, alloc_last _ _, .inr ?_, ?_, fun p v hpv => ?_⟩
    · simp only [Array.size_append, List.size_toArray, List.length_append, Builtin.zeroCells, Array.size_map, Array.size_range, hzs, h2]
      rw [← Nat.add_mul, Nat.add_sub_cancel' h3]
    · simp only [Array.size_append, List.size_toArray, List.length_append, h2]; omega
    · obtain ⟨u, h8, h9⟩ := h4 p v hpv
      have hlt := (List.getElem?_eq_some_iff.1 h8).1
      refine ⟨by rw [List.length_append] at hlt; omega, u, ?_, h9.mono hle⟩
      rw [Array.getElem?_append_left (by simpa using hlt)]
      simpa using h8
  have hn1 := hn
  rw [hop] at hn1
  cases s <;> first
    | (exfalso; apply hn1; unfold grow; cases Nat.ble n 1000000 <;> rfl; done)
    | skip
  · rename_i b off m j
    obtain ⟨g, q, hg, rfl⟩ := R_slice hs
    rw [grow_slice] at hop hn1
    have hc := iff_ne hn1
    rw [hc] at hop hn1
    rw [bleN, decide_eq_true_eq] at hc
    replace hop : op cf e h k = iff (iff (Nat.beq off 0) false (iff (Nat.beq j 0) false (Nat.ble m 1000000))) .no (onRow (hget h b) .no (growF i.size n l h b m k)) := hop
    replace hn1 : iff (iff (Nat.beq off 0) false (iff (Nat.beq j 0) false (Nat.ble m 1000000))) .no (onRow (hget h b) .no (growF i.size n l h b m k)) ≠ .no := hn1
    have hc2 := iff_ne hn1
    rw [hc2] at hop hn1
    rw [iff_and, iff_and, Bool.and_eq_true, Bool.and_eq_true, beqN, beqN, bleN, decide_eq_true_eq, decide_eq_true_eq, decide_eq_true_eq] at hc2
    obtain ⟨rfl, rfl, hm⟩ := hc2
    replace hop : op cf e h k = onRow (hget h b) .no (growF i.size n l h b m k) := hop
    replace hn1 : onRow (hget h b) .no (growF i.size n l h b m k) ≠ .no := hn1
    obtain ⟨sz', len, tr, hb⟩ := onRow_ne hn1
    rw [hb] at hop hn1
    replace hop : op cf e h k = growF i.size n l h b m k sz' len tr := hop
    have hblk := hr.blk b
    rw [hb] at hblk
    obtain ⟨g', q', cs, rty, hg', hN, hrow, hsz, hok⟩ := hblk
    rw [hg] at hg'; injection hg' with hg'; injection hg' with e1 e2; subst e1; subst e2
    obtain ⟨tr', rfl, hs1, hml, hF, htr⟩ := growF_eq (fun p v hp => (hok.get p v hp).1) hn1
    rw [hF] at hop
    have hcs : cs.size = q * i.size := hsz.resolve_left (by omega)
    have hle := hok.le
    have hown : ownB (hget h b) = true := by rw [hb]; rfl
    have holdl : (cs.toList.take (m * i.size)).length = m * i.size := by rw [List.length_take, Array.length_toList]; omega
    have hold : ∀ j v, (cs.toList.take (m * i.size))[j]? = some v → cs[j]? = some v := fun j v hj => by
      rw [List.getElem?_take] at hj
      split at hj
      · simpa using hj
      · cases hj
    have hcont : ∀ p v, Tr.get tr' p = some v → ∃ u, (cs.toList.take (m * i.size) ++ news)[p]? = some u ∧ R σ v u := fun p v hp => by
      rcases htr p v hp with ⟨h1, h2⟩ | ⟨h1, h2⟩
      · obtain ⟨_, u, h3, h4⟩ := hok.get p v h2
        refine ⟨u, ?_, h4⟩
        rw [List.getElem?_append_left (by omega), List.getElem?_take, if_pos h1]
        simpa using h3
      · obtain ⟨u, h3, h4⟩ := hl.get h2
        exact ⟨u, by rw [List.getElem?_append_right (by omega), holdl]; exact h3, h4⟩
    have hlen : m * i.size + l.length = (m + n) * i.size := by rw [Nat.add_mul]; omega
    have hplus : m * i.size + news.length = (m + n) * i.size := by rw [Nat.add_mul]; omega
    rw [hlen] at hop
    have hmon : ∀ q', σ.le (σ.put h.n g q') := fun q' => Sg.le_put _ _ (hr.fresh _ (Nat.le_refl _))
    by_cases hroom : m + n ≤ q
    · have hfit : (m + n) * i.size ≤ q * i.size := Nat.mul_le_mul_right _ hroom
      have hrun' := hap.room g 0 m q hroom (fun j hj => by
          rw [Nat.zero_add, cell_of_row w g _ cs rty _ hrow, Array.getElem?_eq_getElem (by omega)]; rfl) (fun j hj => by
          unfold World.frozen?
          rw [hrow]; simp)
      rw [Nat.zero_add] at hrun'
      obtain ⟨s1, s2, s3, s4⟩ := setCells_same news (m * i.size) w g
      refine hfin (w' := w.setCells g (m * i.size) news) hop (hr.renew hown hg s1 s2 s3 (Nat.le_of_eq s4.symm) (fun k' _ hk' => heap_setCells_ne _ _ _ _ _ hk') _ rfl g q (.inl rfl) ?_) (.slice _ _ _ _ _ _ (Sg.put_same _ _ _ _)) hrun'
      refine ⟨g, q, _, rty, Sg.put_same _ _ _ _, hN, heap_setCells _ _ _ _ _ _ _ hrow, .inr (by rw [setL_size, hcs]), by rw [setL_size]; omega, fun p v hp => ?_⟩
      obtain ⟨u, h1, h2⟩ := hcont p v hp
      have hlt := (List.getElem?_eq_some_iff.1 h1).1
      rw [List.length_append, holdl] at hlt
      refine ⟨by omega, u, ?_, h2.mono (hmon q)⟩
      have := setL_app (os := cs.toList.take (m * i.size)) (news := news) (cs := cs) (by omega) hold p u h1
      rwa [holdl] at this
    · have hmn : (m + n) * i.bytes ≤ 2000000 * 1000 := Nat.mul_le_mul (by omega) hb1
      have hnb : n * i.bytes ≤ 1000000 * 1000 := Nat.mul_le_mul hc hb1
      have hrun' := hap.grow (some ⟨g, 0, none⟩) m q (cs.toList.take (m * i.size)) (run_firstCells_some w.drew i.size m _ m q _ holdl (fun j v hj => by
          rw [addr_add, Nat.zero_add]
          exact (cell_of_row w.drew g j cs rty _ hrow).trans (hold j v hj))) (by omega) (by omega) (by omega) (growslice_fits (by omega) (by omega))
      have hmon' : σ.le (σ.put h.n w.heap.size (grownCap w (m + n) q el)) := Sg.le_put _ _ (hr.fresh _ (Nat.le_refl _))
      refine hfin (w' := w.drew.alloc (.cells ((cs.toList.take (m * i.size) ++ news).toArray ++ Builtin.zeroCells z.cells (grownCap w (m + n) q el - (m + n))) el)) hop (hr.renew (w' := w.drew.alloc (.cells ((cs.toList.take (m * i.size) ++ news).toArray ++ Builtin.zeroCells z.cells (grownCap w (m + n) q el - (m + n))) el)) hown hg rfl rfl rfl (by simp [World.alloc]) (fun k' hk1 _ => (MapKept.heap_alloc w.drew _).2 k' hk1) _ rfl w.heap.size (grownCap w (m + n) q el) (.inr (Nat.le_refl _)) ?_) (.slice _ _ _ _ _ _ (Sg.put_same _ _ _ _)) hrun'
      exact hmade _ (m + n) _ (by rw [holdl]; exact hplus) (grownCap_ge _ _ _ _) tr' h w.drew _ hmon' hcont (Sg.put_same _ _ _ _) hr.base
  · have hs' := R_nils hs
    subst hs'
    rw [grow_nils] at hop hn1
    have hc := iff_ne hn1
    rw [hc] at hop hn1
    rw [bleN, decide_eq_true_eq] at hc
    replace hop : op cf e h k = trk l 0 .nil (fun j tr => hnew h (.row i.size j tr) (fun b h => k (.slice b 0 n 0) h)) := hop
    rw [trk_eq, hnew_eq, Nat.zero_add, hll.symm, hnl] at hop
    have hnb : n * i.bytes ≤ 1000000 * 1000 := Nat.mul_le_mul hc hb1
    have hrun' := hap.grow none 0 0 [] (run_firstCells_none w.drew i.size 0 0 0) (by omega) (by omega) (by omega) (growslice_fits (by omega) (by rw [Nat.zero_add]; omega))
    rw [Nat.zero_add] at hrun'
    have hd := hr.drew
    have hmon' : σ.le (σ.put h.n w.drew.heap.size (grownCap w n 0 el)) := Sg.le_put _ _ (hr.fresh _ (Nat.le_refl _))
    refine hfin hop (hd.trans (hd.hr.alloc _ _ rfl (grownCap w n 0 el) ?_)) (.slice _ _ _ _ _ _ (Sg.put_same _ _ _ _)) hrun'
    exact hmade [] n _ (by simpa using hnl) (grownCap_ge _ _ _ _) _ h w.drew _ hmon' (fun p v hp => by
      have h3 := laid_nil hp
      obtain ⟨u, h4, h5⟩ := hl.get h3
      exact ⟨u, by simpa using h4, h5⟩) (Sg.put_same _ _ _ _) hr.base
end
end Ev
end Go.Proofs.YtlgpacpebjechaaGreatDoor
/-
  The evaluator's operations, one by one: append as it is compiled.
-/
namespace Go.Proofs.YtlgpacpebjechaaGreatDoor
open Go.RowKit Go.Deep
namespace Ev
section
variable {P : Program} {nt : Nat} {cf : CF} {o : Oper} {σ : Sg} {N : Nat} {h : Hp} {w w' : World}
theorem exec_append {q : Call} {s x : Operand} {t u : TypeId} (ho : o.op = .call q) (hq : q.callee = .builtin .append) (ha : q.args.toList = [s, x]) (ht : q.argTypes.toList = [t, u]) (ρ : Operand → Value) :
    execOp ρ o = (Builtin.append_ #[t, u] o.type #[ρ s, ρ x] >>= fun z => pure (.value z)) := by
  obtain ⟨cs, hx⟩ := exec_builtin ho hq ρ
  have e : Array.map ρ #[s, x] = #[ρ s, ρ x] := by simp
  rw [hx, args2 ha, tys2 ht, e]
  rfl
structure ElOK (P : Program) (el : TypeId) (i : TypeInfo) (z : Value) : Prop where
  hi : P.info? el = some i
  hz : i.zero = some z
  size : z.cells.size = i.size
  one : 1 ≤ i.size
  by1 : i.bytes ≤ 1000
theorem ElOK.of {el : TypeId} {z : List AV} (hz : zeroL P el = some z) (hl : z.length = P.cellsOf el) (h1 : 1 ≤ P.cellsOf el) (hb : P.bytesOf el ≤ 1000) : ∃ i v, ElOK P el i v ∧ P.cellsOf el = i.size ∧ ∀ σ, Rs σ z v.cells.toList := by
  obtain ⟨i, v, hi, hzv, hR⟩ := zeroL_R (σ := ⟨fun _ => none, 0⟩) hz
  have e := cellsOf_eq hi
  have hlen := hR.len
  rw [Array.length_toList] at hlen
  refine ⟨i, v, ⟨hi, hzv, by omega, by omega, by simpa [Program.bytesOf, hi] using hb⟩, e, fun σ => ?_⟩
  obtain ⟨i', v', hi', hzv', hR'⟩ := zeroL_R (σ := σ) hz
  rw [hi] at hi'; injection hi' with hi'; subst hi'
  rw [hzv] at hzv'; injection hzv' with hzv'; subst hzv'
  exact hR'
theorem append_some {q : Call} {s x : Operand} {t u el e2 : TypeId} {i : TypeInfo} {z : Value} (ho : o.op = .call q) (hq : q.callee = .builtin .append) (ha : q.args.toList = [s, x]) (ht : q.argTypes.toList = [t, u]) (hu : P.underlying t = some (.slice el)) (hux : P.underlying u = some (.slice e2)) (hel : ElOK P el i z) :
    OpS P nt cf (oAppend i.size (cO nt s) (cO nt x)) o := by
  intro σ N e h a w k Q next he hr hn hk
  have hs := R_cO he hr s
  have hx := R_cO he hr x
  have hn0 := hn
  unfold oAppend at hn0
  cases hv : cO nt x e <;> first
    | (rw [hv] at hn0; exact absurd rfl hn0)
    | skip
  rename_i b off n j
  rw [hv] at hn0 hx
  obtain ⟨g, q', hg, hx⟩ := R_slice hx
  have hn1 : onOpt (readn (asRow (hget h b)) (Nat.mul n i.size) off) .no (fun l => iff (iff (Nat.beq n 0) (allCell l) false) .no (grow i.size (cO nt s e) n l h k)) ≠ .no := hn0
  obtain ⟨l, hl⟩ := onOpt_ne hn1
  rw [hl] at hn1
  have hn2 : iff (iff (Nat.beq n 0) (allCell l) false) .no (grow i.size (cO nt s e) n l h k) ≠ .no := hn1
  have hc := iff_ne hn2
  have hop : oAppend i.size (cO nt s) (cO nt x) cf e h k = grow i.size (cO nt s e) n l h k := by
    unfold oAppend
    rw [hv]
    show onOpt (readn (asRow (hget h b)) (Nat.mul n i.size) off) .no (fun l => iff (iff (Nat.beq n 0) (allCell l) false) .no (grow i.size (cO nt s e) n l h k)) = _
    rw [hl]
    show iff (iff (Nat.beq n 0) (allCell l) false) .no (grow i.size (cO nt s e) n l h k) = _
    rw [hc]; rfl
  cases hb : Nat.beq n 0 with
  | true => rw [hb] at hc; cases hc
  | false =>
    rw [hb] at hc
    have hc : allCell l = true := hc
    have hn0' : 0 < n := by
      rw [beqN, decide_eq_false_iff_not] at hb
      omega
    have hpos : 0 < n * i.size := Nat.mul_pos hn0' (by have := hel.one; omega)
    obtain ⟨g', q2, vs, hg', hvs, hlen, hcells⟩ := hr.cells hl hpos
    rw [hg] at hg'; injection hg' with hg'; injection hg' with e1 e2; subst e1
    have hsrc := Src.ofSlice (P := P) w (size := i.size) hux ⟨g, off, none⟩ n (q' - j) vs (by rw [hvs.len, hlen]; rfl) (fun j v hj => by rw [addr_add]; exact hcells j v hj) (allCell_R hvs hc)
    refine grow_ok (cf := cf) hr hel.size hel.by1 (Ap.ofSrc (ty := o.type) hu hel.hi hel.hz hsrc) hvs hs hn0' hop hn ?_ hk
    rw [exec_append ho hq ha ht, hx]
theorem appendZ_op {q : Call} {s x : Operand} {t u el : TypeId} {kn : IntKind} {z : List AV} (ho : o.op = .call q) (hq : q.callee = .builtin .append) (ha : q.args.toList = [s, x]) (ht : q.argTypes.toList = [t, u]) (hu : P.underlying t = some (.slice el)) (hux : P.underlying u = some (.int kn)) (hz : zeroL P el = some z)
    (hb : (P.bytesOf el ≤ 1000 && 1 ≤ P.bytesOf el && z.length == P.cellsOf el && 1 ≤ P.cellsOf el) = true) : OpS P nt cf (oAppendZ (P.cellsOf el) z (cO nt s) (cO nt x)) o := by
  simp only [Bool.and_eq_true, decide_eq_true_eq, beq_iff_eq] at hb
  obtain ⟨⟨⟨hb1, hb2⟩, hb3⟩, hb4⟩ := hb
  obtain ⟨i, v, hel, hcs, hzR⟩ := ElOK.of hz hb3 hb4 hb1
  intro σ N e h a w k Q next he hr hn hk
  have hs := R_cO he hr s
  have hx := R_cO he hr x
  have hn0 := hn
  unfold oAppendZ at hn0
  obtain ⟨j, n, hv⟩ := onNat_ne hn0
  rw [hv] at hn0 hx
  have hn2 : iff (iff (Nat.beq n 0) (iff (Nat.ble n 1000000) false (allCell z)) false) .no (grow (P.cellsOf el) (cO nt s e) n (zeros z n) h k) ≠ .no := hn0
  have hc := iff_ne hn2
  have hop : oAppendZ (P.cellsOf el) z (cO nt s) (cO nt x) cf e h k = grow (P.cellsOf el) (cO nt s e) n (zeros z n) h k := by
    unfold oAppendZ
    rw [hv]
    show iff (iff (Nat.beq n 0) (iff (Nat.ble n 1000000) false (allCell z)) false) .no (grow (P.cellsOf el) (cO nt s e) n (zeros z n) h k) = _
    rw [hc]; rfl
  cases hb : Nat.beq n 0 with
  | true => rw [hb] at hc; cases hc
  | false =>
    rw [hb] at hc
    have hc : iff (Nat.ble n 1000000) false (allCell z) = true := hc
    rw [iff_and, Bool.and_eq_true, bleN, decide_eq_true_eq] at hc
    obtain ⟨hc1, hc2⟩ := hc
    have hn0' : 0 < n := by
      rw [beqN, decide_eq_false_iff_not] at hb
      omega
    have hR : Rs σ (zeros z n) (Builtin.zeroCells v.cells n).toList := zeros_R (hzR σ) n (n * v.cells.size) (by omega) (by rw [hel.size, hb3, hcs])
    have hone : ∀ u ∈ (Builtin.zeroCells v.cells n).toList, u.oneCell' = true := by
      intro u hu
      rw [Array.mem_toList_iff] at hu
      unfold Builtin.zeroCells at hu
      obtain ⟨m, hm, rfl⟩ := Array.mem_map.1 hu
      have hpos : 0 < v.cells.size := by have := hel.one; have := hel.size; omega
      rw [getElem!_pos v.cells (m % v.cells.size) (Nat.mod_lt _ hpos)]
      exact allCell_R (hzR σ) hc2 _ (by simp)
    have hbn : n * i.bytes ≤ 1000000 * 1000 := Nat.mul_le_mul hc1 hel.by1
    rw [hcs] at hop hn hk
    refine grow_ok (cf := cf) hr hel.size hel.by1 (Ap.ofZeros (kq := j) (ty := o.type) hu hux hel.hi hel.hz hel.size hn0' hel.one (by omega) hc1 hone) hR hs hn0' hop hn ?_ hk
    rw [exec_append ho hq ha ht, R_int hx]; rfl
theorem append0_op {q : Call} {s x : Operand} {t u el e2 : TypeId} (ho : o.op = .call q) (hq : q.callee = .builtin .append) (ha : q.args.toList = [s, x]) (ht : q.argTypes.toList = [t, u]) (hu : P.underlying t = some (.slice el)) (hux : P.underlying u = some (.slice e2))
    (hb : (P.bytesOf el ≤ 1000 && 1 ≤ P.bytesOf el && (zeroL P el).any (fun z => z.length == P.cellsOf el) && 1 ≤ P.cellsOf el) = true) : OpS P nt cf (oAppend0 (P.cellsOf el) (cO nt s) (cO nt x)) o := by
  simp only [Bool.and_eq_true, decide_eq_true_eq] at hb
  obtain ⟨⟨⟨hb1, hb2⟩, hb3⟩, hb4⟩ := hb
  obtain ⟨z, hz, hb3⟩ : ∃ z, zeroL P el = some z ∧ z.length = P.cellsOf el := by
    cases hz : zeroL P el with
    | none => rw [hz] at hb3; cases hb3
    | some z => rw [hz] at hb3; exact ⟨z, rfl, by simpa using hb3⟩
  obtain ⟨i, v, hel, hcs, hzR⟩ := ElOK.of hz hb3 hb4 hb1
  have hgen := append_some (nt := nt) (cf := cf) (i := i) ho hq ha ht hu hux hel
  rw [hcs]
  intro σ N e h a w k Q next he hr hn hk
  have hs := R_cO he hr s
  have hx := R_cO he hr x
  -- nothing is laid behind
  have hnone : ∀ A c, a.eval x = .slice A 0 c → oAppend0 i.size (cO nt s) (cO nt x) cf e h k = onSlice (cO nt s e) .no (k .nils h) .no .no (fun b o n j => onRow (hget h b) .no (fun sz' len _ => iff (iff (Nat.beq sz' i.size) false (iff (Nat.ble 1 i.size) false (Nat.ble (Nat.mul (Nat.add j n) i.size) len))) .no (k (.slice b o n j) h))) → o.wp P a w next Q := by
    intro A c hxv hop
    rw [hop] at hn hk
    have hsrc : (Builtin.firstCells i.size 0 (.slice A 0 c)).run P w = .ok #[] w := by
      cases A with
      | none => exact run_firstCells_none w i.size 0 0 c
      | some A => exact run_firstCells_some w i.size 0 A 0 c [] (by simp) (by simp)
    cases hv : cO nt s e <;> first
      | (rw [hv] at hn; exact absurd rfl hn)
      | skip
    · rename_i b off n j
      rw [hv] at hn hs
      obtain ⟨g, q', hg, hs⟩ := R_slice hs
      have hn1 : onRow (hget h b) .no (fun sz' len _ => iff (iff (Nat.beq sz' i.size) false (iff (Nat.ble 1 i.size) false (Nat.ble (Nat.mul (Nat.add j n) i.size) len))) .no (k (.slice b off n j) h)) ≠ .no := hn
      obtain ⟨sz', len, tr, hb'⟩ := onRow_ne hn1
      rw [hb'] at hn1
      have hn2 : iff (iff (Nat.beq sz' i.size) false (iff (Nat.ble 1 i.size) false (Nat.ble (Nat.mul (Nat.add j n) i.size) len))) .no (k (.slice b off n j) h) ≠ .no := hn1
      have hc := iff_ne hn2
      have hop2 : onSlice (cO nt s e) .no (k .nils h) .no .no (fun b o n j => onRow (hget h b) .no (fun sz' len _ => iff (iff (Nat.beq sz' i.size) false (iff (Nat.ble 1 i.size) false (Nat.ble (Nat.mul (Nat.add j n) i.size) len))) .no (k (.slice b o n j) h))) = k (.slice b off n j) h := by
        rw [hv]
        show onRow (hget h b) .no (fun sz' len _ => iff (iff (Nat.beq sz' i.size) false (iff (Nat.ble 1 i.size) false (Nat.ble (Nat.mul (Nat.add j n) i.size) len))) .no (k (.slice b off n j) h)) = _
        rw [hb']
        show iff (iff (Nat.beq sz' i.size) false (iff (Nat.ble 1 i.size) false (Nat.ble (Nat.mul (Nat.add j n) i.size) len))) .no (k (.slice b off n j) h) = _
        rw [hc]; rfl
      rw [iff_and, iff_and, Bool.and_eq_true, Bool.and_eq_true, beqN, bleN, bleN, decide_eq_true_eq, decide_eq_true_eq, decide_eq_true_eq] at hc
      obtain ⟨rfl, hc1, hc2⟩ := hc
      have hc2 : (j + n) * i.size ≤ len := hc2
      have hblk := hr.blk b
      rw [hb'] at hblk
      obtain ⟨g', q2, cs, rty, hg', hN, hrow, hsz, hok⟩ := hblk
      rw [hg] at hg'; injection hg' with hg'; injection hg' with e1 e2; subst e1; subst e2
      have hcs := hsz.resolve_left (by omega)
      have hle := hok.le
      have hjn : j + n ≤ q' := Nat.le_of_mul_le_mul_right (by omega) hel.one
      rw [hop2] at hk
      have := OpS.of_value (op := fun _ _ _ _ => k (.slice b off n j) h) (cf := cf) (k := k) (e := e) (h := h) hk rfl (Go.refl hr) (R.slice _ _ _ _ _ _ hg) (w' := w) (o := o) (P := P) (Q := Q) ?_
      · exact this
      · rw [exec_append ho hq ha ht, hs, hxv, Sem.run_bind]
        have hroom : n ≤ q' - j := by omega
        simp [Builtin.append_, run_underlying hu, run_underlying hux, sizeOf, typeInfo, hel.hi, Builtin.lenOf, if_pos hroom, hsrc, storeCells]
    · rw [hv] at hs
      have hs := R_nils hs
      have hop2 : onSlice (cO nt s e) .no (k .nils h) .no .no (fun b o n j => onRow (hget h b) .no (fun sz' len _ => iff (iff (Nat.beq sz' i.size) false (iff (Nat.ble 1 i.size) false (Nat.ble (Nat.mul (Nat.add j n) i.size) len))) .no (k (.slice b o n j) h))) = k .nils h := by
        rw [hv]; rfl
      rw [hop2] at hk
      have := OpS.of_value (op := fun _ _ _ _ => k .nils h) (cf := cf) (k := k) (e := e) (h := h) hk rfl (Go.refl hr) R.nils (w' := w) (o := o) (P := P) (Q := Q) ?_
      · exact this
      · rw [exec_append ho hq ha ht, hs, hxv, Sem.run_bind]
        simp [Builtin.append_, run_underlying hu, run_underlying hux, sizeOf, typeInfo, hel.hi, Builtin.lenOf, hsrc]
  cases hv : cO nt x e <;> first
    | (have hop : oAppend0 i.size (cO nt s) (cO nt x) cf e h k = oAppend i.size (cO nt s) (cO nt x) cf e h k := by
         unfold oAppend0; rw [hv]; rfl
       rw [hop] at hn hk
       exact hgen σ N e h a w k Q next he hr hn hk)
    | (exfalso; apply hn; unfold oAppend0; rw [hv]; rfl; done)
    | skip
  · rw [hv] at hx
    refine hnone none 0 (R_nils hx) ?_
    unfold oAppend0; rw [hv]; rfl
  · rw [hv] at hx
    obtain ⟨A, c, hx⟩ := R_emp hx
    refine hnone A c hx ?_
    unfold oAppend0; rw [hv]; rfl
end
end Ev
end Go.Proofs.YtlgpacpebjechaaGreatDoor
/-
  The evaluator's operations: as they are compiled.
-/
namespace Go.Proofs.YtlgpacpebjechaaGreatDoor
open Go.RowKit Go.Deep
namespace Ev
structure Flats (P : Program) : Prop where
  f38 : Flat P 38 (P.cellsOf 38)
  f122 : FlatK P 122 (P.cellsOf 122)
  f179 : FlatK P 179 (P.cellsOf 179)
  u38 : ∃ n el, P.underlying 38 = some (.array n el)
section
variable {P : Program} {nt : Nat} {cf : CF} {o : Oper}
theorem PureS.of_stuck : PureS P nt cf oStuck o := fun _ _ _ _ _ _ _ _ _ hn => absurd rfl hn
theorem Flats.flat (hF : Flats P) {ty : TypeId} (h : flatB ty = true) : Flat P ty (P.cellsOf ty) := by
  simp only [flatB, Bool.or_eq_true, beq_iff_eq] at h
  rcases h with (rfl | rfl) | rfl
  · exact hF.f38
  · exact hF.f122.fl
  · exact hF.f179.fl
theorem cEq_pure (hF : Flats P) {ty ty' : TypeId} {x y : Operand} {neg : Bool} (ho : o.op = .binOp (if neg then .neq else .eql) ty x y ty') : PureS P nt cf (cEq P nt ty x y neg) o := by
  unfold cEq
  split
  · cases neg
    · exact eq_pure ho
    · exact ne_pure ho
  · cases neg
    · exact eq_pure ho
    · exact ne_pure ho
  · rename_i hu
    cases neg
    · exact eqB_pure ho hu
    · exact neB_pure ho hu
  · split
    · rename_i hf
      cases neg
      · exact eqL_pure ho (hF.flat hf)
      · exact neL_pure ho (hF.flat hf)
    · exact PureS.of_stuck
  · split
    · rename_i hf
      cases neg
      · exact eqL_pure ho (hF.flat hf)
      · exact neL_pure ho (hF.flat hf)
    · exact PureS.of_stuck
  · rename_i hu
    split
    · cases neg
      · exact eqM_pure ho hu
      · exact PureS.of_stuck
    · exact PureS.of_stuck
  · rename_i hu
    split
    · cases neg
      · exact eqS_pure ho hu
      · exact PureS.of_stuck
    · exact PureS.of_stuck
  · exact PureS.of_stuck
theorem cBin_pure (hF : Flats P) {op : BinOp} {ty ty' : TypeId} {x y : Operand} (ho : o.op = .binOp op ty x y ty') : PureS P nt cf (cBin P nt op ty x y) o := by
  cases op <;> first
    | exact PureS.of_stuck
    | exact cEq_pure (neg := false) hF ho
    | exact cEq_pure (neg := true) hF ho
    | exact sub_pure ho
    | exact mul_pure ho
    | exact quo_pure ho
    | exact rem_pure ho
    | exact and_pure ho
    | exact or_pure ho
    | exact shl_pure ho
    | exact shr_pure ho
    | exact lss_pure ho
    | exact leq_pure ho
    | exact gtr_pure ho
    | exact geq_pure ho
    | skip
  show PureS P nt cf (match P.underlying ty with
    | some .string => oCat (cO nt x) (cO nt y)
    | _ => oAdd (cO nt x) (cO nt y)) o
  split
  · exact cat_pure ho
  · exact add_pure ho
theorem keyQ_ok (hF : Flats P) {ty : TypeId} {kq : AV → AV → Option Bool} (h : keyQ P ty = some kq) : ∃ d, KQ P ty d kq := by
  unfold keyQ at h
  split at h
  · rename_i hu
    injection h with h; subst h
    exact ⟨_, kq_int hu⟩
  · rename_i hu
    injection h with h; subst h
    exact ⟨_, kq_str hu⟩
  · rename_i hu
    split at h
    · rename_i hf
      injection h with h; subst h
      simp only [flatB, Bool.or_eq_true, beq_iff_eq] at hf
      rcases hf with (rfl | rfl) | rfl
      · obtain ⟨n, el, h38⟩ := hF.u38
        rw [h38] at hu; cases hu
      · exact ⟨_, kq_flat hu hF.f122⟩
      · exact ⟨_, kq_flat hu hF.f179⟩
    · cases h
  · cases h
theorem cBuiltin_ok {q : Call} {b : Builtin} (ho : o.op = .call q) (hq : q.callee = .builtin b) : OpS P nt cf (cBuiltin P nt b q.args q.argTypes) o := by
  unfold cBuiltin
  split
  · rename_i ha ht
    split
    · rename_i hu; exact (lenA_pure ho hq ha ht hu).op
    · rename_i hu; exact (lenStr_pure ho hq ha ht hu).op
    · rename_i hu; exact (lenSl_pure ho hq ha ht hu).op
    · rename_i hu; exact lenM_op ho hq ha ht hu
    · exact OpS.of_stuck
  · rename_i ha ht
    split
    · rename_i hu; exact (cap_pure ho hq ha ht hu).op
    · exact OpS.of_stuck
  · rename_i ha ht
    split
    · rename_i hu
      split
      · rename_i hux
        split
        · rename_i hz
          split
          · rename_i hb
            exact appendZ_op ho hq ha ht hu hux hz hb
          · exact OpS.of_stuck
        · exact OpS.of_stuck
      · rename_i hux
        split
        · rename_i hb
          exact append0_op ho hq ha ht hu hux hb
        · exact OpS.of_stuck
      · exact OpS.of_stuck
    · exact OpS.of_stuck
  · exact OpS.of_stuck
theorem build_ok {t : TypeId} {ps : Array (Nat × Operand)} (ho : o.op = .build t ps) : PureS P nt cf (cOp P nt o) o := by
  unfold cOp
  rw [ho]
  dsimp only
  split
  · rename_i hz hu
    split
    · rename_i hall
      split
      · rename_i hps
        exact build_struct ho hz hu hall hps
      · exact PureS.of_stuck
    · exact PureS.of_stuck
  · rename_i hz hu
    split
    · rename_i hel
      split
      · rename_i hps
        exact build_array ho hz hu hel hps
      · exact PureS.of_stuck
    · exact PureS.of_stuck
  · exact PureS.of_stuck
theorem unOp_ok {u : UnOp} {t : TypeId} {x : Operand} (ho : o.op = .unOp u t x) : PureS P nt cf (cOp P nt o) o := by
  unfold cOp
  rw [ho]
  cases u <;> first
    | exact not_pure ho
    | exact xor_pure ho
    | exact PureS.of_stuck
theorem field_ok {s : TypeId} {x : Operand} {f : Nat} (ho : o.op = .fieldAddr s x f) : PureS P nt cf (cOp P nt o) o := by
  unfold cOp
  rw [ho]
  dsimp only
  split
  · rename_i hs
    split
    · rename_i hf
      split
      · exact PureS.of_stuck
      · rename_i hz
        exact field_pure ho hs hf hz
    · exact PureS.of_stuck
  · exact PureS.of_stuck
theorem indexAddr_ok {t : TypeId} {x i : Operand} (ho : o.op = .indexAddr t x i) : PureS P nt cf (cOp P nt o) o := by
  unfold cOp
  rw [ho]
  dsimp only
  split
  · rename_i hs
    split
    · rename_i hi
      obtain ⟨inf, hi⟩ := Option.isSome_iff_exists.1 hi
      exact indexA_pure ho hs hi
    · exact PureS.of_stuck
  · rename_i hs
    split
    · rename_i hi
      obtain ⟨inf, hi⟩ := Option.isSome_iff_exists.1 hi
      exact indexS_pure ho hs hi
    · exact PureS.of_stuck
  · exact PureS.of_stuck
theorem index_ok {t : TypeId} {x i : Operand} (ho : o.op = .index t x i) : PureS P nt cf (cOp P nt o) o := by
  unfold cOp
  rw [ho]
  dsimp only
  split
  · rename_i hs
    exact indexStr_pure ho hs
  · exact PureS.of_stuck
theorem slice_ok {t : TypeId} {x : Operand} {lo hi mx : Option Operand} (ho : o.op = .slice t x lo hi mx) : PureS P nt cf (cOp P nt o) o := by
  unfold cOp
  rw [ho]
  cases mx with
  | some _ => exact PureS.of_stuck
  | none =>
    dsimp only
    split
    · rename_i hs
      exact sliceS_pure ho hs
    · rename_i hs
      split
      · rename_i hi
        obtain ⟨inf, hi⟩ := Option.isSome_iff_exists.1 hi
        exact slice_pure ho hs hi
      · exact PureS.of_stuck
    · exact PureS.of_stuck
/-- what is hoisted as pure is -/
theorem cOp_pure (hF : Flats P) (h : hKind P o = some true) : PureS P nt cf (cOp P nt o) o := by
  unfold hKind at h
  cases ho : o.op <;> rw [ho] at h <;> dsimp only at h <;> first
    | (cases h; done)
    | (simp only [pureB] at h; cases h; done)
    | exact build_ok ho
    | exact unOp_ok ho
    | exact field_ok ho
    | exact indexAddr_ok ho
    | exact index_ok ho
    | exact slice_ok ho
    | (unfold cOp; rw [ho]; exact mov_pure ho)
    | (unfold cOp; rw [ho]; exact assign_pure ho)
    | (unfold cOp; rw [ho]; exact pick_pure ho)
    | (unfold cOp; rw [ho]; exact nil_pure ho)
    | (unfold cOp; rw [ho]; exact cBin_pure hF ho)
    | (unfold cOp; rw [ho]; exact extract_pure ho)
    | skip
  · split at h
    · rename_i hs hd
      unfold cOp
      rw [ho]
      dsimp only
      rw [hs, hd]
      exact conv_pure ho hs hd
    · cases h
  · rename_i q
    split at h
    · rename_i hq
      split at h
      · rename_i ty ht
        have key : PureS P nt cf (cBuiltin P nt .len q.args q.argTypes) o := by
          unfold cBuiltin
          rcases ha : q.args.toList with _ | ⟨x, _ | ⟨y, l⟩⟩ <;> rw [ht] <;> dsimp only
          · exact PureS.of_stuck
          · split at h
            · rename_i hu; rw [hu]; exact lenA_pure ho hq ha ht hu
            · rename_i hu; rw [hu]; exact lenStr_pure ho hq ha ht hu
            · rename_i hu; rw [hu]; exact lenSl_pure ho hq ha ht hu
            · cases h
          · exact PureS.of_stuck
        unfold cOp
        rw [ho]
        dsimp only
        rw [hq]
        exact key
      · cases h
    · cases h
theorem OpS.of_eq {op op' : AOp} (h : op = op') (hp : OpS P nt cf op' o) : OpS P nt cf op o := h ▸ hp
/-- whatever is compiled -/
theorem cOp_ok (hF : Flats P) (hcf : CFOK P cf) : OpS P nt cf (cOp P nt o) o := by
  cases ho : o.op <;> first
    | (unfold cOp; rw [ho]; exact OpS.of_stuck)
    | exact (build_ok ho).op
    | exact (unOp_ok ho).op
    | exact (field_ok ho).op
    | exact (indexAddr_ok ho).op
    | exact (index_ok ho).op
    | exact (slice_ok ho).op
    | (unfold cOp; rw [ho]; exact (mov_pure ho).op)
    | (unfold cOp; rw [ho]; exact (assign_pure ho).op)
    | (unfold cOp; rw [ho]; exact (pick_pure ho).op)
    | (unfold cOp; rw [ho]; exact (box_op ho).op)
    | (unfold cOp; rw [ho]; exact (nil_pure ho).op)
    | (unfold cOp; rw [ho]; exact (cBin_pure hF ho).op)
    | (unfold cOp; rw [ho]; exact (extract_pure ho).op)
    | skip
  all_goals (unfold cOp; rw [ho]; try dsimp only)
  case alloc =>
    split
    · rename_i hz; exact (alloc_op ho hz).op
    · exact OpS.of_stuck
  case buildSlice =>
    split
    · rename_i hu
      split
      · rename_i hz hps
        split
        · rename_i hb; exact (bslice_op ho hu hz hps hb).op
        · exact OpS.of_stuck
      · exact OpS.of_stuck
    · exact OpS.of_stuck
  case load t x =>
    split
    · rename_i hi
      rw [Bool.and_eq_true] at hi
      obtain ⟨inf, h1⟩ := Option.isSome_iff_exists.1 hi.1
      obtain ⟨d, h2⟩ := Option.isSome_iff_exists.1 hi.2
      split
      · rename_i hagg
        split
        · rename_i hpos; exact (loadn_load ho h1 h2 hagg hpos).op
        · exact OpS.of_stuck
      · rename_i hagg
        exact (load1_load ho h1 h2 (by simpa using hagg)).op
    · exact OpS.of_stuck
  case store =>
    split
    · rename_i hi; exact store_op ho hi
    · exact OpS.of_stuck
  case convert =>
    split
    · rename_i hs hd; exact (conv_pure ho hs hd).op
    · rename_i hs hd
      split
      · rename_i he; exact toStr_op ho hs hd he
      · exact OpS.of_stuck
    · exact OpS.of_stuck
  case makeFunc f xs ys =>
    cases f <;> first
      | exact (mkfn_pure ho).op
      | exact OpS.of_stuck
  case makeMap t r =>
    cases r
    · exact (mkmap_op ho).op
    · exact OpS.of_stuck
  case makeSlice =>
    split
    · rename_i hu
      split
      · rename_i hz
        split
        · rename_i hb; exact (mkslice_op ho hu hz hb).op
        · exact OpS.of_stuck
      · exact OpS.of_stuck
    · exact OpS.of_stuck
  case lookup =>
    split
    · rename_i hu
      split
      · rename_i hi
        split
        · rename_i hz
          split
          · rename_i hq
            obtain ⟨d, hq⟩ := keyQ_ok hF hq
            exact lookup_op ho hu hi hz hq
          · exact OpS.of_stuck
        · exact OpS.of_stuck
      · exact OpS.of_stuck
    · exact OpS.of_stuck
  case mapUpdate =>
    split
    · rename_i hu
      split
      · rename_i hq
        obtain ⟨d, hq⟩ := keyQ_ok hF hq
        exact mapset_op (.inl ho) hu hq
      · exact OpS.of_stuck
    · exact OpS.of_stuck
  case insert =>
    split
    · rename_i hu
      split
      · rename_i hq
        obtain ⟨d, hq⟩ := keyQ_ok hF hq
        exact mapset_op (.inr ho) hu hq
      · exact OpS.of_stuck
    · exact OpS.of_stuck
  case call q =>
    split
    · rename_i hq; exact callF_op hcf ho hq
    · rename_i hq; exact call_op hcf ho hq
    · rename_i hq; exact cBuiltin_ok ho hq
    · exact OpS.of_stuck
  case defer q =>
    split
    · rename_i hq ha; exact defer_op ho hq ha
    · exact OpS.of_stuck
/-- a load that is hoisted -/
theorem cOp_load {t : TypeId} {x : Operand} (ho : o.op = .load t x) : LoadS P nt cf (if isAggB P t then P.cellsOf t else 1) (cO nt x) (cOp P nt o) o := by
  have hst : ∀ n, LoadS P nt cf n (cO nt x) oStuck o := fun _ _ _ _ _ _ _ _ _ _ hn => absurd rfl hn
  unfold cOp
  rw [ho]
  dsimp only
  by_cases hi : ((P.info? t).isSome && (P.underlying t).isSome) = true
  · rw [if_pos hi]
    rw [Bool.and_eq_true] at hi
    obtain ⟨inf, h1⟩ := Option.isSome_iff_exists.1 hi.1
    obtain ⟨d, h2⟩ := Option.isSome_iff_exists.1 hi.2
    by_cases hagg : isAggB P t = true
    · rw [if_pos hagg, if_pos hagg]
      split
      · rename_i hpos; exact loadn_load ho h1 h2 hagg hpos
      · exact hst _
    · rw [if_neg hagg, if_neg hagg]
      exact load1_load ho h1 h2 (by simpa using hagg)
  · rw [if_neg hi]
    exact hst _
/-- what only makes a block -/
def allocB (o : Oper) : Bool := match o.op with
  | .alloc _ | .box _ _ | .buildSlice _ _ _ | .makeMap _ _ | .makeSlice _ _ _ => true
  | _ => false
theorem cOp_alloc (h : allocB o = true) : AllocS P nt cf (cOp P nt o) o := by
  have hst : AllocS P nt cf oStuck o := fun _ _ _ _ _ _ _ _ _ hn => absurd rfl hn
  unfold allocB at h
  cases ho : o.op <;> rw [ho] at h <;> first
    | (cases h; done)
    | (unfold cOp; rw [ho]; exact box_op ho)
    | skip
  all_goals (unfold cOp; rw [ho]; try dsimp only)
  case alloc =>
    split
    · rename_i hz; exact alloc_op ho hz
    · exact hst
  case buildSlice =>
    split
    · rename_i hu
      split
      · rename_i hz hps
        split
        · rename_i hb; exact bslice_op ho hu hz hps hb
        · exact hst
      · exact hst
    · exact hst
  case makeMap t r =>
    cases r
    · exact mkmap_op ho
    · exact hst
  case makeSlice =>
    split
    · rename_i hu
      split
      · rename_i hz
        split
        · rename_i hb; exact mkslice_op ho hu hz hb
        · exact hst
      · exact hst
    · exact hst
end
end Ev
end Go.Proofs.YtlgpacpebjechaaGreatDoor
/-
  The evaluator's steps: lists of operations; code, but for regions that draw.
-/
namespace Go.Proofs.YtlgpacpebjechaaGreatDoor
open Go.RowKit Go.Deep
namespace Ev
def DOK (a : Act) : Prop := ∀ d ∈ a.defers, ∃ ws : Array Value, ws.size = 3 ∧ d = inert ws
/-- what the exit's condition is asked of -/
def Post (σ : Sg) (N nt : Nat) (h : Hp) (w : World) (Q : Exit → Act → World → Prop) : Res → Prop
  | .no => False
  | .normal e' h' => ∀ σ' a' w', Go σ N h w σ' h' w' → ER σ' nt e' a' → DOK a' → Q .normal a' w'
  | .exit id e' h' => ∀ σ' a' w', Go σ N h w σ' h' w' → ER σ' nt e' a' → DOK a' → Q (.exit id) a' w'
  | .ret e' h' => ∀ σ' a' w', Go σ N h w σ' h' w' → ER σ' nt e' a' → DOK a' → Q .ret a' w'
def StepS (P : Program) (nt : Nat) (cf : CF) (s : Step) (c : Code) : Prop :=
  ∀ (σ : Sg) (N : Nat) (e : EN) (h : Hp) (a : Act) (w : World) (n : Nat) (Q : Exit → Act → World → Prop), ER σ nt e a → HR σ N h w → DOK a → Post σ N nt h w Q (s cf n e h) → c.wp P Q a w
section
variable {P : Program} {nt : Nat} {cf : CF} {σ σ' : Sg} {N : Nat} {h h' : Hp} {w w' : World} {Q Q' : Exit → Act → World → Prop}
theorem Post.trans (hg : Go σ N h w σ' h' w') {r : Res} (hp : Post σ N nt h w Q r) : Post σ' N nt h' w' Q r := by
  cases r with
  | no => exact hp
  | normal e2 h2 => exact fun σ2 a2 w2 g => hp σ2 a2 w2 (hg.trans g)
  | exit id e2 h2 => exact fun σ2 a2 w2 g => hp σ2 a2 w2 (hg.trans g)
  | ret e2 h2 => exact fun σ2 a2 w2 g => hp σ2 a2 w2 (hg.trans g)
theorem DOK.put {a : Act} (hd : DOK a) {ds : List Deferred} (h : ds = a.defers ∨ ∃ ws : Array Value, ws.size = 3 ∧ ds = inert ws :: a.defers) (d : Option Tmp) (u : Value) : DOK (({ a with defers := ds } : Act).put d u) := by
  have e : (({ a with defers := ds } : Act).put d u).defers = ds := by cases d <;> rfl
  intro x hx
  rw [e] at hx
  rcases h with rfl | ⟨ws, h1, rfl⟩
  · exact hd x hx
  · rcases List.mem_cons.1 hx with rfl | hx
    · exact ⟨ws, h1, rfl⟩
    · exact hd x hx
theorem DOK.put' {a : Act} (hd : DOK a) (d : Option Tmp) (u : Value) : DOK (a.put d u) := hd.put (.inl rfl) d u
/-- the guard's word -/
theorem onGuard_ok {ops : Array Oper} {o oj : Oper} {j g : Nat} {want : Bool} {e : EN} {a : Act} (hg : o.guard = some (j, want)) (hj : ops[j]? = some oj) (hd : oj.dst = some g) (hlt : g < nt) (he : ER σ nt e a) {skip go : Res}
    (hn : onGuard (EN.get (paB 12 g) e) want .no skip go ≠ .no) :
    (Region.wanted o (yielded ops a.tmps) = true ∧ onGuard (EN.get (paB 12 g) e) want .no skip go = go) ∨ (Region.wanted o (yielded ops a.tmps) = false ∧ onGuard (EN.get (paB 12 g) e) want .no skip go = skip) := by
  have hR := he.get g hlt
  have hget : a.tmps[g]? = some (a.tmps.getD g undef) := by
    have : g < a.tmps.size := Nat.lt_of_lt_of_le hlt he.size
    rw [Array.getElem?_eq_getElem this, Array.getD_eq_getD_getElem?, Array.getElem?_eq_getElem this]; rfl
  have hy : yielded ops a.tmps j = match a.tmps.getD g undef with | .bool b => some b | _ => none := by
    unfold yielded
    rw [hj, Option.bind_some, hd, Option.bind_some, hget]
    cases a.tmps.getD g undef <;> rfl
  unfold Region.wanted
  rw [hg]
  dsimp only
  rw [hy]
  cases hv : EN.get (paB 12 g) e <;> first
    | (rw [hv] at hn; exact absurd rfl hn)
    | skip
  · rename_i b
    rw [hv] at hR
    rw [R_bool hR]
    cases b <;> cases want <;> first
      | exact .inl ⟨rfl, rfl⟩
      | exact .inr ⟨rfl, rfl⟩
  · rename_i l
    rw [hv] at hR hn
    cases l with
    | nil =>
      obtain ⟨vs, h1, h2⟩ := R_tup hR
      cases h1
      rw [h2]
      exact .inr ⟨rfl, rfl⟩
    | cons x l => exact absurd rfl hn
theorem Post.ne {r : Res} (hp : Post σ N nt h w Q r) : r ≠ .no := fun e => by rw [e] at hp; exact hp
theorem put_none (a : Act) (u : Value) : a.put none u = a := rfl
theorem cList_ok (hF : Flats P) (hcf : CFOK P cf) (os : Array Oper) (hlt : ∀ o ∈ os, ∀ d, o.dst = some d → d < 4096) : ∀ (l : List Oper), (∀ o ∈ l, o ∈ os) → ∀ (σ : Sg) (N : Nat) (e : EN) (h : Hp) (a : Act) (w : World) (n : Nat), ER σ nt e a → HR σ N h w → DOK a → Post σ N nt h w Q (cList P nt os l cf n e h) → wpList P os Q l a w
  | [], _, σ, N, e, h, a, w, n, he, hr, hd, hp => hp σ a w (Go.refl hr) he hd
  | o :: l, hm, σ, N, e, h, a, w, n, he, hr, hd, hp => by
    have ih := cList_ok hF hcf os hlt l (fun x hx => hm x (List.mem_cons_of_mem _ hx))
    have hop := cOp_ok (nt := nt) (o := o) hF hcf
    have hdst := hlt o (hm o List.mem_cons_self)
    have hp : Post σ N nt h w Q (cIns P nt os o (cList P nt os l) cf n e h) := hp
    -- the operation is done
    have hdo : ∀ (k : K), (∀ v h', k v h' = cList P nt os l cf n (match o.dst with | some d => EN.put (paB 12 d) v e | none => e) h') → Post σ N nt h w Q (cOp P nt o cf e h k) → o.wp P a w (wpList P os Q l) Q := by
      intro k hk hp
      refine hop σ N e h a w k Q (wpList P os Q l) he hr hp.ne (fun v h' σ' u w' ds h1 h2 h3 h4 => ?_)
      rw [h1, hk] at hp
      refine ih σ' N _ h' _ w' n ?_ h2.hr (hd.put h4 _ _) (hp.trans h2)
      cases hdd : o.dst with
      | none => exact (he.mono h2.le).defers ds
      | some d => exact ((he.mono h2.le).defers ds).put d (hdst d hdd) h3
    have hskip : ∀ e', e' = (match o.dst with | some d => EN.put (paB 12 d) undefA e | none => e) → Post σ N nt h w Q (cList P nt os l cf n e' h) → wpList P os Q l (a.put o.dst undef) w := by
      intro e' h1 hp
      refine ih σ N e' h _ w n ?_ hr (hd.put' _ _) hp
      rw [h1]
      cases hdd : o.dst with
      | none => exact he
      | some d => exact he.put d (hdst d hdd) (.tup [] [] .nil)
    unfold wpList
    unfold cIns at hp
    cases hg : o.guard with
    | none =>
      rw [hg] at hp
      have hw : Region.wanted o (yielded os a.tmps) = true := by simp [Region.wanted, hg]
      rw [if_pos hw]
      refine .inl ?_
      cases hdd : o.dst with
      | none =>
        rw [hdd] at hp
        exact hdo (fun _ h' => cList P nt os l cf n e h') (fun v h' => by rw [hdd]) hp
      | some d =>
        rw [hdd] at hp
        exact hdo (fun v h' => cList P nt os l cf n (EN.put (paB 12 d) v e) h') (fun v h' => by rw [hdd]) hp
    | some p =>
      obtain ⟨j, want⟩ := p
      rw [hg] at hp
      dsimp only at hp
      cases hj : os[j]? with
      | none => rw [hj] at hp; exact hp.elim
      | some oj =>
        rw [hj] at hp
        dsimp only at hp
        cases hdj : oj.dst with
        | none => rw [hdj] at hp; exact hp.elim
        | some g =>
          rw [hdj] at hp
          dsimp only at hp
          by_cases hlt' : g < nt
          · rw [if_neg (not_not_intro hlt')] at hp
            cases hdd : o.dst with
            | none =>
              rw [hdd] at hp
              have hp : Post σ N nt h w Q (onGuard (EN.get (paB 12 g) e) want .no (cList P nt os l cf n e h) (cOp P nt o cf e h (fun _ h' => cList P nt os l cf n e h'))) := hp
              rcases onGuard_ok hg hj hdj hlt' he hp.ne with ⟨h1, h2⟩ | ⟨h1, h2⟩
              · rw [h2] at hp
                rw [if_pos h1]
                exact .inl (hdo _ (fun v h' => by rw [hdd]) hp)
              · rw [h2] at hp
                rw [if_neg (by rw [h1]; decide)]
                have := hskip e (by rw [hdd]) hp
                rw [hdd] at this
                exact this
            | some d =>
              rw [hdd] at hp
              have hp : Post σ N nt h w Q (onGuard (EN.get (paB 12 g) e) want .no (cList P nt os l cf n (EN.put (paB 12 d) undefA e) h) (cOp P nt o cf e h (fun v h' => cList P nt os l cf n (EN.put (paB 12 d) v e) h'))) := hp
              rcases onGuard_ok hg hj hdj hlt' he hp.ne with ⟨h1, h2⟩ | ⟨h1, h2⟩
              · rw [h2] at hp
                rw [if_pos h1]
                exact .inl (hdo _ (fun v h' => by rw [hdd]) hp)
              · rw [h2] at hp
                rw [if_neg (by rw [h1]; decide)]
                have := hskip _ (by rw [hdd]) hp
                rw [hdd] at this
                exact this
          · rw [if_pos hlt'] at hp
            exact hp.elim
/-! ### code -/
theorem stuck_ok (c : Code) : StepS P nt cf sStuck c := fun _ _ _ _ _ _ _ _ _ _ _ hp => hp.elim
theorem seq_ok {s t : Step} {x y : Code} (hs : StepS P nt cf s x) (ht : StepS P nt cf t y) : StepS P nt cf (sSeq s t) (.seq x y) := by
  intro σ N e h a w n Q he hr hd hp
  refine wp_seq (hs σ N e h a w n _ he hr hd ?_)
  have hp : Post σ N nt h w Q (Res.rec (motive := fun _ => Res) .no (fun e h => t cf n e h) (fun id e h => .exit id e h) (fun e h => .ret e h) (s cf n e h)) := hp
  cases hres : s cf n e h with
  | no => rw [hres] at hp; exact hp
  | normal e' h' =>
    rw [hres] at hp
    have hp : Post σ N nt h w Q (t cf n e' h') := hp
    intro σ' a' w' hg he' hd'
    exact ht σ' N e' h' a' w' n Q he' hg.hr hd' (hp.trans hg)
  | exit id e' h' => rw [hres] at hp; exact hp
  | ret e' h' => rw [hres] at hp; exact hp
theorem cond_ok {q : Operand} {s t : Step} {x y : Code} (hs : StepS P nt cf s x) (ht : StepS P nt cf t y) : StepS P nt cf (sCond (cO nt q) s t) (.cond q x y) := by
  intro σ N e h a w n Q he hr hd hp
  have hp : Post σ N nt h w Q (onBool (cO nt q e) .no (fun b => iff b (t cf n e h) (s cf n e h))) := hp
  obtain ⟨b, hb⟩ := onBool_ne hp.ne
  have hR := R_cO he hr q
  rw [hb] at hp hR
  refine wp_cond (R_bool hR) ?_
  cases b with
  | true => exact hs σ N e h a w n Q he hr hd hp
  | false => exact ht σ N e h a w n Q he hr hd hp
theorem block_ok {id : Nat} {s : Step} {x : Code} (hs : StepS P nt cf s x) : StepS P nt cf (sBlock id s) (.block id x) := by
  intro σ N e h a w n Q he hr hd hp
  refine wp_block (hs σ N e h a w n _ he hr hd ?_)
  have hp : Post σ N nt h w Q (Res.rec (motive := fun _ => Res) .no (fun e h => .normal e h) (fun j e h => iff (Nat.beq j id) (.exit j e h) (.normal e h)) (fun e h => .ret e h) (s cf n e h)) := hp
  cases hres : s cf n e h with
  | no => rw [hres] at hp; exact hp
  | normal e' h' => rw [hres] at hp; exact hp
  | exit j e' h' =>
    rw [hres] at hp
    have hp : Post σ N nt h w Q (iff (Nat.beq j id) (.exit j e' h') (.normal e' h')) := hp
    intro σ' a' w' hg he' hd'
    cases hb : Nat.beq j id with
    | true =>
      rw [hb] at hp
      rw [beqN, decide_eq_true_eq] at hb
      have := hp σ' a' w' hg he' hd'
      show (if j = id then Q .normal a' w' else Q (.exit j) a' w')
      rw [if_pos hb]; exact this
    | false =>
      rw [hb] at hp
      rw [beqN, decide_eq_false_iff_not] at hb
      have := hp σ' a' w' hg he' hd'
      show (if j = id then Q .normal a' w' else Q (.exit j) a' w')
      rw [if_neg hb]; exact this
  | ret e' h' => rw [hres] at hp; exact hp
theorem loop_ok {s : Step} {x : Code} (hs : StepS P nt cf s x) : StepS P nt cf (sLoop s) (.loop x) := by
  intro σ N e h a w n Q he hr hd hp
  refine wp_loop_rounds n ?_
  have key : ∀ (m : Nat) (σ : Sg) (e : EN) (h : Hp) (a : Act) (w : World), ER σ nt e a → HR σ N h w → DOK a →
      Post σ N nt h w Q (Nat.rec (motive := fun _ => EN → Hp → Res) (fun _ _ => .no) (fun _ ih e h => Res.rec (motive := fun _ => Res) .no (fun e h => ih e h) (fun j e h => .exit j e h) (fun e h => .ret e h) (s cf n e h)) m e h) → Code.rounds P x Q m a w := by
    intro m
    induction m with
    | zero => intro σ e h a w _ _ _ hp; exact hp.elim
    | succ m ih =>
      intro σ e h a w he hr hd hp
      rw [rounds_succ]
      refine hs σ N e h a w n _ he hr hd ?_
      have hp : Post σ N nt h w Q (Res.rec (motive := fun _ => Res) .no (fun e h => Nat.rec (motive := fun _ => EN → Hp → Res) (fun _ _ => .no) (fun _ ih e h => Res.rec (motive := fun _ => Res) .no (fun e h => ih e h) (fun j e h => .exit j e h) (fun e h => .ret e h) (s cf n e h)) m e h) (fun j e h => .exit j e h) (fun e h => .ret e h) (s cf n e h)) := hp
      cases hres : s cf n e h with
      | no => rw [hres] at hp; exact hp
      | normal e' h' =>
        rw [hres] at hp
        intro σ' a' w' hg he' hd'
        exact ih σ' e' h' a' w' he' hg.hr hd' (Post.trans hg hp)
      | exit j e' h' => rw [hres] at hp; exact hp
      | ret e' h' => rw [hres] at hp; exact hp
  exact key n σ e h a w he hr hd hp
theorem Post.mono {Q Q' : Exit → Act → World → Prop} (h1 : ∀ a w, Q .normal a w → Q' .normal a w) (h2 : ∀ i a w, Q (.exit i) a w → Q' (.exit i) a w) (h3 : ∀ a w, Q .ret a w → Q' .ret a w) {r : Res} (hp : Post σ N nt h w Q r) : Post σ N nt h w Q' r := by
  cases r with
  | no => exact hp
  | normal e2 h2' => exact fun σ2 a2 w2 g he hd => h1 _ _ (hp σ2 a2 w2 g he hd)
  | exit id e2 h2' => exact fun σ2 a2 w2 g he hd => h2 _ _ _ (hp σ2 a2 w2 g he hd)
  | ret e2 h2' => exact fun σ2 a2 w2 g he hd => h3 _ _ (hp σ2 a2 w2 g he hd)
theorem scope_ok {s : Step} {x : Code} (hs : StepS P nt cf s x) : StepS P nt cf s (.scope x) := by
  intro σ N e h a w n Q he hr hd hp
  exact wp_scope_straight (hs σ N e h a w n _ he hr hd (hp.mono (fun _ _ h => h) (fun _ _ _ h => h) (fun _ _ h => h)))
/-- code whose slots are in bounds -/
def dstB (os : Array Oper) : Bool := os.all fun o => match o.dst with | some d => decide (d < 4096) | none => true
noncomputable def codeB : Code → Bool
  | .region _ os _ => dstB os
  | .seq a b => codeB a && codeB b
  | .cond _ a b => codeB a && codeB b
  | .block _ b => codeB b
  | .loop b => codeB b
  | .scope b => codeB b
  | _ => true
theorem dstB_lt {os : Array Oper} (h : dstB os = true) : ∀ o ∈ os, ∀ d, o.dst = some d → d < 4096 := by
  intro o ho d hd
  have := Array.all_eq_true_iff_forall_mem.1 h o ho
  rw [hd] at this
  simpa using this
theorem cCode_ok (hF : Flats P) (hcf : CFOK P cf) (sch : List (Nat × Sched)) (hdraw : ∀ (id : Nat) (os : Array Oper) (s : Sched), sch.lookup id = some s → dstB os = true → StepS P nt cf (cDraw P nt os s) (.region id os true)) : ∀ (c : Code), codeB c = true → StepS P nt cf (cCode P nt sch c) c
  | .skip, _ => fun σ N e h a w n Q he hr hd hp => wp_skip (hp σ a w (Go.refl hr) he hd)
  | .label _, _ => fun σ N e h a w n Q he hr hd hp => wp_label (hp σ a w (Go.refl hr) he hd)
  | .region id os draw, hb => by
    have hb : dstB os = true := hb
    cases draw with
    | false => exact fun σ N e h a w n Q he hr hd hp => wp_region_list (cList_ok hF hcf os (dstB_lt hb) os.toList (fun o ho => by simpa using ho) σ N e h a w n he hr hd hp)
    | true =>
      unfold cCode
      rw [if_pos rfl]
      split
      · rename_i hs
        exact hdraw id os _ hs hb
      · exact stuck_ok _
  | .seq a b, hb => by
    have hb : (codeB a && codeB b) = true := hb
    rw [Bool.and_eq_true] at hb
    exact seq_ok (cCode_ok hF hcf sch hdraw a hb.1) (cCode_ok hF hcf sch hdraw b hb.2)
  | .cond q x y, hb => by
    have hb : (codeB x && codeB y) = true := hb
    rw [Bool.and_eq_true] at hb
    exact cond_ok (cCode_ok hF hcf sch hdraw x hb.1) (cCode_ok hF hcf sch hdraw y hb.2)
  | .block id b, hb => block_ok (cCode_ok hF hcf sch hdraw b hb)
  | .loop b, hb => loop_ok (cCode_ok hF hcf sch hdraw b hb)
  | .scope b, hb => scope_ok (cCode_ok hF hcf sch hdraw b hb)
  | .exit id, _ => fun σ N e h a w n Q he hr hd hp => wp_exit (hp σ a w (Go.refl hr) he hd)
  | .ret, _ => fun σ N e h a w n Q he hr hd hp => wp_ret (hp σ a w (Go.refl hr) he hd)
  | .goto _, _ => stuck_ok _
  | .rangeFunc _ _ _ _, _ => stuck_ok _
  | .refuse _, _ => stuck_ok _
end
end Ev
end Go.Proofs.YtlgpacpebjechaaGreatDoor
/-
  The evaluator's steps: regions that draw their order, all of whose heavy operations are bound.
-/
namespace Go.Proofs.YtlgpacpebjechaaGreatDoor
open Go.RowKit Go.Deep Go.Sort
namespace Ev
noncomputable def putD (d : Option Tmp) (v : AV) (e : EN) : EN := match d with | some d => EN.put (paB 12 d) v e | none => e
section
variable {P : Program} {nt : Nat} {cf : CF} {σ σ' : Sg} {N : Nat} {h h' : Hp} {w w' : World} {Q Q' : Exit → Act → World → Prop}
theorem ER.putD {e : EN} {a : Act} (he : ER σ nt e a) {o : Oper} (hd : ∀ d, o.dst = some d → d < 4096) {v : AV} {u : Value} (hR : R σ v u) : ER σ nt (putD o.dst v e) (a.put o.dst u) := by
  cases hdd : o.dst with
  | none => exact he
  | some d => exact he.put d (hd d hdd) hR
theorem cIns_cases {os : Array Oper} {o : Oper} {r : Step} {n : Nat} {e : EN} {a : Act} (he : ER σ nt e a) (hp : Post σ N nt h w Q (cIns P nt os o r cf n e h)) :
    (Region.wanted o (yielded os a.tmps) = true ∧ Post σ N nt h w Q (cOp P nt o cf e h (fun v h' => r cf n (putD o.dst v e) h'))) ∨ (Region.wanted o (yielded os a.tmps) = false ∧ Post σ N nt h w Q (r cf n (putD o.dst undefA e) h)) := by
  unfold cIns at hp
  unfold putD
  cases hg : o.guard with
  | none =>
    rw [hg] at hp
    refine .inl ⟨by simp [Region.wanted, hg], ?_⟩
    cases hdd : o.dst with
    | none => rw [hdd] at hp; exact hp
    | some d => rw [hdd] at hp; exact hp
  | some p =>
    obtain ⟨j, want⟩ := p
    rw [hg] at hp
    dsimp only at hp
    cases hj : os[j]? with
    | none => rw [hj] at hp; exact hp.elim
    | some oj =>
      rw [hj] at hp
      dsimp only at hp
      cases hdj : oj.dst with
      | none => rw [hdj] at hp; exact hp.elim
      | some g =>
        rw [hdj] at hp
        dsimp only at hp
        by_cases hlt' : g < nt
        · rw [if_neg (not_not_intro hlt')] at hp
          cases hdd : o.dst with
          | none =>
            rw [hdd] at hp
            have hp : Post σ N nt h w Q (onGuard (EN.get (paB 12 g) e) want .no (r cf n e h) (cOp P nt o cf e h (fun _ h' => r cf n e h'))) := hp
            rcases onGuard_ok hg hj hdj hlt' he hp.ne with ⟨h1, h2⟩ | ⟨h1, h2⟩
            · rw [h2] at hp; exact .inl ⟨h1, hp⟩
            · rw [h2] at hp; exact .inr ⟨h1, hp⟩
          | some d =>
            rw [hdd] at hp
            have hp : Post σ N nt h w Q (onGuard (EN.get (paB 12 g) e) want .no (r cf n (EN.put (paB 12 d) undefA e) h) (cOp P nt o cf e h (fun v h' => r cf n (EN.put (paB 12 d) v e) h'))) := hp
            rcases onGuard_ok hg hj hdj hlt' he hp.ne with ⟨h1, h2⟩ | ⟨h1, h2⟩
            · rw [h2] at hp; exact .inl ⟨h1, hp⟩
            · rw [h2] at hp; exact .inr ⟨h1, hp⟩
        · rw [if_pos hlt'] at hp
          exact hp.elim
theorem hKind_load {o : Oper} (h : hKind P o = some false) : ∃ t x, o.op = .load t x := by
  unfold hKind at h
  cases ho : o.op <;> rw [ho] at h <;> dsimp only at h <;> first
    | exact ⟨_, _, rfl⟩
    | (cases h; done)
    | (simp only [pureB] at h; cases h; done)
    | skip
  · split at h <;> cases h
  · split at h
    · split at h
      · split at h <;> cases h
      · cases h
    · cases h
theorem pures_of {os : Array Oper} {l : List (Nat × Bool)} {i : Nat} {o : Oper} (hm : (i, false) ∈ l) (ho : os[i]? = some o) : pures P os l i = (hKind P o == some true) := by
  unfold pures
  cases hk : hKind P o == some true with
  | true =>
    refine List.any_eq_true.2 ⟨(i, false), hm, ?_⟩
    rw [ho]
    simp only [beq_self_eq_true, Bool.not_false, Bool.true_and]
    exact hk
  | false =>
    refine List.any_eq_false.2 (fun p hp => ?_)
    by_cases e : p.1 = i
    · rw [e, ho]
      simp only [hk, Bool.and_false]
      decide
    · simp [e]
theorem cDI_kind {os : Array Oper} {pu : Nat → Bool} : ∀ {l : List (Nat × Bool)} {ds : List DI}, cDI P nt os pu l = some ds → ∀ p ∈ l, p.2 = false → ∃ o k, os[p.1]? = some o ∧ hKind P o = some k
  | [], _, _, p, hp, _ => by cases hp
  | q :: l, ds, h, p, hp, h2 => by
    unfold cDI at h
    cases ho : os[q.1]? with
    | none => rw [ho] at h; cases h
    | some o =>
      rw [ho] at h
      cases hl : cDI P nt os pu l with
      | none => rw [hl] at h; cases h
      | some ls =>
        rw [hl] at h
        rcases List.mem_cons.1 hp with rfl | hp
        · refine ⟨o, ?_⟩
          cases hk : hKind P o with
          | some k => exact ⟨k, ho, rfl⟩
          | none =>
            exfalso
            dsimp only at h
            unfold cKind at h
            rw [h2, hk] at h
            cases h
        · exact cDI_kind hl p hp h2
theorem drawA (hF : Flats P) (hcf : CFOK P cf) {os : Array Oper} (hlt : ∀ o ∈ os, ∀ d, o.dst = some d → d < 4096) {l0 : List (Nat × Bool)} : ∀ (s : Sched), forks s = false → (∀ p ∈ path s, p ∈ l0) → allLate os (pures P os l0) (path s) = true →
    (∀ p ∈ path s, p.2 = false → ∃ o k, os[p.1]? = some o ∧ hKind P o = some k) → ∀ l, getAll os (path s) = some l →
    ∀ (σ : Sg) (e : EN) (h : Hp) (a : Act) (w : World) (n : Nat), ER σ nt e a → HR σ N h w → DOK a → Post σ N nt h w Q (cList P nt os l cf n e h) → wpT Fut (pures P os l0) P os Q s a w
  | .done, _, _, _, _, l, hl, σ, e, h, a, w, n, he, hr, hd, hp => by
    have hl : some [] = some l := hl
    injection hl with hl
    subst hl
    exact hp σ a w (Go.refl hr) he hd
  | .two _ _ _ _, hf, _, _, _, _, _, _, _, _, _, _, _, _, _, _, _ => by cases hf
  | .many _ _, hf, _, _, _, _, _, _, _, _, _, _, _, _, _, _, _ => by cases hf
  | .hoist i r, hf, hm, hla, hki, l, hl, σ, e, h, a, w, n, he, hr, hd, hp => by
    have hl : getAll os ((i, false) :: path r) = some l := hl
    unfold getAll at hl
    cases ho : os[i]? with
    | none => rw [ho] at hl; cases hl
    | some o =>
      rw [ho] at hl
      cases hlr : getAll os (path r) with
      | none => rw [hlr] at hl; cases hl
      | some lr =>
        rw [hlr] at hl
        have hl : some (o :: lr) = some l := hl
        injection hl with hl
        subst hl
        have hla : ((!false || lateP os (pures P os l0) i) && allLate os (pures P os l0) (path r)) = true := hla
        have hla2 : allLate os (pures P os l0) (path r) = true := by
          rw [Bool.and_eq_true] at hla; exact hla.2
        have hmem : o ∈ os := Array.mem_of_getElem? ho
        have hm0 : (i, false) ∈ l0 := hm _ List.mem_cons_self
        have hpu := pures_of (P := P) hm0 ho
        obtain ⟨o', kd, ho', hkd⟩ := hki (i, false) List.mem_cons_self rfl
        have ho' : os[i]? = some o' := ho'
        rw [ho] at ho'; injection ho' with ho'; subst ho'
        have ih := drawA hF hcf hlt r hf (fun p hp => hm p (List.mem_cons_of_mem _ hp)) hla2 (fun p hp => hki p (List.mem_cons_of_mem _ hp)) lr hlr
        refine ⟨o, ho, ?_⟩
        rcases cIns_cases he hp with ⟨h1, hp⟩ | ⟨h1, hp⟩
        · refine .inl ⟨h1, ?_⟩
          cases kd with
          | true =>
            obtain ⟨v, u, e1, e2, e3⟩ := cOp_pure (nt := nt) (cf := cf) hF hkd σ N e h a w _ he hr hp.ne
            rw [e1] at hp
            exact ⟨u, .inl ⟨by rw [hpu, hkd]; rfl, e3⟩, ih σ _ h _ w n (he.putD (hlt o hmem) e2) hr (hd.put' _ _) hp⟩
          | false =>
            obtain ⟨t, x, hld⟩ := hKind_load hkd
            obtain ⟨b, o2, v, u, g, q, _, _, e1, e2, e3, e4⟩ := cOp_load (P := P) (nt := nt) (cf := cf) hld σ N e h a w _ he hr hp.ne
            rw [e1] at hp
            refine ⟨u, .inr ⟨by rw [hpu, hkd]; rfl, fun w' hw' => e4 w' (fun j hj => ?_)⟩, ih σ _ h _ w n (he.putD (hlt o hmem) e2) hr (hd.put' _ _) hp⟩
            obtain ⟨c, hc⟩ := Option.isSome_iff_exists.1 (e3 j hj)
            rw [hc]
            exact hw'.cell hc
        · exact .inr ⟨h1, ih σ _ h _ w n (he.putD (hlt o hmem) (.tup [] [] .nil)) hr (hd.put' _ _) hp⟩
  | .one i r, hf, hm, hla, hki, l, hl, σ, e, h, a, w, n, he, hr, hd, hp => by
    have hl : getAll os ((i, true) :: path r) = some l := hl
    unfold getAll at hl
    cases ho : os[i]? with
    | none => rw [ho] at hl; cases hl
    | some o =>
      rw [ho] at hl
      cases hlr : getAll os (path r) with
      | none => rw [hlr] at hl; cases hl
      | some lr =>
        rw [hlr] at hl
        have hl : some (o :: lr) = some l := hl
        injection hl with hl
        subst hl
        have hla : ((!true || lateP os (pures P os l0) i) && allLate os (pures P os l0) (path r)) = true := hla
        rw [Bool.and_eq_true] at hla
        have hlate : lateP os (pures P os l0) i = true := by simpa using hla.1
        have hmem : o ∈ os := Array.mem_of_getElem? ho
        have ih := drawA hF hcf hlt r hf (fun p hp => hm p (List.mem_cons_of_mem _ hp)) hla.2 (fun p hp => hki p (List.mem_cons_of_mem _ hp)) lr hlr
        refine ⟨o, ho, ?_⟩
        rcases cIns_cases he hp with ⟨h1, hp⟩ | ⟨h1, hp⟩
        · refine .inl ⟨h1, cOp_ok (nt := nt) hF hcf σ N e h a w _ Q _ he hr hp.ne (fun v h' σ' u w' ds e1 e2 e3 e4 => ⟨.inl hlate, ?_⟩)⟩
          rw [e1] at hp
          exact ih σ' _ h' _ w' n (((he.mono e2.le).defers ds).putD (hlt o hmem) e3) e2.hr (hd.put e4 _ _) (hp.trans e2)
        · exact .inr ⟨h1, ih σ _ h _ w n (he.putD (hlt o hmem) (.tup [] [] .nil)) hr (hd.put' _ _) hp⟩
/-- the exit's condition, but never a panic -/
def calm (Q : Exit → Act → World → Prop) : Exit → Act → World → Prop
  | .panic _, _, _ => False
  | e, a, w => Q e a w
theorem drawA_ok (hF : Flats P) (hcf : CFOK P cf) (hm : P.follows .mixedOrders = true) {id : Nat} {os : Array Oper} {s : Sched} {l : List Oper} {ds : List DI} (hb : dstB os = true) (hfast : fastB os s = true) (hf : forks s = false) (hla : allLate os (pures P os (path s)) (path s) = true)
    (hds : cDI P nt os (pures P os (path s)) (path s) = some ds) (hl : getAll os (path s) = some l) : StepS P nt cf (cList P nt os l) (.region id os true) := by
  intro σ N e h a w n Q he hr hd hp
  have e0 : os = os.toList.toArray := by simp
  refine Code.wp_mono (Q := calm Q) (fun ex a w hq => ?_) ?_
  · cases ex <;> first
      | exact hq
      | exact hq.elim
  · rw [e0]
    refine wp_region_T relFut (pures P os (path s)) s hm (by rw [← e0]; exact hfast) (fun c a d v w hq => hq) ?_
    rw [← e0]
    exact drawA hF hcf (dstB_lt hb) s hf (fun p hp => hp) hla (fun p hp h2 => cDI_kind hds p hp h2) l hl σ e h a w.drew n he hr.drew.hr hd
      ((hp.trans hr.drew).mono (fun _ _ h => h) (fun _ _ _ h => h) (fun _ _ h => h))
end
end Ev
end Go.Proofs.YtlgpacpebjechaaGreatDoor
