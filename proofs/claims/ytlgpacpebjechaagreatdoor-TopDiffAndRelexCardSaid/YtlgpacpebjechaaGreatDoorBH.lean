/-
  Texts joined: Allocations that run early: they answer in every world; Regions that leave a choice: allocations that run early; What the canonical run tells of an operation that stands later in it; An allocation that stands later in the canonical run can run now; Regions that leave a choice: what is owed to what ran early.
-/
import Derived.Test.YtlgpacpebjechaaGreatDoorBG
/-
  Allocations that run early: they answer in every world.
-/
namespace Go.Proofs.YtlgpacpebjechaaGreatDoor
open Go.RowKit Go.Deep Go.Sort
namespace Ev
section
variable {P : Program} {nt : Nat} {cf : CF} {o : Oper}
/-- the operation makes one block, whatever the world -/
def Early (P : Program) (o : Oper) (a : Act) : Prop := ∃ (C : Obj) (mk : Nat → Value), ∀ w' : World, (execOp a.eval o).run P w' = .ok (.value (mk w'.heap.size)) (w'.alloc C)
theorem early_alloc {t : TypeId} {z : List AV} (ho : o.op = .alloc t) (hz : zeroL P t = some z) (a : Act) : Early P o a := by
  obtain ⟨dst, op, ty, pos, after, guard⟩ := o
  cases ho
  obtain ⟨i, v, hi, hzv, _⟩ := zeroL_R (σ := ⟨fun _ => none, 0⟩) hz
  refine ⟨.cells v.cells t, fun g => .pointer (some ⟨g, 0, none⟩), fun w' => ?_⟩
  show ((Instr.alloc t true (.tuple #[]) >>= fun z => pure (.value z)) : Sem Next).run P w' = _
  simp [Instr.alloc, zeroValue, hi, hzv, newVar, newRow, typeInfo]
theorem early_box {t : TypeId} {x : Operand} (ho : o.op = .box t x) (a : Act) : Early P o a := by
  obtain ⟨dst, op, ty, pos, after, guard⟩ := o
  cases ho
  refine ⟨.cells (a.eval x).cells t, fun g => .pointer (some ⟨g, 0, none⟩), fun w' => ?_⟩
  show ((Instr.box t (a.eval x) >>= fun z => pure (.value z)) : Sem Next).run P w' = _
  simp [Instr.box, newVar, newRow]
theorem Early.of_allocF {σ : Sg} {N : Nat} {op : AOp} {e : EN} {h : Hp} {a : Act} {k : K} {x : Blk} {v : AV} {C : Obj} {q : Nat} {mk : Nat → Value} (hA : AllocF P σ N cf op o e h a k x v C q mk) : Early P o a := ⟨C, mk, hA.run⟩
/-- what is made is made once -/
theorem Early.same {C C' : Obj} {mk mk' : Nat → Value} {a : Act} (h1 : ∀ w' : World, (execOp a.eval o).run P w' = .ok (.value (mk w'.heap.size)) (w'.alloc C)) (h2 : ∀ w' : World, (execOp a.eval o).run P w' = .ok (.value (mk' w'.heap.size)) (w'.alloc C')) :
    C = C' ∧ ∀ w' : World, mk w'.heap.size = mk' w'.heap.size := by
  have key : ∀ w' : World, mk w'.heap.size = mk' w'.heap.size ∧ w'.alloc C = w'.alloc C' := fun w' => by
    have h3 := (h1 w').symm.trans (h2 w')
    injection h3 with h3 h4
    injection h3 with h3
    exact ⟨h3, h4⟩
  refine ⟨?_, fun w' => (key w').1⟩
  have h5 := congrArg (fun w : World => w.heap[(default : World).heap.size]?) (key default).2
  rw [alloc_last, alloc_last] at h5
  injection h5
end
end Ev
end Go.Proofs.YtlgpacpebjechaaGreatDoor
/-
  Regions that leave a choice: allocations that run early.
-/
namespace Go.Proofs.YtlgpacpebjechaaGreatDoor
open Go.RowKit Go.Deep Go.Sort
namespace Ev
section
variable {P : Program} {nt : Nat} {cf : CF} {o : Oper} {σ σ' σs : Sg} {N : Nat} {h h' hs : Hp} {w w' ws : World}
/-- a block that was made since the start, and that nothing knows of, is taken in -/
theorem Go.adopt (G0 : Go σs N hs ws σ h w) (x : Blk) (_hx : ownB x = true) (g q : Nat) (hfree : ∀ b q', ownB (hget h b) = true → σ.blk b ≠ some (g, q')) (hbase : ws.heap.size ≤ g) (hok : BlkOK (σ.put h.n g q) N w h.n x) :
    Go σs N hs ws (σ.put h.n g q) ⟨HT.put h.n x h.t, Pa.succ h.n⟩ w := by
  have hr := G0.hr
  have hle := Sg.le_put (σ := σ) (p := h.n) g q (hr.fresh _ (Nat.le_refl _))
  have hsame : hget ⟨HT.put h.n x h.t, Pa.succ h.n⟩ h.n = x := ht_same _ _ _
  have hother : ∀ b, b ≠ h.n → hget ⟨HT.put h.n x h.t, Pa.succ h.n⟩ b = hget h b := fun b hb => ht_other _ _ _ _ (Ne.symm hb)
  refine ⟨Sg.le_trans G0.le hle, ⟨hr.base, hle.2 _ _ hr.glob, hr.pos, fun b => ?_, fun b b' g1 q1 q2 h1 h2 e1 e2 => ?_, fun p hp => ?_⟩, G0.os, G0.tape, G0.output, G0.size, G0.frame, fun b g1 q1 h1 e1 => ?_⟩
  · by_cases e : b = h.n
    · subst e; rw [hsame]; exact hok
    · rw [hother b e]; exact (hr.blk b).keep hle (fun _ _ _ => rfl)
  · by_cases e : b = h.n <;> by_cases e' : b' = h.n
    · rw [e, e']
    · subst e
      rw [Sg.put_same] at e1
      rw [Sg.put_other _ _ _ e'] at e2
      rw [hother b' e'] at h2
      injection e1 with e1; injection e1 with e3 e4; subst e3
      exact absurd e2 (hfree b' q2 h2)
    · subst e'
      rw [Sg.put_same] at e2
      rw [Sg.put_other _ _ _ e] at e1
      rw [hother b e] at h1
      injection e2 with e2; injection e2 with e3 e4; subst e3
      exact absurd e1 (hfree b q1 h1)
    · rw [Sg.put_other _ _ _ e] at e1
      rw [Sg.put_other _ _ _ e'] at e2
      rw [hother b e] at h1
      rw [hother b' e'] at h2
      exact hr.inj b b' g1 q1 q2 h1 h2 e1 e2
  · have hp : (Pa.succ h.n).num ≤ p.num := hp
    rw [num_succ] at hp
    rw [Sg.put_other _ _ _ (fun e => by rw [e] at hp; omega)]
    exact hr.fresh p (by omega)
  · by_cases e : b = h.n
    · subst e
      rw [Sg.put_same] at e1
      injection e1 with e1; injection e1 with e3 e4; subst e3
      exact .inr hbase
    · rw [Sg.put_other _ _ _ e] at e1
      rw [hother b e] at h1
      exact G0.img b g1 q1 h1 e1
/-- an operation that may run early: it has a slot, no guard, makes one block; nothing that is due before it touches what it looks at -/
def earlyB (os : Array Oper) (F : List Nat) (L : List (Nat × Bool)) (i : Nat) : Bool := match os[i]? with
  | some o => allocB o && o.guard.isNone && o.dst.isSome && L.contains (i, true) &&
      (F.all fun k => match os[k]? with | some ok => o.apart os ok | none => false) &&
      ((L.takeWhile fun p => p.1 != i).all fun p => match os[p.1]? with | some ok => o.apart os ok | none => false)
  | none => false
def indepB (os : Array Oper) (F : List Nat) (i : Nat) : Bool := match os[i]? with
  | some o => F.all fun k => match os[k]? with | some ok => o.apart os ok && ok.apart os o | none => false
  | none => false
/-- the tree runs the list, but for what runs early -/
def treeOK (os : Array Oper) : Nat → List Nat → List (Nat × Bool) → Sched → Bool
  | 0, _, _, _ => false
  | n + 1, F, L, s => match L with
    | [] => match s with
      | .done => F.isEmpty
      | _ => false
    | (j, b) :: T => if F.contains j then b && treeOK os n (F.erase j) T s else match s with
      | .hoist i r => i == j && !b && indepB os F i && treeOK os n F T r
      | .one i r => if i == j then b && indepB os F i && treeOK os n F T r else earlyB os F L i && treeOK os n (i :: F) L r
      | .two i r k t => treeOK os n F L (.one i r) && treeOK os n F L (.one k t)
      | _ => false
end
end Ev
end Go.Proofs.YtlgpacpebjechaaGreatDoor
/-
  What the canonical run tells of an operation that stands later in it.
-/
namespace Go.Proofs.YtlgpacpebjechaaGreatDoor
open Go.RowKit Go.Deep Go.Sort
namespace Ev
section
variable {P : Program} {nt : Nat} {cf : CF} {o : Oper} {σ σ' σs : Sg} {N : Nat} {h h' hs : Hp} {w w' ws : World}
abbrev k0 : K := fun v h' => .normal (.node v .nil .nil) h'
theorem dstep_next {i : DI} {l : List DI} {rd : List (Pa × Nat × Nat)} {sn : List (Hp × Hp)} {e : EN} {h : Hp} {x : Tr4} (hs : dstep none cf i (dgoK none S4 cf l) rd sn e h = some x) :
    i.op cf e h k0 ≠ .no ∧ ∃ rd' sn' v h', dgoK none S4 cf l rd' sn' (putO i.d v e) h' = some x := by
  unfold dstep at hs
  cases hk : i.k with
  | pure => rw [hk] at hs; obtain ⟨h1, v, h', h2⟩ := run1_some hs; exact ⟨h1, _, _, v, h', h2⟩
  | late => rw [hk] at hs; obtain ⟨h1, v, h', h2⟩ := run1_some hs; exact ⟨h1, _, _, v, h', h2⟩
  | heavy => rw [hk] at hs; obtain ⟨h1, v, h', h2⟩ := run1_some hs; exact ⟨h1, _, _, v, h', h2⟩
  | load m a =>
    rw [hk] at hs
    have hs : onPtr (a e) none (fun b o => run1 none i.op cf e h (fun v h' => dgoK none S4 cf l ((b, o, m) :: rd) sn (putO i.d v e) h')) = some x := hs
    cases ha : a e with
    | ptr b o =>
      rw [ha] at hs
      obtain ⟨h1, v, h', h2⟩ := run1_some (k := fun v h' => dgoK none S4 cf l ((b, o, m) :: rd) sn (putO i.d v e) h') hs
      exact ⟨h1, _, _, v, h', h2⟩
    | _ => rw [ha] at hs; cases hs
theorem dgoK_next {i : DI} {l : List DI} {rd : List (Pa × Nat × Nat)} {sn : List (Hp × Hp)} {e : EN} {h : Hp} {x : Tr4} (hs : dgoK none S4 cf (i :: l) rd sn e h = some x) :
    (i.g = none → i.op cf e h k0 ≠ .no) ∧ ∃ rd' sn' v h', dgoK none S4 cf l rd' sn' (putO i.d v e) h' = some x := by
  have hs : onOpt i.g (dstep none cf i (dgoK none S4 cf l) rd sn e h) (fun g => onGuard (EN.get g.1 e) g.2 none (dgoK none S4 cf l rd sn (putO i.d undefA e) h) (dstep none cf i (dgoK none S4 cf l) rd sn e h)) = some x := hs
  cases hg : i.g with
  | none =>
    rw [hg] at hs
    obtain ⟨h1, h2⟩ := dstep_next hs
    exact ⟨fun _ => h1, h2⟩
  | some g =>
    rw [hg] at hs
    have hs : onGuard (EN.get g.1 e) g.2 none (dgoK none S4 cf l rd sn (putO i.d undefA e) h) (dstep none cf i (dgoK none S4 cf l) rd sn e h) = some x := hs
    refine ⟨fun e0 => (by cases e0), ?_⟩
    cases hv : EN.get g.1 e with
    | bool b =>
      rw [hv] at hs
      cases b <;> cases hw : g.2 <;> rw [hw] at hs <;> first
        | exact (dstep_next hs).2
        | exact ⟨_, _, _, _, hs⟩
    | tup m =>
      rw [hv] at hs
      cases m with
      | nil => exact ⟨_, _, _, _, hs⟩
      | cons x m => cases hs
    | _ => rw [hv] at hs; cases hs
theorem cO_put {x : Operand} {d : Nat} {v : AV} {e : EN} (hnt : nt ≤ 4096) (hd : d < 4096) (hne : x ≠ .tmp d) : cO nt x (EN.put (paB 12 d) v e) = cO nt x e := by
  cases x with
  | tmp i =>
    show (if i < nt then t (paB 12 i) else c .bad) _ = (if i < nt then t (paB 12 i) else c .bad) _
    by_cases hi : i < nt
    · rw [if_pos hi]
      exact en_other _ _ _ _ (fun e0 => hne (by rw [paB_inj (d := 12) (n := d) (m := i) (show d < 4096 from hd) (show i < 4096 from Nat.lt_of_lt_of_le hi hnt) e0]))
    · rw [if_neg hi]
  | const v => rfl
  | global g => cases g <;> rfl
  | func f => rfl
theorem cO_putD {x : Operand} {d : Option Tmp} {v : AV} {e : EN} (hnt : nt ≤ 4096) (hd : ∀ i, d = some i → i < 4096) (hne : ∀ i, d = some i → x ≠ .tmp i) : cO nt x (putD d v e) = cO nt x e := by
  cases d with
  | none => rfl
  | some d => exact cO_put hnt (hd d rfl) (hne d rfl)
theorem looks_ne {os : Array Oper} {d : Tmp} (h : d ∉ o.looksAt os) : ∀ x ∈ o.op.operands, x ≠ .tmp d := by
  intro x hx e
  subst e
  exact h (List.mem_append_left _ (List.mem_filterMap.2 ⟨.tmp d, by simpa using hx, rfl⟩))
theorem trace_at (hnt : nt ≤ 4096) {os : Array Oper} (hlt : ∀ o ∈ os, ∀ d, o.dst = some d → d < 4096) {pu : Nat → Bool} {i : Nat} (ho : os[i]? = some o) (hg : o.guard = none) {x : Tr4} : ∀ (L : List (Nat × Bool)) (ds : List DI), cDI P nt os pu L = some ds → (∃ b, (i, b) ∈ L) →
    (∀ p ∈ L.takeWhile (fun p => p.1 != i), ∀ op, os[p.1]? = some op → ∀ d, op.dst = some d → d ∉ o.looksAt os) →
    ∀ (rd : List (Pa × Nat × Nat)) (sn : List (Hp × Hp)) (e : EN) (h : Hp), dgoK none S4 cf ds rd sn e h = some x → ∃ h', cOp P nt o cf e h' k0 ≠ .no
  | [], _, _, hm, _, _, _, _, _, _ => by
    obtain ⟨b, hm⟩ := hm
    cases hm
  | p :: L, ds, hds, hm, hap, rd, sn, e, h, hs => by
    obtain ⟨oj, k, g, ls, hoj, hk, hls, rfl, hgg⟩ := cDI_cons hds
    by_cases hpi : p.1 = i
    · rw [hpi, ho] at hoj
      injection hoj with hoj
      subst hoj
      have hg0 : g = none := by
        rcases hgg with ⟨_, h1⟩ | ⟨j, w, oj, d, h1, _⟩
        · exact h1
        · rw [hg] at h1; cases h1
      exact ⟨h, (dgoK_next hs).1 hg0⟩
    · obtain ⟨_, rd', sn', v, h', hs'⟩ := dgoK_next hs
      have htw : List.takeWhile (fun p => p.1 != i) (p :: L) = p :: List.takeWhile (fun p => p.1 != i) L := by
        rw [List.takeWhile_cons, if_pos (by simpa using hpi)]
      rw [htw] at hap
      obtain ⟨h2, h3⟩ := trace_at hnt hlt ho hg L ls hls (by
        obtain ⟨b, hm⟩ := hm
        rcases List.mem_cons.1 hm with e0 | hm
        · exact absurd (congrArg Prod.fst e0).symm hpi
        · exact ⟨b, hm⟩) (fun q hq => hap q (List.mem_cons_of_mem _ hq)) rd' sn' _ h' hs'
      refine ⟨h2, ?_⟩
      have hd := hap p List.mem_cons_self oj hoj
      have hcg : Cg cf (putD oj.dst v e) e (cOp P nt o) := cOp_congr (fun x hx => cO_putD hnt (hlt oj (Array.mem_of_getElem? hoj)) (fun d hdd => looks_ne (hd d hdd) x hx))
      rw [← hcg h2 k0]
      have e1 : putO (oj.dst.map (paB 12)) v e = putD oj.dst v e := putO_map _ _ _
      rw [← e1]
      exact h3
end
end Ev
end Go.Proofs.YtlgpacpebjechaaGreatDoor
/-
  An allocation that stands later in the canonical run can run now.
-/
namespace Go.Proofs.YtlgpacpebjechaaGreatDoor
open Go.RowKit Go.Deep Go.Sort
namespace Ev
section
variable {P : Program} {nt : Nat} {cf : CF} {o : Oper} {σ : Sg} {N : Nat} {h h' : Hp} {w : World} {e e' : EN} {a : Act}
theorem k0_ne (v : AV) (h : Hp) : k0 v h ≠ .no := fun e => nomatch e
/-- whether it answers does not depend on the memory -/
def Ah (cf : CF) (e : EN) (op : AOp) : Prop := ∀ h h', op cf e h' k0 ≠ .no → op cf e h k0 ≠ .no
theorem ah_stuck : Ah cf e oStuck := fun _ _ h => h
theorem ah_mkslice (sz : Nat) (z : List AV) (l q : AO) : Ah cf e (oMkslice sz z l q) := by
  intro h h' hn
  unfold oMkslice at hn ⊢
  obtain ⟨j, n, hl⟩ := onNat_ne hn
  rw [hl] at hn ⊢
  have hn : onNat (q e) .no (fun q => iff (iff (Nat.beq n q) false (Nat.ble n 1000000)) .no (trk (zeros z n) 0 .nil (fun m tr => hnew h' (.row sz m tr) (fun b h => k0 (.slice b 0 n 0) h)))) ≠ .no := hn
  obtain ⟨j', n', hq⟩ := onNat_ne hn
  rw [hq] at hn
  have hn : iff (iff (Nat.beq n n') false (Nat.ble n 1000000)) .no (trk (zeros z n) 0 .nil (fun m tr => hnew h' (.row sz m tr) (fun b h => k0 (.slice b 0 n 0) h))) ≠ .no := hn
  have hc := iff_ne hn
  show onNat (q e) .no (fun q => iff (iff (Nat.beq n q) false (Nat.ble n 1000000)) .no (trk (zeros z n) 0 .nil (fun m tr => hnew h (.row sz m tr) (fun b h => k0 (.slice b 0 n 0) h)))) ≠ .no
  rw [hq]
  show iff (iff (Nat.beq n n') false (Nat.ble n 1000000)) .no (trk (zeros z n) 0 .nil (fun m tr => hnew h (.row sz m tr) (fun b h => k0 (.slice b 0 n 0) h))) ≠ .no
  rw [hc]
  show trk (zeros z n) 0 .nil (fun m tr => hnew h (.row sz m tr) (fun b h => k0 (.slice b 0 n 0) h)) ≠ .no
  rw [trk_eq, hnew_eq]
  exact k0_ne _ _
theorem ah_bslice (sz len : Nat) (z : List AV) (ps : List (Nat × Nat × AO)) : Ah cf e (oBslice sz len z ps) := by
  intro h h' hn
  unfold oBslice at hn ⊢
  obtain ⟨l, hl⟩ := onOpt_ne hn
  rw [hl]
  show trk l 0 .nil (fun n tr => hnew h (.row sz n tr) (fun b h => k0 (.slice b 0 len 0) h)) ≠ .no
  rw [trk_eq, hnew_eq]
  exact k0_ne _ _
theorem ah_box (x : AO) : Ah cf e (oBox x) := by
  intro h h' hn
  unfold oBox at hn ⊢
  obtain ⟨cs, hc⟩ := onOpt_ne hn
  rw [hc]
  show trk cs 0 .nil (fun n tr => hnew h (.row 0 n tr) (fun b h => k0 (.ptr b 0) h)) ≠ .no
  rw [trk_eq, hnew_eq]
  exact k0_ne _ _
theorem alloc_heap (hb : allocB o = true) : Ah cf e (cOp P nt o) := by
  unfold allocB at hb
  unfold cOp
  cases ho : o.op <;> rw [ho] at hb <;> first
    | (cases hb; done)
    | skip
  all_goals try dsimp only
  case alloc t =>
    split
    · exact fun _ _ _ => k0_ne _ _
    · exact ah_stuck
  case box t x => exact ah_box _
  case makeMap t r =>
    cases r with
    | none => exact fun _ _ _ => k0_ne _ _
    | some r => exact ah_stuck
  case makeSlice =>
    repeat' split
    all_goals first
      | exact ah_stuck
      | exact ah_mkslice _ _ _ _
  case buildSlice =>
    repeat' split
    all_goals first
      | exact ah_stuck
      | exact ah_bslice _ _ _ _
/-- from the canonical run: now it makes its block, whatever the world -/
theorem early_trace (hb : allocB o = true) {eb : EN} (he : ER σ nt eb a) (hr : HR σ N h w) (hag : ∀ x ∈ o.op.operands, cO nt x eb = cO nt x e) (hn : ∃ h', cOp P nt o cf e h' k0 ≠ .no) : Early P o a := by
  obtain ⟨h', hn⟩ := hn
  have hcg : Cg cf eb e (cOp P nt o) := cOp_congr hag
  rw [← hcg h' k0] at hn
  have hn2 := alloc_heap hb h h' hn
  obtain ⟨x, v, C, q, mk, hA⟩ := cOp_alloc (P := P) (nt := nt) (cf := cf) hb σ N eb h a w k0 he hr hn2
  exact Early.of_allocF hA
end
end Ev
end Go.Proofs.YtlgpacpebjechaaGreatDoor
/-
  Regions that leave a choice: what is owed to what ran early.
-/
namespace Go.Proofs.YtlgpacpebjechaaGreatDoor
open Go.RowKit Go.Deep Go.Sort
namespace Ev
/-- one operation that ran early: its block -/
structure Cr1 (P : Program) (os : Array Oper) (σ : Sg) (h : Hp) (ws : World) (a : Act) (w : World) (g j : Nat) : Prop where
  ok : ∃ (o : Oper) (d : Tmp) (C : Obj) (mk : Nat → Value), os[j]? = some o ∧ o.dst = some d ∧ allocB o = true ∧ o.guard = none ∧ (∀ w' : World, (execOp a.eval o).run P w' = .ok (.value (mk w'.heap.size)) (w'.alloc C)) ∧
    a.tmps.getD d undef = mk g ∧ w.heap[g]? = some C
  sz : ∃ w1 : World, w1.heap.size = g
  base : ws.heap.size ≤ g
  lt : g < w.heap.size
  free : ∀ b q, ownB (hget h b) = true → σ.blk b ≠ some (g, q)
structure Cr (P : Program) (os : Array Oper) (σ : Sg) (h : Hp) (ws : World) (a : Act) (w : World) (F : List Nat) : Prop where
  ex : ∃ gf : Nat → Nat, (∀ j ∈ F, Cr1 P os σ h ws a w (gf j) j) ∧ ∀ i ∈ F, ∀ j ∈ F, i ≠ j → gf i ≠ gf j
  nd : F.Nodup
theorem Cr.nil {P : Program} {os : Array Oper} {σ : Sg} {h : Hp} {ws : World} {a : Act} {w : World} : Cr P os σ h ws a w [] := ⟨⟨fun _ => 0, (fun _ hj => by cases hj), (fun _ hj => by cases hj)⟩, List.nodup_nil⟩
/-- the real slots, but for those of what ran early -/
structure EB (σ : Sg) (nt : Nat) (os : Array Oper) (F : List Nat) (e : EN) (a : Act) : Prop where
  ex : ∃ eb, ER σ nt eb a ∧ ∀ s, (∀ j ∈ F, ∀ o, os[j]? = some o → o.dst ≠ some s) → EN.get (paB 12 s) eb = EN.get (paB 12 s) e
theorem EB.nil {σ : Sg} {nt : Nat} {os : Array Oper} {e : EN} {a : Act} (he : ER σ nt e a) : EB σ nt os [] e a := ⟨⟨e, he, fun _ _ => rfl⟩⟩
theorem EB.done {σ : Sg} {nt : Nat} {os : Array Oper} {e : EN} {a : Act} (h : EB σ nt os [] e a) : ER σ nt e a := by
  obtain ⟨eb, h1, h2⟩ := h.ex
  exact ⟨h1.le, h1.size, fun i hi => by rw [← h2 i (fun _ hj => by cases hj)]; exact h1.get i hi⟩
theorem alloc_nosel {o : Oper} (h : allocB o = true) : ∀ cs b, o.op ≠ .select cs b := by
  intro cs b e
  unfold allocB at h
  rw [e] at h
  cases h
/-- another operation runs -/
theorem Cr1.step {P : Program} {os : Array Oper} {σ σ' : Sg} {N : Nat} {h h' : Hp} {ws w w' : World} {a : Act} {g j : Nat} {oi : Oper} {ds : List Deferred} {u : Value} (hc : Cr1 P os σ h ws a w g j) (hg : Go σ N h w σ' h' w')
    (hap : ∀ o, os[j]? = some o → ∀ d, oi.dst = some d → d ∉ o.looksAt os ∧ o.dst ≠ some d) : Cr1 P os σ' h' ws (({ a with defers := ds } : Act).put oi.dst u) w' g j := by
  obtain ⟨⟨o, d, C, mk, h1, h2, h3, h4, h5, h6, h7⟩, h8, h9, h10, h11⟩ := hc
  refine ⟨⟨o, d, C, mk, h1, h2, h3, h4, fun w1 => ?_, ?_, ?_⟩, h8, h9, Nat.lt_of_lt_of_le h10 hg.size, fun b q ho e => ?_⟩
  · have e1 : execOp (({ a with defers := ds } : Act).put oi.dst u).eval o = execOp ({ a with defers := ds } : Act).eval o := execOp_put (ops := os) o (alloc_nosel h3) _ _ _ (fun d hd => (hap o h1 d hd).1)
    rw [e1]
    exact h5 w1
  · cases hd : oi.dst with
    | none => exact h6
    | some di =>
      have hne := (hap o h1 di hd).2
      rw [h2] at hne
      show (a.tmps.setIfInBounds di u).getD d undef = mk g
      rw [getD_set, if_neg (fun e => hne (by rw [e.1]))]
      exact h6
  · rw [hg.frame g h10 (fun b q ho e => h11 b q ho e)]
    exact h7
  · rcases hg.img b g q ho e with ⟨b0, q0, e1, e2⟩ | e1
    · exact h11 b0 q0 e1 e2
    · omega
/-- what runs early -/
theorem Early.wp {P : Program} {o : Oper} {a : Act} (he : Early P o a) {w : World} {Q : Exit → Act → World → Prop} {next : Act → World → Prop} (hn : ∀ (C : Obj) (mk : Nat → Value), (∀ w' : World, (execOp a.eval o).run P w' = .ok (.value (mk w'.heap.size)) (w'.alloc C)) → next (a.put o.dst (mk w.heap.size)) (w.alloc C)) : o.wp P a w next Q := by
  obtain ⟨C, mk, h⟩ := he
  unfold Oper.wp
  rw [h w]
  exact hn C mk h
theorem get_putD (s : Nat) (d : Option Tmp) (v : AV) {e e' : EN} (h : EN.get (paB 12 s) e = EN.get (paB 12 s) e') : EN.get (paB 12 s) (putD d v e) = EN.get (paB 12 s) (putD d v e') := by
  cases d with
  | none => exact h
  | some d =>
    show EN.get (paB 12 s) (EN.put (paB 12 d) v e) = EN.get (paB 12 s) (EN.put (paB 12 d) v e')
    by_cases e0 : paB 12 d = paB 12 s
    · rw [← e0, en_same, en_same]
    · rw [en_other _ _ _ _ e0, en_other _ _ _ _ e0]; exact h
/-- another operation runs: the slots -/
theorem EB.step {σ σ' : Sg} {nt : Nat} {os : Array Oper} {F : List Nat} {e eb : EN} {a : Act} {o : Oper} {v : AV} {u : Value} {ds : List Deferred} (he : ER σ nt eb a) (hag : ∀ s, (∀ j ∈ F, ∀ o, os[j]? = some o → o.dst ≠ some s) → EN.get (paB 12 s) eb = EN.get (paB 12 s) e) (hl : σ.le σ') (hd : ∀ d, o.dst = some d → d < 4096) (hR : R σ' v u) :
    EB σ' nt os F (putD o.dst v e) (({ a with defers := ds } : Act).put o.dst u) :=
  ⟨⟨putD o.dst v eb, ((he.mono hl).defers ds).putD hd hR, fun s hs => get_putD s _ _ (hag s hs)⟩⟩
end Ev
end Go.Proofs.YtlgpacpebjechaaGreatDoor
