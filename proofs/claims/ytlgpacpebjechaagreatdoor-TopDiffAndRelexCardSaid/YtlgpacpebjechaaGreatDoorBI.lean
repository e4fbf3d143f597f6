/-
  Texts joined: Regions that leave a choice: what ran early is taken in at its place; an allocation runs early; Regions that leave a choice, in which what is read stays; Regions that leave a choice: the walk over the tree; The functions whose regions leave a choice.
-/
import Derived.Test.YtlgpacpebjechaaGreatDoorBH
/-
  Regions that leave a choice: what ran early is taken in at its place; an allocation runs early.
-/
namespace Go.Proofs.YtlgpacpebjechaaGreatDoor
open Go.RowKit Go.Deep Go.Sort
namespace Ev
def seesB (os : Array Oper) (x y : Oper) : Bool := match x.dst with | some d => !(y.looksAt os).contains d | none => true
def diffB (x y : Oper) : Bool := match x.dst with | some d => y.dst != some d | none => true
/-- o's slot is none that they look at, nor one of theirs -/
def awayB (os : Array Oper) (F : List Nat) (o : Oper) : Bool := F.all fun k => match os[k]? with | some ok => seesB os o ok && diffB o ok | none => false
/-- o looks at none of their slots -/
def clearB (os : Array Oper) (F : List Nat) (o : Oper) : Bool := F.all fun k => match os[k]? with | some ok => seesB os ok o | none => false
theorem seesB_spec {os : Array Oper} {x y : Oper} (h : seesB os x y = true) : ∀ d, x.dst = some d → d ∉ y.looksAt os := by
  intro d hd
  unfold seesB at h
  rw [hd] at h
  simpa using h
theorem diffB_spec {x y : Oper} (h : diffB x y = true) : ∀ d, x.dst = some d → y.dst ≠ some d := by
  intro d hd
  unfold diffB at h
  rw [hd] at h
  simpa using h
theorem awayB_spec {os : Array Oper} {F : List Nat} {o : Oper} (h : awayB os F o = true) : ∀ j ∈ F, ∀ oj, os[j]? = some oj → ∀ d, o.dst = some d → d ∉ oj.looksAt os ∧ oj.dst ≠ some d := by
  intro j hj oj hoj d hd
  have h1 := List.all_eq_true.1 h j hj
  rw [hoj] at h1
  have h1 : (seesB os o oj && diffB o oj) = true := h1
  rw [Bool.and_eq_true] at h1
  exact ⟨seesB_spec h1.1 d hd, diffB_spec h1.2 d hd⟩
theorem clearB_spec {os : Array Oper} {F : List Nat} {o : Oper} (h : clearB os F o = true) : ∀ j ∈ F, ∀ oj, os[j]? = some oj → ∀ d, oj.dst = some d → d ∉ o.looksAt os := by
  intro j hj oj hoj d hd
  have h1 := List.all_eq_true.1 h j hj
  rw [hoj] at h1
  exact seesB_spec h1 d hd
/-- the slots agree, but for those of what ran early -/
def Agree (nt : Nat) (os : Array Oper) (F : List Nat) (eb e : EN) : Prop := ∀ s, s < nt → (∀ j ∈ F, ∀ o, os[j]? = some o → o.dst ≠ some s) → EN.get (paB 12 s) eb = EN.get (paB 12 s) e
theorem Agree.cO {nt : Nat} {os : Array Oper} {F : List Nat} {eb e : EN} {o : Oper} (h : Agree nt os F eb e) (hc : clearB os F o = true) : ∀ x ∈ o.op.operands, cO nt x eb = cO nt x e := by
  intro x hx
  cases x with
  | tmp i =>
    show (if i < nt then t (paB 12 i) else c .bad) eb = (if i < nt then t (paB 12 i) else c .bad) e
    by_cases hi : i < nt
    · rw [if_pos hi]
      refine h i hi (fun j hj oj hoj hd => ?_)
      exact looks_ne (clearB_spec hc j hj oj hoj i hd) _ hx rfl
    · rw [if_neg hi]
  | const v => rfl
  | global g => cases g <;> rfl
  | func f => rfl
theorem Agree.put {nt : Nat} {os : Array Oper} {F : List Nat} {eb e : EN} (h : Agree nt os F eb e) (d : Option Tmp) (v : AV) : Agree nt os F (putD d v eb) (putD d v e) := fun s hn hs => get_putD s d v (h s hn hs)
theorem Agree.guard {nt : Nat} {os : Array Oper} {F : List Nat} {eb e : EN} {o oj : Oper} {j g : Nat} {want : Bool} (h : Agree nt os F eb e) (hc : clearB os F o = true) (hg : o.guard = some (j, want)) (hj : os[j]? = some oj) (hd : oj.dst = some g) (hgn : g < nt) : EN.get (paB 12 g) eb = EN.get (paB 12 g) e := by
  refine h g hgn (fun k hk ok hok hdk => ?_)
  refine clearB_spec hc k hk ok hok g hdk ?_
  unfold Oper.looksAt
  rw [hg]
  refine List.mem_append_right _ ?_
  simp [hj, hd]
section
variable {P : Program} {nt : Nat} {cf : CF} {o : Oper} {σ σ' σs : Sg} {N : Nat} {h h' hs : Hp} {w w' ws : World} {os : Array Oper} {F : List Nat} {a : Act} {e eb : EN}
/-- what ran early comes to its place -/
theorem Cr.absorb {j : Nat} (hj : j ∈ F) (ho : os[j]? = some o) (hcl : clearB os F o = true) (hlt : ∀ d, o.dst = some d → d < 4096) (hNs : N ≤ ws.heap.size) (G0 : Go σs N hs ws σ h w) (he : ER σ nt eb a) (hag : Agree nt os F eb e) (hc : Cr P os σ h ws a w F) (hne : cOp P nt o cf e h k0 ≠ .no) :
    o.guard = none ∧ ∃ v h' σ' eb', cOp P nt o cf e h k0 = k0 v h' ∧ Go σs N hs ws σ' h' w ∧ ER σ' nt eb' a ∧ Agree nt os (F.erase j) eb' (putD o.dst v e) ∧ Cr P os σ' h' ws a w (F.erase j) := by
  obtain ⟨⟨gf, hgf, hinj⟩, hnd⟩ := hc
  have h1 := hgf j hj
  obtain ⟨⟨o', d, C, mk, ho', hd, hal, hgu, hrun, hslot, hblk⟩, ⟨w1, hw1⟩, hbase, hglt, hfree⟩ := h1
  rw [ho] at ho'; injection ho' with ho'; subst ho'
  refine ⟨hgu, ?_⟩
  have hcg : Cg cf eb e (cOp P nt o) := cOp_congr (hag.cO hcl)
  rw [← hcg h k0] at hne
  obtain ⟨x, v, C', q, mk', hA⟩ := cOp_alloc (P := P) (nt := nt) (cf := cf) hal σ N eb h a w k0 he G0.hr hne
  obtain ⟨hC, hmk⟩ := Early.same (P := P) (o := o) (a := a) hrun hA.run
  subst hC
  have hmkg : mk (gf j) = mk' (gf j) := by have := hmk w1; rwa [hw1] at this
  have hle := Sg.le_put (σ := σ) (p := h.n) (gf j) q (G0.hr.fresh _ (Nat.le_refl _))
  have hput := Sg.put_same σ h.n (gf j) q
  have hN : N ≤ gf j := Nat.le_trans hNs hbase
  have hgo := G0.adopt x hA.own (gf j) q hfree hbase (hA.blk _ _ _ hle hput hN hblk)
  refine ⟨v, _, _, putD o.dst v eb, (hcg h k0) ▸ hA.eq, hgo, ?_, fun s hsn hs => ?_, ⟨⟨gf, fun k hk => ?_, fun i hi k hk => hinj i (List.mem_of_mem_erase hi) k (List.mem_of_mem_erase hk)⟩, hnd.erase _⟩⟩
  · -- the slots
    rw [hd]
    refine ⟨he.le, he.size, fun i hi => ?_⟩
    show R _ (EN.get (paB 12 i) (EN.put (paB 12 d) v eb)) _
    by_cases e1 : d = i
    · subst e1
      rw [en_same, hslot, hmkg]
      exact hA.val _ _ hle hput
    · rw [en_other _ _ _ _ (fun k => e1 (paB_inj (hlt d hd) (by have := he.le; omega) k))]
      exact (he.get i hi).mono hle
  · by_cases e1 : s = d
    · subst e1
      rw [hd]
      show EN.get _ (EN.put _ _ _) = EN.get _ (EN.put _ _ _)
      rw [en_same, en_same]
    · refine get_putD s _ _ (hag s hsn (fun k hk ok hok hdk => ?_))
      by_cases e2 : k = j
      · subst e2
        rw [ho] at hok; injection hok with hok; subst hok
        rw [hd] at hdk
        injection hdk with hdk
        exact e1 hdk.symm
      · exact hs k ((List.mem_erase_of_ne e2).2 hk) ok hok hdk
  · have hk' := List.mem_of_mem_erase hk
    have hne' : k ≠ j := fun e1 => by
      subst e1
      exact (List.Nodup.not_mem_erase hnd) hk
    obtain ⟨h2, h3, h4, h5, h6⟩ := hgf k hk'
    refine ⟨h2, h3, h4, h5, fun b q' hob => ?_⟩
    by_cases e1 : b = h.n
    · subst e1
      rw [Sg.put_same]
      intro e2
      injection e2 with e2
      injection e2 with e2 e3
      exact hinj k hk' j hj hne' e2.symm
    · rw [Sg.put_other _ _ _ e1]
      have : hget ⟨HT.put h.n x h.t, Pa.succ h.n⟩ b = hget h b := ht_other _ _ _ _ (Ne.symm e1)
      rw [this] at hob
      exact h6 b q' hob
/-- an allocation runs early -/
theorem Cr.early {i : Nat} {d : Tmp} (hi : i ∉ F) (ho : os[i]? = some o) (hal : allocB o = true) (hgu : o.guard = none) (hd : o.dst = some d) (hdn : d < nt) (hself : seesB os o o = true) (haw : awayB os F o = true) (G0 : Go σs N hs ws σ h w) (he : ER σ nt eb a) (hag : Agree nt os F eb e) (hc : Cr P os σ h ws a w F)
    {C : Obj} {mk : Nat → Value} (hrun : ∀ w' : World, (execOp a.eval o).run P w' = .ok (.value (mk w'.heap.size)) (w'.alloc C)) :
    Go σs N hs ws σ h (w.alloc C) ∧ ER σ nt (EN.put (paB 12 d) .bad eb) (a.put o.dst (mk w.heap.size)) ∧ Agree nt os (i :: F) (EN.put (paB 12 d) .bad eb) e ∧ Cr P os σ h ws (a.put o.dst (mk w.heap.size)) (w.alloc C) (i :: F) := by
  obtain ⟨⟨gf, hgf, hinj⟩, hnd⟩ := hc
  have hsz : (w.alloc C).heap.size = w.heap.size + 1 := World.size_alloc w C
  have hgr : Go σ N h w σ h (w.alloc C) := G0.hr.grow (w' := w.alloc C) rfl rfl rfl (by omega) (fun g hg => ((Fut.refl w).alloc C).block g hg)
  have hown : ∀ b q, ownB (hget h b) = true → σ.blk b ≠ some (w.heap.size, q) := fun b q' hob e => by
    obtain ⟨g, q2, h1, h2⟩ := (G0.hr.blk b).lt (fun e => by rw [e] at hob; cases hob)
    rw [h1] at e; injection e with e; injection e with e1 e2; omega
  refine ⟨G0.trans hgr, ?_, fun s hsn hs => ?_, ⟨⟨fun k => if k = i then w.heap.size else gf k, fun k hk => ?_, fun k hk l hl hkl => ?_⟩, List.nodup_cons.2 ⟨hi, hnd⟩⟩⟩
  · rw [hd]
    exact he.put d (Nat.lt_of_lt_of_le hdn he.le) (.bad _)
  · have h4 := he.le
    have hne : paB 12 d ≠ paB 12 s := fun e1 => hs i List.mem_cons_self o ho (by rw [hd, paB_inj (d := 12) (n := d) (m := s) (Nat.lt_of_lt_of_le hdn h4) (Nat.lt_of_lt_of_le hsn h4) e1])
    rw [en_other _ _ _ _ hne]
    exact hag s hsn (fun k hk => hs k (List.mem_cons_of_mem _ hk))
  · rcases List.mem_cons.1 hk with hk | hk
    · subst hk
      show Cr1 P os σ h ws _ _ (if k = k then w.heap.size else gf k) k
      rw [if_pos rfl]
      refine ⟨⟨o, d, C, mk, ho, hd, hal, hgu, fun w1 => ?_, ?_, alloc_last w C⟩, ⟨w, rfl⟩, G0.size, by omega, hown⟩
      · rw [execOp_put (ops := os) o (alloc_nosel hal) a o.dst _ (seesB_spec hself)]
        exact hrun w1
      · rw [hd]
        show (a.tmps.setIfInBounds d _).getD d undef = _
        rw [getD_set, if_pos ⟨rfl, Nat.lt_of_lt_of_le hdn he.size⟩]
    · have hki : k ≠ i := fun e1 => hi (e1 ▸ hk)
      show Cr1 P os σ h ws (a.put o.dst (mk w.heap.size)) (w.alloc C) (if k = i then w.heap.size else gf k) k
      rw [if_neg hki]
      have := Cr1.step (oi := o) (ds := a.defers) (u := mk w.heap.size) (hgf k hk) hgr (fun ok hok d' hd' => awayB_spec haw k hk ok hok d' hd')
      exact this
  · show (if k = i then w.heap.size else gf k) ≠ (if l = i then w.heap.size else gf l)
    by_cases e1 : k = i
    · by_cases e2 : l = i
      · exact absurd (e1.trans e2.symm) hkl
      · rw [if_pos e1, if_neg e2]
        have hl' : l ∈ F := (List.mem_cons.1 hl).resolve_left e2
        have := (hgf l hl').lt
        omega
    · by_cases e2 : l = i
      · rw [if_neg e1, if_pos e2]
        have hk' : k ∈ F := (List.mem_cons.1 hk).resolve_left e1
        have := (hgf k hk').lt
        omega
      · rw [if_neg e1, if_neg e2]
        exact hinj k ((List.mem_cons.1 hk).resolve_left e1) l ((List.mem_cons.1 hl).resolve_left e2) hkl
end
end Ev
end Go.Proofs.YtlgpacpebjechaaGreatDoor
/-
  Regions that leave a choice, in which what is read stays.
-/
namespace Go.Proofs.YtlgpacpebjechaaGreatDoor
open Go.RowKit Go.Deep Go.Sort
namespace Ev
def boxB (o : Oper) : Bool := match o.op with | .box _ _ => true | _ => false
/-- an operation that may run early -/
def earlyC (nt : Nat) (os : Array Oper) (sp : List (Nat × Nat)) (F : List Nat) (L : List (Nat × Bool)) (i : Nat) : Bool := match os[i]? with
  | some o => allocB o && o.guard.isNone && (match o.dst with | some d => decide (d < nt) | none => false) && seesB os o o && awayB os F o && L.contains (i, true) && !F.contains i &&
      (match sp.lookup i with
      | some j => F.contains j && (match os[j]? with | some oj => boxB oj && (match oj.dst with | some d => decide (d < nt) | none => false) | none => false)
      | none => clearB os F o && (L.takeWhile fun p => p.1 != i).all (fun p => match os[p.1]? with | some op => seesB os op o | none => false))
  | none => false
def stepB (os : Array Oper) (F : List Nat) (i : Nat) : Bool := match os[i]? with | some o => awayB os F o && clearB os F o | none => false
/-- the tree runs the list, but for what runs early -/
def treeC (nt : Nat) (os : Array Oper) (sp : List (Nat × Nat)) : Nat → List Nat → List (Nat × Bool) → Sched → Bool
  | 0, _, _, _ => false
  | n + 1, F, L, s => match L with
    | [] => match s with
      | .done => F.isEmpty
      | _ => false
    | (j, b) :: T => if F.contains j then b && (match os[j]? with | some o => clearB os F o | none => false) && treeC nt os sp n (F.erase j) T s else match s with
      | .hoist i r => i == j && !b && stepB os F i && treeC nt os sp n F T r
      | .one i r => if i == j then b && stepB os F i && treeC nt os sp n F T r else earlyC nt os sp F L i && treeC nt os sp n (i :: F) L r
      | .two i r k t => treeC nt os sp n F L (.one i r) && treeC nt os sp n F L (.one k t)
      | _ => false
section
variable {P : Program} {nt : Nat} {cf : CF} {o : Oper} {σ σ' σs : Sg} {N : Nat} {h h' hs : Hp} {w w' ws : World} {os : Array Oper} {F : List Nat} {a : Act} {e eb : EN} {Q : Exit → Act → World → Prop}
theorem box_run (hb : boxB o = true) (a : Act) : ∃ C : Obj, ∀ w' : World, (execOp a.eval o).run P w' = .ok (.value (.pointer (some ⟨w'.heap.size, 0, none⟩))) (w'.alloc C) := by
  obtain ⟨dst, op, ty, pos, after, guard⟩ := o
  cases op <;> first
    | (cases hb; done)
    | skip
  rename_i t x
  refine ⟨.cells (a.eval x).cells t, fun w' => ?_⟩
  show ((Instr.box t (a.eval x) >>= fun z => pure (.value z)) : Sem Next).run P w' = _
  simp [Instr.box, newVar, newRow]
/-- the memory with one block's number given away -/
theorem HR.lend (hr : HR σ N h w) (g : Nat) : HR (σ.put h.n g 0) N ⟨h.t, Pa.succ h.n⟩ w := by
  have hle := Sg.le_put (σ := σ) (p := h.n) g 0 (hr.fresh _ (Nat.le_refl _))
  have hget' : ∀ b, hget ⟨h.t, Pa.succ h.n⟩ b = hget h b := fun b => rfl
  have hne : ∀ b, ownB (hget h b) = true → b ≠ h.n := fun b hb e => by
    rw [e, hr.none_fresh (Nat.le_refl _)] at hb; cases hb
  refine ⟨hr.base, hle.2 _ _ hr.glob, hr.pos, fun b => ?_, fun b b' g1 q1 q2 h1 h2 e1 e2 => ?_, fun p hp => ?_⟩
  · rw [hget']; exact (hr.blk b).keep hle (fun _ _ _ => rfl)
  · rw [hget'] at h1 h2
    rw [Sg.put_other _ _ _ (hne b h1)] at e1
    rw [Sg.put_other _ _ _ (hne b' h2)] at e2
    exact hr.inj b b' g1 q1 q2 h1 h2 e1 e2
  · have hp : (Pa.succ h.n).num ≤ p.num := hp
    rw [num_succ] at hp
    rw [Sg.put_other _ _ _ (fun e => by rw [e] at hp; omega)]
    exact hr.fresh p (by omega)
/-- an operation that looks at what was boxed early -/
theorem early_ptr {j : Nat} {oj : Oper} {d : Tmp} (hal : allocB o = true) (hj : j ∈ F) (hoj : os[j]? = some oj) (hbj : boxB oj = true) (hdj : oj.dst = some d) (hdn : d < nt) (hr : HR σ N h w) (he : ER σ nt eb a) (hc : Cr P os σ h ws a w F)
    (hsp : ∀ (e : EN) (h : Hp) (p : Pa), EN.get (paB 12 d) e = .ptr p 0 → cOp P nt o cf e h k0 ≠ .no) : Early P o a := by
  obtain ⟨⟨gf, hgf, _⟩, _⟩ := hc
  obtain ⟨⟨o', d', C, mk, ho', hd', _, _, hrun, hslot, _⟩, ⟨w1, hw1⟩, _, _, _⟩ := hgf j hj
  rw [hoj] at ho'; injection ho' with ho'; subst ho'
  rw [hdj] at hd'; injection hd' with hd'; subst hd'
  obtain ⟨C', hrun'⟩ := box_run (P := P) hbj a
  have hmk := (Early.same (P := P) (o := oj) (a := a) (mk' := fun g => .pointer (some ⟨g, 0, none⟩)) hrun hrun').2 w1
  rw [hw1] at hmk
  have hle := Sg.le_put (σ := σ) (p := h.n) (gf j) 0 (hr.fresh _ (Nat.le_refl _))
  have he' : ER (σ.put h.n (gf j) 0) nt (EN.put (paB 12 d) (.ptr h.n 0) eb) a := by
    refine ⟨he.le, he.size, fun i hi => ?_⟩
    by_cases e1 : d = i
    · subst e1
      rw [en_same, hslot, hmk]
      exact .ptr _ _ _ _ (Sg.put_same _ _ _ _)
    · rw [en_other _ _ _ _ (fun k => e1 (paB_inj (Nat.lt_of_lt_of_le hdn he.le) (Nat.lt_of_lt_of_le hi he.le) k))]
      exact (he.get i hi).mono hle
  obtain ⟨x, v, C2, q, mk2, hA⟩ := cOp_alloc (P := P) (nt := nt) (cf := cf) hal _ N _ _ a w k0 he' (hr.lend (gf j)) (hsp _ _ h.n (en_same _ _ _))
  exact Early.of_allocF hA
theorem DI_casesE {ix : Nat} {k : DK} {g : Option (Pa × Bool)} {ls : List DI} {rd : List (Pa × Nat × Nat)} {sn : List (Hp × Hp)} {x : Tr4} (he : ER σ nt eb a) (hag : Agree nt os F eb e) (hcl : clearB os F o = true)
    (hg : (o.guard = none ∧ g = none) ∨ ∃ j w oj d, o.guard = some (j, w) ∧ os[j]? = some oj ∧ oj.dst = some d ∧ d < nt ∧ g = some (paB 12 d, w))
    (hs : dgoK none S4 cf (⟨ix, o.dst.map (paB 12), g, k, cOp P nt o⟩ :: ls) rd sn e h = some x) :
    (Region.wanted o (yielded os a.tmps) = true ∧ dstep none cf ⟨ix, o.dst.map (paB 12), g, k, cOp P nt o⟩ (dgoK none S4 cf ls) rd sn e h = some x) ∨ (Region.wanted o (yielded os a.tmps) = false ∧ dgoK none S4 cf ls rd sn (putD o.dst undefA e) h = some x) := by
  rcases hg with ⟨h1, rfl⟩ | ⟨j, want, oj, d, h1, h2, h3, h4, rfl⟩
  · exact .inl ⟨by simp [Region.wanted, h1], hs⟩
  · have hs : onGuard (EN.get (paB 12 d) e) want none (dgoK none S4 cf ls rd sn (putO (o.dst.map (paB 12)) undefA e) h) (dstep none cf ⟨ix, o.dst.map (paB 12), some (paB 12 d, want), k, cOp P nt o⟩ (dgoK none S4 cf ls) rd sn e h) = some x := hs
    rw [putO_map, ← hag.guard hcl h1 h2 h3 h4] at hs
    have hne : onGuard (EN.get (paB 12 d) eb) want Res.no (.ret e h) (.exit 0 e h) ≠ .no := by
      cases hv : EN.get (paB 12 d) eb with
      | bool b => cases b <;> cases want <;> (intro e0; cases e0)
      | tup m =>
        rw [hv] at hs
        cases m with
        | nil => intro e0; cases e0
        | cons x m => cases hs
      | _ => rw [hv] at hs; cases hs
    rcases onGuard_ok h1 h2 h3 h4 he hne with ⟨h5, h6⟩ | ⟨h5, h6⟩
    · refine .inl ⟨h5, ?_⟩
      cases hv : EN.get (paB 12 d) eb with
      | bool b => rw [hv] at hs h6; cases b <;> cases want <;> first | exact hs | cases h6
      | tup m =>
        rw [hv] at hs h6
        cases m with
        | nil => cases h6
        | cons x m => cases hs
      | _ => rw [hv] at hs; cases hs
    · refine .inr ⟨h5, ?_⟩
      cases hv : EN.get (paB 12 d) eb with
      | bool b => rw [hv] at hs h6; cases b <;> cases want <;> first | exact hs | cases h6
      | tup m =>
        rw [hv] at hs h6
        cases m with
        | nil => exact hs
        | cons x m => cases hs
      | _ => rw [hv] at hs; cases hs
/-- another operation runs: what is owed -/
theorem Cr.step (hc : Cr P os σ h ws a w F) (hg : Go σ N h w σ' h' w') (haw : awayB os F o = true) (ds : List Deferred) (u : Value) : Cr P os σ' h' ws (({ a with defers := ds } : Act).put o.dst u) w' F := by
  obtain ⟨⟨gf, hgf, hinj⟩, hnd⟩ := hc
  exact ⟨⟨gf, fun k hk => Cr1.step (hgf k hk) hg (fun ok hok d hd => awayB_spec haw k hk ok hok d hd), hinj⟩, hnd⟩
end
end Ev
end Go.Proofs.YtlgpacpebjechaaGreatDoor
/-
  Regions that leave a choice: the walk over the tree.
-/
namespace Go.Proofs.YtlgpacpebjechaaGreatDoor
open Go.RowKit Go.Deep Go.Sort
namespace Ev
section
variable {P : Program} {nt : Nat} {cf : CF} {σs : Sg} {N : Nat} {hs : Hp} {ws : World} {os : Array Oper} {Q : Exit → Act → World → Prop}
/-- the special ones: what they look at is a pointer that is pending -/
def SpOK (P : Program) (nt : Nat) (cf : CF) (os : Array Oper) (sp : List (Nat × Nat)) : Prop :=
  ∀ i j o oj d, sp.lookup i = some j → os[i]? = some o → os[j]? = some oj → oj.dst = some d → ∀ (e : EN) (h : Hp) (p : Pa), EN.get (paB 12 d) e = .ptr p 0 → cOp P nt o cf e h k0 ≠ .no
theorem drawC (hF : Flats P) (hcf : CFOK P cf) (hnt : nt ≤ 4096) (hlt : ∀ o ∈ os, ∀ d, o.dst = some d → d < 4096) {sp : List (Nat × Nat)} (hsp : SpOK P nt cf os sp) {l0 : List (Nat × Bool)} {h0 hE : Hp} {eE : EN} {rdF : List (Pa × Nat × Nat)} {snF : List (Hp × Hp)} (hsame : sameR h0 rdF snF = true) (hrow : ∀ p ∈ rdF, ∃ x, σs.blk p.1 = some x) (hNs : N ≤ ws.heap.size)
    (hfin : ∀ σ' a' w', Go σs N hs ws σ' hE w' → ER σ' nt eE a' → DOK a' → Q .normal a' w') :
    ∀ (n : Nat) (F : List Nat) (L : List (Nat × Bool)) (s : Sched), treeC nt os sp n F L s = true → (∀ p ∈ L, p ∈ l0) → ∀ (ds : List DI), cDI P nt os (pures P os l0) L = some ds →
    ∀ (σ : Sg) (e eb : EN) (h : Hp) (a : Act) (w : World) (rd : List (Pa × Nat × Nat)) (sn : List (Hp × Hp)), Go σs N hs ws σ h w → ER σ nt eb a → Agree nt os F eb e → Cr P os σ h ws a w F → DOK a → dgoK none S4 cf ds rd sn e h = some (rdF, snF, eE, hE) →
      wpT (RR σs rdF) (pures P os l0) P os Q s a w
  | 0, F, L, s, ht, _, _, _, _, _, _, _, _, _, _, _, _, _, _, _, _, _ => by unfold treeC at ht; cases ht
  | n + 1, F, [], s, ht, hm, ds, hds, σ, e, eb, h, a, w, rd, sn, G0, he, hag, hc, hd, hs => by
    unfold treeC at ht
    have hds : some [] = some ds := hds
    injection hds with hds
    subst hds
    have hs : some (rd, sn, e, h) = some (rdF, snF, eE, hE) := hs
    injection hs with hs
    injection hs with h1 h2
    injection h2 with h2 h3
    injection h3 with h3 h4
    subst h3; subst h4
    cases s <;> first
      | (cases ht; done)
      | skip
    have hF0 : F = [] := by simpa using ht
    subst hF0
    exact hfin σ a w G0 ⟨he.le, he.size, fun i hi => by rw [← hag i hi (fun j hj => by cases hj)]; exact he.get i hi⟩ hd
  | n + 1, F, (j, b) :: T, s, ht, hm, ds, hds, σ, e, eb, h, a, w, rd, sn, G0, he, hag, hc, hd, hs => by
    have ih := drawC hF hcf hnt hlt hsp (l0 := l0) hsame hrow hNs hfin n
    unfold treeC at ht
    dsimp only at ht
    by_cases hjF : F.contains j = true
    · -- what ran early comes to its place
      rw [if_pos hjF] at ht
      rw [Bool.and_eq_true, Bool.and_eq_true] at ht
      obtain ⟨⟨hb, hcl⟩, ht⟩ := ht
      subst hb
      obtain ⟨o, k, g, ls, ho, hk, hls, rfl, hg⟩ := cDI_cons hds
      have ho : os[j]? = some o := ho
      rw [ho] at hcl
      have hcl : clearB os F o = true := hcl
      have hjF' : j ∈ F := by simpa using hjF
      have hmem : o ∈ os := Array.mem_of_getElem? ho
      have hdl := hlt o hmem
      have hgn : o.guard = none := by
        obtain ⟨⟨gf, hgf, _⟩, _⟩ := hc
        obtain ⟨⟨o', d', C, mk, ho', _, _, hgu, _⟩, _⟩ := hgf j hjF'
        rw [ho] at ho'; injection ho' with ho'; subst ho'
        exact hgu
      have hg0 : g = none := by
        rcases hg with ⟨_, h1⟩ | ⟨j', w', oj, d, h1, _⟩
        · exact h1
        · rw [hgn] at h1; cases h1
      subst hg0
      have hs : dstep none cf ⟨j, o.dst.map (paB 12), none, k, cOp P nt o⟩ (dgoK none S4 cf ls) rd sn e h = some (rdF, snF, eE, hE) := hs
      have key : ∀ (rd' : List (Pa × Nat × Nat)) (sn' : Hp → List (Hp × Hp)), run1 none (cOp P nt o) cf e h (fun v h' => dgoK none S4 cf ls rd' (sn' h') (putO (o.dst.map (paB 12)) v e) h') = some (rdF, snF, eE, hE) → wpT (RR σs rdF) (pures P os l0) P os Q s a w := by
        intro rd' sn' hs
        obtain ⟨hne, _⟩ := run1_some hs
        obtain ⟨_, v, h', σ', eb', e1, G1, he1, hag1, hc1⟩ := hc.absorb hjF' ho hcl hdl hNs G0 he hag hne
        have hs := run1_at hs e1
        rw [putO_map] at hs
        exact ih (F.erase j) T s ht (fun p hp => hm p (List.mem_cons_of_mem _ hp)) ls hls σ' _ eb' h' a w _ _ G1 he1 hag1 hc1 hd hs
      have hk : cKind P nt os (pures P os l0) j true o = some k := hk
      unfold cKind at hk
      rw [if_pos rfl] at hk
      injection hk with hk
      by_cases hlate : lateP os (pures P os l0) j = true
      · rw [if_pos hlate] at hk
        subst hk
        exact key rd (fun _ => sn) hs
      · rw [if_neg hlate] at hk
        subst hk
        exact key rd (fun h' => (h, h') :: sn) hs
    · rw [if_neg hjF] at ht
      have hone : ∀ i r, (if (i == j) = true then b && stepB os F i && treeC nt os sp n F T r else earlyC nt os sp F ((j, b) :: T) i && treeC nt os sp n (i :: F) ((j, b) :: T) r) = true → wpT (RR σs rdF) (pures P os l0) P os Q (.one i r) a w := by
        intro i r ht1
        by_cases hij : i = j
        · -- its turn
          subst hij
          rw [if_pos (by simp)] at ht1
          rw [Bool.and_eq_true, Bool.and_eq_true] at ht1
          obtain ⟨⟨hb, hst⟩, ht1⟩ := ht1
          subst hb
          obtain ⟨o, k, g, ls, ho, hk, hls, rfl, hg⟩ := cDI_cons hds
          have ho : os[i]? = some o := ho
          unfold stepB at hst
          rw [ho] at hst
          have hst : (awayB os F o && clearB os F o) = true := hst
          rw [Bool.and_eq_true] at hst
          obtain ⟨haw, hcl⟩ := hst
          have hmem : o ∈ os := Array.mem_of_getElem? ho
          have hcg : Cg cf eb e (cOp P nt o) := cOp_congr (hag.cO hcl)
          refine ⟨o, ho, ?_⟩
          rcases DI_casesE he hag hcl hg hs with ⟨h1, hs⟩ | ⟨h1, hs⟩
          · have hk : cKind P nt os (pures P os l0) i true o = some k := hk
            unfold cKind at hk
            rw [if_pos rfl] at hk
            injection hk with hk
            by_cases hlate : lateP os (pures P os l0) i = true
            · rw [if_pos hlate] at hk
              subst hk
              have hs : run1 none (cOp P nt o) cf e h (fun v h' => dgoK none S4 cf ls rd sn (putO (o.dst.map (paB 12)) v e) h') = some (rdF, snF, eE, hE) := hs
              obtain ⟨hne, _⟩ := run1_some hs
              rw [← hcg h _] at hne
              refine .inl ⟨h1, cOp_ok (nt := nt) hF hcf σ N eb h a w _ Q _ he G0.hr hne (fun v h' σ' u w' dfs e1 e2 e3 e4 => ⟨.inl hlate, ?_⟩)⟩
              rw [hcg h _] at e1
              have hs := run1_at hs e1
              rw [putO_map] at hs
              exact ih F T r ht1 (fun p hp => hm p (List.mem_cons_of_mem _ hp)) ls hls σ' _ (putD o.dst v eb) h' _ w' rd sn (G0.trans e2) (((he.mono e2.le).defers dfs).putD (hlt o hmem) e3) (hag.put _ _) (hc.step e2 haw dfs u) (hd.put e4 _ _) hs
            · rw [if_neg hlate] at hk
              subst hk
              have hs : run1 none (cOp P nt o) cf e h (fun v h' => dgoK none S4 cf ls rd ((h, h') :: sn) (putO (o.dst.map (paB 12)) v e) h') = some (rdF, snF, eE, hE) := hs
              obtain ⟨hne, _⟩ := run1_some hs
              rw [← hcg h _] at hne
              refine .inl ⟨h1, cOp_ok (nt := nt) hF hcf σ N eb h a w _ Q _ he G0.hr hne (fun v h' σ' u w' dfs e1 e2 e3 e4 => ?_)⟩
              rw [hcg h _] at e1
              have hs := run1_at hs e1
              rw [putO_map] at hs
              have hin := (dgoK_mono ls _ _ _ _ hs).2 _ List.mem_cons_self
              exact ⟨.inr (RR_step hsame G0.le G0.hr e2 hin), ih F T r ht1 (fun p hp => hm p (List.mem_cons_of_mem _ hp)) ls hls σ' _ (putD o.dst v eb) h' _ w' rd _ (G0.trans e2) (((he.mono e2.le).defers dfs).putD (hlt o hmem) e3) (hag.put _ _) (hc.step e2 haw dfs u) (hd.put e4 _ _) hs⟩
          · exact .inr ⟨h1, ih F T r ht1 (fun p hp => hm p (List.mem_cons_of_mem _ hp)) ls hls σ _ (putD o.dst undefA eb) h _ w rd sn G0 (he.putD (hlt o hmem) (.tup [] [] .nil)) (hag.put _ _) (hc.step (Go.refl G0.hr) haw a.defers undef) (hd.put' _ _) hs⟩
        · -- early
          rw [if_neg (by simpa using hij)] at ht1
          rw [Bool.and_eq_true] at ht1
          obtain ⟨hea, ht1⟩ := ht1
          unfold earlyC at hea
          cases ho : os[i]? with
          | none => rw [ho] at hea; cases hea
          | some o =>
            rw [ho] at hea
            simp only [Bool.and_eq_true] at hea
            obtain ⟨⟨⟨⟨⟨⟨⟨hal, hgu⟩, hdn⟩, hself⟩, haw⟩, hin⟩, hiF⟩, hea⟩ := hea
            have hgu : o.guard = none := by simpa using hgu
            have hiF : i ∉ F := by simpa using hiF
            have hin : (i, true) ∈ (j, b) :: T := List.contains_iff_mem.1 hin
            cases hdo : o.dst with
            | none => rw [hdo] at hdn; cases hdn
            | some d =>
              rw [hdo] at hdn
              have hdn : d < nt := by simpa using hdn
              have hE : Early P o a := by
                cases hl : sp.lookup i with
                | some j' =>
                  rw [hl] at hea
                  dsimp only at hea
                  rw [Bool.and_eq_true] at hea
                  obtain ⟨hj', hea⟩ := hea
                  cases hoj : os[j']? with
                  | none => rw [hoj] at hea; cases hea
                  | some oj =>
                    rw [hoj] at hea
                    dsimp only at hea
                    rw [Bool.and_eq_true] at hea
                    obtain ⟨hbj, hea⟩ := hea
                    cases hdj : oj.dst with
                    | none => rw [hdj] at hea; cases hea
                    | some d' =>
                      rw [hdj] at hea
                      exact early_ptr hal (by simpa using hj') hoj hbj hdj (by simpa using hea) G0.hr he hc (hsp i j' o oj d' hl ho hoj hdj)
                | none =>
                  rw [hl] at hea
                  dsimp only at hea
                  rw [Bool.and_eq_true] at hea
                  obtain ⟨hcl, htw⟩ := hea
                  refine early_trace (cf := cf) hal he G0.hr (hag.cO hcl) (trace_at hnt hlt ho hgu ((j, b) :: T) ds hds ⟨true, hin⟩ (fun p hp op hop dd hdd => ?_) rd sn e h hs)
                  have h1 := List.all_eq_true.1 htw p hp
                  rw [hop] at h1
                  exact seesB_spec h1 dd hdd
              refine ⟨o, ho, .inl ⟨by simp [Region.wanted, hgu], hE.wp (fun C mk hrun => ?_)⟩⟩
              obtain ⟨G1, he1, hag1, hc1⟩ := Cr.early hiF ho hal hgu hdo hdn hself haw G0 he hag hc hrun
              exact ⟨.inr ((relRR σs rdF).of_fut ((Fut.refl w).alloc C)), ih (i :: F) ((j, b) :: T) r ht1 hm ds hds σ e _ h _ _ rd sn G1 he1 hag1 hc1 (hd.put' _ _) hs⟩
      cases s with
      | done => cases ht
      | many _ _ => cases ht
      | one i r => exact hone i r ht
      | two i r k t =>
        dsimp only at ht
        rw [Bool.and_eq_true] at ht
        exact ⟨ih F ((j, b) :: T) (.one i r) ht.1 hm ds hds σ e eb h a w rd sn G0 he hag hc hd hs, ih F ((j, b) :: T) (.one k t) ht.2 hm ds hds σ e eb h a w rd sn G0 he hag hc hd hs⟩
      | hoist i r =>
        dsimp only at ht
        rw [Bool.and_eq_true, Bool.and_eq_true, Bool.and_eq_true] at ht
        obtain ⟨⟨⟨hij, hb⟩, hst⟩, ht2⟩ := ht
        have hij : i = j := by simpa using hij
        have hb : b = false := by simpa using hb
        subst hij
        subst hb
        obtain ⟨o, k, g, ls, ho, hk, hls, rfl, hg⟩ := cDI_cons hds
        have ho : os[i]? = some o := ho
        unfold stepB at hst
        rw [ho] at hst
        have hst : (awayB os F o && clearB os F o) = true := hst
        rw [Bool.and_eq_true] at hst
        obtain ⟨haw, hcl⟩ := hst
        have hmem : o ∈ os := Array.mem_of_getElem? ho
        have hcg : Cg cf eb e (cOp P nt o) := cOp_congr (hag.cO hcl)
        have hpu := pures_of (P := P) (hm _ List.mem_cons_self) ho
        refine ⟨o, ho, ?_⟩
        rcases DI_casesE he hag hcl hg hs with ⟨h1, hs⟩ | ⟨h1, hs⟩
        · refine .inl ⟨h1, ?_⟩
          have hk : cKind P nt os (pures P os l0) i false o = some k := hk
          unfold cKind at hk
          rw [if_neg (by decide)] at hk
          cases hkd : hKind P o with
          | none => rw [hkd] at hk; cases hk
          | some kd =>
            rw [hkd] at hk
            cases kd with
            | true =>
              have hk : some DK.pure = some k := hk
              injection hk with hk
              subst hk
              have hs : run1 none (cOp P nt o) cf e h (fun v h' => dgoK none S4 cf ls rd sn (putO (o.dst.map (paB 12)) v e) h') = some (rdF, snF, eE, hE) := hs
              obtain ⟨hne, _⟩ := run1_some hs
              rw [← hcg h _] at hne
              obtain ⟨v, u, e1, e2, e3⟩ := cOp_pure (nt := nt) (cf := cf) hF hkd σ N eb h a w _ he G0.hr hne
              rw [hcg h _] at e1
              have hs := run1_at hs e1
              rw [putO_map] at hs
              exact ⟨u, .inl ⟨by rw [hpu, hkd]; rfl, e3⟩, ih F T r ht2 (fun p hp => hm p (List.mem_cons_of_mem _ hp)) ls hls σ _ (putD o.dst v eb) h _ w rd sn G0 (he.putD (hlt o hmem) e2) (hag.put _ _) (hc.step (Go.refl G0.hr) haw a.defers u) (hd.put' _ _) hs⟩
            | false =>
              obtain ⟨t, x, hld⟩ := hKind_load hkd
              have hk2 : k = .load (if isAggB P t then P.cellsOf t else 1) (cO nt x) := by
                rw [hld] at hk
                dsimp only at hk
                injection hk with hk
                rw [← hk]
                by_cases hagg : isAggB P t = true
                · rw [if_pos hagg, if_pos hagg]
                · rw [if_neg hagg, if_neg hagg]
              subst hk2
              have hs : onPtr (cO nt x e) none (fun b o2 => run1 none (cOp P nt o) cf e h (fun v h' => dgoK none S4 cf ls ((b, o2, (if isAggB P t then P.cellsOf t else 1)) :: rd) sn (putO (o.dst.map (paB 12)) v e) h')) = some (rdF, snF, eE, hE) := hs
              have hx : cO nt x eb = cO nt x e := hag.cO hcl x (by rw [hld]; simp [Op.operands])
              cases hv : cO nt x e with
              | ptr b o2 =>
                rw [hv] at hs
                have hs : run1 none (cOp P nt o) cf e h (fun v h' => dgoK none S4 cf ls ((b, o2, (if isAggB P t then P.cellsOf t else 1)) :: rd) sn (putO (o.dst.map (paB 12)) v e) h') = some (rdF, snF, eE, hE) := hs
                obtain ⟨hne, _⟩ := run1_some hs
                rw [← hcg h _] at hne
                obtain ⟨b', o', v, u, g', q, e5, e6, e1, e2, e3, e4⟩ := cOp_load (P := P) (nt := nt) (cf := cf) hld σ N eb h a w _ he G0.hr hne
                rw [hx, hv] at e5
                injection e5 with e5 e7
                subst e5; subst e7
                rw [hcg h _] at e1
                have hs := run1_at hs e1
                rw [putO_map] at hs
                have hin := (dgoK_mono ls _ _ _ _ hs).1 _ List.mem_cons_self
                refine ⟨u, .inr ⟨by rw [hpu, hkd]; rfl, fun w' hw' => e4 w' (fun j hj => ?_)⟩, ih F T r ht2 (fun p hp => hm p (List.mem_cons_of_mem _ hp)) ls hls σ _ (putD o.dst v eb) h _ w _ sn G0 (he.putD (hlt o hmem) e2) (hag.put _ _) (hc.step (Go.refl G0.hr) haw a.defers u) (hd.put' _ _) hs⟩
                obtain ⟨c, hc'⟩ := Option.isSome_iff_exists.1 (e3 j hj)
                rw [hc']
                obtain ⟨y, hy⟩ := hrow _ hin
                have hy : σs.blk b = some y := hy
                have h8 := G0.le.2 _ _ hy
                rw [h8] at e6
                injection e6 with e6
                subst e6
                exact hw' _ hin g' q hy j hj c hc'
              | _ => rw [hv] at hs; cases hs
        · exact .inr ⟨h1, ih F T r ht2 (fun p hp => hm p (List.mem_cons_of_mem _ hp)) ls hls σ _ (putD o.dst undefA eb) h _ w rd sn G0 (he.putD (hlt o hmem) (.tup [] [] .nil)) (hag.put _ _) (hc.step (Go.refl G0.hr) haw a.defers undef) (hd.put' _ _) hs⟩
theorem drawC_ok (hF : Flats P) (hcf : CFOK P cf) (hnt : nt ≤ 4096) (hm : P.follows .mixedOrders = true) {sp : List (Nat × Nat)} (hsp : SpOK P nt cf os sp) {id : Nat} {s : Sched} {ds : List DI} (hb : dstB os = true) (hfast : fastB os s = true) (n : Nat) (ht : treeC nt os sp n [] (path s) s = true)
    (hds : cDI P nt os (pures P os (path s)) (path s) = some ds) : StepS P nt cf (sDraw ds) (.region id os true) := by
  intro σ N e h a w n' Q he hr hd hp
  have e0 : os = os.toList.toArray := by simp
  have hp : Post σ N nt h w Q (dgoK .no (fun rd sn e' h' => iff (sameR h rd sn) .no (.normal e' h')) cf ds [] [] e h) := hp
  rw [dgoK_bo] at hp
  cases hs : dgoK none S4 cf ds [] [] e h with
  | none => rw [hs] at hp; exact hp.elim
  | some x =>
    obtain ⟨rdF, snF, eE, hE⟩ := x
    rw [hs] at hp
    have hp : Post σ N nt h w Q (iff (sameR h rdF snF) .no (.normal eE hE)) := hp
    have hsame := iff_ne hp.ne
    rw [hsame] at hp
    have hp : ∀ σ' a' w', Go σ N h w σ' hE w' → ER σ' nt eE a' → DOK a' → Q .normal a' w' := hp
    have hrow : ∀ p ∈ rdF, ∃ x, σ.blk p.1 = some x := fun p hp => by
      obtain ⟨⟨sz, len, c, h1⟩, _⟩ := sameR_at hsame p hp
      have := hr.blk p.1
      rw [h1] at this
      obtain ⟨g, q, _, _, h2, _⟩ := this
      exact ⟨_, h2⟩
    refine Code.wp_mono (Q := calm Q) (fun ex a w hq => ?_) ?_
    · cases ex <;> first
        | exact hq
        | exact hq.elim
    · rw [e0]
      refine wp_region_T (relRR σ rdF) (pures P os (path s)) s hm (by rw [← e0]; exact hfast) (fun c a d v w hq => hq) ?_
      rw [← e0]
      exact drawC (Q := calm Q) hF hcf hnt (dstB_lt hb) hsp hsame hrow hr.drew.hr.base (fun σ' a' w' hg => hp σ' a' w' (hr.drew.trans hg)) n [] (path s) s ht (fun p hp => hp) ds hds σ e e h a w.drew [] [] (Go.refl hr.drew.hr) he (fun _ _ _ => rfl) Cr.nil hd hs
theorem cDrawC_ok (hF : Flats P) (hcf : CFOK P cf) (hnt : nt ≤ 4096) (hm : P.follows .mixedOrders = true) {sp : List (Nat × Nat)} (hsp : SpOK P nt cf os sp) {id : Nat} {s : Sched} (hb : dstB os = true) (hf : forks s = true) (n : Nat) (ht : treeC nt os sp n [] (path s) s = true) : StepS P nt cf (cDraw P nt os s) (.region id os true) := by
  unfold cDraw
  by_cases hfast : fastB os s = true
  · rw [if_pos hfast]
    cases hds : cDI P nt os (pures P os (path s)) (path s) with
    | none => exact stuck_ok _
    | some ds =>
      dsimp only
      rw [if_neg (by rw [hf]; simp)]
      exact drawC_ok hF hcf hnt hm hsp hb hfast n ht hds
  · rw [if_neg hfast]
    exact stuck_ok _
end
end Ev
end Go.Proofs.YtlgpacpebjechaaGreatDoor
/-
  The functions whose regions leave a choice.
-/
namespace Go.Proofs.YtlgpacpebjechaaGreatDoor
open Go.RowKit Go.Deep Go.Sort
namespace Ev
section
variable {P : Program} {nt : Nat} {cf : CF} {os : Array Oper}
/-- the special ones are slices of one pointer -/
noncomputable def spB (P : Program) (nt : Nat) (os : Array Oper) (sp : List (Nat × Nat)) : Bool := sp.all fun p => match os[p.1]?, os[p.2]? with
  | some o, some oj => match o.op, oj.dst with
    | .buildSlice ty 1 ps, some d => match ps.toList with
      | [(0, .tmp d')] => d' == d && decide (d < nt) && (match P.underlying ty with
        | some (.slice el) => P.cellsOf el == 1 && (match zeroL P el with
          | some [_] => true
          | _ => false)
        | _ => false)
      | _ => false
    | _, _ => false
  | _, _ => false
theorem lookup_mem2 {i j : Nat} : ∀ {sp : List (Nat × Nat)}, sp.lookup i = some j → (i, j) ∈ sp
  | [], h => by cases h
  | (a, b) :: sp, h => by
    rw [List.lookup_cons] at h
    by_cases hi : i == a
    · rw [hi] at h
      injection h with h
      have : i = a := by simpa using hi
      subst this; subst h
      exact List.mem_cons_self
    · have hi : (i == a) = false := by simpa using hi
      rw [hi] at h
      exact List.mem_cons_of_mem _ (lookup_mem2 h)
theorem spOK_of {sp : List (Nat × Nat)} (h : spB P nt os sp = true) : SpOK P nt cf os sp := by
  intro i j o oj d hl ho hoj hd e h' p hp
  have h1 := List.all_eq_true.1 h _ (lookup_mem2 hl)
  dsimp only at h1
  rw [ho, hoj] at h1
  dsimp only at h1
  rw [hd] at h1
  split at h1
  · rename_i ty ps d0 hop hd0
    injection hd0 with hd0
    subst hd0
    split at h1
    · rename_i d' hps
      rw [Bool.and_eq_true, Bool.and_eq_true] at h1
      obtain ⟨⟨hdd, hdn⟩, h1⟩ := h1
      have hdd : d' = d := by simpa using hdd
      have hdn : d < nt := by simpa using hdn
      subst hdd
      split at h1
      · rename_i el hu
        rw [Bool.and_eq_true] at h1
        obtain ⟨hc, h1⟩ := h1
        have hc : P.cellsOf el = 1 := by simpa using hc
        split at h1
        · rename_i z hz
          have hps' : cParts nt (fun i => some (i * P.cellsOf el, P.cellsOf el)) ps.toList = some [(0, 1, t (paB 12 d'))] := by
            rw [hps]
            simp [cParts, cO, hdn, hc]
          have hcOp : cOp P nt o = oBslice 1 1 [z] [(0, 1, t (paB 12 d'))] := by
            unfold cOp
            rw [hop]
            dsimp only
            rw [hu]
            dsimp only
            rw [hz, hps', hc]
            rfl
          rw [hcOp]
          show onOpt (fill e [(0, 1, t (paB 12 d'))] [z]) Res.no _ ≠ .no
          have hfill : fill e [(0, 1, t (paB 12 d'))] [z] = some [.ptr p 0] := by
            show onOpt (cellsO (EN.get (paB 12 d') e)) none _ = _
            rw [hp]
            rfl
          rw [hfill]
          intro e0
          cases e0
        · cases h1
      · cases h1
    · cases h1
  · cases h1
/-- code, region by region -/
noncomputable def codeR (rb : Nat → Array Oper → Bool) : Code → Bool
  | .region id os _ => rb id os
  | .seq a b => codeR rb a && codeR rb b
  | .cond _ a b => codeR rb a && codeR rb b
  | .block _ b => codeR rb b
  | .loop b => codeR rb b
  | .scope b => codeR rb b
  | _ => true
theorem cCodeR_ok (hF : Flats P) (hcf : CFOK P cf) (sch : List (Nat × Sched)) (rb : Nat → Array Oper → Bool) (hdraw : ∀ (id : Nat) (os : Array Oper) (s : Sched), sch.lookup id = some s → dstB os = true → rb id os = true → StepS P nt cf (cDraw P nt os s) (.region id os true)) : ∀ (c : Code), codeB c = true → codeR rb c = true → StepS P nt cf (cCode P nt sch c) c
  | .skip, _, _ => fun σ N e h a w n Q he hr hd hp => wp_skip (hp σ a w (Go.refl hr) he hd)
  | .label _, _, _ => fun σ N e h a w n Q he hr hd hp => wp_label (hp σ a w (Go.refl hr) he hd)
  | .region id os draw, hb, hrb => by
    have hb : dstB os = true := hb
    have hrb : rb id os = true := hrb
    cases draw with
    | false => exact fun σ N e h a w n Q he hr hd hp => wp_region_list (cList_ok hF hcf os (dstB_lt hb) os.toList (fun o ho => by simpa using ho) σ N e h a w n he hr hd hp)
    | true =>
      unfold cCode
      rw [if_pos rfl]
      split
      · rename_i hs
        exact hdraw id os _ hs hb hrb
      · exact stuck_ok _
  | .seq a b, hb, hrb => by
    have hb : (codeB a && codeB b) = true := hb
    have hrb : (codeR rb a && codeR rb b) = true := hrb
    rw [Bool.and_eq_true] at hb hrb
    exact seq_ok (cCodeR_ok hF hcf sch rb hdraw a hb.1 hrb.1) (cCodeR_ok hF hcf sch rb hdraw b hb.2 hrb.2)
  | .cond q x y, hb, hrb => by
    have hb : (codeB x && codeB y) = true := hb
    have hrb : (codeR rb x && codeR rb y) = true := hrb
    rw [Bool.and_eq_true] at hb hrb
    exact cond_ok (cCodeR_ok hF hcf sch rb hdraw x hb.1 hrb.1) (cCodeR_ok hF hcf sch rb hdraw y hb.2 hrb.2)
  | .block id b, hb, hrb => block_ok (cCodeR_ok hF hcf sch rb hdraw b hb hrb)
  | .loop b, hb, hrb => loop_ok (cCodeR_ok hF hcf sch rb hdraw b hb hrb)
  | .scope b, hb, hrb => scope_ok (cCodeR_ok hF hcf sch rb hdraw b hb hrb)
  | .exit id, _, _ => fun σ N e h a w n Q he hr hd hp => wp_exit (hp σ a w (Go.refl hr) he hd)
  | .ret, _, _ => fun σ N e h a w n Q he hr hd hp => wp_ret (hp σ a w (Go.refl hr) he hd)
  | .goto _, _, _ => stuck_ok _
  | .rangeFunc _ _ _ _, _, _ => stuck_ok _
  | .refuse _, _, _ => stuck_ok _
/-- regions whose forks are in order -/
noncomputable def forkB (P : Program) (nt : Nat) (sch : List (Nat × Sched)) (sp : List (Nat × Nat)) (id : Nat) (os : Array Oper) : Bool := match sch.lookup id with
  | some s => !forks s || (treeC nt os sp 200 [] (path s) s && spB P nt os sp)
  | none => true
noncomputable def fnR (P : Program) (sch : List (Nat × Sched)) (sp : List (Nat × Nat)) (fn : Func) : Bool := match fn.body with
  | some c => codeR (forkB P fn.ntmps sch sp) c
  | none => false
theorem FnOK.fork (hF : Flats P) (hm : P.follows .mixedOrders = true) {f : FuncId} {fn : Func} {sch : List (Nat × Sched)} {F : AF} (h1 : P.funcs[f]? = some fn) (h2 : fnB P fn = true) (h3 : cFunc P sch fn = F) (sp : List (Nat × Nat)) (h4 : fnR P sch sp fn = true) : FnOK P f F := by
  unfold fnB at h2
  simp only [Bool.and_eq_true, decide_eq_true_eq, bne_iff_ne, ne_eq] at h2
  obtain ⟨⟨⟨h5, h6⟩, h7⟩, h8⟩ := h2
  unfold fnR at h4
  cases hb : fn.body with
  | none => rw [hb] at h5; cases h5
  | some c =>
    rw [hb] at h5 h4
    subst h3
    refine ⟨fn, c, h1, by simpa using h6, hb, h7, h8, rfl, fun cf hcf => ?_⟩
    have e : (cFunc P sch fn).body = cCode P fn.ntmps sch c := by
      unfold cFunc
      rw [hb]
    rw [e]
    refine cCodeR_ok hF hcf sch (forkB P fn.ntmps sch sp) (fun id os s hs hdb hrb => ?_) c h5 h4
    unfold forkB at hrb
    rw [hs] at hrb
    dsimp only at hrb
    cases hf : forks s with
    | false => exact cDraw_ok hF hcf hm hdb hf
    | true =>
      rw [hf] at hrb
      have hrb : (treeC fn.ntmps os sp 200 [] (path s) s && spB P fn.ntmps os sp) = true := hrb
      rw [Bool.and_eq_true] at hrb
      exact cDrawC_ok hF hcf h7 hm (spOK_of hrb.2) hdb hf 200 hrb.1
end
theorem ok31 : FnOK Tryz.prog 31 a31 := FnOK.fork flats mixed Tryz.func31 (by kernel_rfl) c31 [(5, 4)] (by kernel_rfl)
theorem ok66 : FnOK Tryz.prog 66 a66 := FnOK.fork flats mixed Tryz.func66 (by kernel_rfl) c66 [] (by kernel_rfl)
theorem ok70 : FnOK Tryz.prog 70 a70 := FnOK.fork flats mixed Tryz.func70 (by kernel_rfl) c70 [] (by kernel_rfl)
theorem ok91 : FnOK Tryz.prog 91 a91 := FnOK.fork flats mixed Tryz.func91 (by kernel_rfl) c91 [] (by kernel_rfl)
theorem ok107 : FnOK Tryz.prog 107 a107 := FnOK.fork flats mixed Tryz.func107 (by kernel_rfl) c107 [] (by kernel_rfl)
end Ev
end Go.Proofs.YtlgpacpebjechaaGreatDoor
