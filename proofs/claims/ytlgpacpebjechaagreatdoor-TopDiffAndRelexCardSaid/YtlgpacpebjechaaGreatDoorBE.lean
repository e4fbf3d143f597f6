/-
  Texts joined: The evaluator's steps: regions that draw their order, in which what is read stays; The evaluator's functions; The evaluator's functions: what is asked of a function, checked by the kernel.
-/
import Derived.Test.YtlgpacpebjechaaGreatDoorBD
/-
  The evaluator's steps: regions that draw their order, in which what is read stays.
-/
namespace Go.Proofs.YtlgpacpebjechaaGreatDoor
open Go.RowKit Go.Deep Go.Sort
namespace Ev
section
variable {P : Program} {nt : Nat} {cf : CF} {σ σ' : Sg} {N : Nat} {h h' : Hp} {w w' : World} {Q Q' : Exit → Act → World → Prop}
theorem onPtr_nf {v : AV} {f : Pa → Nat → Bool} (h : onPtr v false f = true) : ∃ b o, v = .ptr b o := by
  cases v <;> first | exact ⟨_, _, rfl⟩ | cases h
theorem vbeq_ok (hle : σ.le σ') {x y : AV} {u v : Value} (hx : R σ x u) (hy : R σ' y v) (hb : vbeq x y = true) : v = u := by
  cases x with
  | ptr p o =>
    have hb : onPtr y false (fun p' o' => iff (pbeq p p') false (Nat.beq o o')) = true := hb
    obtain ⟨p', o', rfl⟩ := onPtr_nf hb
    have hb : iff (pbeq p p') false (Nat.beq o o') = true := hb
    rw [iff_and, Bool.and_eq_true, beqN, decide_eq_true_eq] at hb
    obtain ⟨h1, rfl⟩ := hb
    have h1 := pbeq_eq h1
    subst h1
    obtain ⟨g, q, e1, e2⟩ := R_ptr hx
    obtain ⟨g', q', e3, e4⟩ := R_ptr hy
    have := hle.2 _ _ e1
    rw [this] at e3; injection e3 with e3; injection e3 with e5 e6; subst e5
    rw [e2, e4]
  | map p =>
    have hb : onMap y false false (fun p' => pbeq p p') = true := hb
    obtain ⟨p', rfl⟩ : ∃ p', y = .map p' := by
      cases y <;> first | exact ⟨_, rfl⟩ | cases hb
    have hb : pbeq p p' = true := hb
    have h1 := pbeq_eq hb
    subst h1
    obtain ⟨g, q, e1, e2⟩ := R_map hx
    obtain ⟨g', q', e3, e4⟩ := R_map hy
    have := hle.2 _ _ e1
    rw [this] at e3; injection e3 with e3; injection e3 with e5 e6; subst e5
    rw [e2, e4]
  | nilm =>
    have hb : onMap y false true (fun _ => false) = true := hb
    have : y = .nilm := by cases y <;> first | rfl | cases hb
    subst this
    rw [R_nilm hx, R_nilm hy]
  | nils =>
    have hb : onSlice y false true false false (fun _ _ _ _ => false) = true := hb
    have : y = .nils := by cases y <;> first | rfl | cases hb
    subst this
    rw [R_nils hx, R_nils hy]
  | slice p o n k =>
    have hb : onSlice y false false false false (fun p' o' n' k' => iff (pbeq p p') false (iff (Nat.beq o o') false (iff (Nat.beq n n') false (Nat.beq k k')))) = true := hb
    obtain ⟨p', o', n', k', rfl⟩ : ∃ p' o' n' k', y = .slice p' o' n' k' := by
      cases y <;> first | exact ⟨_, _, _, _, rfl⟩ | cases hb
    have hb : iff (pbeq p p') false (iff (Nat.beq o o') false (iff (Nat.beq n n') false (Nat.beq k k'))) = true := hb
    rw [iff_and, iff_and, iff_and, Bool.and_eq_true, Bool.and_eq_true, Bool.and_eq_true, beqN, beqN, beqN, decide_eq_true_eq, decide_eq_true_eq, decide_eq_true_eq] at hb
    obtain ⟨h1, rfl, rfl, rfl⟩ := hb
    have h1 := pbeq_eq h1
    subst h1
    obtain ⟨g, q, e1, e2⟩ := R_slice hx
    obtain ⟨g', q', e3, e4⟩ := R_slice hy
    have := hle.2 _ _ e1
    rw [this] at e3; injection e3 with e3; injection e3 with e5 e6; subst e5; subst e6
    rw [e2, e4]
  | bool b =>
    have hb : onBool y false (fun c => iff b (inot c) c) = true := hb
    obtain ⟨c, rfl⟩ : ∃ c, y = .bool c := by
      cases y <;> first | exact ⟨_, rfl⟩ | cases hb
    rw [R_bool hx, R_bool hy]
    cases b <;> cases c <;> first
      | rfl
      | cases hb
  | int j n =>
    have hb : onOpt (beqA (.int j n) y) false (fun q => q) = true := hb
    cases hq : beqA (.int j n) y with
    | none => rw [hq] at hb; cases hb
    | some q =>
      rw [hq] at hb
      have hb : q = true := hb
      subst hb
      rcases beqA_spec (hx.mono hle) hy hq with ⟨j, m, n, h1, h2, h3⟩ | ⟨l, m, h1, h2, h3, _⟩
      · rw [h1, h2, of_decide_eq_true h3.symm]
      · rw [h1, h2, of_decide_eq_true h3.symm]
  | str l =>
    have hb : onOpt (beqA (.str l) y) false (fun q => q) = true := hb
    cases hq : beqA (.str l) y with
    | none => rw [hq] at hb; cases hb
    | some q =>
      rw [hq] at hb
      have hb : q = true := hb
      subst hb
      rcases beqA_spec (hx.mono hle) hy hq with ⟨j, m, n, h1, h2, h3⟩ | ⟨l, m, h1, h2, h3, _⟩
      · rw [h1, h2, of_decide_eq_true h3.symm]
      · rw [h1, h2, of_decide_eq_true h3.symm]
  | _ => cases hb
theorem sameN_at : ∀ {n : Nat} {t u : Tr} {o : Nat}, sameN t u n o = true → ∀ j, j < n → ∃ x y, Tr.get t (o + j) = some x ∧ Tr.get u (o + j) = some y ∧ vbeq x y = true
  | 0, _, _, _, _, j, hj => by omega
  | n + 1, t, u, o, h, j, hj => by
    have h : onOpt (Tr.get t o) false (fun x => onOpt (Tr.get u o) false (fun y => iff (vbeq x y) false (sameN t u n (Nat.succ o)))) = true := h
    cases hx : Tr.get t o with
    | none => rw [hx] at h; cases h
    | some x =>
      rw [hx] at h
      have h : onOpt (Tr.get u o) false (fun y => iff (vbeq x y) false (sameN t u n (Nat.succ o))) = true := h
      cases hy : Tr.get u o with
      | none => rw [hy] at h; cases h
      | some y =>
        rw [hy] at h
        have h : iff (vbeq x y) false (sameN t u n (Nat.succ o)) = true := h
        rw [iff_and, Bool.and_eq_true] at h
        cases j with
        | zero => exact ⟨x, y, hx, hy, h.1⟩
        | succ j =>
          obtain ⟨x', y', h1, h2, h3⟩ := sameN_at h.2 j (by omega)
          rw [show Nat.succ o + j = o + (j + 1) by omega] at h1 h2
          exact ⟨x', y', h1, h2, h3⟩
theorem sameS_at {b : Pa} {o n : Nat} : ∀ {sn : List (Hp × Hp)}, sameS b o n sn = true → ∀ p ∈ sn, sameN (asRow (hget p.1 b)) (asRow (hget p.2 b)) n o = true
  | [], _, p, hp => by cases hp
  | q :: sn, h, p, hp => by
    have h : iff (sameN (asRow (hget q.1 b)) (asRow (hget q.2 b)) n o) false (sameS b o n sn) = true := h
    rw [iff_and, Bool.and_eq_true] at h
    rcases List.mem_cons.1 hp with rfl | hp
    · exact h.1
    · exact sameS_at h.2 p hp
theorem sameR_at {h : Hp} {sn : List (Hp × Hp)} : ∀ {rd : List (Pa × Nat × Nat)}, sameR h rd sn = true → ∀ p ∈ rd, (∃ sz len c, hget h p.1 = .row sz len c) ∧ sameS p.1 p.2.1 p.2.2 sn = true
  | [], _, p, hp => by cases hp
  | q :: rd, hh, p, hp => by
    have hh : iff (onRow (hget h q.1) false (fun _ _ _ => sameS q.1 q.2.1 q.2.2 sn)) false (sameR h rd sn) = true := hh
    rw [iff_and, Bool.and_eq_true] at hh
    rcases List.mem_cons.1 hp with rfl | hp
    · have h1 := hh.1
      cases hb : hget h p.1 with
      | row sz len c => rw [hb] at h1; exact ⟨⟨_, _, _, rfl⟩, h1⟩
      | _ => rw [hb] at h1; cases h1
    · exact sameR_at hh.2 p hp
/-! the trace -/
abbrev Tr4 : Type := List (Pa × Nat × Nat) × List (Hp × Hp) × EN × Hp
def S4 (a : List (Pa × Nat × Nat)) (b : List (Hp × Hp)) (c : EN) (d : Hp) : Option Tr4 := some (a, b, c, d)
def bo {β : Type} (no : β) (fin : List (Pa × Nat × Nat) → List (Hp × Hp) → EN → Hp → β) : Option Tr4 → β
  | none => no
  | some (a, b, c, d) => fin a b c d
theorem run1_bo {β : Type} {no : β} {fin : List (Pa × Nat × Nat) → List (Hp × Hp) → EN → Hp → β} {op : AOp} {e : EN} {h : Hp} {k : AV → Hp → β} {k' : AV → Hp → Option Tr4} (hk : ∀ v h', k v h' = bo no fin (k' v h')) :
    run1 no op cf e h k = bo no fin (run1 none op cf e h k') := by
  unfold run1
  cases op cf e h (fun v h' => .normal (.node v .nil .nil) h') with
  | normal e' h' => exact hk _ _
  | _ => rfl
theorem dstep_bo {β : Type} {no : β} {fin : List (Pa × Nat × Nat) → List (Hp × Hp) → EN → Hp → β} {i : DI} {go : List (Pa × Nat × Nat) → List (Hp × Hp) → EN → Hp → β} {go' : List (Pa × Nat × Nat) → List (Hp × Hp) → EN → Hp → Option Tr4}
    (hg : ∀ rd sn e h, go rd sn e h = bo no fin (go' rd sn e h)) (rd : List (Pa × Nat × Nat)) (sn : List (Hp × Hp)) (e : EN) (h : Hp) : dstep no cf i go rd sn e h = bo no fin (dstep none cf i go' rd sn e h) := by
  unfold dstep
  cases i.k with
  | pure => exact run1_bo (fun v h' => hg _ _ _ _)
  | late => exact run1_bo (fun v h' => hg _ _ _ _)
  | heavy => exact run1_bo (fun v h' => hg _ _ _ _)
  | load m a =>
    show onPtr (a e) no (fun b o => run1 no i.op cf e h (fun v h' => go ((b, o, m) :: rd) sn (putO i.d v e) h')) = bo no fin (onPtr (a e) none (fun b o => run1 none i.op cf e h (fun v h' => go' ((b, o, m) :: rd) sn (putO i.d v e) h')))
    cases a e with
    | ptr b o => exact run1_bo (k := fun v h' => go ((b, o, m) :: rd) sn (putO i.d v e) h') (k' := fun v h' => go' ((b, o, m) :: rd) sn (putO i.d v e) h') (fun v h' => hg _ _ _ _)
    | _ => rfl
theorem guard_bo {β : Type} {no : β} {fin : List (Pa × Nat × Nat) → List (Hp × Hp) → EN → Hp → β} {v : AV} {want : Bool} {s g : β} {s' g' : Option Tr4} (hs : s = bo no fin s') (hg : g = bo no fin g') : onGuard v want no s g = bo no fin (onGuard v want none s' g') := by
  cases v with
  | bool b => cases b <;> cases want <;> assumption
  | tup l =>
    cases l with
    | nil => exact hs
    | cons x l => rfl
  | _ => rfl
theorem dgoK_bo {β : Type} (no : β) (fin : List (Pa × Nat × Nat) → List (Hp × Hp) → EN → Hp → β) : ∀ (l : List DI) (rd : List (Pa × Nat × Nat)) (sn : List (Hp × Hp)) (e : EN) (h : Hp), dgoK no fin cf l rd sn e h = bo no fin (dgoK none S4 cf l rd sn e h)
  | [], _, _, _, _ => rfl
  | i :: l, rd, sn, e, h => by
    have ih := dgoK_bo no fin l
    show onOpt i.g (dstep no cf i (dgoK no fin cf l) rd sn e h) (fun g => onGuard (EN.get g.1 e) g.2 no (dgoK no fin cf l rd sn (putO i.d undefA e) h) (dstep no cf i (dgoK no fin cf l) rd sn e h)) = bo no fin (onOpt i.g (dstep none cf i (dgoK none S4 cf l) rd sn e h) (fun g => onGuard (EN.get g.1 e) g.2 none (dgoK none S4 cf l rd sn (putO i.d undefA e) h) (dstep none cf i (dgoK none S4 cf l) rd sn e h)))
    cases i.g with
    | none => exact dstep_bo ih rd sn e h
    | some g => exact guard_bo (ih _ _ _ _) (dstep_bo ih rd sn e h)
theorem run1_some {op : AOp} {e : EN} {h : Hp} {k : AV → Hp → Option Tr4} {x : Tr4} (hs : run1 none op cf e h k = some x) : op cf e h (fun v h' => .normal (.node v .nil .nil) h') ≠ .no ∧ ∃ v h', k v h' = some x := by
  unfold run1 at hs
  cases hr : op cf e h (fun v h' => .normal (.node v .nil .nil) h') with
  | normal e' h' => rw [hr] at hs; exact ⟨(fun e0 => nomatch e0), _, _, hs⟩
  | _ => rw [hr] at hs; cases hs
theorem run1_at {op : AOp} {e : EN} {h h' : Hp} {v : AV} {k : AV → Hp → Option Tr4} {x : Tr4} (hs : run1 none op cf e h k = some x) (he : op cf e h (fun v h' => .normal (.node v .nil .nil) h') = .normal (.node v .nil .nil) h') : k v h' = some x := by
  unfold run1 at hs
  rw [he] at hs
  exact hs
theorem dgoK_mono : ∀ (l : List DI) (rd : List (Pa × Nat × Nat)) (sn : List (Hp × Hp)) (e : EN) (h : Hp) {rdF : List (Pa × Nat × Nat)} {snF : List (Hp × Hp)} {eF : EN} {hF : Hp}, dgoK none S4 cf l rd sn e h = some (rdF, snF, eF, hF) → (∀ p ∈ rd, p ∈ rdF) ∧ (∀ p ∈ sn, p ∈ snF)
  | [], rd, sn, e, h, rdF, snF, eF, hF, hs => by
    have hs : some (rd, sn, e, h) = some (rdF, snF, eF, hF) := hs
    injection hs with hs
    injection hs with h1 h2
    injection h2 with h2 h3
    subst h1; subst h2
    exact ⟨fun _ h => h, fun _ h => h⟩
  | i :: l, rd, sn, e, h, rdF, snF, eF, hF, hs => by
    have hs : onOpt i.g (dstep none cf i (dgoK none S4 cf l) rd sn e h) (fun g => onGuard (EN.get g.1 e) g.2 none (dgoK none S4 cf l rd sn (putO i.d undefA e) h) (dstep none cf i (dgoK none S4 cf l) rd sn e h)) = some (rdF, snF, eF, hF) := hs
    have ih := dgoK_mono l
    have hd : dstep none cf i (dgoK none S4 cf l) rd sn e h = some (rdF, snF, eF, hF) → (∀ p ∈ rd, p ∈ rdF) ∧ (∀ p ∈ sn, p ∈ snF) := by
      intro hd
      unfold dstep at hd
      cases hk : i.k with
      | pure => rw [hk] at hd; obtain ⟨_, v, h', h1⟩ := run1_some hd; exact ih _ _ _ _ h1
      | late => rw [hk] at hd; obtain ⟨_, v, h', h1⟩ := run1_some hd; exact ih _ _ _ _ h1
      | heavy =>
        rw [hk] at hd
        obtain ⟨_, v, h', h1⟩ := run1_some hd
        obtain ⟨h2, h3⟩ := ih _ _ _ _ h1
        exact ⟨h2, fun p hp => h3 p (List.mem_cons_of_mem _ hp)⟩
      | load m a =>
        rw [hk] at hd
        have hd : onPtr (a e) none (fun b o => run1 none i.op cf e h (fun v h' => dgoK none S4 cf l ((b, o, m) :: rd) sn (putO i.d v e) h')) = some (rdF, snF, eF, hF) := hd
        cases ha : a e with
        | ptr b o =>
          rw [ha] at hd
          obtain ⟨_, v, h', h1⟩ := run1_some (k := fun v h' => dgoK none S4 cf l ((b, o, m) :: rd) sn (putO i.d v e) h') hd
          obtain ⟨h2, h3⟩ := ih _ _ _ _ h1
          exact ⟨fun p hp => h2 p (List.mem_cons_of_mem _ hp), h3⟩
        | _ => rw [ha] at hd; cases hd
    cases hg : i.g with
    | none => rw [hg] at hs; exact hd hs
    | some g =>
      rw [hg] at hs
      have hs : onGuard (EN.get g.1 e) g.2 none (dgoK none S4 cf l rd sn (putO i.d undefA e) h) (dstep none cf i (dgoK none S4 cf l) rd sn e h) = some (rdF, snF, eF, hF) := hs
      cases hv : EN.get g.1 e with
      | bool b =>
        rw [hv] at hs
        cases b <;> cases hw : g.2 <;> rw [hw] at hs <;> first
          | exact hd hs
          | exact ih _ _ _ _ hs
      | tup m =>
        rw [hv] at hs
        cases m with
        | nil => exact ih _ _ _ _ hs
        | cons x m => cases hs
      | _ => rw [hv] at hs; cases hs
/-- what is read stays -/
def RR (σ0 : Sg) (rd : List (Pa × Nat × Nat)) (w w' : World) : Prop :=
  ∀ p ∈ rd, ∀ g q, σ0.blk p.1 = some (g, q) → ∀ j, j < p.2.2 → ∀ u, w.cell? ⟨g, p.2.1 + j, none⟩ = some u → w'.cell? ⟨g, p.2.1 + j, none⟩ = some u
theorem relRR (σ0 : Sg) (rd : List (Pa × Nat × Nat)) : RelW (RR σ0 rd) :=
  ⟨fun _ _ _ _ _ _ _ _ _ h => h, fun h1 h2 p hp g q e j hj u hu => h2 p hp g q e j hj u (h1 p hp g q e j hj u hu), fun hf _p _hp _g _q _e _j _hj _u hu => hf.cell hu⟩
theorem RR_step {σ0 : Sg} {rd : List (Pa × Nat × Nat)} {sn : List (Hp × Hp)} {h0 : Hp} (hs : sameR h0 rd sn = true) (hle : σ0.le σ) (hr : HR σ N h w) (hg : Go σ N h w σ' h' w') (hm : (h, h') ∈ sn) : RR σ0 rd w w' := by
  intro p hp g q e j hj u hu
  obtain ⟨_, h1⟩ := sameR_at hs p hp
  have h2 := sameS_at h1 (h, h') hm
  obtain ⟨x, y, h3, h4, h5⟩ := sameN_at h2 j hj
  obtain ⟨g1, q1, u1, e1, c1, r1⟩ := hr.cell h3
  obtain ⟨g2, q2, u2, e2, c2, r2⟩ := hg.hr.cell h4
  have e3 := hle.2 _ _ e
  have e4 := hg.le.2 _ _ e3
  rw [e3] at e1; injection e1 with e1; injection e1 with e5 e6; subst e5
  rw [e4] at e2; injection e2 with e2; injection e2 with e7 e8; subst e7
  rw [hu] at c1; injection c1 with c1; subst c1
  rw [c2, vbeq_ok hg.le r1 r2 h5]
theorem putO_map (d : Option Tmp) (v : AV) (e : EN) : putO (d.map (paB 12)) v e = putD d v e := by cases d <;> rfl
/-- one entry of the list -/
theorem cDI_cons {os : Array Oper} {pu : Nat → Bool} {p : Nat × Bool} {l : List (Nat × Bool)} {ds : List DI} (h : cDI P nt os pu (p :: l) = some ds) :
    ∃ o k g ls, os[p.1]? = some o ∧ cKind P nt os pu p.1 p.2 o = some k ∧ cDI P nt os pu l = some ls ∧ ds = ⟨p.1, o.dst.map (paB 12), g, k, cOp P nt o⟩ :: ls ∧
      ((o.guard = none ∧ g = none) ∨ ∃ j w oj d, o.guard = some (j, w) ∧ os[j]? = some oj ∧ oj.dst = some d ∧ d < nt ∧ g = some (paB 12 d, w)) := by
  unfold cDI at h
  cases ho : os[p.1]? with
  | none => rw [ho] at h; cases h
  | some o =>
    rw [ho] at h
    cases hl : cDI P nt os pu l with
    | none => rw [hl] at h; cases h
    | some ls =>
      rw [hl] at h
      dsimp only at h
      cases hk : cKind P nt os pu p.1 p.2 o with
      | none => rw [hk] at h; cases h
      | some k =>
        rw [hk] at h
        dsimp only at h
        cases hg : o.guard with
        | none =>
          rw [hg] at h
          have h : some (_ :: ls) = some ds := h
          injection h with h
          exact ⟨o, k, none, ls, rfl, hk, rfl, h.symm, .inl ⟨hg, rfl⟩⟩
        | some jw =>
          obtain ⟨j, w⟩ := jw
          rw [hg] at h
          dsimp only at h
          cases hj : os[j]? with
          | none => rw [hj] at h; cases h
          | some oj =>
            rw [hj] at h
            dsimp only at h
            cases hd : oj.dst with
            | none => rw [hd] at h; cases h
            | some d =>
              rw [hd] at h
              dsimp only at h
              by_cases hlt : d < nt
              · rw [if_pos hlt] at h
                injection h with h
                exact ⟨o, k, some (paB 12 d, w), ls, rfl, hk, rfl, h.symm, .inr ⟨j, w, oj, d, hg, hj, hd, hlt, rfl⟩⟩
              · rw [if_neg hlt] at h; cases h
theorem DI_cases {os : Array Oper} {o : Oper} {ix : Nat} {k : DK} {g : Option (Pa × Bool)} {ls : List DI} {e : EN} {a : Act} {rd : List (Pa × Nat × Nat)} {sn : List (Hp × Hp)} {x : Tr4} (he : ER σ nt e a)
    (hg : (o.guard = none ∧ g = none) ∨ ∃ j w oj d, o.guard = some (j, w) ∧ os[j]? = some oj ∧ oj.dst = some d ∧ d < nt ∧ g = some (paB 12 d, w))
    (hs : dgoK none S4 cf (⟨ix, o.dst.map (paB 12), g, k, cOp P nt o⟩ :: ls) rd sn e h = some x) :
    (Region.wanted o (yielded os a.tmps) = true ∧ dstep none cf ⟨ix, o.dst.map (paB 12), g, k, cOp P nt o⟩ (dgoK none S4 cf ls) rd sn e h = some x) ∨ (Region.wanted o (yielded os a.tmps) = false ∧ dgoK none S4 cf ls rd sn (putD o.dst undefA e) h = some x) := by
  rcases hg with ⟨h1, rfl⟩ | ⟨j, want, oj, d, h1, h2, h3, h4, rfl⟩
  · exact .inl ⟨by simp [Region.wanted, h1], hs⟩
  · have hs : onGuard (EN.get (paB 12 d) e) want none (dgoK none S4 cf ls rd sn (putO (o.dst.map (paB 12)) undefA e) h) (dstep none cf ⟨ix, o.dst.map (paB 12), some (paB 12 d, want), k, cOp P nt o⟩ (dgoK none S4 cf ls) rd sn e h) = some x := hs
    rw [putO_map] at hs
    have hne : onGuard (EN.get (paB 12 d) e) want Res.no (.ret e h) (.exit 0 e h) ≠ .no := by
      cases hv : EN.get (paB 12 d) e with
      | bool b => cases b <;> cases want <;> (intro e0; cases e0)
      | tup m =>
        rw [hv] at hs
        cases m with
        | nil => intro e0; cases e0
        | cons x m => cases hs
      | _ => rw [hv] at hs; cases hs
    rcases onGuard_ok h1 h2 h3 h4 he hne with ⟨h5, h6⟩ | ⟨h5, h6⟩
    · refine .inl ⟨h5, ?_⟩
      cases hv : EN.get (paB 12 d) e with
      | bool b => rw [hv] at hs h6; cases b <;> cases want <;> first | exact hs | cases h6
      | tup m =>
        rw [hv] at hs h6
        cases m with
        | nil => cases h6
        | cons x m => cases hs
      | _ => rw [hv] at hs; cases hs
    · refine .inr ⟨h5, ?_⟩
      cases hv : EN.get (paB 12 d) e with
      | bool b => rw [hv] at hs h6; cases b <;> cases want <;> first | exact hs | cases h6
      | tup m =>
        rw [hv] at hs h6
        cases m with
        | nil => exact hs
        | cons x m => cases hs
      | _ => rw [hv] at hs; cases hs
theorem drawB (hF : Flats P) (hcf : CFOK P cf) {os : Array Oper} (hlt : ∀ o ∈ os, ∀ d, o.dst = some d → d < 4096) {l0 : List (Nat × Bool)} {σ0 : Sg} {h0 hE : Hp} {eE : EN} {rdF : List (Pa × Nat × Nat)} {snF : List (Hp × Hp)} (hsame : sameR h0 rdF snF = true) (hrow : ∀ p ∈ rdF, ∃ x, σ0.blk p.1 = some x) :
    ∀ (s : Sched), forks s = false → (∀ p ∈ path s, p ∈ l0) → ∀ (ds : List DI), cDI P nt os (pures P os l0) (path s) = some ds →
    ∀ (σ : Sg) (e : EN) (h : Hp) (a : Act) (w : World) (rd : List (Pa × Nat × Nat)) (sn : List (Hp × Hp)), σ0.le σ → ER σ nt e a → HR σ N h w → DOK a → dgoK none S4 cf ds rd sn e h = some (rdF, snF, eE, hE) →
      (∀ σ' a' w', Go σ N h w σ' hE w' → ER σ' nt eE a' → DOK a' → Q .normal a' w') → wpT (RR σ0 rdF) (pures P os l0) P os Q s a w
  | .done, _, _, ds, hds, σ, e, h, a, w, rd, sn, hle, he, hr, hd, hs, hfin => by
    have hds : some [] = some ds := hds
    injection hds with hds
    subst hds
    have hs : some (rd, sn, e, h) = some (rdF, snF, eE, hE) := hs
    injection hs with hs
    injection hs with h1 h2
    injection h2 with h2 h3
    injection h3 with h3 h4
    subst h3; subst h4
    exact hfin σ a w (Go.refl hr) he hd
  | .two _ _ _ _, hf, _, _, _, _, _, _, _, _, _, _, _, _, _, _, _, _ => by cases hf
  | .many _ _, hf, _, _, _, _, _, _, _, _, _, _, _, _, _, _, _, _ => by cases hf
  | .hoist i r, hf, hm, ds, hds, σ, e, h, a, w, rd, sn, hle, he, hr, hd, hs, hfin => by
    have hds : cDI P nt os (pures P os l0) ((i, false) :: path r) = some ds := hds
    obtain ⟨o, k, g, ls, ho, hk, hls, rfl, hg⟩ := cDI_cons hds
    have ho : os[i]? = some o := ho
    have hmem : o ∈ os := Array.mem_of_getElem? ho
    have hpu := pures_of (P := P) (hm _ List.mem_cons_self) ho
    have ih := drawB (eE := eE) (hE := hE) hF hcf hlt hsame hrow r hf (fun p hp => hm p (List.mem_cons_of_mem _ hp)) ls hls
    refine ⟨o, ho, ?_⟩
    rcases DI_cases he hg hs with ⟨h1, hs⟩ | ⟨h1, hs⟩
    · refine .inl ⟨h1, ?_⟩
      have hk : cKind P nt os (pures P os l0) i false o = some k := hk
      unfold cKind at hk
      rw [if_neg (by decide)] at hk
      cases hkd : hKind P o with
      | none => rw [hkd] at hk; cases hk
      | some kd =>
        rw [hkd] at hk
        cases kd with
        | true =>
          have hk : some DK.pure = some k := hk
          injection hk with hk
          subst hk
          have hs : run1 none (cOp P nt o) cf e h (fun v h' => dgoK none S4 cf ls rd sn (putO (o.dst.map (paB 12)) v e) h') = some (rdF, snF, eE, hE) := hs
          obtain ⟨hne, _⟩ := run1_some hs
          obtain ⟨v, u, e1, e2, e3⟩ := cOp_pure (nt := nt) (cf := cf) hF hkd σ N e h a w _ he hr hne
          have hs := run1_at hs e1
          rw [putO_map] at hs
          exact ⟨u, .inl ⟨by rw [hpu, hkd]; rfl, e3⟩, ih σ _ h _ w rd sn hle (he.putD (hlt o hmem) e2) hr (hd.put' _ _) hs hfin⟩
        | false =>
          obtain ⟨t, x, hld⟩ := hKind_load hkd
          have hk2 : k = .load (if isAggB P t then P.cellsOf t else 1) (cO nt x) := by
            rw [hld] at hk
            dsimp only at hk
            injection hk with hk
            rw [← hk]
            by_cases hagg : isAggB P t = true
            · rw [if_pos hagg, if_pos hagg]
            · rw [if_neg hagg, if_neg hagg]
          subst hk2
          have hs : onPtr (cO nt x e) none (fun b o2 => run1 none (cOp P nt o) cf e h (fun v h' => dgoK none S4 cf ls ((b, o2, (if isAggB P t then P.cellsOf t else 1)) :: rd) sn (putO (o.dst.map (paB 12)) v e) h')) = some (rdF, snF, eE, hE) := hs
          cases hv : cO nt x e with
          | ptr b o2 =>
            rw [hv] at hs
            have hs : run1 none (cOp P nt o) cf e h (fun v h' => dgoK none S4 cf ls ((b, o2, (if isAggB P t then P.cellsOf t else 1)) :: rd) sn (putO (o.dst.map (paB 12)) v e) h') = some (rdF, snF, eE, hE) := hs
            obtain ⟨hne, _⟩ := run1_some hs
            obtain ⟨b', o', v, u, g', q, e5, e6, e1, e2, e3, e4⟩ := cOp_load (P := P) (nt := nt) (cf := cf) hld σ N e h a w _ he hr hne
            rw [hv] at e5
            injection e5 with e5 e7
            subst e5; subst e7
            have hs := run1_at hs e1
            rw [putO_map] at hs
            have hin := (dgoK_mono ls _ _ _ _ hs).1 _ List.mem_cons_self
            refine ⟨u, .inr ⟨by rw [hpu, hkd]; rfl, fun w' hw' => e4 w' (fun j hj => ?_)⟩, ih σ _ h _ w _ sn hle (he.putD (hlt o hmem) e2) hr (hd.put' _ _) hs hfin⟩
            obtain ⟨c, hc⟩ := Option.isSome_iff_exists.1 (e3 j hj)
            rw [hc]
            obtain ⟨y, hy⟩ := hrow _ hin
            have hy : σ0.blk b = some y := hy
            have h8 := hle.2 _ _ hy
            rw [h8] at e6
            injection e6 with e6
            subst e6
            exact hw' _ hin g' q hy j hj c hc
          | _ => rw [hv] at hs; cases hs
    · exact .inr ⟨h1, ih σ _ h _ w rd sn hle (he.putD (hlt o hmem) (.tup [] [] .nil)) hr (hd.put' _ _) hs hfin⟩
  | .one i r, hf, hm, ds, hds, σ, e, h, a, w, rd, sn, hle, he, hr, hd, hs, hfin => by
    have hds : cDI P nt os (pures P os l0) ((i, true) :: path r) = some ds := hds
    obtain ⟨o, k, g, ls, ho, hk, hls, rfl, hg⟩ := cDI_cons hds
    have ho : os[i]? = some o := ho
    have hmem : o ∈ os := Array.mem_of_getElem? ho
    have ih := drawB (eE := eE) (hE := hE) hF hcf hlt hsame hrow r hf (fun p hp => hm p (List.mem_cons_of_mem _ hp)) ls hls
    refine ⟨o, ho, ?_⟩
    rcases DI_cases he hg hs with ⟨h1, hs⟩ | ⟨h1, hs⟩
    · have hk : cKind P nt os (pures P os l0) i true o = some k := hk
      unfold cKind at hk
      rw [if_pos rfl] at hk
      injection hk with hk
      by_cases hlate : lateP os (pures P os l0) i = true
      · rw [if_pos hlate] at hk
        subst hk
        have hs : run1 none (cOp P nt o) cf e h (fun v h' => dgoK none S4 cf ls rd sn (putO (o.dst.map (paB 12)) v e) h') = some (rdF, snF, eE, hE) := hs
        obtain ⟨hne, _⟩ := run1_some hs
        refine .inl ⟨h1, cOp_ok (nt := nt) hF hcf σ N e h a w _ Q _ he hr hne (fun v h' σ' u w' dfs e1 e2 e3 e4 => ⟨.inl hlate, ?_⟩)⟩
        have hs := run1_at hs e1
        rw [putO_map] at hs
        exact ih σ' _ h' _ w' rd sn (Sg.le_trans hle e2.le) (((he.mono e2.le).defers dfs).putD (hlt o hmem) e3) e2.hr (hd.put e4 _ _) hs (fun σ2 a2 w2 g2 => hfin σ2 a2 w2 (e2.trans g2))
      · rw [if_neg hlate] at hk
        subst hk
        have hs : run1 none (cOp P nt o) cf e h (fun v h' => dgoK none S4 cf ls rd ((h, h') :: sn) (putO (o.dst.map (paB 12)) v e) h') = some (rdF, snF, eE, hE) := hs
        obtain ⟨hne, _⟩ := run1_some hs
        refine .inl ⟨h1, cOp_ok (nt := nt) hF hcf σ N e h a w _ Q _ he hr hne (fun v h' σ' u w' dfs e1 e2 e3 e4 => ?_)⟩
        have hs := run1_at hs e1
        rw [putO_map] at hs
        have hin := (dgoK_mono ls _ _ _ _ hs).2 _ List.mem_cons_self
        exact ⟨.inr (RR_step hsame hle hr e2 hin), ih σ' _ h' _ w' rd _ (Sg.le_trans hle e2.le) (((he.mono e2.le).defers dfs).putD (hlt o hmem) e3) e2.hr (hd.put e4 _ _) hs (fun σ2 a2 w2 g2 => hfin σ2 a2 w2 (e2.trans g2))⟩
    · exact .inr ⟨h1, ih σ _ h _ w rd sn hle (he.putD (hlt o hmem) (.tup [] [] .nil)) hr (hd.put' _ _) hs hfin⟩
theorem drawB_ok (hF : Flats P) (hcf : CFOK P cf) (hm : P.follows .mixedOrders = true) {id : Nat} {os : Array Oper} {s : Sched} {ds : List DI} (hb : dstB os = true) (hfast : fastB os s = true) (hf : forks s = false)
    (hds : cDI P nt os (pures P os (path s)) (path s) = some ds) : StepS P nt cf (sDraw ds) (.region id os true) := by
  intro σ N e h a w n Q he hr hd hp
  have e0 : os = os.toList.toArray := by simp
  have hp : Post σ N nt h w Q (dgoK .no (fun rd sn e' h' => iff (sameR h rd sn) .no (.normal e' h')) cf ds [] [] e h) := hp
  rw [dgoK_bo] at hp
  cases hs : dgoK none S4 cf ds [] [] e h with
  | none => rw [hs] at hp; exact hp.elim
  | some x =>
    obtain ⟨rdF, snF, eE, hE⟩ := x
    rw [hs] at hp
    have hp : Post σ N nt h w Q (iff (sameR h rdF snF) .no (.normal eE hE)) := hp
    have hsame := iff_ne hp.ne
    rw [hsame] at hp
    have hp : ∀ σ' a' w', Go σ N h w σ' hE w' → ER σ' nt eE a' → DOK a' → Q .normal a' w' := hp
    have hrow : ∀ p ∈ rdF, ∃ x, σ.blk p.1 = some x := fun p hp => by
      obtain ⟨⟨sz, len, c, h1⟩, _⟩ := sameR_at hsame p hp
      have := hr.blk p.1
      rw [h1] at this
      obtain ⟨g, q, _, _, h2, _⟩ := this
      exact ⟨_, h2⟩
    refine Code.wp_mono (Q := calm Q) (fun ex a w hq => ?_) ?_
    · cases ex <;> first
        | exact hq
        | exact hq.elim
    · rw [e0]
      refine wp_region_T (relRR σ rdF) (pures P os (path s)) s hm (by rw [← e0]; exact hfast) (fun c a d v w hq => hq) ?_
      rw [← e0]
      exact drawB hF hcf (dstB_lt hb) hsame hrow s hf (fun p hp => hp) ds hds σ e h a w.drew [] [] σ.le_refl he hr.drew.hr hd hs (fun σ' a' w' hg => hp σ' a' w' (hr.drew.trans hg))
end
end Ev
end Go.Proofs.YtlgpacpebjechaaGreatDoor
/-
  The evaluator's functions.
-/
namespace Go.Proofs.YtlgpacpebjechaaGreatDoor
open Go.RowKit Go.Deep Go.Sort
namespace Ev
section
variable {P : Program} {nt : Nat} {cf : CF} {σ σ' : Sg} {N : Nat} {h h' : Hp} {w w' : World} {Q Q' : Exit → Act → World → Prop}
/-! results -/
def resB (P : Program) (rs : List ResultVar) : Bool := rs.all fun r => match r with
  | .tmp _ => true
  | .cell _ t => (P.info? t).isSome && (P.underlying t).isSome && (!isAggB P t || decide (0 < P.cellsOf t))
def resOne (tmps : Array Value) : ResultVar → Sem Value
  | .tmp t => pure (tmps.getD t undef)
  | .cell a t => do loadVar t (← asAddr (tmps.getD a undef))
theorem resA_ok {e : EN} {a : Act} (he : ER σ nt e a) (hr : HR σ N h w) {r : ResultVar} (hb : resB P [r] = true) {v : AV} (hv : resA e h (cRes P nt r) = some v) : ∃ u, (resOne a.tmps r).run P w = .ok u w ∧ R σ v u := by
  cases r with
  | tmp i =>
    unfold cRes at hv
    dsimp only at hv
    by_cases hi : i < nt
    · rw [if_pos hi] at hv
      have hv : some (EN.get (paB 12 i) e) = some v := hv
      injection hv with hv
      exact ⟨_, rfl, hv ▸ he.get i hi⟩
    · rw [if_neg hi] at hv; cases hv
  | cell i t =>
    simp only [resB, List.all_cons, List.all_nil, Bool.and_true, Bool.and_eq_true, Bool.or_eq_true, Bool.not_eq_true', decide_eq_true_eq] at hb
    obtain ⟨⟨hb1, hb2⟩, hb3⟩ := hb
    obtain ⟨inf, hi'⟩ := Option.isSome_iff_exists.1 hb1
    obtain ⟨d, hd⟩ := Option.isSome_iff_exists.1 hb2
    unfold cRes at hv
    dsimp only at hv
    by_cases hi : i < nt
    · rw [if_pos hi] at hv
      have hR := he.get i hi
      by_cases hagg : isAggB P t = true
      · rw [if_pos hagg] at hv
        have hpos : 0 < P.cellsOf t := by
          rcases hb3 with hb3 | hb3
          · rw [hagg] at hb3; cases hb3
          · exact hb3
        have hv : onPtr (EN.get (paB 12 i) e) none (fun b o => onOpt (readn (asRow (hget h b)) (P.cellsOf t) o) none (fun l => some (.agg l))) = some v := hv
        cases hp : EN.get (paB 12 i) e with
        | ptr b o =>
          rw [hp] at hv hR
          have hv : onOpt (readn (asRow (hget h b)) (P.cellsOf t) o) none (fun l => some (AV.agg l)) = some v := hv
          cases hl : readn (asRow (hget h b)) (P.cellsOf t) o with
          | none => rw [hl] at hv; cases hv
          | some l =>
            rw [hl] at hv
            have hv : some (AV.agg l) = some v := hv
            injection hv with hv
            subst hv
            obtain ⟨g, q, hg, h1⟩ := R_ptr hR
            obtain ⟨g', q', vs, hg', hRs, hlen, hc⟩ := hr.cells hl hpos
            rw [hg] at hg'; injection hg' with hg'; injection hg' with e1 e2; subst e1
            have hvl : vs.length = P.cellsOf t := hRs.len.trans hlen
            refine ⟨.agg vs.toArray, ?_, .agg _ _ hRs⟩
            have hag : (isAgg t).run P w = .ok true w := by
              unfold isAgg
              rw [Sem.run_bind, run_underlying hd]
              unfold isAggB at hagg
              rw [hd] at hagg
              cases d <;> first | rfl | cases hagg
            have hld : (loadCells (⟨g, o, none⟩ : Addr) (P.cellsOf t)).run P w = .ok vs.toArray w := by
              rw [← hvl]
              refine run_loadCells_list w _ vs (fun j v hj => ?_)
              rw [addr_add]
              exact hc j v hj
            simp [resOne, h1, asAddr, loadVar, hag, r_sizeOf hi', hld]
        | _ => rw [hp] at hv; cases hv
      · rw [if_neg hagg] at hv
        have hv : onPtr (EN.get (paB 12 i) e) none (fun b o => Tr.get (asRow (hget h b)) o) = some v := hv
        cases hp : EN.get (paB 12 i) e with
        | ptr b o =>
          rw [hp] at hv hR
          have hv : Tr.get (asRow (hget h b)) o = some v := hv
          obtain ⟨g, q, hg, h1⟩ := R_ptr hR
          obtain ⟨g', q', u, hg', hu, hRu⟩ := hr.cell hv
          rw [hg] at hg'; injection hg' with hg'; injection hg' with e1 e2; subst e1
          refine ⟨u, ?_, hRu⟩
          have hag : (isAgg t).run P w = .ok false w := by
            unfold isAgg
            rw [Sem.run_bind, run_underlying hd]
            unfold isAggB at hagg
            rw [hd] at hagg
            cases d <;> first | rfl | exact absurd rfl hagg
          simp [resOne, h1, asAddr, loadVar, hag, hu]
        | _ => rw [hp] at hv; cases hv
    · rw [if_neg hi] at hv; cases hv
theorem resL_ok {e : EN} {a : Act} (he : ER σ nt e a) (hr : HR σ N h w) : ∀ {rs : List ResultVar}, resB P rs = true → ∀ {l : List AV}, resL e h (rs.map (cRes P nt)) = some l → ∃ vs, (rs.mapM (resOne a.tmps)).run P w = .ok vs w ∧ Rs σ l vs
  | [], _, l, hl => by
    have hl : some [] = some l := hl
    injection hl with hl; subst hl
    exact ⟨[], rfl, .nil⟩
  | r :: rs, hb, l, hl => by
    have hb' : resB P [r] = true ∧ resB P rs = true := by
      simp only [resB, List.all_cons, List.all_nil, Bool.and_true, Bool.and_eq_true] at hb ⊢
      exact hb
    have hl : onOpt (resA e h (cRes P nt r)) none (fun v => onOpt (resL e h (rs.map (cRes P nt))) none (fun m => some (v :: m))) = some l := hl
    cases hv : resA e h (cRes P nt r) with
    | none => rw [hv] at hl; cases hl
    | some v =>
      rw [hv] at hl
      have hl : onOpt (resL e h (rs.map (cRes P nt))) none (fun m => some (v :: m)) = some l := hl
      cases hm : resL e h (rs.map (cRes P nt)) with
      | none => rw [hm] at hl; cases hl
      | some m =>
        rw [hm] at hl
        have hl : some (v :: m) = some l := hl
        injection hl with hl; subst hl
        obtain ⟨u, h1, h2⟩ := resA_ok he hr hb'.1 hv
        obtain ⟨vs, h3, h4⟩ := resL_ok he hr hb'.2 hm
        refine ⟨u :: vs, ?_, .cons _ _ _ _ h2 h4⟩
        rw [List.mapM_cons, Sem.run_bind, h1, Result.andThen_ok, Sem.run_bind, h3]
        rfl
theorem packed_R {l : List AV} {vs : List Value} (h : Rs σ l vs) : R σ (packed l) (if hs : vs.toArray.size = 1 then vs.toArray[0] else .tuple vs.toArray) := by
  cases h with
  | nil => exact .tup [] [] .nil
  | cons a v l vs h1 h2 =>
    cases h2 with
    | nil => exact h1
    | cons b u l vs h3 h4 => exact .tup _ _ (.cons _ _ _ _ h1 (.cons _ _ _ _ h3 h4))
theorem results_ok {e : EN} {a : Act} {fn : Func} (he : ER σ nt e a) (hr : HR σ N h w) (hb : resB P fn.results.toList = true) {l : List AV} (hl : resL e h (fn.results.toList.map (cRes P nt)) = some l) : ∃ u, (results fn a.tmps).run P w = .ok u w ∧ R σ (packed l) u := by
  obtain ⟨vs, h1, h2⟩ := resL_ok he hr hb hl
  refine ⟨_, ?_, packed_R h2⟩
  have e1 : results fn a.tmps = (do let vs ← fn.results.mapM (resOne a.tmps); pure (if h : vs.size = 1 then vs[0] else .tuple vs)) := by
    unfold results
    congr 1
  rw [e1, Array.mapM_eq_mapM_toList]
  simp [h1]
/-! arguments -/
theorem argsE_get : ∀ (l : List AV) (p : Pa) (e : EN) (q : Pa), EN.get q (argsE l p e) = if p.num ≤ q.num ∧ q.num < p.num + l.length then (l[q.num - p.num]?).getD .bad else EN.get q e
  | [], p, e, q => by
    show EN.get q e = _
    rw [if_neg (by simp only [List.length_nil]; omega)]
  | x :: l, p, e, q => by
    show EN.get q (argsE l (Pa.succ p) (EN.put p x e)) = _
    rw [argsE_get l, num_succ]
    by_cases h1 : p.num + 1 ≤ q.num ∧ q.num < p.num + 1 + l.length
    · rw [if_pos h1, if_pos (by simp only [List.length_cons]; omega), show q.num - p.num = (q.num - (p.num + 1)) + 1 by omega, List.getElem?_cons_succ]
    · rw [if_neg h1]
      by_cases h2 : q.num = p.num
      · have := num_inj h2
        subst this
        rw [en_same, if_pos (by simp only [List.length_cons]; omega), Nat.sub_self]; rfl
      · rw [if_neg (by simp only [List.length_cons]; omega), en_other _ _ _ _ (fun e => h2 (by rw [e]))]
theorem ER_args {l : List AV} {vs : List Value} (hl : Rs σ l vs) (hnt : nt ≤ 4096) : ER σ nt (argsE l .z .nil) { tmps := vs.toArray ++ Array.replicate (nt - vs.toArray.size) undef, defers := [] } := by
  have hlen := hl.len
  refine ⟨hnt, by simp only [Array.size_append, List.size_toArray, Array.size_replicate]; omega, fun i hi => ?_⟩
  rw [argsE_get, num_paB 12 i (by omega)]
  have hz : Pa.z.num = 0 := rfl
  rw [hz]
  by_cases h1 : i < l.length
  · rw [if_pos (by omega), Nat.sub_zero]
    obtain ⟨u, h2, h3⟩ := hl.get (List.getElem?_eq_getElem h1)
    rw [List.getElem?_eq_getElem h1]
    show R σ l[i] _
    rw [Array.getD_eq_getD_getElem?, Array.getElem?_append_left (by simp only [List.size_toArray]; omega)]
    have : vs.toArray[i]? = some u := by simpa using h2
    rw [this]; exact h3
  · rw [if_neg (by omega), en_nil]
    exact .bad _
/-! a call -/
/-- the one function that is put off does nothing as long as nothing panics -/
def Idle (P : Program) : Prop := (∃ fn c, P.funcs[18]? = some fn ∧ (fn.name == "runtime.NumGoroutine") = false ∧ fn.body = some c) ∧
  ∀ (ws : Array Value) (w : World) (K : World → Prop), ws.size = 3 → K w → CallsD P 18 ws .returning w fun e u' w' => (∃ v, e = .returned v) ∧ u' = .returning ∧ K w'
theorem leaves_inert (hI : Idle P) {fn : Func} {tmps : Array Value} {Rr : Ending → World → Prop} {w : World} {v : Value} (hres : (results fn tmps).run P w = .ok v w) (hR : Rr (.returned v) w) : ∀ ds : List Deferred, (∀ d ∈ ds, ∃ ws : Array Value, ws.size = 3 ∧ d = inert ws) → Leaves P fn tmps Rr ds .returning w
  | [], _ => ⟨v, hres, hR⟩
  | d :: ds, hd => by
    obtain ⟨ws, h1, rfl⟩ := hd d List.mem_cons_self
    obtain ⟨⟨f18, c18, h2, h3, h4⟩, h5⟩ := hI
    refine ⟨(fun e0 => by cases e0), .func 18, ws, 18, #[] ++ ws, rfl, ?_, ?_⟩
    · show (callFunc 18 (#[] ++ ws)).run P w = _
      exact run_callFunc_in h2 h3 h4 _ w
    · have ih := leaves_inert ⟨⟨f18, c18, h2, h3, h4⟩, h5⟩ hres hR ds (fun d hd' => hd d (List.mem_cons_of_mem _ hd'))
      have hws : (#[] ++ ws : Array Value) = ws := by simp
      rw [hws]
      intro c cs hc
      obtain ⟨e, u', w', fr, ⟨⟨v', rfl⟩, rfl, rfl⟩, h7⟩ := h5 ws w (fun w' => w' = w) h1 rfl c cs hc
      exact ⟨_, _, _, fr, ih, h7⟩
structure FnOK (P : Program) (f : FuncId) (F : AF) : Prop where
  ok : ∃ fn c, P.funcs[f]? = some fn ∧ (fn.name == "runtime.NumGoroutine") = false ∧ fn.body = some c ∧ fn.ntmps ≤ 4096 ∧ resB P fn.results.toList = true ∧ F.results = fn.results.toList.map (cRes P fn.ntmps) ∧
    ∀ cf, CFOK P cf → StepS P fn.ntmps cf F.body c
theorem callF_ok (hI : Idle P) (hcf : CFOK P cf) {f : FuncId} {F : AF} (hF : FnOK P f F) {n : Nat} {args : List AV} {k : K} (hn : finish F k (F.body cf n (argsE args .z .nil) h) ≠ .no) :
    (∃ fn c, P.funcs[f]? = some fn ∧ (fn.name == "runtime.NumGoroutine") = false ∧ fn.body = some c) ∧
    ∀ (σ : Sg) (N : Nat) (vs : List Value) (w : World), HR σ N h w → Rs σ args vs → Calls P f vs.toArray w (fun e w' => ∃ v h' σ' u, finish F k (F.body cf n (argsE args .z .nil) h) = k v h' ∧ Go σ N h w σ' h' w' ∧ R σ' v u ∧ e = .returned u) := by
  obtain ⟨fn, c, h1, h2, h3, h4, h5, h6, h7⟩ := hF.ok
  refine ⟨⟨fn, c, h1, h2, h3⟩, fun σ N vs w hr hR => ?_⟩
  refine calls_of_wp_defers h1 h3 ?_
  have hend : ∀ (e' : EN) (h' : Hp), onOpt (resL e' h' F.results) .no (fun l => k (packed l) h') ≠ .no → finish F k (F.body cf n (argsE args .z .nil) h) = onOpt (resL e' h' F.results) .no (fun l => k (packed l) h') → ∀ σ' a' w', Go σ N h w σ' h' w' → ER σ' fn.ntmps e' a' → DOK a' →
      Leaves P fn a'.tmps (fun e w' => ∃ v h' σ' u, finish F k (F.body cf n (argsE args .z .nil) h) = k v h' ∧ Go σ N h w σ' h' w' ∧ R σ' v u ∧ e = .returned u) a'.defers .returning w' := by
    intro e' h' hne heq σ' a' w' hg he' hd'
    obtain ⟨l, hl⟩ := onOpt_ne hne
    rw [hl] at heq
    rw [h6] at hl
    obtain ⟨u, h8, h9⟩ := results_ok he' hg.hr h5 hl
    exact leaves_inert hI h8 ⟨packed l, h', σ', u, heq, hg, h9, rfl⟩ a'.defers hd'
  refine h7 cf hcf σ N _ h _ w n _ (ER_args hR h4) hr (fun d hd => by cases hd) ?_
  cases hres : F.body cf n (argsE args .z .nil) h with
  | no => rw [hres] at hn; exact hn rfl
  | exit id e' h' => rw [hres] at hn; exact absurd rfl hn
  | normal e' h' =>
    rw [hres] at hn hend
    exact fun σ' a' w' hg he' hd' => by
      have := hend e' h' hn rfl σ' a' w' hg he' hd'
      exact this
  | ret e' h' =>
    rw [hres] at hn hend
    exact fun σ' a' w' hg he' hd' => by
      have := hend e' h' hn rfl σ' a' w' hg he' hd'
      exact this
/-- intrinsics: what they answer is what the function does -/
def IntrOK (P : Program) (f : FuncId) (g : CF → List AV → Hp → K → Res) : Prop :=
  ∀ cf, CFOK P cf → ∀ (args : List AV) (h : Hp) (k : K), g cf args h k ≠ .no → (∃ fn c, P.funcs[f]? = some fn ∧ (fn.name == "runtime.NumGoroutine") = false ∧ fn.body = some c) ∧
    ∀ (σ : Sg) (N : Nat) (vs : List Value) (w : World), HR σ N h w → Rs σ args vs → Calls P f vs.toArray w (fun e w' => ∃ v h' σ' u, g cf args h k = k v h' ∧ Go σ N h w σ' h' w' ∧ R σ' v u ∧ e = .returned u)
theorem callN_ok (hI : Idle P) {fns : FuncId → Option AF} {intr : FuncId → Option (CF → List AV → Hp → K → Res)} (hfns : ∀ f F, fns f = some F → FnOK P f F) (hintr : ∀ f g, intr f = some g → IntrOK P f g) : ∀ n, CFOK P (callN fns intr n)
  | 0 => fun f args h k hn => absurd rfl hn
  | n + 1 => by
    have ih := callN_ok hI hfns hintr n
    intro f args h k hn
    have he : callN fns intr (n + 1) f args h k = onOpt (intr f) (onOpt (fns f) .no (fun F => finish F k (F.body (callN fns intr n) n (argsE args .z .nil) h))) (fun g => g (callN fns intr n) args h k) := rfl
    rw [he] at hn ⊢
    cases hi : intr f with
    | some g =>
      rw [hi] at hn
      exact hintr f g hi _ ih args h k hn
    | none =>
      rw [hi] at hn
      have hn : onOpt (fns f) .no (fun F => finish F k (F.body (callN fns intr n) n (argsE args .z .nil) h)) ≠ .no := hn
      cases hf : fns f with
      | none => rw [hf] at hn; exact absurd rfl hn
      | some F =>
        rw [hf] at hn
        exact callF_ok hI ih (hfns f F hf) hn
end
end Ev
end Go.Proofs.YtlgpacpebjechaaGreatDoor
/-
  The evaluator's functions: what is asked of a function, checked by the kernel.
-/
namespace Go.Proofs.YtlgpacpebjechaaGreatDoor
open Go.RowKit Go.Deep Go.Sort
namespace Ev
section
variable {P : Program} {nt : Nat} {cf : CF}
theorem cDraw_ok (hF : Flats P) (hcf : CFOK P cf) (hm : P.follows .mixedOrders = true) {id : Nat} {os : Array Oper} {s : Sched} (hb : dstB os = true) (hf : forks s = false) : StepS P nt cf (cDraw P nt os s) (.region id os true) := by
  unfold cDraw
  by_cases hfast : fastB os s = true
  · rw [if_pos hfast]
    cases hds : cDI P nt os (pures P os (path s)) (path s) with
    | none => exact stuck_ok _
    | some ds =>
      dsimp only
      by_cases hla : (!forks s && allLate os (pures P os (path s)) (path s)) = true
      · rw [if_pos hla]
        rw [Bool.and_eq_true] at hla
        cases hl : getAll os (path s) with
        | none => exact stuck_ok _
        | some l => exact drawA_ok hF hcf hm hb hfast hf hla.2 hds hl
      · rw [if_neg hla]
        exact drawB_ok hF hcf hm hb hfast hf hds
  · rw [if_neg hfast]
    exact stuck_ok _
/-- what is asked of a function -/
noncomputable def fnB (P : Program) (fn : Func) : Bool := (match fn.body with | some c => codeB c | none => false) && (fn.name != "runtime.NumGoroutine") && decide (fn.ntmps ≤ 4096) && resB P fn.results.toList
theorem FnOK.of (hF : Flats P) (_hm : P.follows .mixedOrders = true) {f : FuncId} {fn : Func} {sch : List (Nat × Sched)} {F : AF} (h1 : P.funcs[f]? = some fn) (h2 : fnB P fn = true) (h3 : cFunc P sch fn = F)
    (h4 : ∀ cf, CFOK P cf → ∀ (id : Nat) (os : Array Oper) (s : Sched), sch.lookup id = some s → dstB os = true → StepS P fn.ntmps cf (cDraw P fn.ntmps os s) (.region id os true)) : FnOK P f F := by
  unfold fnB at h2
  simp only [Bool.and_eq_true, decide_eq_true_eq, bne_iff_ne, ne_eq] at h2
  obtain ⟨⟨⟨h5, h6⟩, h7⟩, h8⟩ := h2
  cases hb : fn.body with
  | none => rw [hb] at h5; cases h5
  | some c =>
    rw [hb] at h5
    subst h3
    refine ⟨fn, c, h1, by simpa using h6, hb, h7, h8, rfl, fun cf hcf => ?_⟩
    have e : (cFunc P sch fn).body = cCode P fn.ntmps sch c := by
      unfold cFunc
      rw [hb]
    rw [e]
    exact cCode_ok hF hcf sch (h4 cf hcf) c h5
theorem lookup_mem {sch : List (Nat × Sched)} {id : Nat} {s : Sched} (h : sch.lookup id = some s) : (id, s) ∈ sch := by
  induction sch with
  | nil => cases h
  | cons p l ih =>
    obtain ⟨i, t⟩ := p
    rw [List.lookup_cons] at h
    by_cases e : id == i
    · rw [e] at h
      injection h with h
      subst h
      have : id = i := by simpa using e
      subst this
      exact List.mem_cons_self
    · have e : (id == i) = false := by simpa using e
      rw [e] at h
      exact List.mem_cons_of_mem _ (ih h)
theorem FnOK.plain (hF : Flats P) (hm : P.follows .mixedOrders = true) {f : FuncId} {fn : Func} {sch : List (Nat × Sched)} {F : AF} (h1 : P.funcs[f]? = some fn) (h2 : fnB P fn = true) (h3 : cFunc P sch fn = F) (h4 : (sch.all fun p => !forks p.2) = true) : FnOK P f F :=
  FnOK.of hF hm h1 h2 h3 (fun cf hcf id os s hs hb => cDraw_ok hF hcf hm hb (by
    have := List.all_eq_true.1 h4 _ (lookup_mem hs)
    simpa using this))
end
/-! the program -/
theorem cells38 : Tryz.prog.cellsOf 38 = 4 := by kernel_rfl
theorem cells122 : Tryz.prog.cellsOf 122 = 3 := by kernel_rfl
theorem cells179 : Tryz.prog.cellsOf 179 = 2 := by kernel_rfl
theorem flats : Flats Tryz.prog := ⟨by rw [cells38]; exact flat38, by rw [cells122]; exact flat122, by rw [cells179]; exact flat179, ⟨_, _, Tryz.underlying38⟩⟩
theorem mixed : Tryz.prog.follows .mixedOrders = true := by kernel_rfl
end Ev
end Go.Proofs.YtlgpacpebjechaaGreatDoor
