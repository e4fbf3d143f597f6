/-
  Texts joined: What the evaluator knows by itself: the search for a byte, the length of a number in bits; What an operation answers depends on its operands alone; The table of the functions: each entry is what the evaluator takes it for; The evaluator is sound, given the five functions and the two intrinsics that are still owed.
-/
import Derived.Test.YtlgpacpebjechaaGreatDoorBF
import Derived.Test.YtlgpacpebjechaaGreatDoorShelf
/-
  What the evaluator knows by itself: the search for a byte, the length of a number in bits.
-/
namespace Go.Proofs.YtlgpacpebjechaaGreatDoor
open Go.RowKit Go.Deep Go.Sort
namespace Ev
theorem indexByte_idx (q : Nat) (hq : q < 256) : ∀ (l : List Nat), (∀ x ∈ l, x < 256) → ∀ i : Nat, idx l q i = (if Lib.indexByte (l.map UInt8.ofNat) q.toUInt8 = -1 then -1 else (i : Int) + Lib.indexByte (l.map UInt8.ofNat) q.toUInt8)
  | [], _, i => rfl
  | x :: l, hl, i => by
    show iff (Nat.beq x q) (idx l q (Nat.succ i)) (.ofNat i) = _
    rw [List.map_cons, Lib.indexByte]
    have hx := hl x List.mem_cons_self
    have e : (UInt8.ofNat x == q.toUInt8) = decide (x = q) := by
      by_cases h : x = q
      · subst h; simp
      · rw [decide_eq_false h]
        refine beq_eq_false_iff_ne.2 (fun e => h ?_)
        have := congrArg UInt8.toNat e
        simp only [UInt8.toNat_ofNat', Nat.toUInt8] at this
        omega
    rw [e, beqN]
    have ih := indexByte_idx q hq l (fun y hy => hl y (List.mem_cons_of_mem _ hy)) (i + 1)
    have hge := Lib.indexByte_ge (l.map UInt8.ofNat) q.toUInt8
    by_cases h : x = q
    · rw [decide_eq_true h]
      simp only [if_true]
      show Int.ofNat i = _
      rw [if_neg (by decide)]
      simp
    · rw [decide_eq_false h]
      show idx l q (i + 1) = _
      rw [ih]
      by_cases h2 : Lib.indexByte (l.map UInt8.ofNat) q.toUInt8 = -1
      · simp [h2]
      · have e2 : (Lib.indexByte (l.map UInt8.ofNat) q.toUInt8 == -1) = false := beq_eq_false_iff_ne.2 h2
        rw [if_neg h2, e2]
        simp only [Bool.false_eq_true, if_false]
        rw [if_neg (by omega)]
        push_cast
        omega
theorem iIdx_ok : IntrOK Tryz.prog 134 iIdx := by
  intro cf hcf args h k hn
  refine ⟨⟨_, _, Tryz.func134, by kernel_rfl, rfl⟩, fun σ N vs w hr hR => ?_⟩
  have hn0 : two args .no (fun x y => onStr x .no (fun s => onInt y .no (fun j q => iff (kbeq j .u8) .no (Int.rec (motive := fun _ => Res) (fun q => iff (Nat.ble q 255) .no (k (.int .i64 (idx s q 0)) h)) (fun _ => .no) q)))) ≠ .no := hn
  obtain ⟨x, y, rfl⟩ : ∃ x y, args = [x, y] := by
    rcases args with _ | ⟨x, _ | ⟨y, _ | ⟨z, l⟩⟩⟩ <;> first
      | exact ⟨_, _, rfl⟩
      | exact absurd rfl hn0
  have hn1 : onStr x .no (fun s => onInt y .no (fun j q => iff (kbeq j .u8) .no (Int.rec (motive := fun _ => Res) (fun q => iff (Nat.ble q 255) .no (k (.int .i64 (idx s q 0)) h)) (fun _ => .no) q))) ≠ .no := hn0
  obtain ⟨s, rfl⟩ := onStr_ne hn1
  have hn2 : onInt y .no (fun j q => iff (kbeq j .u8) .no (Int.rec (motive := fun _ => Res) (fun q => iff (Nat.ble q 255) .no (k (.int .i64 (idx s q 0)) h)) (fun _ => .no) q)) ≠ .no := hn1
  obtain ⟨j, q, rfl⟩ := onInt_ne hn2
  have hn3 : iff (kbeq j .u8) .no (Int.rec (motive := fun _ => Res) (fun q => iff (Nat.ble q 255) .no (k (.int .i64 (idx s q 0)) h)) (fun _ => .no) q) ≠ .no := hn2
  have hk := iff_ne hn3
  have e1 := kbeq_eq hk
  subst e1
  cases q with
  | negSucc q => exact absurd rfl hn3
  | ofNat q =>
    have hn4 : iff (Nat.ble q 255) .no (k (.int .i64 (idx s q 0)) h) ≠ .no := hn3
    have hq := iff_ne hn4
    have hop : iIdx cf [.str s, .int .u8 (Int.ofNat q)] h k = k (.int .i64 (idx s q 0)) h := by
      show iff (Nat.ble q 255) .no (k (.int .i64 (idx s q 0)) h) = _
      rw [hq]; rfl
    rw [bleN, decide_eq_true_eq] at hq
    cases hR with
    | cons _ u _ us h1 h2 =>
      cases h2 with
      | cons _ v _ us h3 h4 =>
        cases h4
        obtain ⟨rfl, hs⟩ := R_str h1
        have h3 := R_int h3
        subst h3
        refine (Tryz.strings_IndexByte (bs s) (Int.ofNat q) w).mono ?_
        rintro e w' ⟨rfl, rfl⟩
        refine ⟨_, h, σ, _, hop, Go.refl hr, .int _ _, ?_⟩
        have e2 : (bs s).data.toList = s.map UInt8.ofNat := by simp [bs]
        rw [e2, indexByte_idx q (by omega) s hs 0]
        show Ending.returned (.int .i64 (Lib.indexByte (s.map UInt8.ofNat) q.toUInt8)) = _
        by_cases h9 : Lib.indexByte (s.map UInt8.ofNat) q.toUInt8 = -1
        · simp [h9]
        · rw [if_neg h9]; simp
theorem bitLenAux_eq : ∀ (f n : Nat), n < 2 ^ f → Lib.bitLenAux f n = if n = 0 then 0 else Nat.log2 n + 1
  | 0, n, h => by
    have : n = 0 := by simpa using h
    subst this; rfl
  | f + 1, n, h => by
    rw [Lib.bitLenAux]
    by_cases h0 : n = 0
    · rw [if_pos h0, if_pos h0]
    · rw [if_neg h0, if_neg h0, bitLenAux_eq f (n / 2) (by rw [Nat.pow_succ] at h; omega), Nat.log2_def n]
      by_cases h2 : n / 2 = 0
      · rw [if_pos h2, if_neg (by omega)]
      · rw [if_neg h2, if_pos (by omega)]; omega
theorem bitLen_eq (n : Nat) (h : n ≤ 18446744073709551615) : Lib.bitLen n = bitLen n := by
  unfold Lib.bitLen bitLen
  rw [bitLenAux_eq 64 n (by omega), beqN]
  by_cases h0 : n = 0
  · subst h0; rfl
  · rw [if_neg h0, decide_eq_false h0]; rfl
theorem iLen_ok : IntrOK Tryz.prog 127 iLen := by
  intro cf hcf args h k hn
  refine ⟨⟨_, _, Tryz.func127, by kernel_rfl, rfl⟩, fun σ N vs w hr hR => ?_⟩
  have hn0 : one args .no (fun x => onInt x .no (fun j m => iff (kbeq j .u64) .no (Int.rec (motive := fun _ => Res) (fun m => iff (Nat.ble m 18446744073709551615) .no (k (nI (bitLen m)) h)) (fun _ => .no) m))) ≠ .no := hn
  obtain ⟨x, rfl⟩ : ∃ x, args = [x] := by
    rcases args with _ | ⟨x, _ | ⟨y, l⟩⟩ <;> first
      | exact ⟨_, rfl⟩
      | exact absurd rfl hn0
  have hn1 : onInt x .no (fun j m => iff (kbeq j .u64) .no (Int.rec (motive := fun _ => Res) (fun m => iff (Nat.ble m 18446744073709551615) .no (k (nI (bitLen m)) h)) (fun _ => .no) m)) ≠ .no := hn0
  obtain ⟨j, m, rfl⟩ := onInt_ne hn1
  have hn3 : iff (kbeq j .u64) .no (Int.rec (motive := fun _ => Res) (fun m => iff (Nat.ble m 18446744073709551615) .no (k (nI (bitLen m)) h)) (fun _ => .no) m) ≠ .no := hn1
  have hk := iff_ne hn3
  have e1 := kbeq_eq hk
  subst e1
  cases m with
  | negSucc q => exact absurd rfl hn3
  | ofNat m =>
    have hn4 : iff (Nat.ble m 18446744073709551615) .no (k (nI (bitLen m)) h) ≠ .no := hn3
    have hq := iff_ne hn4
    have hop : iLen cf [.int .u64 (Int.ofNat m)] h k = k (nI (bitLen m)) h := by
      show iff (Nat.ble m 18446744073709551615) .no (k (nI (bitLen m)) h) = _
      rw [hq]; rfl
    rw [bleN, decide_eq_true_eq] at hq
    cases hR with
    | cons _ u _ us h1 h2 =>
      cases h2
      have h1 := R_int h1
      subst h1
      refine (Tryz.bits_Len (Int.ofNat m) w (by simp) (by simp only [Int.ofNat_eq_natCast]; omega)).mono ?_
      rintro e w' ⟨rfl, rfl⟩
      refine ⟨_, h, σ, _, hop, Go.refl hr, .int _ _, ?_⟩
      have e3 : (Int.ofNat m).toNat = m := rfl
      rw [e3, bitLen_eq m hq]
      rfl
end Ev
end Go.Proofs.YtlgpacpebjechaaGreatDoor
/-
  What an operation answers depends on its operands alone.
-/
namespace Go.Proofs.YtlgpacpebjechaaGreatDoor
open Go.RowKit Go.Deep Go.Sort
namespace Ev
section
variable {P : Program} {nt : Nat} {cf : CF} {o : Oper} {e e' : EN}
theorem evs_congr : ∀ (l : List Operand), (∀ x ∈ l, cO nt x e = cO nt x e') → evs (l.map (cO nt)) e = evs (l.map (cO nt)) e'
  | [], _ => rfl
  | x :: l, h => by
    show cO nt x e :: evs (l.map (cO nt)) e = cO nt x e' :: evs (l.map (cO nt)) e'
    rw [h x List.mem_cons_self, evs_congr l (fun y hy => h y (List.mem_cons_of_mem _ hy))]
theorem fill_congr {place : Nat → Option (Nat × Nat)} : ∀ {parts : List (Nat × Operand)} {ps : List (Nat × Nat × AO)}, cParts nt place parts = some ps → (∀ p ∈ parts, cO nt p.2 e = cO nt p.2 e') → ∀ z, fill e ps z = fill e' ps z
  | [], ps, hp, _, z => by
    have hp : some [] = some ps := hp
    injection hp with hp
    subst hp
    rfl
  | (i, x) :: parts, ps, hp, hx, z => by
    unfold cParts at hp
    cases hpl : place i with
    | none => rw [hpl] at hp; cases hp
    | some os =>
      obtain ⟨off, size⟩ := os
      rw [hpl] at hp
      cases hr' : cParts nt place parts with
      | none => rw [hr'] at hp; cases hp
      | some r =>
        rw [hr'] at hp
        have hp : some ((off, size, cO nt x) :: r) = some ps := hp
        injection hp with hp
        subst hp
        show onOpt (cellsO (cO nt x e)) none (fun cs => iff (iff (Nat.beq (lenA cs) size) false (Nat.ble (Nat.add off size) (lenA z))) none (fill e r (over cs z off))) = onOpt (cellsO (cO nt x e')) none (fun cs => iff (iff (Nat.beq (lenA cs) size) false (Nat.ble (Nat.add off size) (lenA z))) none (fill e' r (over cs z off)))
        rw [hx (i, x) List.mem_cons_self]
        congr 1
        funext cs
        rw [fill_congr hr' (fun p hp => hx p (List.mem_cons_of_mem _ hp))]
theorem optN_congr (lo : Option Operand) (d : Nat) (h : ∀ x, lo = some x → cO nt x e = cO nt x e') : onOpt (lo.map (cO nt)) (some d) (fun x => onNat (x e) none some) = onOpt (lo.map (cO nt)) (some d) (fun x => onNat (x e') none some) := by
  cases lo with
  | none => rfl
  | some x =>
    show onNat (cO nt x e) none some = onNat (cO nt x e') none some
    rw [h x rfl]
theorem bounds_congr (lo hi : Option Operand) (h1 : ∀ x, lo = some x → cO nt x e = cO nt x e') (h2 : ∀ x, hi = some x → cO nt x e = cO nt x e') (len : Nat) (nx : Res) (yes : Nat → Nat → Res) :
    bounds e (lo.map (cO nt)) (hi.map (cO nt)) len nx yes = bounds e' (lo.map (cO nt)) (hi.map (cO nt)) len nx yes := by
  unfold bounds
  rw [optN_congr hi len h2, optN_congr lo 0 h1]
/-- the answer is the same -/
def Cg (cf : CF) (e e' : EN) (op : AOp) : Prop := ∀ h k, op cf e h k = op cf e' h k
theorem cg_stuck : Cg cf e e' oStuck := fun _ _ => rfl
theorem cBin_congr {op : BinOp} {ty : TypeId} {x y : Operand} (hx : cO nt x e = cO nt x e') (hy : cO nt y e = cO nt y e') : Cg cf e e' (cBin P nt op ty x y) := by
  have hq : ∀ neg, Cg cf e e' (cEq P nt ty x y neg) := by
    intro neg
    unfold cEq
    repeat' split
    all_goals first
      | exact cg_stuck
      | (intro h k; simp only [oEq, oNe, oEqB, oNeB, oEqL, oNeL, oEqM, oEqS, hx, hy]; done)
  unfold cBin
  cases op <;> dsimp only <;> first
    | exact cg_stuck
    | exact hq _
    | (intro h k; simp only [oSub, oMul, oQuo, oRem, oAnd, oOr, oBits, oShl, oShr, oLss, oLeq, oGtr, oGeq, oInt2, hx, hy]; done)
    | skip
  split <;> (intro h k; simp only [oCat, oAdd, oInt2, hx, hy])
theorem cBuiltin_congr {b : Builtin} {args : Array Operand} {tys : Array TypeId} (hx : ∀ x ∈ args, cO nt x e = cO nt x e') : Cg cf e e' (cBuiltin P nt b args tys) := by
  unfold cBuiltin
  split
  · rename_i x ty ha ht
    have h1 := hx x (by rw [← Array.mem_toList_iff, ha]; exact List.mem_cons_self)
    repeat' split
    all_goals first
      | exact cg_stuck
      | (intro h k; simp only [oLenStr, oLenSl, oLenM, oLenA, h1]; done)
  · rename_i x ty ha ht
    have h1 := hx x (by rw [← Array.mem_toList_iff, ha]; exact List.mem_cons_self)
    repeat' split
    all_goals first
      | exact cg_stuck
      | (intro h k; simp only [oCap, h1]; done)
  · rename_i s x ty uy ha ht
    have h1 := hx s (by rw [← Array.mem_toList_iff, ha]; exact List.mem_cons_self)
    have h2 := hx x (by rw [← Array.mem_toList_iff, ha]; exact List.mem_cons_of_mem _ List.mem_cons_self)
    repeat' split
    all_goals first
      | exact cg_stuck
      | (intro h k; simp only [oAppend0, oAppend, oAppendZ, h1, h2]; done)
  · exact cg_stuck
theorem q_args {q : Call} {x : Operand} (h : x ∈ q.args) : x ∈ q.operands := by
  unfold Call.operands
  simp [h]
theorem q_callee {q : Call} {x : Operand} (h : q.callee = .value x) : x ∈ q.operands := by
  unfold Call.operands
  rw [h]
  simp
theorem cOp_congr (hx : ∀ x ∈ o.op.operands, cO nt x e = cO nt x e') : Cg cf e e' (cOp P nt o) := by
  unfold cOp
  cases ho : o.op <;> rw [ho] at hx <;> simp only [Op.operands] at hx <;> try dsimp only
  case move x => intro h k; simp only [oMov, hx x (by simp)]
  case assign x => intro h k; simp only [oMov, hx x (by simp)]
  case pick q x y => intro h k; simp only [oPick, hx q (by simp), hx x (by simp), hx y (by simp)]
  case alloc => split <;> exact fun _ _ => rfl
  case box t x => intro h k; simp only [oBox, hx x (by simp)]
  case build =>
    repeat' split
    all_goals first
      | exact cg_stuck
      | (rename_i hps; intro h k; simp only [oBuild]; rw [fill_congr hps (fun p hp => hx _ (by simp; exact ⟨_, by simpa using hp⟩))])
  case buildSlice =>
    repeat' split
    all_goals first
      | exact cg_stuck
      | (rename_i hps _; intro h k; simp only [oBslice]; rw [fill_congr hps (fun p hp => hx _ (by simp; exact ⟨_, by simpa using hp⟩))])
  case load t x => repeat' split
                   all_goals first
                     | exact cg_stuck
                     | (intro h k; simp only [oLoad1, oLoadn, hx x (by simp)]; done)
  case store t x y => split
                      · intro h k; simp only [oStore, hx x (by simp), hx y (by simp)]
                      · exact cg_stuck
  case nilCheck x => intro h k; simp only [oNil, hx x (by simp)]
  case binOp op ty x y ty' => exact cBin_congr (hx x (by simp)) (hx y (by simp))
  case unOp u t x => cases u <;> first
                       | exact cg_stuck
                       | (intro h k; simp only [oNot, oXor, hx x (by simp)]; done)
  case convert s d x => repeat' split
                        all_goals first
                          | exact cg_stuck
                          | (intro h k; simp only [oConv, oToStr, hx x (by simp)]; done)
  case extract x i => intro h k; simp only [oExtract, hx x (by simp)]
  case fieldAddr s x f => repeat' split
                          all_goals first
                            | exact cg_stuck
                            | (intro h k; simp only [oFieldAddr, hx x (by simp)]; done)
  case indexAddr t x i => repeat' split
                          all_goals first
                            | exact cg_stuck
                            | (intro h k; simp only [oIndexA, oIndexS, hx x (by simp), hx i (by simp)]; done)
  case index t x i => repeat' split
                      all_goals first
                        | exact cg_stuck
                        | (intro h k; simp only [oIndexStr, hx x (by simp), hx i (by simp)]; done)
  case lookup t x i ok => repeat' split
                          all_goals first
                            | exact cg_stuck
                            | (intro h k; simp only [oLookup, hx x (by simp), hx i (by simp)]; done)
  case mapUpdate t m x v => repeat' split
                            all_goals first
                              | exact cg_stuck
                              | (intro h k; simp only [oMapset, hx m (by simp), hx x (by simp), hx v (by simp)]; done)
  case insert t m x v => repeat' split
                         all_goals first
                           | exact cg_stuck
                           | (intro h k; simp only [oMapset, hx m (by simp), hx x (by simp), hx v (by simp)]; done)
  case makeSlice t l q => repeat' split
                          all_goals first
                            | exact cg_stuck
                            | (intro h k; simp only [oMkslice, hx l (by simp), hx q (by simp)]; done)
  case makeMap t r => cases r <;> exact fun _ _ => rfl
  case makeFunc f xs ys =>
    cases f <;> first
      | exact cg_stuck
      | (intro h k
         simp only [oMkfn]
         rw [evs_congr xs.toList (fun x hm => hx x (by simp at hm ⊢; exact .inl hm)), evs_congr ys.toList (fun x hm => hx x (by simp at hm ⊢; exact .inr hm))])
  case slice t x lo hi mx =>
    cases mx with
    | some _ => exact cg_stuck
    | none =>
      have h1 : ∀ y, lo = some y → cO nt y e = cO nt y e' := fun y hy => hx y (by subst hy; simp)
      have h2 : ∀ y, hi = some y → cO nt y e = cO nt y e' := fun y hy => hx y (by subst hy; simp)
      dsimp only
      repeat' split
      all_goals first
        | exact cg_stuck
        | (intro h k; simp only [oSliceS, oSlice, hx x (by simp), bounds_congr lo hi h1 h2]; done)
  case call q =>
    split
    · intro h k
      simp only [oCallF]
      rw [evs_congr q.args.toList (fun x hm => hx x (q_args (by simpa using hm)))]
    · rename_i f _ hq
      intro h k
      simp only [oCall]
      rw [evs_congr q.args.toList (fun x hm => hx x (q_args (by simpa using hm))), hx f (q_callee hq)]
    · exact cBuiltin_congr (fun x hm => hx x (q_args (by simpa using hm)))
    · exact cg_stuck
  case defer q =>
    split
    · rename_i f hq ha
      intro h k
      simp only [oDefer, hx f (q_callee hq)]
    · exact cg_stuck
  all_goals exact cg_stuck
end
end Ev
end Go.Proofs.YtlgpacpebjechaaGreatDoor
/-
  The table of the functions: each entry is what the evaluator takes it for.
-/
namespace Go.Proofs.YtlgpacpebjechaaGreatDoor
open Go.RowKit Go.Deep Go.Sort
namespace Ev
theorem ft_get_node (v : Option AF) (l r : FT) (n : Nat) : FT.get (.node v l r) n = if n = 0 then v else if n % 2 = 1 then FT.get l (n / 2) else FT.get r (n / 2 - 1) := by
  show iff (Nat.beq n 0) (iff (Nat.beq (Nat.land n 1) 1) (FT.get r (Nat.sub (Nat.shiftRight n 1) 1)) (FT.get l (Nat.shiftRight n 1))) v = _
  have h1 : Nat.shiftRight n 1 = n / 2 := Nat.shiftRight_eq_div_pow n 1
  have h2 : Nat.land n 1 = n % 2 := Nat.and_one_is_mod n
  rw [h1, h2, beqN, beqN]
  by_cases h : n = 0
  · rw [decide_eq_true h, if_pos h]; rfl
  · rw [decide_eq_false h, if_neg h]
    by_cases h3 : n % 2 = 1
    · rw [decide_eq_true h3, if_pos h3]; rfl
    · rw [decide_eq_false h3, if_neg h3]; rfl
inductive AtO (Q : Nat → AF → Prop) (n : Nat) : Option AF → Prop
  | none : AtO Q n none
  | some {F : AF} : Q n F → AtO Q n (some F)
/-- node b of the tree: number m of the subtree is number b of the whole under some map -/
inductive AllT (Q : Nat → AF → Prop) : (Nat → Nat) → FT → Prop
  | nil {g : Nat → Nat} : AllT Q g .nil
  | node {g : Nat → Nat} {v : Option AF} {l r : FT} : AtO Q (g 0) v → AllT Q (fun n => g (2 * n + 1)) l → AllT Q (fun n => g (2 * n + 2)) r → AllT Q g (.node v l r)
theorem AllT.get {Q : Nat → AF → Prop} : ∀ {t : FT} {g : Nat → Nat}, AllT Q g t → ∀ n F, FT.get t n = some F → Q (g n) F
  | .nil, g, _, n, F, h => by cases h
  | .node v l r, g, .node h1 h2 h3, n, F, h => by
    rw [ft_get_node] at h
    by_cases h0 : n = 0
    · rw [if_pos h0] at h
      subst h0
      subst h
      cases h1 with
      | some h => exact h
    · rw [if_neg h0] at h
      by_cases h4 : n % 2 = 1
      · rw [if_pos h4] at h
        have := AllT.get h2 _ _ h
        rwa [show 2 * (n / 2) + 1 = n by omega] at this
      · rw [if_neg h4] at h
        have := AllT.get h3 _ _ h
        rwa [show 2 * (n / 2 - 1) + 2 = n by omega] at this
theorem tbl_ok (h31 : FnOK Tryz.prog 31 a31) (h66 : FnOK Tryz.prog 66 a66) (h70 : FnOK Tryz.prog 70 a70) (h91 : FnOK Tryz.prog 91 a91) (h107 : FnOK Tryz.prog 107 a107) : AllT (FnOK Tryz.prog) (fun n => n) tbl :=
  (.node .none (.node .none (.node .none (.node (.some ok7) (.node (.some ok15) (.node (.some h31) (.node (.some ok63) (.node (.some ok127) .nil .nil) .nil) (.node (.some ok95) .nil .nil)) (.node .none (.node (.some ok79) .nil .nil) .nil)) (.node (.some ok23) (.node (.some ok39) (.node (.some ok71) (.node (.some ok135) .nil .nil) .nil) (.node (.some ok103) .nil .nil)) (.node (.some ok55) (.node (.some ok87) .nil .nil) (.node (.some ok119) .nil .nil)))) (.node .none (.node (.some ok19) (.node (.some ok35) (.node (.some ok67) (.node (.some ok131) .nil .nil) .nil) (.node (.some ok99) .nil .nil)) (.node (.some ok51) (.node (.some ok83) (.node (.some ok147) .nil .nil) .nil) (.node (.some ok115) .nil .nil))) (.node .none (.node (.some ok43) (.node (.some ok75) .nil .nil) (.node (.some h107) .nil .nil)) (.node (.some ok59) (.node (.some h91) .nil .nil) (.node (.some ok123) .nil .nil))))) (.node (.some ok5) (.node (.some ok9) (.node (.some ok17) (.node (.some ok33) (.node (.some ok65) (.node (.some ok129) .nil .nil) .nil) (.node (.some ok97) .nil .nil)) (.node (.some ok49) (.node (.some ok81) (.node (.some ok145) .nil .nil) .nil) (.node (.some ok113) .nil .nil))) (.node .none (.node (.some ok41) .nil (.node (.some ok105) .nil .nil)) (.node (.some ok57) (.node (.some ok89) .nil .nil) (.node (.some ok121) .nil .nil)))) (.node .none (.node (.some ok21) (.node (.some ok37) (.node (.some ok69) (.node (.some ok133) .nil .nil) .nil) (.node (.some ok101) .nil .nil)) (.node (.some ok53) (.node (.some ok85) .nil .nil) (.node (.some ok117) .nil .nil))) (.node .none (.node (.some ok45) (.node (.some ok77) .nil .nil) (.node (.some ok109) .nil .nil)) (.node (.some ok61) (.node (.some ok93) .nil .nil) .nil))))) (.node .none (.node .none (.node (.some ok8) (.node (.some ok16) (.node (.some ok32) (.node (.some ok64) (.node (.some ok128) .nil .nil) .nil) (.node (.some ok96) .nil .nil)) (.node .none (.node (.some ok80) .nil .nil) (.node (.some ok112) .nil .nil))) (.node .none (.node (.some ok40) (.node (.some ok72) (.node (.some ok136) .nil .nil) .nil) (.node (.some ok104) .nil .nil)) (.node (.some ok56) (.node (.some ok88) .nil .nil) (.node (.some ok120) .nil .nil)))) (.node .none (.node (.some ok20) (.node (.some ok36) (.node (.some ok68) (.node (.some ok132) .nil .nil) .nil) (.node (.some ok100) .nil .nil)) (.node (.some ok52) (.node (.some ok84) (.node (.some ok148) .nil .nil) .nil) (.node (.some ok116) .nil .nil))) (.node .none (.node (.some ok44) (.node (.some ok76) .nil .nil) (.node (.some ok108) .nil .nil)) (.node (.some ok60) (.node (.some ok92) .nil .nil) (.node (.some ok124) .nil .nil))))) (.node (.some ok6) (.node .none (.node .none (.node (.some ok34) (.node (.some h66) (.node (.some ok130) .nil .nil) .nil) (.node (.some ok98) .nil .nil)) (.node (.some ok50) (.node (.some ok82) (.node (.some ok146) .nil .nil) .nil) (.node (.some ok114) .nil .nil))) (.node .none (.node (.some ok42) (.node (.some ok74) .nil .nil) (.node (.some ok106) .nil .nil)) (.node (.some ok58) (.node (.some ok90) (.node (.some ok154) .nil .nil) .nil) (.node (.some ok122) .nil .nil)))) (.node .none (.node (.some ok22) (.node (.some ok38) (.node (.some h70) (.node (.some ok134) .nil .nil) .nil) (.node (.some ok102) .nil .nil)) (.node (.some ok54) (.node (.some ok86) .nil .nil) (.node (.some ok118) .nil .nil))) (.node .none (.node .none (.node (.some ok78) (.node (.some ok142) .nil .nil) .nil) (.node (.some ok110) .nil .nil)) (.node (.some ok62) (.node (.some ok94) .nil .nil) (.node (.some ok126) .nil .nil)))))))
theorem fns_ok (h31 : FnOK Tryz.prog 31 a31) (h66 : FnOK Tryz.prog 66 a66) (h70 : FnOK Tryz.prog 70 a70) (h91 : FnOK Tryz.prog 91 a91) (h107 : FnOK Tryz.prog 107 a107) (f : FuncId) (F : AF) (h : fns f = some F) : FnOK Tryz.prog f F :=
  (tbl_ok h31 h66 h70 h91 h107).get f F h
end Ev
end Go.Proofs.YtlgpacpebjechaaGreatDoor
/-
  The evaluator is sound, given the five functions and the two intrinsics that are still owed.
-/
namespace Go.Proofs.YtlgpacpebjechaaGreatDoor
open Go.RowKit Go.Deep Go.Sort
namespace Ev
theorem intr_ok (h118 : IntrOK Tryz.prog 118 iWide) (h81 : IntrOK Tryz.prog 81 iSorted) (f : FuncId) (g : CF → List AV → Hp → K → Res) (h : intr f = some g) : IntrOK Tryz.prog f g := by
  unfold intr at h
  rw [beqN, beqN, beqN, beqN] at h
  by_cases h1 : f = 134
  · subst h1
    have h : some iIdx = some g := h
    injection h with h
    subst h
    exact iIdx_ok
  · rw [decide_eq_false h1] at h
    by_cases h2 : f = 127
    · subst h2
      have h : some iLen = some g := h
      injection h with h
      subst h
      exact iLen_ok
    · rw [decide_eq_false h2] at h
      by_cases h3 : f = 118
      · subst h3
        have h : some iWide = some g := h
        injection h with h
        subst h
        exact h118
      · rw [decide_eq_false h3] at h
        by_cases h4 : f = 81
        · subst h4
          have h : some iSorted = some g := h
          injection h with h
          subst h
          exact h81
        · rw [decide_eq_false h4] at h
          cases h
structure Owed : Prop where
  h31 : FnOK Tryz.prog 31 a31
  h66 : FnOK Tryz.prog 66 a66
  h70 : FnOK Tryz.prog 70 a70
  h91 : FnOK Tryz.prog 91 a91
  h107 : FnOK Tryz.prog 107 a107
  h118 : IntrOK Tryz.prog 118 iWide
  h81 : IntrOK Tryz.prog 81 iSorted
theorem cf_ok (H : Owed) (n : Nat) : CFOK Tryz.prog (callN fns intr n) :=
  callN_ok idle (fns_ok H.h31 H.h66 H.h70 H.h91 H.h107) (intr_ok H.h118 H.h81) n
end Ev
end Go.Proofs.YtlgpacpebjechaaGreatDoor
