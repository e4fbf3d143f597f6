/-
  A fast check of an order (numbers as sets): what the kernel reckons for a large region.
-/
import Derived.Test.YtlgpacpebjechaaGreatDoorReg
namespace Go.Proofs.YtlgpacpebjechaaGreatDoor

theorem filter_one (p : Nat → Bool) : ∀ (n i : Nat), i < n → p i = true → (∀ j, j < n → p j = true → j = i) → (List.range n).filter p = [i]
  | 0, i, h, _, _ => by omega
  | n + 1, i, h, hp, hu => by
    rw [List.range_succ, List.filter_append]
    by_cases e : i = n
    · subst e
      have h0 : (List.range i).filter p = [] := by
        rw [List.filter_eq_nil_iff]
        intro j hj hpj
        have := List.mem_range.1 hj
        have := hu j (by omega) hpj
        omega
      simp [h0, hp]
    · have h1 := filter_one p n i (by omega) hp (fun j hj hpj => hu j (by omega) hpj)
      have h2 : p n = false := by
        cases hn : p n with
        | false => rfl
        | true => exact absurd (hu n (by omega) hn).symm e
      simp [h1, h2]
theorem filter_two (p : Nat → Bool) : ∀ (n i k : Nat), i < k → k < n → p i = true → p k = true → (∀ j, j < n → p j = true → j = i ∨ j = k) → (List.range n).filter p = [i, k]
  | 0, i, k, _, h, _, _, _ => by omega
  | n + 1, i, k, hik, h, hp, hq, hu => by
    rw [List.range_succ, List.filter_append]
    by_cases e : k = n
    · subst e
      have h0 := filter_one p k i hik hp (fun j hj hpj => (hu j (by omega) hpj).resolve_right (by omega))
      simp [h0, hq]
    · have h1 := filter_two p n i k hik (by omega) hp hq (fun j hj hpj => hu j (by omega) hpj)
      have h2 : p n = false := by
        cases hn : p n with
        | false => rfl
        | true => rcases hu n (by omega) hn with h' | h' <;> omega
      simp [h1, h2]

/-- l rises, from i on -/
def rises : Nat → List Nat → Bool
  | _, [] => true
  | i, x :: xs => decide (i ≤ x) && rises (x + 1) xs
theorem rises_mem : ∀ (l : List Nat) (i k : Nat), rises i l = true → k ∈ l → i ≤ k
  | [], _, _, _, h => by simp at h
  | x :: xs, i, k, hr, h => by
    simp only [rises, Bool.and_eq_true, decide_eq_true_eq] at hr
    rcases List.mem_cons.1 h with rfl | h
    · exact hr.1
    · have := rises_mem xs (x + 1) k hr.2 h
      omega
theorem filter_from (p : Nat → Bool) : ∀ (m i : Nat) (l : List Nat), rises i l = true → (∀ k ∈ l, k < i + m) → (∀ j, i ≤ j → j < i + m → (p j = true ↔ j ∈ l)) → (List.range' i m).filter p = l
  | 0, i, l, hr, hb, _ => by
    cases l with
    | nil => rfl
    | cons x xs =>
      have h1 := hb x (by simp)
      have h2 := rises_mem _ i x hr (by simp)
      omega
  | m + 1, i, l, hr, hb, hp => by
    rw [List.range'_succ, List.filter_cons]
    cases l with
    | nil =>
      have h0 : p i = false := by
        cases hpi : p i with
        | false => rfl
        | true => have := (hp i (Nat.le_refl _) (by omega)).1 hpi; simp at this
      rw [h0]
      exact filter_from p m (i + 1) [] rfl (by simp) (fun j h1 h2 => hp j (by omega) (by omega))
    | cons x xs =>
      simp only [rises, Bool.and_eq_true, decide_eq_true_eq] at hr
      by_cases e : x = i
      · subst e
        have h0 : p x = true := (hp x (Nat.le_refl _) (by omega)).2 (by simp)
        rw [h0, if_pos rfl]
        congr 1
        refine filter_from p m (x + 1) xs hr.2 (fun k hk => by have := hb k (by simp [hk]); omega) (fun j h1 h2 => ?_)
        rw [hp j (by omega) (by omega), List.mem_cons]
        constructor
        · rintro (h | h)
          · omega
          · exact h
        · exact .inr
      · have h0 : p i = false := by
          cases hpi : p i with
          | false => rfl
          | true =>
            have := (hp i (Nat.le_refl _) (by omega)).1 hpi
            rcases List.mem_cons.1 this with h | h
            · exact absurd h.symm e
            · have := rises_mem _ _ _ hr.2 h; omega
        rw [h0]
        refine filter_from p m (i + 1) (x :: xs) ?_ (fun k hk => by have := hb k hk; omega) (fun j h1 h2 => hp j (by omega) (by omega))
        simp only [rises, Bool.and_eq_true, decide_eq_true_eq]
        exact ⟨by omega, hr.2⟩
theorem filter_many (p : Nat → Bool) (n : Nat) (l : List Nat) (hr : rises 0 l = true) (hb : ∀ k ∈ l, k < n) (hp : ∀ j, j < n → (p j = true ↔ j ∈ l)) : (List.range n).filter p = l := by
  rw [List.range_eq_range']
  exact filter_from p n 0 l hr (by simpa using hb) (fun j _ h => hp j (by simpa using h))
/-- a list of numbers as one number -/
def maskOf : List Nat → Nat
  | [] => 0
  | x :: xs => (1 <<< x) ||| maskOf xs
theorem testBit_maskOf (l : List Nat) (k : Nat) : (maskOf l).testBit k = true ↔ k ∈ l := by
  induction l with
  | nil => simp [maskOf]
  | cons x xs ih =>
    simp only [maskOf, Nat.testBit_or, Bool.or_eq_true, ih, List.mem_cons]
    have : (1 <<< x).testBit k = decide (k = x) := by
      rw [Nat.shiftLeft_eq, Nat.one_mul, Nat.testBit_two_pow]
      simp [eq_comm]
    rw [this]; simp

def needOf (o : Oper) : Nat := maskOf ((o.after.toList.filter (Region.binds .any)).map (·.on))
def looksOf (ops : Array Oper) (o : Oper) : Nat := maskOf (o.looksAt ops)
theorem need_iff (o : Oper) (k : Nat) : (needOf o).testBit k = true ↔ ∃ e ∈ o.after, Region.binds .any e = true ∧ e.on = k := by
  unfold needOf
  rw [testBit_maskOf]
  simp only [List.mem_map, List.mem_filter, Array.mem_toList_iff]
  constructor
  · rintro ⟨e, ⟨h1, h2⟩, h3⟩; exact ⟨e, h1, h2, h3⟩
  · rintro ⟨e, h1, h2, h3⟩; exact ⟨e, ⟨h1, h2⟩, h3⟩

structure FRow where
  need : Nat
  looks : Nat
  dst : Option Nat
def rowsOf (ops : Array Oper) : List FRow := ops.toList.map fun o => ⟨needOf o, looksOf ops o, o.dst⟩

/-- all of 'n' is in 'l' -/
def inB (n l : Nat) : Bool := n &&& l == n
theorem inB_iff {n l : Nat} : inB n l = true ↔ ∀ k, n.testBit k = true → l.testBit k = true := by
  unfold inB
  rw [beq_iff_eq]
  constructor
  · intro h k hk
    have : (n &&& l).testBit k = true := by rw [h]; exact hk
    rw [Nat.testBit_and, Bool.and_eq_true] at this
    exact this.2
  · intro h
    apply Nat.eq_of_testBit_eq
    intro k
    rw [Nat.testBit_and]
    cases hk : n.testBit k with
    | false => simp
    | true => simp [h k hk]

/-- every row satisfies p, with its number -/
def allFrom (p : Nat → FRow → Bool) : Nat → List FRow → Bool
  | _, [] => true
  | j, r :: rs => p j r && allFrom p (j + 1) rs
theorem allFrom_spec {p : Nat → FRow → Bool} : ∀ {rs : List FRow} {j : Nat}, allFrom p j rs = true → ∀ k r, rs[k]? = some r → p (j + k) r = true
  | [], _, _, k, r, h => by simp at h
  | x :: xs, j, ha, k, r, h => by
    simp only [allFrom, Bool.and_eq_true] at ha
    cases k with
    | zero => simp only [List.getElem?_cons_zero, Option.some.injEq] at h; subst h; exact ha.1
    | succ k =>
      have := allFrom_spec ha.2 k r (by simpa using h)
      rwa [show j + 1 + k = j + (k + 1) from by omega] at this

def apartR (x y : FRow) : Bool :=
  (match x.dst with
   | some d => !(y.looks.testBit d) && y.dst != some d
   | none => true) &&
  (match y.dst with
   | some d => !(x.looks.testBit d)
   | none => true)
def readyR (L : Nat) (i : Nat) (r : FRow) : Bool := !L.testBit i && inB r.need L

def okM (rows : List FRow) : Nat → Sched → Nat → Bool
  | 0, .done, L => L == 2 ^ rows.length - 1
  | _ + 1, .done, _ => false
  | 0, _, _ => false
  | n + 1, .hoist i r, L =>
    match rows[i]? with
    | none => false
    | some x => readyR L i x && allFrom (fun j y => L.testBit j || j == i || y.need.testBit i || apartR x y) 0 rows && okM rows n r (L ||| 1 <<< i)
  | n + 1, .one i r, L =>
    match rows[i]? with
    | none => false
    | some x => readyR L i x && allFrom (fun j y => j == i || !readyR L j y) 0 rows && okM rows n r (L ||| 1 <<< i)
  | n + 1, .two i r k s, L =>
    match rows[i]?, rows[k]? with
    | some x, some y => decide (i < k) && readyR L i x && readyR L k y && allFrom (fun j z => j == i || j == k || !readyR L j z) 0 rows && okM rows n r (L ||| 1 <<< i) && okM rows n s (L ||| 1 <<< k)
    | _, _ => false
  | n + 1, .many l f, L => rises 0 l && !l.isEmpty && l.all (fun i => decide (i < rows.length)) && allFrom (fun j z => l.contains j == readyR L j z) 0 rows && l.all (fun i => okM rows n (f i) (L ||| 1 <<< i))

section
variable {ops : Array Oper}
def RelL (ops : Array Oper) (listed : Array Bool) (L : Nat) : Prop := listed.size = ops.size ∧ ∀ k, k < ops.size → listed[k]? = some (L.testBit k)

theorem rel_getD {listed : Array Bool} {L k : Nat} (h : RelL ops listed L) (d : Bool) (hk : k < ops.size) : listed.getD k d = L.testBit k := by
  have := h.2 k hk
  simp [this]
theorem rows_get {i : Nat} : (rowsOf ops)[i]? = (ops[i]?).map fun o => (⟨needOf o, looksOf ops o, o.dst⟩ : FRow) := by
  simp [rowsOf]
theorem rel_set {listed : Array Bool} {L i : Nat} (h : RelL ops listed L) : RelL ops (listed.setIfInBounds i true) (L ||| 1 <<< i) := by
  refine ⟨by simpa using h.1, fun k hk => ?_⟩
  rw [Array.getElem?_setIfInBounds]
  have e : (L ||| 1 <<< i).testBit k = (L.testBit k || decide (k = i)) := by
    rw [Nat.testBit_or, Nat.shiftLeft_eq, Nat.one_mul, Nat.testBit_two_pow]; simp [eq_comm]
  rw [e]
  by_cases hik : i = k
  · subst hik
    rw [if_pos rfl, if_pos (by rw [h.1]; exact hk)]
    simp
  · rw [if_neg hik, h.2 k hk]
    simp [Ne.symm hik]
theorem ready_iff {listed : Array Bool} {L i : Nat} {o : Oper} (h : RelL ops listed L) (hb : ∀ o ∈ ops, ∀ e ∈ o.after, Region.binds .any e = true → e.on < ops.size) (ho : ops[i]? = some o) :
    i ∈ Region.ready .any ops listed ↔ readyR L i ⟨needOf o, looksOf ops o, o.dst⟩ = true := by
  have hi : i < ops.size := (Array.getElem?_eq_some_iff.1 ho).1
  rw [mem_ready]
  simp only [readyR, Bool.and_eq_true, Bool.not_eq_true', inB_iff, rel_getD h _ hi]
  constructor
  · rintro ⟨h0, o', ho', hall⟩
    rw [ho] at ho'
    obtain rfl := Option.some.inj ho'
    refine ⟨h0, fun k hk => ?_⟩
    obtain ⟨e, he, hbd, rfl⟩ := (need_iff _ _).1 hk
    have := hall e he hbd
    rwa [rel_getD h _ (hb _ (Array.mem_of_getElem? ho) e he hbd)] at this
  · rintro ⟨h0, hall⟩
    refine ⟨h0, o, ho, fun e he hbd => ?_⟩
    rw [rel_getD h _ (hb _ (Array.mem_of_getElem? ho) e he hbd)]
    exact hall _ ((need_iff _ _).2 ⟨e, he, hbd, rfl⟩)
theorem apart_of {oi oj : Oper} (h : apartR ⟨needOf oi, looksOf ops oi, oi.dst⟩ ⟨needOf oj, looksOf ops oj, oj.dst⟩ = true) : oi.apart ops oj = true := by
  have key : ∀ (o : Oper) (d : Nat), (looksOf ops o).testBit d = false → (o.looksAt ops).contains d = false := by
    intro o d hd
    cases hc : (o.looksAt ops).contains d with
    | false => rfl
    | true =>
      have : d ∈ o.looksAt ops := by simpa using hc
      have := (testBit_maskOf _ _).2 this
      unfold looksOf at hd
      rw [this] at hd; cases hd
  unfold apartR at h
  unfold Oper.apart
  simp only [Bool.and_eq_true] at h ⊢
  obtain ⟨h1, h2⟩ := h
  refine ⟨?_, ?_⟩
  · cases hd : oi.dst with
    | none => rfl
    | some d =>
      simp only [hd, Bool.and_eq_true, Bool.not_eq_true'] at h1 ⊢
      exact ⟨key _ _ h1.1, h1.2⟩
  · cases hd : oj.dst with
    | none => rfl
    | some d =>
      simp only [hd, Bool.not_eq_true'] at h2 ⊢
      exact key _ _ h2

theorem order_of_M (hb : ∀ o ∈ ops, ∀ e ∈ o.after, Region.binds .any e = true → e.on < ops.size) : ∀ (n : Nat) (l : Sched) (listed : Array Bool) (L : Nat), RelL ops listed L → okM (rowsOf ops) n l L = true → orderOk ops n l listed = true
  | 0, .done, listed, L, hR, h => by
    simp only [okM, beq_iff_eq] at h
    have hlen : (rowsOf ops).length = ops.size := by simp [rowsOf]
    rw [hlen] at h
    simp only [orderOk, Bool.and_eq_true, beq_iff_eq, true_and, List.isEmpty_iff]
    cases hr : Region.ready .any ops listed with
    | nil => rfl
    | cons k ks =>
      exfalso
      have hk : k ∈ Region.ready .any ops listed := by rw [hr]; exact List.mem_cons_self
      obtain ⟨h0, o, ho, _⟩ := mem_ready.1 hk
      have hlt : k < ops.size := (Array.getElem?_eq_some_iff.1 ho).1
      rw [rel_getD hR _ hlt, h, Nat.testBit_two_pow_sub_one] at h0
      simp [hlt] at h0
  | _ + 1, .done, _, _, _, h => by simp [okM] at h
  | 0, .hoist _ _, _, _, _, h => by simp [okM] at h
  | 0, .one _ _, _, _, _, h => by simp [okM] at h
  | 0, .two _ _ _ _, _, _, _, h => by simp [okM] at h
  | 0, .many _ _, _, _, _, h => by simp [okM] at h
  | n + 1, .hoist i r, listed, L, hR, h => by
    simp only [okM, rows_get] at h
    cases hoi : ops[i]? with
    | none => simp [hoi] at h
    | some oi =>
      simp only [hoi, Option.map_some, Bool.and_eq_true] at h
      obtain ⟨⟨h1, h2⟩, h3⟩ := h
      simp only [orderOk, Bool.and_eq_true]
      refine ⟨⟨?_, ?_⟩, order_of_M hb n r _ _ (rel_set hR) h3⟩
      · simpa using (ready_iff hR hb hoi).2 h1
      · unfold Region.free
        simp only [hoi, List.all_eq_true, List.mem_range]
        intro j hj
        obtain ⟨oj, hoj⟩ : ∃ oj, ops[j]? = some oj := ⟨_, Array.getElem?_eq_getElem hj⟩
        have h4 := allFrom_spec h2 j _ (by rw [rows_get, hoj]; rfl)
        simp only [hoj, Nat.zero_add, Bool.or_eq_true, beq_iff_eq, rel_getD hR _ hj] at h4 ⊢
        rcases h4 with ((h4 | h4) | h4) | h4
        · exact .inl (.inr h4)
        · exact .inl (.inl h4)
        · refine .inr (.inl ?_)
          obtain ⟨e, he, hbd, hon⟩ := (need_iff _ _).1 h4
          rw [Array.any_eq_true']
          exact ⟨e, he, by simp [hbd, hon]⟩
        · exact .inr (.inr (apart_of h4))
  | n + 1, .one i r, listed, L, hR, h => by
    simp only [okM, rows_get] at h
    cases hoi : ops[i]? with
    | none => simp [hoi] at h
    | some oi =>
      simp only [hoi, Option.map_some, Bool.and_eq_true] at h
      obtain ⟨⟨h1, h2⟩, h3⟩ := h
      simp only [orderOk, Bool.and_eq_true, beq_iff_eq]
      refine ⟨?_, order_of_M hb n r _ _ (rel_set hR) h3⟩
      have hmi := (ready_iff hR hb hoi).2 h1
      have hi : i < ops.size := (Array.getElem?_eq_some_iff.1 hoi).1
      unfold Region.ready at hmi ⊢
      refine filter_one _ _ i hi (List.mem_filter.1 hmi).2 (fun j hj hp => ?_)
      obtain ⟨oj, hoj⟩ : ∃ oj, ops[j]? = some oj := ⟨_, Array.getElem?_eq_getElem hj⟩
      have hmj : j ∈ Region.ready .any ops listed := List.mem_filter.2 ⟨List.mem_range.2 hj, hp⟩
      have h4 := allFrom_spec h2 j _ (by rw [rows_get, hoj]; rfl)
      simp only [Nat.zero_add, Bool.or_eq_true, beq_iff_eq, Bool.not_eq_true'] at h4
      rcases h4 with h4 | h4
      · exact h4
      · rw [(ready_iff hR hb hoj).1 hmj] at h4; cases h4
  | n + 1, .two i r k s, listed, L, hR, h => by
    simp only [okM, rows_get] at h
    cases hoi : ops[i]? with
    | none => simp [hoi] at h
    | some oi =>
      cases hok : ops[k]? with
      | none => simp [hoi, hok] at h
      | some ok =>
        simp only [hoi, hok, Option.map_some, Bool.and_eq_true, decide_eq_true_eq] at h
        obtain ⟨⟨⟨⟨⟨h0, h1⟩, h1'⟩, h2⟩, h3⟩, h3'⟩ := h
        simp only [orderOk, Bool.and_eq_true, beq_iff_eq]
        refine ⟨⟨?_, order_of_M hb n r _ _ (rel_set hR) h3⟩, order_of_M hb n s _ _ (rel_set hR) h3'⟩
        have hmi := (ready_iff hR hb hoi).2 h1
        have hmk := (ready_iff hR hb hok).2 h1'
        have hk : k < ops.size := (Array.getElem?_eq_some_iff.1 hok).1
        unfold Region.ready at hmi hmk ⊢
        refine filter_two _ _ i k h0 hk (List.mem_filter.1 hmi).2 (List.mem_filter.1 hmk).2 (fun j hj hp => ?_)
        obtain ⟨oj, hoj⟩ : ∃ oj, ops[j]? = some oj := ⟨_, Array.getElem?_eq_getElem hj⟩
        have hmj : j ∈ Region.ready .any ops listed := List.mem_filter.2 ⟨List.mem_range.2 hj, hp⟩
        have h4 := allFrom_spec h2 j _ (by rw [rows_get, hoj]; rfl)
        simp only [Nat.zero_add, Bool.or_eq_true, beq_iff_eq, Bool.not_eq_true'] at h4
        rcases h4 with (h4 | h4) | h4
        · exact .inl h4
        · exact .inr h4
        · rw [(ready_iff hR hb hoj).1 hmj] at h4; cases h4

  | n + 1, .many l f, listed, L, hR, h => by
    simp only [okM, Bool.and_eq_true, List.all_eq_true, decide_eq_true_eq] at h
    obtain ⟨⟨⟨⟨h1, h2⟩, h3⟩, h4⟩, h5⟩ := h
    have hlen : (rowsOf ops).length = ops.size := by simp [rowsOf]
    simp only [orderOk, Bool.and_eq_true, beq_iff_eq, List.all_eq_true]
    refine ⟨⟨?_, h2⟩, fun i hi => order_of_M hb n (f i) _ _ (rel_set hR) (h5 i hi)⟩
    unfold Region.ready
    refine filter_many _ _ l h1 (fun k hk => by have := h3 k hk; omega) (fun j hj => ?_)
    obtain ⟨oj, hoj⟩ : ∃ oj, ops[j]? = some oj := ⟨_, Array.getElem?_eq_getElem hj⟩
    have h6 := allFrom_spec h4 j _ (by rw [rows_get, hoj]; rfl)
    simp only [Nat.zero_add, beq_iff_eq] at h6
    have h7 := ready_iff hR hb hoj
    unfold Region.ready at h7
    rw [List.mem_filter, List.mem_range] at h7
    constructor
    · intro hp
      have := h7.1 ⟨hj, hp⟩
      rw [this] at h6
      simpa using h6
    · intro hm
      have h8 : l.contains j = true := by simpa using hm
      rw [h8] at h6
      exact (h7.2 h6.symm).2

/-- the whole check -/
def fastB (ops : Array Oper) (l : Sched) : Bool :=
  Region.noSelect ops && ops.toList.all (fun o => o.after.toList.all fun e => !Region.binds .any e || decide (e.on < ops.size)) && okM (rowsOf ops) ops.size l 0

/-- A REGION THAT DRAWS ITS ORDER, walked once, in the order l; the fast check. -/
theorem wp_region_MG {P : Program} {Q : Exit → Act → World → Prop} {R : World → World → Prop} (hrel : RelW R) {id : Nat} {os : List Oper} (l : Sched) {a : Act} {w : World} (hm : P.follows .mixedOrders = true)
    (hB : fastB os.toArray l = true) (hQ : ∀ c a d v w, Q (.panic c) (a.put d v) w → Q (.panic c) a w)
    (h : wpG R P os.toArray Q l w a w.drew) : (Code.region id os.toArray true).wp P Q a w := by
  simp only [fastB, Bool.and_eq_true] at hB
  obtain ⟨⟨h1, h2⟩, h3⟩ := hB
  refine wp_region_G hrel l hm ?_ hQ h
  simp only [canonB, Bool.and_eq_true]
  refine ⟨h1, order_of_M (fun o ho e he hb => ?_) _ _ _ 0 ⟨by simp, fun k hk => ?_⟩ h3⟩
  · have h4 := List.all_eq_true.1 h2 o (by simpa using ho)
    have h5 := List.all_eq_true.1 h4 e (by simpa using he)
    simpa [hb] using h5
  · simp only [List.size_toArray] at hk
    simp [hk]
theorem wp_region_M {P : Program} {Q : Exit → Act → World → Prop} {id : Nat} {os : List Oper} (l : Sched) {a : Act} {w : World} (hm : P.follows .mixedOrders = true)
    (hB : fastB os.toArray l = true) (hQ : ∀ c a d v w, Q (.panic c) (a.put d v) w → Q (.panic c) a w)
    (h : wpF P os.toArray Q l w a w.drew) : (Code.region id os.toArray true).wp P Q a w := wp_region_MG relFut l hm hB hQ h
end
end Go.Proofs.YtlgpacpebjechaaGreatDoor
