/-
  Texts joined: Given memories: rows in a list; values of one memory as values of another; Runs over given memories: what the kernel has run holds in every world that holds the given memory.
-/
import Derived.Test.YtlgpacpebjechaaGreatDoorEs38
/-
  Given memories: rows in a list; values of one memory as values of another.
-/
namespace Go.Proofs.YtlgpacpebjechaaGreatDoor
open Go.RowKit Go.Deep Go.Sort
namespace Ev
/-! ### given memories -/
/-- how many cells an element has; the cells -/
abbrev LR := Nat × List AV
noncomputable def litFrom (l : List LR) : Hp → Hp := List.rec (motive := fun _ => Hp → Hp) (fun h => h) (fun p _ ih h => ih (trk p.2 0 .nil (fun n tr => hnew h (.row p.1 n tr) (fun _ h' => h')))) l
noncomputable def gls : List AV := [.str [110, 101, 119, 108, 105, 110, 101], .str [105, 110, 100, 101, 110, 116], .str [100, 101, 100, 101, 110, 116]]
noncomputable def hz : Hp := ⟨HT.put .z (trk gls 0 .nil (fun n tr => .ro n tr)) .nil, .l .z⟩
noncomputable def litH (l : List LR) : Hp := litFrom l hz
noncomputable def rowOf (p : LR) : Blk := .row p.1 p.2.length (laid p.2 0 .nil)
theorem litFrom_cons (p : LR) (l : List LR) (h : Hp) : litFrom (p :: l) h = litFrom l ⟨HT.put h.n (rowOf p) h.t, Pa.succ h.n⟩ := by
  show litFrom l (trk p.2 0 .nil (fun n tr => hnew h (.row p.1 n tr) (fun _ h' => h'))) = _
  rw [trk_eq, hnew_eq, Nat.zero_add]
  rfl
theorem litFrom_n : ∀ (l : List LR) (h : Hp), (litFrom l h).n.num = h.n.num + l.length
  | [], h => rfl
  | p :: l, h => by
    rw [litFrom_cons, litFrom_n l]
    show (Pa.succ h.n).num + l.length = _
    rw [num_succ, List.length_cons]; omega
theorem litFrom_get : ∀ (l : List LR) (h : Hp) (b : Pa), hget (litFrom l h) b = if h.n.num ≤ b.num ∧ b.num < h.n.num + l.length then ((l[b.num - h.n.num]?).map rowOf).getD .none else hget h b
  | [], h, b => by
    show hget h b = _
    rw [if_neg (by simp only [List.length_nil]; omega)]
  | p :: l, h, b => by
    rw [litFrom_cons, litFrom_get l]
    show (if (Pa.succ h.n).num ≤ b.num ∧ b.num < (Pa.succ h.n).num + l.length then ((l[b.num - (Pa.succ h.n).num]?).map rowOf).getD .none else HT.get b (HT.put h.n (rowOf p) h.t)) = _
    rw [num_succ]
    by_cases h1 : h.n.num + 1 ≤ b.num ∧ b.num < h.n.num + 1 + l.length
    · rw [if_pos h1, if_pos (by simp only [List.length_cons]; omega), show b.num - h.n.num = (b.num - (h.n.num + 1)) + 1 by omega, List.getElem?_cons_succ]
    · rw [if_neg h1]
      by_cases h2 : b.num = h.n.num
      · have := num_inj h2
        subst this
        rw [ht_same, if_pos (by simp only [List.length_cons]; omega), Nat.sub_self]; rfl
      · rw [if_neg (by simp only [List.length_cons]; omega), ht_other _ _ _ _ (fun e => h2 (by rw [e]))]
        rfl
theorem litH_n (l : List LR) : (litH l).n.num = l.length + 1 := by
  unfold litH
  rw [litFrom_n]
  show 1 + l.length = _
  omega
theorem hz_z : hget hz .z = .ro 3 (laid gls 0 .nil) := by
  show HT.get .z (HT.put .z (trk gls 0 .nil (fun n tr => Blk.ro n tr)) .nil) = _
  rw [ht_same, trk_eq]
  rfl
theorem hz_none {b : Pa} (h : b.num ≠ 0) : hget hz b = .none := by
  show HT.get b (HT.put .z _ .nil) = _
  rw [ht_other _ _ _ _ (fun e => h (by rw [← e]; rfl)), ht_nil]
theorem litH_z (l : List LR) : hget (litH l) .z = .ro 3 (laid gls 0 .nil) := by
  unfold litH
  rw [litFrom_get, if_neg (by show ¬ (1 ≤ 0 ∧ _); omega)]
  exact hz_z
theorem litH_row {l : List LR} {b : Pa} {p : LR} (h0 : b.num ≠ 0) (h : l[b.num - 1]? = some p) : hget (litH l) b = rowOf p := by
  have hlt := (List.getElem?_eq_some_iff.1 h).1
  unfold litH
  rw [litFrom_get, if_pos (by show 1 ≤ _ ∧ _ < 1 + _; omega)]
  show ((l[b.num - 1]?).map rowOf).getD .none = _
  rw [h]; rfl
theorem litH_none {l : List LR} {b : Pa} (h : l.length < b.num) : hget (litH l) b = .none := by
  unfold litH
  rw [litFrom_get, if_neg (by show ¬ (1 ≤ _ ∧ _ < 1 + _); omega), hz_none (by omega)]
theorem litH_cases (l : List LR) (b : Pa) : (b = .z ∧ hget (litH l) b = .ro 3 (laid gls 0 .nil)) ∨ (∃ p, b.num ≠ 0 ∧ b.num ≤ l.length ∧ l[b.num - 1]? = some p ∧ hget (litH l) b = rowOf p) ∨ (l.length < b.num ∧ hget (litH l) b = .none) := by
  by_cases h0 : b.num = 0
  · have : b = .z := num_inj (q := .z) h0
    subst this
    exact .inl ⟨rfl, litH_z l⟩
  · by_cases h1 : b.num ≤ l.length
    · obtain ⟨p, hp⟩ : ∃ p, l[b.num - 1]? = some p := ⟨_, List.getElem?_eq_getElem (by omega)⟩
      exact .inr (.inl ⟨p, h0, h1, hp, litH_row h0 hp⟩)
    · exact .inr (.inr ⟨by omega, litH_none (by omega)⟩)
theorem litH_own {l : List LR} {b : Pa} (h : ownB (hget (litH l) b) = true) : b.num ≠ 0 ∧ b.num ≤ l.length := by
  rcases litH_cases l b with ⟨_, e⟩ | ⟨p, h1, h2, _, _⟩ | ⟨_, e⟩
  · rw [e] at h; cases h
  · exact ⟨h1, h2⟩
  · rw [e] at h; cases h
theorem litH_own' {l : List LR} {b : Pa} (h0 : b.num ≠ 0) (h1 : b.num ≤ l.length) : ownB (hget (litH l) b) = true := by
  rcases litH_cases l b with ⟨e, _⟩ | ⟨p, _, _, _, e⟩ | ⟨h, _⟩
  · subst e; exact absurd rfl h0
  · rw [e]; rfl
  · omega
/-! ### values of one memory as values of another -/
noncomputable def mP (ρ : EN) (b b' : Pa) : Bool := onPtr (EN.get b ρ) false (fun c _ => pbeq c b')
noncomputable def mV (ρ : EN) (a : AV) : AV → Bool := AV.rec (motive_1 := fun _ => AV → Bool) (motive_2 := fun _ => List AV → Bool)
  (fun b v => onBool v false (fun c => iff b (inot c) c))
  (fun k n v => onInt v false (fun k' n' => iff (kbeq k k') false (ibeq n n')))
  (fun l v => onStr v false (fun m => lbeq l m))
  (fun b o v => onPtr v false (fun b' o' => iff (Nat.beq o o') false (mP ρ b b')))
  (fun b o n k v => onSlice v false false false false (fun b' o' n' k' => iff (Nat.beq o o') false (iff (Nat.beq n n') false (iff (Nat.beq k k') false (mP ρ b b')))))
  (fun b v => onMap v false false (fun b' => mP ρ b b'))
  (fun f _ _ ia ic v => onFn v false (fun g a' c' => iff (Nat.beq f g) false (iff (ia a') false (ic c'))))
  (fun _ il v => onAgg v false il)
  (fun _ il v => onTup v false il)
  (fun v => onSlice v false true false false (fun _ _ _ _ => false))
  (fun v => onMap v false true (fun _ => false))
  (fun _ => false) (fun _ => false)
  (fun v => onSlice v false false true false (fun _ _ _ _ => false))
  (fun v => onSlice v false false false true (fun _ _ _ _ => false))
  (fun _ => false) (fun _ => false)
  (fun m => List.rec (motive := fun _ => Bool) true (fun _ _ _ => false) m)
  (fun _ _ ix il m => List.rec (motive := fun _ => Bool) false (fun y r _ => iff (ix y) false (il r)) m) a
noncomputable def mVs (ρ : EN) (l : List AV) : List AV → Bool := List.rec (motive := fun _ => List AV → Bool) (fun m => List.rec (motive := fun _ => Bool) true (fun _ _ _ => false) m) (fun x _ ih m => List.rec (motive := fun _ => Bool) false (fun y r _ => iff (mV ρ x y) false (ih r)) m) l
noncomputable def ren (ρ : EN) (a : AV) : AV := AV.rec (motive_1 := fun _ => AV) (motive_2 := fun _ => List AV)
  (fun b => .bool b) (fun k n => .int k n) (fun l => .str l)
  (fun b o => onPtr (EN.get b ρ) .bad (fun b' _ => .ptr b' o))
  (fun b o n k => onPtr (EN.get b ρ) .bad (fun b' _ => .slice b' o n k))
  (fun b => onPtr (EN.get b ρ) .bad (fun b' _ => .map b'))
  (fun f _ _ ia ic => .fn f ia ic) (fun _ il => .agg il) (fun _ il => .tup il) .nils .nilm .nili .nilp .cut .emp .bad .bad [] (fun _ _ x l => x :: l) a
noncomputable def rens (ρ : EN) (l : List AV) : List AV := List.rec (motive := fun _ => List AV) [] (fun x _ ih => ren ρ x :: ih) l
theorem rens_eq (ρ : EN) : ∀ l, rens ρ l = l.map (ren ρ)
  | [] => rfl
  | x :: l => by
    show ren ρ x :: rens ρ l = _
    rw [rens_eq ρ l]; rfl
section
variable {ρ : EN}
theorem mV_agg : ∀ (l m : List AV), mV ρ (.agg l) (.agg m) = mVs ρ l m
  | [], [] => rfl
  | [], _ :: _ => rfl
  | _ :: _, [] => rfl
  | x :: l, y :: m => by
    have ih := mV_agg l m
    show iff (mV ρ x y) false (mV ρ (.agg l) (.agg m)) = iff (mV ρ x y) false (mVs ρ l m)
    rw [ih]
theorem mV_tup (l m : List AV) : mV ρ (.tup l) (.tup m) = mVs ρ l m := mV_agg l m
theorem mV_fn (f g : FuncId) (a c a' c' : List AV) : mV ρ (.fn f a c) (.fn g a' c') = iff (Nat.beq f g) false (iff (mVs ρ a a') false (mVs ρ c c')) := by
  rw [← mV_agg, ← mV_agg]; rfl
theorem ren_agg : ∀ l : List AV, ren ρ (.agg l) = .agg (l.map (ren ρ))
  | [] => rfl
  | x :: l => by
    have ih := ren_agg l
    have e : ∃ m, ren ρ (.agg l) = .agg m ∧ ren ρ (.agg (x :: l)) = .agg (ren ρ x :: m) := ⟨_, rfl, rfl⟩
    obtain ⟨m, e1, e2⟩ := e
    rw [e1] at ih
    injection ih with ih
    rw [e2, ih]; rfl
theorem ren_tup (l : List AV) : ren ρ (.tup l) = .tup (l.map (ren ρ)) := by
  have e : ∃ m, ren ρ (.agg l) = .agg m ∧ ren ρ (.tup l) = .tup m := ⟨_, rfl, rfl⟩
  obtain ⟨m, e1, e2⟩ := e
  rw [ren_agg] at e1
  injection e1 with e1
  rw [e2, e1]
theorem ren_fn (f : FuncId) (a c : List AV) : ren ρ (.fn f a c) = .fn f (a.map (ren ρ)) (c.map (ren ρ)) := by
  have e : ∃ m k, ren ρ (.agg a) = .agg m ∧ ren ρ (.agg c) = .agg k ∧ ren ρ (.fn f a c) = .fn f m k := ⟨_, _, rfl, rfl, rfl⟩
  obtain ⟨m, k, e1, e2, e3⟩ := e
  rw [ren_agg] at e1 e2
  injection e1 with e1
  injection e2 with e2
  rw [e3, e1, e2]
theorem mP_get {b b' : Pa} (h : mP ρ b b' = true) : ∃ o, EN.get b ρ = .ptr b' o := by
  unfold mP at h
  obtain ⟨c, o, e⟩ := onPtr_nf h
  rw [e] at h
  have h : pbeq c b' = true := h
  rw [pbeq_eq h] at e
  exact ⟨o, e⟩
variable {σ σ' : Sg}
/-- from there to here: what is matched -/
theorem mV_R (hρ : ∀ b b' o, EN.get b ρ = .ptr b' o → ∀ x, σ.blk b' = some x → σ'.blk b = some x) {v : AV} {u : Value} (hR : R σ v u) : ∀ a, mV ρ a v = true → R σ' a u := by
  refine R.rec (motive_1 := fun v u _ => ∀ a, mV ρ a v = true → R σ' a u) (motive_2 := fun l us _ => ∀ m, mVs ρ m l = true → Rs σ' m us) ?_ ?_ ?_ ?_ ?_ ?_ ?_ ?_ ?_ ?_ ?_ ?_ ?_ ?_ ?_ ?_ ?_ ?_ ?_ hR
  · intro b a h
    cases a <;> first
      | (cases h; done)
      | skip
    rename_i c
    have h : iff c (inot b) b = true := h
    cases b <;> cases c <;> first
      | (cases h; done)
      | exact .bool _
  · intro k n a h
    cases a <;> first
      | (cases h; done)
      | skip
    rename_i k' n'
    have h : iff (kbeq k' k) false (ibeq n' n) = true := h
    rw [iff_and, Bool.and_eq_true] at h
    have h1 := kbeq_eq h.1
    have h2 := of_decide_eq_true ((ibeq_eq _ _).symm.trans h.2)
    subst h1; subst h2
    exact .int _ _
  · intro l hl a h
    cases a <;> first
      | (cases h; done)
      | skip
    rename_i m
    have h : lbeq m l = true := h
    rw [lbeq_eq, decide_eq_true_eq] at h
    subst h
    exact .str _ hl
  · intro b o g q e a h
    cases a <;> first
      | (cases h; done)
      | skip
    rename_i b' o'
    have h : iff (Nat.beq o' o) false (mP ρ b' b) = true := h
    rw [iff_and, Bool.and_eq_true, beqN, decide_eq_true_eq] at h
    obtain ⟨rfl, h2⟩ := h
    obtain ⟨_, h3⟩ := mP_get h2
    exact .ptr _ _ _ _ (hρ _ _ _ h3 _ e)
  · intro b o n k g q e a h
    cases a <;> first
      | (cases h; done)
      | skip
    rename_i b' o' n' k'
    have h : iff (Nat.beq o' o) false (iff (Nat.beq n' n) false (iff (Nat.beq k' k) false (mP ρ b' b))) = true := h
    rw [iff_and, iff_and, iff_and, Bool.and_eq_true, Bool.and_eq_true, Bool.and_eq_true, beqN, beqN, beqN, decide_eq_true_eq, decide_eq_true_eq, decide_eq_true_eq] at h
    obtain ⟨rfl, rfl, rfl, h2⟩ := h
    obtain ⟨_, h3⟩ := mP_get h2
    exact .slice _ _ _ _ _ _ (hρ _ _ _ h3 _ e)
  · intro b g q e a h
    cases a <;> first
      | (cases h; done)
      | skip
    rename_i b'
    have h : mP ρ b' b = true := h
    obtain ⟨_, h3⟩ := mP_get h
    exact .map _ _ _ (hρ _ _ _ h3 _ e)
  · intro f l c vs ws _ _ ih1 ih2 a h
    cases a <;> first
      | (cases h; done)
      | skip
    rename_i g l' c'
    rw [mV_fn, iff_and, iff_and, Bool.and_eq_true, Bool.and_eq_true, beqN, decide_eq_true_eq] at h
    obtain ⟨rfl, h1, h2⟩ := h
    exact .fn _ _ _ _ _ (ih1 _ h1) (ih2 _ h2)
  · intro l vs _ ih a h
    cases a <;> first
      | (cases h; done)
      | skip
    rw [mV_agg] at h
    exact .agg _ _ (ih _ h)
  · intro l vs _ ih a h
    cases a <;> first
      | (cases h; done)
      | skip
    rw [mV_tup] at h
    exact .tup _ _ (ih _ h)
  · intro a h
    cases a <;> first
      | (cases h; done)
      | exact .nils
  · intro a h
    cases a <;> first
      | (cases h; done)
      | exact .nilm
  · intro a h
    cases a <;> cases h
  · intro a h
    cases a <;> cases h
  · intro A a h
    cases a <;> first
      | (cases h; done)
      | exact .cut _
  · intro A c a h
    cases a <;> first
      | (cases h; done)
      | exact .emp _ _
  · intro a h
    cases a <;> cases h
  · intro v a h
    cases a <;> cases h
  · intro m h
    cases m with
    | nil => exact .nil
    | cons x m => cases h
  · intro v u l us _ _ ih1 ih2 m h
    cases m with
    | nil => cases h
    | cons x m =>
      have h : iff (mV ρ x v) false (mVs ρ m l) = true := h
      rw [iff_and, Bool.and_eq_true] at h
      exact .cons _ _ _ _ (ih1 _ h.1) (ih2 _ h.2)
theorem mVs_R (hρ : ∀ b b' o, EN.get b ρ = .ptr b' o → ∀ x, σ.blk b' = some x → σ'.blk b = some x) : ∀ {l : List AV} {us : List Value}, Rs σ l us → ∀ m, mVs ρ m l = true → Rs σ' m us
  | _, _, .nil, m, h => by
    cases m with
    | nil => exact .nil
    | cons x m => cases h
  | _, _, .cons v u l us h1 h2, m, h => by
    cases m with
    | nil => cases h
    | cons x m =>
      have h : iff (mV ρ x v) false (mVs ρ m l) = true := h
      rw [iff_and, Bool.and_eq_true] at h
      exact .cons _ _ _ _ (mV_R hρ h1 _ h.1) (mVs_R hρ h2 _ h.2)
/-- from here to there -/
theorem ren_R (hρ : ∀ b b' o, EN.get b ρ = .ptr b' o → ∀ x, σ.blk b = some x → σ'.blk b' = some x) {a : AV} {u : Value} (hR : R σ a u) : R σ' (ren ρ a) u := by
  have hl : ∀ {l : List AV} {us : List Value}, Rs σ' (l.map (ren ρ)) us → Rs σ' (l.map (ren ρ)) us := fun h => h
  refine R.rec (motive_1 := fun v u _ => R σ' (ren ρ v) u) (motive_2 := fun l us _ => Rs σ' (l.map (ren ρ)) us) ?_ ?_ ?_ ?_ ?_ ?_ ?_ ?_ ?_ ?_ ?_ ?_ ?_ ?_ ?_ ?_ ?_ ?_ ?_ hR
  · exact fun b => .bool b
  · exact fun k n => .int k n
  · exact fun l h => .str l h
  · intro b o g q e
    show R σ' (onPtr (EN.get b ρ) .bad (fun b' _ => .ptr b' o)) _
    cases h : EN.get b ρ <;> first
      | exact .bad _
      | exact .ptr _ _ _ _ (hρ _ _ _ h _ e)
  · intro b o n k g q e
    show R σ' (onPtr (EN.get b ρ) .bad (fun b' _ => .slice b' o n k)) _
    cases h : EN.get b ρ <;> first
      | exact .bad _
      | exact .slice _ _ _ _ _ _ (hρ _ _ _ h _ e)
  · intro b g q e
    show R σ' (onPtr (EN.get b ρ) .bad (fun b' _ => .map b')) _
    cases h : EN.get b ρ <;> first
      | exact .bad _
      | exact .map _ _ _ (hρ _ _ _ h _ e)
  · intro f l c vs ws _ _ h1 h2
    rw [ren_fn]; exact .fn _ _ _ _ _ h1 h2
  · intro l vs _ h1
    rw [ren_agg]; exact .agg _ _ h1
  · intro l vs _ h1
    rw [ren_tup]; exact .tup _ _ h1
  · exact .nils
  · exact .nilm
  · exact .nili
  · exact .nilp
  · exact fun A => .cut A
  · exact fun A c => .emp A c
  · exact .bad _
  · exact fun v => .bad v
  · exact .nil
  · exact fun a v l vs _ _ h1 h2 => .cons _ _ _ _ h1 h2
theorem mV_ren : ∀ (a v : AV), mV ρ a v = true → v = ren ρ a := by
  intro a
  refine AV.rec (motive_1 := fun a => ∀ v, mV ρ a v = true → v = ren ρ a) (motive_2 := fun l => ∀ m, mVs ρ l m = true → m = l.map (ren ρ)) ?_ ?_ ?_ ?_ ?_ ?_ ?_ ?_ ?_ ?_ ?_ ?_ ?_ ?_ ?_ ?_ ?_ ?_ ?_ a
  · intro b v h
    cases v <;> first
      | (cases h; done)
      | skip
    rename_i c
    have h : iff b (inot c) c = true := h
    cases b <;> cases c <;> first
      | (cases h; done)
      | rfl
  · intro k n v h
    cases v <;> first
      | (cases h; done)
      | skip
    rename_i k' n'
    have h : iff (kbeq k k') false (ibeq n n') = true := h
    rw [iff_and, Bool.and_eq_true] at h
    rw [kbeq_eq h.1, of_decide_eq_true ((ibeq_eq _ _).symm.trans h.2)]; rfl
  · intro l v h
    cases v <;> first
      | (cases h; done)
      | skip
    rename_i m
    have h : lbeq l m = true := h
    rw [lbeq_eq, decide_eq_true_eq] at h
    rw [h]; rfl
  · intro b o v h
    cases v <;> first
      | (cases h; done)
      | skip
    rename_i b' o'
    have h : iff (Nat.beq o o') false (mP ρ b b') = true := h
    rw [iff_and, Bool.and_eq_true, beqN, decide_eq_true_eq] at h
    obtain ⟨rfl, h2⟩ := h
    obtain ⟨_, h3⟩ := mP_get h2
    show _ = onPtr (EN.get b ρ) AV.bad (fun b' _ => AV.ptr b' o)
    rw [h3]; rfl
  · intro b o n k v h
    cases v <;> first
      | (cases h; done)
      | skip
    rename_i b' o' n' k'
    have h : iff (Nat.beq o o') false (iff (Nat.beq n n') false (iff (Nat.beq k k') false (mP ρ b b'))) = true := h
    rw [iff_and, iff_and, iff_and, Bool.and_eq_true, Bool.and_eq_true, Bool.and_eq_true, beqN, beqN, beqN, decide_eq_true_eq, decide_eq_true_eq, decide_eq_true_eq] at h
    obtain ⟨rfl, rfl, rfl, h2⟩ := h
    obtain ⟨_, h3⟩ := mP_get h2
    show _ = onPtr (EN.get b ρ) AV.bad (fun b' _ => AV.slice b' o n k)
    rw [h3]; rfl
  · intro b v h
    cases v <;> first
      | (cases h; done)
      | skip
    rename_i b'
    have h : mP ρ b b' = true := h
    obtain ⟨_, h3⟩ := mP_get h
    show _ = onPtr (EN.get b ρ) AV.bad (fun b' _ => AV.map b')
    rw [h3]; rfl
  · intro f l c ih1 ih2 v h
    cases v <;> first
      | (cases h; done)
      | skip
    rw [mV_fn, iff_and, iff_and, Bool.and_eq_true, Bool.and_eq_true, beqN, decide_eq_true_eq] at h
    obtain ⟨rfl, h1, h2⟩ := h
    rw [ren_fn, ih1 _ h1, ih2 _ h2]
  · intro l ih v h
    cases v <;> first
      | (cases h; done)
      | skip
    rw [mV_agg] at h
    rw [ren_agg, ih _ h]
  · intro l ih v h
    cases v <;> first
      | (cases h; done)
      | skip
    rw [mV_tup] at h
    rw [ren_tup, ih _ h]
  · intro v h
    cases v <;> first
      | (cases h; done)
      | rfl
  · intro v h
    cases v <;> first
      | (cases h; done)
      | rfl
  · intro v h
    cases h
  · intro v h
    cases h
  · intro v h
    cases v <;> first
      | (cases h; done)
      | rfl
  · intro v h
    cases v <;> first
      | (cases h; done)
      | rfl
  · intro v h
    cases h
  · intro v h
    cases h
  · intro m h
    cases m with
    | nil => rfl
    | cons y m => cases h
  · intro x l ih1 ih2 m h
    cases m with
    | nil => cases h
    | cons y m =>
      have h : iff (mV ρ x y) false (mVs ρ l m) = true := h
      rw [iff_and, Bool.and_eq_true] at h
      rw [List.map_cons, ih1 _ h.1, ih2 _ h.2]
end
end Ev
end Go.Proofs.YtlgpacpebjechaaGreatDoor
/-
  Runs over given memories: what the kernel has run holds in every world that holds the given memory.
-/
namespace Go.Proofs.YtlgpacpebjechaaGreatDoor
open Go.RowKit Go.Deep Go.Sort
namespace Ev
noncomputable def exR (r : List Pa) : Pa → EN → EN := List.rec (motive := fun _ => Pa → EN → EN) (fun _ ρ => ρ) (fun x _ ih p ρ => ih (Pa.succ p) (EN.put p (.ptr x 0) ρ)) r
/-- .. blocks 1, 2, .. are those of the list -/
noncomputable def mkR (r : List Pa) : EN := exR r (.l .z) (EN.put .z (.ptr .z 0) .nil)
noncomputable def mCells (ρ : EN) (l : List AV) (tr : Tr) : Nat → Bool := List.rec (motive := fun _ => Nat → Bool) (fun _ => true) (fun x _ ih i => iff (onOpt (Tr.get tr i) false (mV ρ x)) false (ih (Nat.succ i))) l
noncomputable def rowM (ρ : EN) (p : LR) (x : Blk) : Bool := onRow x false (fun sz len tr => iff (Nat.beq p.1 sz) false (iff (Nat.beq (lenA p.2) len) false (mCells ρ p.2 tr 0)))
noncomputable def roM (x : Blk) : Bool := Blk.rec (motive := fun _ => Bool) false (fun _ _ _ => false) (fun len tr => iff (Nat.beq len 3) false (mCells .nil gls tr 0)) (fun _ _ => false) x
noncomputable def rowsM (ρ : EN) (h : Hp) (l : List LR) : List Pa → Bool := List.rec (motive := fun _ => List Pa → Bool) (fun r => List.rec (motive := fun _ => Bool) true (fun _ _ _ => false) r) (fun p _ ih r => List.rec (motive := fun _ => Bool) false (fun b r' _ => iff (rowM ρ p (hget h b)) false (ih r')) r) l
noncomputable def notIn (b : Pa) (r : List Pa) : Bool := List.rec (motive := fun _ => Bool) true (fun c _ ih => iff (pbeq b c) ih false) r
noncomputable def nodupP (r : List Pa) : Bool := List.rec (motive := fun _ => Bool) true (fun b r ih => iff (notIn b r) false ih) r
noncomputable def matchAll (r : List Pa) (h : Hp) (l : List LR) : Bool := iff (roM (hget h .z)) false (iff (rowsM (mkR r) h l r) false (nodupP r))
noncomputable def catP (a b : List Pa) : List Pa := List.rec (motive := fun _ => List Pa) b (fun x _ ih => x :: ih) a
noncomputable def catL (a b : List LR) : List LR := List.rec (motive := fun _ => List LR) b (fun x _ ih => x :: ih) a
noncomputable def idsP (l : List LR) : Pa → List Pa := List.rec (motive := fun _ => Pa → List Pa) (fun _ => []) (fun _ _ ih p => p :: ih (Pa.succ p)) l
theorem catP_eq (a b : List Pa) : catP a b = a ++ b := by induction a with
  | nil => rfl
  | cons x a ih => show x :: catP a b = _; rw [ih]; rfl
theorem catL_eq (a b : List LR) : catL a b = a ++ b := by induction a with
  | nil => rfl
  | cons x a ih => show x :: catL a b = _; rw [ih]; rfl
theorem idsP_len : ∀ (l : List LR) (p : Pa), (idsP l p).length = l.length
  | [], _ => rfl
  | x :: l, p => by
    show (p :: idsP l (Pa.succ p)).length = _
    rw [List.length_cons, idsP_len l]; rfl
theorem idsP_get : ∀ (l : List LR) (p : Pa) (i : Nat) (b : Pa), (idsP l p)[i]? = some b → b.num = p.num + i
  | [], p, i, b, h => by
    have h : ([] : List Pa)[i]? = some b := h
    simp at h
  | x :: l, p, 0, b, h => by
    have h : some p = some b := h
    injection h with h
    subst h; rfl
  | x :: l, p, i + 1, b, h => by
    have h : (idsP l (Pa.succ p))[i]? = some b := h
    rw [idsP_get l _ i b h, num_succ]; omega
theorem exR_get : ∀ (r : List Pa) (p : Pa) (ρ : EN) (q : Pa), EN.get q (exR r p ρ) = if p.num ≤ q.num ∧ q.num < p.num + r.length then ((r[q.num - p.num]?).map (fun x => AV.ptr x 0)).getD .bad else EN.get q ρ
  | [], p, ρ, q => by
    show EN.get q ρ = _
    rw [if_neg (by simp only [List.length_nil]; omega)]
  | x :: r, p, ρ, q => by
    show EN.get q (exR r (Pa.succ p) (EN.put p (.ptr x 0) ρ)) = _
    rw [exR_get r, num_succ]
    by_cases h1 : p.num + 1 ≤ q.num ∧ q.num < p.num + 1 + r.length
    · rw [if_pos h1, if_pos (by simp only [List.length_cons]; omega), show q.num - p.num = (q.num - (p.num + 1)) + 1 by omega, List.getElem?_cons_succ]
    · rw [if_neg h1]
      by_cases h2 : q.num = p.num
      · have := num_inj h2
        subst this
        rw [en_same, if_pos (by simp only [List.length_cons]; omega), Nat.sub_self]; rfl
      · rw [if_neg (by simp only [List.length_cons]; omega), en_other _ _ _ _ (fun e => h2 (by rw [e]))]
/-- where a block of the given memory lies -/
def at? (r : List Pa) (b : Pa) : Option Pa := if b.num = 0 then some .z else r[b.num - 1]?
theorem mkR_get (r : List Pa) (q : Pa) : EN.get q (mkR r) = ((at? r q).map (fun x => AV.ptr x 0)).getD .bad := by
  unfold mkR at?
  rw [exR_get]
  show (if 1 ≤ q.num ∧ q.num < 1 + r.length then ((r[q.num - 1]?).map (fun x => AV.ptr x 0)).getD .bad else EN.get q (EN.put .z (.ptr .z 0) .nil)) = _
  by_cases h0 : q.num = 0
  · have : q = .z := num_inj (q := .z) h0
    subst this
    rw [if_neg (by show ¬ (1 ≤ 0 ∧ _); omega), en_same]
    rfl
  · rw [if_neg h0]
    by_cases h1 : q.num < 1 + r.length
    · rw [if_pos ⟨by omega, h1⟩]
    · rw [if_neg (fun h => h1 h.2), en_other _ _ _ _ (fun e => h0 (by rw [← e]; rfl)), en_nil, List.getElem?_eq_none (by omega)]
      rfl
theorem mkR_ptr {r : List Pa} {b b' : Pa} {o : Nat} (h : EN.get b (mkR r) = .ptr b' o) : at? r b = some b' := by
  rw [mkR_get] at h
  cases e : at? r b with
  | none => rw [e] at h; cases h
  | some x =>
    rw [e] at h
    have h : AV.ptr x 0 = .ptr b' o := h
    injection h with h1 h2
    rw [h1]
theorem at_z (r : List Pa) : at? r .z = some .z := if_pos rfl
def comp (σ : Sg) (r : List Pa) : Sg := ⟨fun b => (at? r b).bind σ.blk, σ.byte⟩
theorem comp_at {σ : Sg} {r : List Pa} {b b' : Pa} (h : at? r b = some b') : (comp σ r).blk b = σ.blk b' := by
  show (at? r b).bind σ.blk = _
  rw [h]; rfl
theorem comp_map {σ : Sg} {r : List Pa} : ∀ b b' o, EN.get b (mkR r) = .ptr b' o → ∀ x, σ.blk b' = some x → (comp σ r).blk b = some x := fun b b' o h x hx => by
  rw [comp_at (mkR_ptr h)]; exact hx
theorem mCells_at {ρ : EN} : ∀ {l : List AV} {tr : Tr} {i : Nat}, mCells ρ l tr i = true → ∀ j a, l[j]? = some a → ∃ v, Tr.get tr (i + j) = some v ∧ mV ρ a v = true
  | [], tr, i, h, j, a, hj => by simp at hj
  | x :: l, tr, i, h, j, a, hj => by
    have h : iff (onOpt (Tr.get tr i) false (mV ρ x)) false (mCells ρ l tr (Nat.succ i)) = true := h
    rw [iff_and, Bool.and_eq_true] at h
    cases j with
    | zero =>
      rw [List.getElem?_cons_zero] at hj
      injection hj with hj
      subst hj
      have h1 := h.1
      cases hv : Tr.get tr i with
      | none => rw [hv] at h1; cases h1
      | some v => rw [hv] at h1; exact ⟨v, rfl, h1⟩
    | succ j =>
      rw [List.getElem?_cons_succ] at hj
      obtain ⟨v, h3, h4⟩ := mCells_at h.2 j a hj
      exact ⟨v, by rw [show i + (j + 1) = Nat.succ i + j by omega]; exact h3, h4⟩
theorem rowM_spec {ρ : EN} {p : LR} {x : Blk} (h : rowM ρ p x = true) : ∃ tr, x = .row p.1 p.2.length tr ∧ ∀ j a, p.2[j]? = some a → ∃ v, Tr.get tr j = some v ∧ mV ρ a v = true := by
  unfold rowM at h
  cases x with
  | row sz len tr =>
    have h : iff (Nat.beq p.1 sz) false (iff (Nat.beq (lenA p.2) len) false (mCells ρ p.2 tr 0)) = true := h
    rw [iff_and, iff_and, Bool.and_eq_true, Bool.and_eq_true, beqN, beqN, decide_eq_true_eq, decide_eq_true_eq, lenA_eq] at h
    obtain ⟨rfl, rfl, h3⟩ := h
    refine ⟨tr, rfl, fun j a hj => ?_⟩
    obtain ⟨v, h1, h2⟩ := mCells_at h3 j a hj
    rw [Nat.zero_add] at h1
    exact ⟨v, h1, h2⟩
  | _ => cases h
theorem rowsM_len {ρ : EN} {h : Hp} : ∀ {l : List LR} {r : List Pa}, rowsM ρ h l r = true → r.length = l.length
  | [], [], _ => rfl
  | [], _ :: _, h => by cases h
  | _ :: _, [], h => by cases h
  | p :: l, b :: r, hh => by
    have hh : iff (rowM ρ p (hget h b)) false (rowsM ρ h l r) = true := hh
    rw [iff_and, Bool.and_eq_true] at hh
    rw [List.length_cons, List.length_cons, rowsM_len hh.2]
theorem rowsM_at {ρ : EN} {h : Hp} : ∀ {l : List LR} {r : List Pa}, rowsM ρ h l r = true → ∀ (i : Nat) (p : LR) (b : Pa), l[i]? = some p → r[i]? = some b → rowM ρ p (hget h b) = true
  | [], [], _, i, p, b, h1, _ => by simp at h1
  | [], _ :: _, h, _, _, _, _, _ => by cases h
  | _ :: _, [], h, _, _, _, _, _ => by cases h
  | q :: l, c :: r, hh, i, p, b, h1, h2 => by
    have hh : iff (rowM ρ q (hget h c)) false (rowsM ρ h l r) = true := hh
    rw [iff_and, Bool.and_eq_true] at hh
    cases i with
    | zero =>
      rw [List.getElem?_cons_zero] at h1 h2
      injection h1 with h1
      injection h2 with h2
      subst h1; subst h2
      exact hh.1
    | succ i =>
      rw [List.getElem?_cons_succ] at h1 h2
      exact rowsM_at hh.2 i p b h1 h2
theorem pbeq_refl : ∀ b : Pa, pbeq b b = true
  | .z => rfl
  | .l b => pbeq_refl b
  | .r b => pbeq_refl b
theorem notIn_spec {b : Pa} : ∀ {r : List Pa}, notIn b r = true → b ∉ r
  | [], _ => by simp
  | c :: r, h => by
    have h : iff (pbeq b c) (notIn b r) false = true := h
    cases e : pbeq b c with
    | true => rw [e] at h; cases h
    | false =>
      rw [e] at h
      have h : notIn b r = true := h
      intro hm
      rcases List.mem_cons.1 hm with rfl | hm
      · rw [pbeq_refl] at e; cases e
      · exact notIn_spec h hm
theorem nodupP_spec : ∀ {r : List Pa}, nodupP r = true → r.Nodup
  | [], _ => List.nodup_nil
  | b :: r, h => by
    have h : iff (notIn b r) false (nodupP r) = true := h
    rw [iff_and, Bool.and_eq_true] at h
    exact List.nodup_cons.2 ⟨notIn_spec h.1, nodupP_spec h.2⟩
theorem nodup_get {r : List Pa} (h : r.Nodup) {i j : Nat} {b : Pa} (hi : r[i]? = some b) (hj : r[j]? = some b) : i = j := by
  obtain ⟨h1, h2⟩ := List.getElem?_eq_some_iff.1 hi
  obtain ⟨h3, h4⟩ := List.getElem?_eq_some_iff.1 hj
  exact (List.getElem_inj h).1 (h2.trans h4.symm)
structure Matched (r : List Pa) (h : Hp) (l : List LR) : Prop where
  len : r.length = l.length
  row : ∀ (i : Nat) (p : LR) (b : Pa), l[i]? = some p → r[i]? = some b → ∃ tr, hget h b = .row p.1 p.2.length tr ∧ ∀ j a, p.2[j]? = some a → ∃ v, Tr.get tr j = some v ∧ mV (mkR r) a v = true
  nd : r.Nodup
  ro : ∃ tr, hget h .z = .ro 3 tr ∧ ∀ j a, gls[j]? = some a → ∃ v, Tr.get tr j = some v ∧ mV .nil a v = true
theorem matchAll_spec {r : List Pa} {h : Hp} {l : List LR} (hm : matchAll r h l = true) : Matched r h l := by
  unfold matchAll at hm
  rw [iff_and, iff_and, Bool.and_eq_true, Bool.and_eq_true] at hm
  obtain ⟨h1, h2, h3⟩ := hm
  refine ⟨rowsM_len h2, fun i p b e1 e2 => rowM_spec (rowsM_at h2 i p b e1 e2), nodupP_spec h3, ?_⟩
  unfold roM at h1
  cases hx : hget h .z with
  | ro len tr =>
    rw [hx] at h1
    have h1 : iff (Nat.beq len 3) false (mCells .nil gls tr 0) = true := h1
    rw [iff_and, Bool.and_eq_true, beqN, decide_eq_true_eq] at h1
    obtain ⟨rfl, h6⟩ := h1
    refine ⟨tr, rfl, fun j a hj => ?_⟩
    obtain ⟨v, h4, h5⟩ := mCells_at h6 j a hj
    rw [Nat.zero_add] at h4
    exact ⟨v, h4, h5⟩
  | _ => rw [hx] at h1; cases h1
section
variable {σ σ' : Sg} {N : Nat} {h h' : Hp} {w w' : World} {r : List Pa} {l : List LR}
theorem Matched.at (hm : Matched r h l) {b : Pa} (h0 : b.num ≠ 0) (h1 : b.num ≤ l.length) : ∃ b' p tr, at? r b = some b' ∧ r[b.num - 1]? = some b' ∧ l[b.num - 1]? = some p ∧ hget h b' = .row p.1 p.2.length tr ∧ ∀ j a, p.2[j]? = some a → ∃ v, Tr.get tr j = some v ∧ mV (mkR r) a v = true := by
  obtain ⟨p, hp⟩ : ∃ p, l[b.num - 1]? = some p := ⟨_, List.getElem?_eq_getElem (by omega)⟩
  obtain ⟨b', hb⟩ : ∃ b', r[b.num - 1]? = some b' := ⟨_, List.getElem?_eq_getElem (by rw [hm.len]; omega)⟩
  obtain ⟨tr, h2, h3⟩ := hm.row _ p b' hp hb
  exact ⟨b', p, tr, by unfold at?; rw [if_neg h0]; exact hb, hb, hp, h2, h3⟩
theorem laid_rows {σ : Sg} {p : List AV} {cs : Array Value} (hle : p.length ≤ cs.size) (h : ∀ (j : Nat) (a : AV), p[j]? = some a → ∃ u, cs[j]? = some u ∧ R σ a u) : RowOK σ p.length (laid p 0 .nil) cs :=
  ⟨hle, fun i v hi => by
    have h1 := laid_nil hi
    exact ⟨(List.getElem?_eq_some_iff.1 h1).1, h i v h1⟩⟩
/-- part of a memory, under numbers of its own -/
theorem HR.sub (hr : HR σ N h w) (hm : Matched r h l) : HR (comp σ r) N (litH l) w := by
  have hown : ∀ b, ownB (hget (litH l) b) = true → ∃ b', r[b.num - 1]? = some b' ∧ ownB (hget h b') = true ∧ (comp σ r).blk b = σ.blk b' ∧ b.num ≠ 0 := fun b hb => by
    obtain ⟨h0, h1⟩ := litH_own hb
    obtain ⟨b', p, tr, h2, h3, h4, h5, _⟩ := hm.at h0 h1
    exact ⟨b', h3, by rw [h5]; rfl, comp_at h2, h0⟩
  refine ⟨hr.base, ?_, hr.pos, fun b => ?_, fun b b' g q q' h1 h2 e1 e2 => ?_, fun p hp => ?_⟩
  · rw [comp_at (at_z r)]
    exact hr.glob
  · rcases litH_cases l b with ⟨rfl, e⟩ | ⟨p, h0, h1, h2, e⟩ | ⟨_, e⟩
    · rw [e]
      obtain ⟨tr, h3, h4⟩ := hm.ro
      have hb := hr.blk .z
      rw [h3] at hb
      obtain ⟨g, q, cs, ty, fr, k1, k2, k3, k4⟩ := hb
      refine ⟨g, q, cs, ty, fr, by rw [comp_at (at_z r)]; exact k1, k2, k3, laid_rows (p := gls) k4.le (fun j a hj => ?_)⟩
      obtain ⟨v, h5, h6⟩ := h4 j a hj
      obtain ⟨_, u, h7, h8⟩ := k4.get j v h5
      exact ⟨u, h7, mV_R (fun b b' o e => by rw [en_nil] at e; cases e) h8 a h6⟩
    · rw [e]
      obtain ⟨b', p', tr, h3, _, h4, h5, h6⟩ := hm.at h0 h1
      rw [h2] at h4; injection h4 with h4; subst h4
      have hb := hr.blk b'
      rw [h5] at hb
      obtain ⟨g, q, cs, ty, k1, k2, k3, k4, k5⟩ := hb
      refine ⟨g, q, cs, ty, by rw [comp_at h3]; exact k1, k2, k3, k4, laid_rows k5.le (fun j a hj => ?_)⟩
      obtain ⟨v, h7, h8⟩ := h6 j a hj
      obtain ⟨_, u, h9, h10⟩ := k5.get j v h7
      exact ⟨u, h9, mV_R comp_map h10 a h8⟩
    · rw [e]; exact trivial
  · obtain ⟨c, k1, k2, k3, k4⟩ := hown b h1
    obtain ⟨c', k5, k6, k7, k8⟩ := hown b' h2
    rw [k3] at e1
    rw [k7] at e2
    have := hr.inj c c' g q q' k2 k6 e1 e2
    subst this
    have := nodup_get hm.nd k1 k5
    exact num_inj (by omega)
  · have hp : (litH l).n.num ≤ p.num := hp
    rw [litH_n] at hp
    show (at? r p).bind σ.blk = none
    unfold at?
    rw [if_neg (by omega), List.getElem?_eq_none (by rw [hm.len]; omega)]
    rfl
end
/-! ### runs -/
noncomputable def isN (r : Res) : Bool := Res.rec (motive := fun _ => Bool) false (fun _ _ => true) (fun _ _ _ => false) (fun _ _ => false) r
noncomputable def chkK (l : List LR) (lv : AV) (news : List LR) (s : List Pa) : K := fun v h => iff (iff (matchAll (catP (idsP l (.l .z)) s) h (catL l news)) false (mV (mkR (catP (idsP l (.l .z)) s)) lv v)) .no (.normal .nil h)
noncomputable def shortB (l : List LR) : Bool := List.rec (motive := fun _ => Bool) true (fun p _ ih => iff (Nat.ble (lenA p.2) 10000) false ih) l
theorem shortB_spec : ∀ {l : List LR}, shortB l = true → ∀ p ∈ l, p.2.length ≤ 10000
  | [], _, p, hp => by cases hp
  | q :: l, h, p, hp => by
    have h : iff (Nat.ble (lenA q.2) 10000) false (shortB l) = true := h
    rw [iff_and, Bool.and_eq_true, bleN, decide_eq_true_eq, lenA_eq] at h
    rcases List.mem_cons.1 hp with rfl | hp
    · exact h.1
    · exact shortB_spec h.2 p hp
structure Chunk (f : FuncId) (largs : List AV) (l : List LR) (lv : AV) (news : List LR) : Prop where
  short : ∀ p ∈ l ++ news, p.2.length ≤ 10000
  ex : ∃ fn c, Tryz.prog.funcs[f]? = some fn ∧ (fn.name == "runtime.NumGoroutine") = false ∧ fn.body = some c
  calls : ∀ (σ : Sg) (N : Nat) (vs : List Value) (w : World), HR σ N (litH l) w → Rs σ largs vs → Calls Tryz.prog f vs.toArray w (fun e w' => ∃ σ' u, Go σ N (litH l) w σ' (litH (l ++ news)) w' ∧ R σ' lv u ∧ e = .returned u)
/-- WHAT THE KERNEL HAS RUN -/
theorem chunk_of {cf : CF} (hcf : CFOK Tryz.prog cf) {f : FuncId} {largs : List AV} {l : List LR} {lv : AV} {news : List LR} (s : List Pa) (hs : shortB (catL l news) = true) (he : isN (cf f largs (litH l) (chkK l lv news s)) = true) : Chunk f largs l lv news := by
  have hne : cf f largs (litH l) (chkK l lv news s) ≠ .no := fun e => by rw [e] at he; cases he
  obtain ⟨h1, h2⟩ := hcf f largs (litH l) (chkK l lv news s) hne
  refine ⟨shortB_spec (by rw [← catL_eq]; exact hs), h1, fun σ N vs w hr hR => (h2 σ N vs w hr hR).mono ?_⟩
  rintro e w' ⟨v, hf, σ1, u, e1, hg, hu, rfl⟩
  rw [e1] at hne
  have hc := iff_ne hne
  rw [iff_and, Bool.and_eq_true] at hc
  rw [catP_eq, catL_eq] at hc
  obtain ⟨hm, hv⟩ := hc
  have hm := matchAll_spec hm
  have hsub := hg.hr.sub hm
  have hid : ∀ b, b.num ≠ 0 → b.num ≤ l.length → at? (idsP l (.l .z) ++ s) b = some b := fun b h0 h3 => by
    unfold at?
    rw [if_neg h0, List.getElem?_append_left (by rw [idsP_len]; omega)]
    obtain ⟨c, hc⟩ : ∃ c, (idsP l (.l .z))[b.num - 1]? = some c := ⟨_, List.getElem?_eq_getElem (by rw [idsP_len]; omega)⟩
    rw [hc]
    have := idsP_get l _ _ _ hc
    have h4 : (Pa.l .z).num = 1 := rfl
    rw [num_inj (p := c) (q := b) (by omega)]
  refine ⟨comp σ1 (idsP l (.l .z) ++ s), u, ⟨⟨hg.le.1, fun b x hb => ?_⟩, hsub, hg.os, hg.tape, hg.output, hg.size, hg.frame, fun b g q ho e2 => ?_⟩, mV_R comp_map hu lv hv, rfl⟩
  · by_cases h0 : b.num = 0
    · have : b = .z := num_inj (q := .z) h0
      subst this
      rw [comp_at (at_z _)]
      exact hg.le.2 _ _ hb
    · by_cases h3 : b.num ≤ l.length
      · rw [comp_at (hid b h0 h3)]
        exact hg.le.2 _ _ hb
      · rw [hr.fresh b (by rw [litH_n]; omega)] at hb
        cases hb
  · obtain ⟨h0, h3⟩ := litH_own ho
    obtain ⟨b', p, tr, h4, _, _, h5, _⟩ := hm.at h0 h3
    rw [comp_at h4] at e2
    exact hg.img b' g q (by rw [h5]; rfl) e2
end Ev
end Go.Proofs.YtlgpacpebjechaaGreatDoor
