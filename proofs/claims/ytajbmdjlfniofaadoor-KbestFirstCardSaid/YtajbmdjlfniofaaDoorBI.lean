/-
  Texts joined: Maps told by a function: lookups and stores; The enumeration's state: its streams, and what keeps them; The enumeration: the stream of a node; The enumeration: whether a hyperedge has a finite derivation; The enumeration: a candidate offered, what it makes of the state (plain); The enumeration: a candidate offered.
-/
import Derived.Test.YtajbmdjlfniofaaDoorBE
import Derived.Test.YtajbmdjlfniofaaDoorBH
import Derived.Test.YtajbmdjlfniofaaDoorBN
import Derived.StringKeys
/-
  Maps told by a function: lookups and stores.
-/
namespace Go.Proofs.YtajbmdjlfniofaaDoor
open Go.RowKit Go.Deep PK
open Go.ChangeMaps (setBlock heap_setBlock_same heap_setBlock_other)
open Go.MapKept
open Go.Maps (Keyed)
/-- the map at block b holds F -/
def MF (P : Program) (k : TypeId) (w : World) (b : Nat) (F : Value → Option Value) : Prop := ∃ es clock, w.heap[b]? = some (.map es clock) ∧ Stamped es clock ∧ (∀ x ∈ es.toList, ∃ l, keyOf P k x.key = some l) ∧ (∀ x ∈ es.toList, F x.key = some x.val) ∧ ∀ key v, F key = some v → ∃ x ∈ es.toList, x.key = key
open Classical in
noncomputable def mset (F : Value → Option Value) (key val : Value) : Value → Option Value := fun x => if x = key then some val else F x
theorem mset_same (F : Value → Option Value) (key val : Value) : mset F key val key = some val := if_pos rfl
theorem mset_other (F : Value → Option Value) (key val x : Value) (h : x ≠ key) : mset F key val x = F x := if_neg h
section
variable {P : Program} {k t e : TypeId} {w w' : World} {b : Nat} {F : Value → Option Value}
theorem MF.lt (h : MF P k w b F) : b < w.heap.size := by
 obtain ⟨es, clock, hb, _⟩ := h
 exact (Array.getElem?_eq_some_iff.1 hb).1
theorem MF.of_block (h : MF P k w b F) (e : w'.heap[b]? = w.heap[b]?) : MF P k w' b F := by
 obtain ⟨es, clock, hb, r⟩ := h
 exact ⟨es, clock, e.trans hb, r⟩
theorem MF.fut (h : MF P k w b F) (hf : Fut w w') : MF P k w' b F := h.of_block (hf.block b h.lt)
theorem MF.futS {S : Nat → Bool} (h : MF P k w b F) (hf : FutS S w w') (hS : S b = false) : MF P k w' b F := h.of_block (hf.block b h.lt hS)
theorem MF.setCell (h : MF P k w b F) {a : Addr} (ha : b ≠ a.block) (u : Value) : MF P k (w.setCell a u) b F := h.of_block (Go.RowKit.Below.heap_setCell w a u b ha)
theorem MF.grown {row : Option Nat} (h : MF P k w b F) (hg : w.grownBy w' row) (hb : some b ≠ row) : MF P k w' b F := h.of_block (hg.block b h.lt hb)
theorem MF.new (P : Program) (k : TypeId) (h : w.heap[b]? = some (.map #[] 0)) : MF P k w b (fun _ => none) := ⟨#[], 0, h, stamped_empty 0, by simp, by simp, fun _ _ h => by cases h⟩
theorem MF.ne_blk {c : Nat} {ty : TypeId} {cs : Array Value} (h : MF P k w b F) (hb : Blk w c ty cs) : b ≠ c := by
 intro e
 obtain ⟨es, clock, hb', _⟩ := h
 unfold Blk at hb
 rw [← e, hb'] at hb
 cases hb
theorem MF.lookup (h : MF P k w b F) (K : Keyed P k) (ht : P.underlying t = some (.map k e)) {z : Value} (hz : (zeroValue e).run P w = .ok z w) {key : Value} {kl : Lit} (hkey : keyOf P k key = some kl) :
  (Instr.lookup t (.map (some b)) key false).run P w = .ok ((F key).getD z) w ∧ (Instr.lookup t (.map (some b)) key true).run P w = .ok (.tuple #[(F key).getD z, .bool (F key).isSome]) w := by
 obtain ⟨es, clock, hb, hs, hk, hA, hB⟩ := h
 rcases K.find w hkey es.toList hk with ⟨h1, h2⟩ | ⟨j, e0, h1, h2, h3⟩
 ·
  have hF : F key = none := by
   cases e : F key with
   | none => rfl
   | some v =>
    obtain ⟨x, hx, he⟩ := hB key v e
    exact absurd he (h2 x hx)
  rw [hF]
  constructor <;> simp [Instr.lookup, run_underlying ht, MapKept.run_getObj_map hb, K.check w _ hkey, h1, hz, Result.andThen]
 ·
  have hF : F key = some e0.val := by rw [← h3]; exact hA e0 (List.mem_of_getElem? h2)
  rw [hF]
  constructor <;> simp [Instr.lookup, run_underlying ht, MapKept.run_getObj_map hb, K.check w _ hkey, h1, Result.andThen]
theorem MF.store (h : MF P k w b F) (K : Keyed P k) (ht : P.underlying t = some (.map k e)) {key val : Value} {kl : Lit} (hkey : keyOf P k key = some kl) :
  ∃ w', (Instr.mapUpdate t (.map (some b)) key val).run P w = .ok () w' ∧ MF P k w' b (mset F key val) ∧ w.mapTurned w' b := by
 obtain ⟨es, clock, hb, hs, hk, hA, hB⟩ := h
 rcases K.find w hkey es.toList hk with ⟨h1, h2⟩ | ⟨j, e0, h1, h2, h3⟩
 ·
  refine ⟨setBlock w b (.map (es.push ⟨key, val, clock⟩) (clock + 1)), ?_, ⟨_, _, heap_setBlock_same hb _, stamped_push hs h2, ?_, ?_, ?_⟩, ⟨es, clock, _, _, hb, rfl⟩⟩
  ·
   simp [Instr.mapUpdate, run_underlying ht, MapKept.run_getObj_map hb, K.check w false hkey, h1, MapKept.run_setObj_map _ hb, Result.andThen, setBlock]
  ·
   intro x hx
   simp only [Array.toList_push, List.mem_append, List.mem_singleton] at hx
   rcases hx with hx | rfl
   ·
    exact hk x hx
   ·
    exact ⟨_, hkey⟩
  ·
   intro x hx
   simp only [Array.toList_push, List.mem_append, List.mem_singleton] at hx
   rcases hx with hx | rfl
   ·
    rw [mset_other _ _ _ _ (h2 x hx)]; exact hA x hx
   ·
    exact mset_same _ _ _
  ·
   intro y v hy
   by_cases e1 : y = key
   ·
    subst e1
    exact ⟨⟨y, val, clock⟩, by simp, rfl⟩
   ·
    rw [mset_other _ _ _ _ e1] at hy
    obtain ⟨x, hx, he⟩ := hB y v hy
    exact ⟨x, by simp [Array.toList_push] at hx ⊢; exact .inl hx, he⟩
 ·
  have hj : es[j]? = some e0 := by simpa using h2
  refine ⟨setBlock w b (.map (es.modify j (fun e' => { e' with key := key, val := val })) clock), ?_, ⟨_, _, heap_setBlock_same hb _, stamped_modify hs j _ (fun _ _ => rfl) (fun x _ hx => ?_), ?_, ?_, ?_⟩, ⟨es, clock, _, _, hb, rfl⟩⟩
  ·
   simp [Instr.mapUpdate, run_underlying ht, MapKept.run_getObj_map hb, K.check w false hkey, h1, hj, h3, K.stays w hkey, MapKept.run_setObj_map _ hb, Result.andThen, setBlock]
  ·
   rw [hj] at hx
   obtain rfl := Option.some.inj hx
   exact h3.symm
  ·
   intro x hx
   rw [Array.toList_modify, ChangeMaps.modify_eq_set _ _ _ _ h2] at hx
   rcases List.mem_or_eq_of_mem_set hx with hx | rfl
   ·
    exact hk x hx
   ·
    exact ⟨_, hkey⟩
  ·
   intro x hx
   rw [Array.toList_modify, ChangeMaps.modify_eq_set _ _ _ _ h2] at hx
   obtain ⟨i, hi⟩ := List.getElem?_of_mem hx
   rw [List.getElem?_set] at hi
   split at hi
   ·
    split at hi
    ·
     obtain rfl := Option.some.inj hi
     exact mset_same _ _ _
    ·
     cases hi
   ·
    rename_i hne
    have hxi : es.toList[i]? = some x := hi
    rw [mset_other _ _ _ _ (fun e2 => ?_)]
    ·
     exact hA x (List.mem_of_getElem? hxi)
    ·
     have hnd := hs.2.2
     have g1 : (es.toList.map (·.key))[i]? = some key := by rw [List.getElem?_map, hxi]; simp [e2]
     have g2 : (es.toList.map (·.key))[j]? = some key := by rw [List.getElem?_map, h2]; simp [h3]
     have hjl := (List.getElem?_eq_some_iff.1 g2).1
     exact hne ((List.getElem?_inj hjl hnd).1 (g2.trans g1.symm))
  ·
   intro y v hy
   by_cases e1 : y = key
   ·
    refine ⟨{ e0 with key := key, val := val }, ?_, e1.symm⟩
    rw [Array.toList_modify, ChangeMaps.modify_eq_set _ _ _ _ h2]
    exact List.mem_of_getElem? (i := j) (by rw [List.getElem?_set_self (List.getElem?_eq_some_iff.1 h2).1])
   ·
    rw [mset_other _ _ _ _ e1] at hy
    obtain ⟨x, hx, he⟩ := hB y v hy
    obtain ⟨i, hi⟩ := List.getElem?_of_mem hx
    refine ⟨x, ?_, he⟩
    rw [Array.toList_modify, ChangeMaps.modify_eq_set _ _ _ _ h2]
    refine List.mem_of_getElem? (i := i) ?_
    rw [List.getElem?_set_ne (fun e2 => ?_)]
    ·
     exact hi
    ·
     subst e2
     rw [h2] at hi
     obtain rfl := Option.some.inj hi
     exact e1 (he.symm.trans h3)
end
/-! ### at the operation -/
section
variable {P : Program} {k t e : TypeId} {w : World} {o : Oper} {a : Act} {K : Act → World → Prop} {Q : Exit → Act → World → Prop} {b : Nat} {F : Value → Option Value}
theorem wp_fput (m x v : Operand) (ho : o.op = .mapUpdate t m x v) (KK : Keyed P k) (ht : P.underlying t = some (.map k e)) (hm : a.eval m = .map (some b)) (hM : MF P k w b F) {key val : Value} {kl : Lit} (hkey : keyOf P k key = some kl) (hx : a.eval x = key) (hv : a.eval v = val)
  (h : ∀ w', MF P k w' b (mset F key val) → w.grownBy w' (some b) → K (a.put o.dst undef) w') : o.wp P a w K Q := by
 obtain ⟨w', hrun, r1, r2⟩ := hM.store KK ht (val := val) hkey
 unfold Oper.wp
 simp [execOp, ho, hm, hx, hv, hrun, Result.andThen]
 exact h w' r1 r2.grown
theorem wpList_fput {ops : Array Oper} {rest : List Oper} (hg : o.guard = none) (m x v : Operand) (ho : o.op = .mapUpdate t m x v) (KK : Keyed P k) (ht : P.underlying t = some (.map k e)) (hm : a.eval m = .map (some b)) (hM : MF P k w b F) {key val : Value} {kl : Lit} (hkey : keyOf P k key = some kl) (hx : a.eval x = key) (hv : a.eval v = val)
  (h : ∀ w', MF P k w' b (mset F key val) → w.grownBy w' (some b) → wpList P ops Q rest (a.put o.dst undef) w') : wpList P ops Q (o :: rest) a w :=
 wpList_plain hg fun _ hK => wp_fput m x v ho KK ht hm hM hkey hx hv fun w' h2 h3 => hK _ _ (h w' h2 h3)
end
end Go.Proofs.YtajbmdjlfniofaaDoor
/-
  The enumeration's state: its streams, and what keeps them.
-/
namespace Go.Proofs.YtajbmdjlfniofaaDoor
open Go.RowKit Go.Deep PK
/-! ### least derivations exist -/
theorem fol_exists {es : List EE} {V : Nat → VV} (hes : ∀ e ∈ es, PK.okE e) (hS : Sol es V) (hs : ∀ v, (V v).s < INF) : ∀ (M v : Nat), (V v).c < INF → (V v).s.toNat < M → ∃ d, Fol V es v d := by
 intro M
 induction M with
 | zero => intro v _ h; omega
 | succ M ih =>
  intro v hv hM
  obtain ⟨j, E, h1, h2, h3, h4, _⟩ := chosen_fin hes hS hv
  have hE : E ∈ es := List.mem_of_getElem? h2
  have hk : ∀ i : Fin E.t.length, ∃ d, Fol V es (E.t[i.val]) d := fun i => by
   have hm : E.t[i.val] ∈ E.t := List.getElem_mem _
   have g1 := tails_fin hes hS hE hv h4 hm
   have g2 := tails_size hes hS hE hv (hs v) h4 hm
   have g3 := (hS.ok (E.t[i.val])).2.2.1
   exact ih _ g1 (by omega)
  obtain ⟨g, hg⟩ := Classical.axiomOfChoice hk
  refine ⟨_, Fol.mk (k := List.ofFn g) (by rw [h1]; exact edge_nat h2) (by simp) (fun i d t hd ht => ?_)⟩
  obtain ⟨hi, rfl⟩ := List.getElem?_eq_some_iff.1 ht
  rw [List.getElem?_ofFn, dif_pos hi] at hd
  obtain rfl := Option.some.inj hd
  exact hg ⟨i, hi⟩
theorem fin_of_FinD {es : List EE} {V : Nat → VV} (hes : ∀ e ∈ es, PK.okE e) (hS : Sol es V) {v : Nat} {d : DT} (h : FinD es v d) : (V v).c < INF := leV_fin (le_val hes hS h.1) h.2
theorem fol_nth {es : List EE} {V : Nat → VV} (hes : ∀ e ∈ es, PK.okE e) (hS : Sol es V) {v : Nat} {d : DT} (hv : (V v).c < INF) (h : Fol V es v d) : FinD es v d ∧ PreD es v [d] := by
 have hf : FinD es v d := ⟨(h.good hes hS hv).2, by rw [(h.good hes hS hv).1]; exact hv⟩
 exact ⟨hf, Nth.least hf (fun z hz => Fol.least hes hS hz.1 hz.2 h)⟩
theorem best_exists {es : List EE} {V : Nat → VV} (hes : ∀ e ∈ es, PK.okE e) (hS : Sol es V) (hs : ∀ v, (V v).s < INF) : ∀ t x, FinD es t x → ∃ b, Nth es t 0 b := by
 intro t x h
 have hv := fin_of_FinD hes hS h
 obtain ⟨d, hd⟩ := fol_exists hes hS hs _ t hv (Nat.lt_succ_self _)
 exact ⟨d, (fol_nth hes hS hv hd).2.nth rfl⟩
/-! ### the lister -/
structure LX where
 L : LP
 M : Nat
 V : Nat → VV
 vb : Nat
 hm : Nat
 sm : Nat
 HF : Value → Option Value
abbrev kI (v : Nat) : Value := .int .i64 (v : Int)
/-- the hyperedges of a node, as the lister numbers them -/
def headsOf (es : List EI) (v : Nat) : List Nat := (List.range es.length).filter (fun i => match es[i]? with | some e => decide (e.h = (v : Int)) | none => false)
structure EnvX (X : LX) (w : World) : Prop where
 lb : Blk w X.L.lb 89 #[.int .i64 X.L.N, .slice X.L.A X.L.n X.L.c, .slice (some ⟨X.vb, 0, none⟩) X.M X.M, .map (some X.hm), .map (some X.sm)]
 vr : RowV w X.vb X.M X.V
 hm : MF Tryd.prog 3 w X.hm X.HF
 hh : ∀ v, v < X.M → (X.HF (kI v) = none ∧ headsOf X.L.es v = []) ∨ ∃ A c, X.HF (kI v) = some (.slice A (headsOf X.L.es v).length c) ∧ Rd1 w A rkv (headsOf X.L.es v)
 es : RdE w X.L.A X.L.es
structure LX.OK (X : LX) : Prop where
 L : X.L.OK
 M : X.L.N = X.M
 S : Sol X.L.E X.V
 s : ∀ v, (X.V v).s < INF
theorem EnvX.envL {X : LX} {w : World} (h : EnvX X w) : EnvL X.L w := ⟨h.lb.cell rfl, h.lb.cell rfl, h.es⟩
/-- a stream in memory: its blocks, what is listed, its queue, what was offered -/
structure TS where
 sb : Nat
 qb : Nat
 pb : Nat
 mb : Nat
 cb : Nat
 B : Nat
 on : Bool
 Kv : Value
 K : List CI
 Hv : Value
 H : Nat → EK
 m : Nat
 nx : Nat
 S : Value → Option Value
 o : Nat
/-- its own blocks -/
def TS.LB (t : TS) (k : Nat) : Bool := k == t.sb || k == t.mb || t.Kv.ownBlock == some k || SQ t.qb t.pb t.Hv k
def toCd (c : CI) : Cd := ⟨c.d.e.toNat, c.r, toDT c.d⟩
def TS.Q (t : TS) (q : Cd) : Prop := ∃ i, i < t.m ∧ toCd (t.H i).c = q
def TS.Sn (t : TS) (e : Nat) (l : List Nat) : Prop := e < 100 ∧ (∀ r ∈ l, r < 100) ∧ t.S (strV (keyS e l)) = some (.bool true)
structure TSM (L : LP) (F : Nat → Bool) (v : Nat) (w : World) (t : TS) : Prop where
 sblk : Blk w t.sb 96 #[t.Kv, .pointer (some ⟨t.qb, 0, none⟩), .bool t.on, .map (some t.mb)]
 qk : QK L F (v : Int) t.cb w t.qb t.pb t.B t.Hv t.H t.m t.nx
 heap : HeapOK (befK L.E) t.H t.m
 kown : w.ownsRow t.B 66 5 t.Kv t.K.length (t.K.flatMap encC)
 seen : MF Tryd.prog 9 w t.mb t.S
 sval : ∀ key x, t.S key = some x → x = .bool true
 sB : t.sb < t.B
 mB : t.mb < t.B
 pm : t.pb ≠ t.mb
 ktr : ∀ c ∈ t.K, RdC F w c
 kok : ∀ c ∈ t.K, okC L v c
 fL : ∀ k, F k = true → t.LB k = false
/-- what it lists, as plain mathematics -/
structure TSP (L : LP) (v : Nat) (t : TS) : Prop where
 half : Half L.E v (t.K.map toCd) t.Q t.Sn
 nd : PW (fun a b => ¬ (a.c.d.e = b.c.d.e ∧ a.c.r = b.c.r)) t.m t.H
 rk : ∀ (j : Nat) (c : CI), t.K[j]? = some c → ∀ r ∈ c.r, r ≤ j
 rq : ∀ i, i < t.m → ∀ r ∈ (t.H i).c.r, r ≤ t.K.length
 kl : t.K.length ≤ 50
 off : t.on = false → t.K = [] ∧ t.m = 0 ∧ (∀ key, t.S key = none) ∧ t.nx = 0 ∧ t.o = 0
/-- nothing is under way -/
structure Idle (L : LP) (v : Nat) (t : TS) : Prop where
 none : t.K = [] → (∀ d, ¬ FinD L.E v d) ∧ t.m = 0
 fr : Front L.E v (t.K.map toCd) t.Q t.Sn (fun _ => True) t.o
 o1 : t.K.length ≤ t.o + 1
 o2 : t.o ≤ t.K.length
 nx : t.nx ≤ 12 + 3 * t.o
abbrev ST := Nat → Option TS
/-- a rank is known -/
def KN (σ : ST) (t r : Nat) : Prop := r = 0 ∨ ∃ a, σ t = some a ∧ r < a.K.length
def Kids (L : LP) (σ : ST) (c : CI) : Prop := ∀ (E : EE) (i t r : Nat), L.E[c.d.e.toNat]? = some E → E.t[i]? = some t → c.r[i]? = some r → KN σ t r
structure LI (X : LX) (F : Nat → Bool) (w : World) (σ : ST) : Prop where
 env : StF F w (EnvX X)
 fb : ∀ k, F k = true → k < w.heap.size
 sm : ∃ G, MF Tryd.prog 3 w X.sm G ∧ ∀ v, v < X.M → G (kI v) = (σ v).map (fun t => .pointer (some ⟨t.sb, 0, none⟩))
 fsm : F X.sm = false
 vM : ∀ v t, σ v = some t → v < X.M
 mem : ∀ v t, σ v = some t → TSM X.L F v w t
 pl : ∀ v t, σ v = some t → TSP X.L v t
 dj : ∀ u v a b, u ≠ v → σ u = some a → σ v = some b → ∀ k, a.LB k = true → b.LB k = false
 ds : ∀ v t, σ v = some t → t.LB X.sm = false
 kn : ∀ v t c, σ v = some t → (c ∈ t.K ∨ ∃ i, i < t.m ∧ (t.H i).c = c) → Kids X.L σ c
/-! ### what keeps them -/
theorem ownF_keep {w w' : World} {B sz n : Nat} {E : TypeId} {v : Value} {xs : List Value} (h : w.ownsRow B E sz v n xs) (hk : ∀ k, v.ownBlock = some k → w'.heap[k]? = w.heap[k]?) : w'.ownsRow B E sz v n xs := by
 refine ⟨h.1, ?_⟩
 rcases h.2 with hn | ⟨g, cap, cur, rfl, hb, hg, rest⟩
 ·
  exact .inl hn
 ·
  exact .inr ⟨g, cap, cur, rfl, hb, (hk g rfl).trans hg, rest⟩
theorem lb_of {t : TS} {k : Nat} : t.LB k = true ↔ k = t.sb ∨ k = t.mb ∨ t.Kv.ownBlock = some k ∨ SQ t.qb t.pb t.Hv k = true := by
 unfold TS.LB
 simp only [Bool.or_eq_true, beq_iff_eq]
 constructor
 ·
  rintro (((h | h) | h) | h)
  ·
   exact .inl h
  ·
   exact .inr (.inl h)
  ·
   exact .inr (.inr (.inl h))
  ·
   exact .inr (.inr (.inr h))
 ·
  rintro (h | h | h | h)
  ·
   exact .inl (.inl (.inl h))
  ·
   exact .inl (.inl (.inr h))
  ·
   exact .inl (.inr h)
  ·
   exact .inr h
theorem lb_s (t : TS) : t.LB t.sb = true := lb_of.2 (.inl rfl)
theorem lb_m (t : TS) : t.LB t.mb = true := lb_of.2 (.inr (.inl rfl))
theorem lb_k {t : TS} {k : Nat} (h : t.Kv.ownBlock = some k) : t.LB k = true := lb_of.2 (.inr (.inr (.inl h)))
theorem lb_q {t : TS} {k : Nat} (h : SQ t.qb t.pb t.Hv k = true) : t.LB k = true := lb_of.2 (.inr (.inr (.inr h)))
section
variable {L : LP} {F G : Nat → Bool} {v : Nat} {w w' : World} {t : TS}
theorem TSM.lt (h : TSM L F v w t) : ∀ k, t.LB k = true → k < w.heap.size := by
 intro k hk
 rcases lb_of.1 hk with rfl | rfl | hk | hk
 ·
  exact h.sblk.lt
 ·
  exact h.seen.lt
 ·
  exact (World.ownsRow.lt h.kown k hk).2
 ·
  unfold SQ at hk
  simp only [Bool.or_eq_true, beq_iff_eq] at hk
  rcases hk with (rfl | rfl) | hk
  ·
   exact h.qk.q.lt
  ·
   exact h.qk.mp.lt
  ·
   exact (World.ownsRow.lt h.qk.own k hk).2
/-- the queue's blocks and the blocks F lie as they lay -/
theorem QK.keep {L : LP} {F G : Nat → Bool} {nd : Int} {cb : Nat} {w w' : World} {qb mb B : Nat} {v : Value} {H : Nat → EK} {m nx : Nat} (h : QK L F nd cb w qb mb B v H m nx) (hs : w.heap.size ≤ w'.heap.size) (hk : ∀ k, SQ qb mb v k = true → w'.heap[k]? = w.heap[k]?) (hF : KpF F w w') (hFG : ∀ k, F k = true → G k = true) (hb : ∀ k, G k = true → k < w'.heap.size) (hd : ∀ k, G k = true → SQ qb mb v k = false) : QK L G nd cb w' qb mb B v H m nx := by
 have hn : ∀ k, SQ qb mb v k = true → G k = false := fun k e => by
  cases e2 : G k with
  | false => rfl
  | true => rw [hd k e2] at e; cases e
 exact ⟨(hk _ sq_q).trans h.q, h.mp.of_block (hk _ sq_m), ownF_keep h.own (fun k e => hk k (by simp [SQ, e])), h.qB, h.mB, Nat.le_trans h.sz hs, h.hd, h.nx1, h.mx, hb, hn _ sq_q, hn _ sq_m, fun k e => hn k (by simp [SQ, e]), (h.env.go hF).mono hFG, fun i hi => (h.tr i hi).keep hF hFG, h.ok⟩
theorem TSM.keep (h : TSM L F v w t) (hs : w.heap.size ≤ w'.heap.size) (hk : ∀ k, t.LB k = true → w'.heap[k]? = w.heap[k]?) (hF : KpF F w w') (hFG : ∀ k, F k = true → G k = true) (hb : ∀ k, G k = true → k < w'.heap.size) (hd : ∀ k, G k = true → t.LB k = false) : TSM L G v w' t := by
 refine ⟨(hk _ (lb_s t)).trans h.sblk, h.qk.keep hs (fun k e => hk k (lb_q e)) hF hFG hb (fun k e => ?_), h.heap, ownF_keep h.kown (fun k e => hk k (lb_k e)), h.seen.of_block (hk _ (lb_m t)), h.sval, h.sB, h.mB, h.pm, fun c hc => (h.ktr c hc).keep hF hFG, h.kok, hd⟩
 cases e2 : SQ t.qb t.pb t.Hv k with
 | false => rfl
 | true => exact absurd (lb_q e2) (by rw [hd k e]; simp)
end
def upS (σ : ST) (v : Nat) (t : TS) : ST := fun u => if u = v then some t else σ u
theorem upS_same (σ : ST) (v : Nat) (t : TS) : upS σ v t v = some t := if_pos rfl
theorem upS_other (σ : ST) (v u : Nat) (t : TS) (h : u ≠ v) : upS σ v t u = σ u := if_neg h
theorem KN.up {σ : ST} {v : Nat} {a b : TS} (hv : σ v = some a) (hl : a.K.length ≤ b.K.length) {t r : Nat} (h : KN σ t r) : KN (upS σ v b) t r := by
 rcases h with h | ⟨c, hc, hr⟩
 ·
  exact .inl h
 ·
  by_cases e : t = v
  ·
   subst e
   rw [hv] at hc
   obtain rfl := Option.some.inj hc
   exact .inr ⟨b, upS_same _ _ _, by omega⟩
  ·
   exact .inr ⟨c, by rw [upS_other _ _ _ _ e]; exact hc, hr⟩
/-- a step of one stream -/
theorem LI.step {X : LX} {F G : Nat → Bool} {w w' : World} {σ : ST} (h : LI X F w σ) {v : Nat} {a b : TS} (hv : σ v = some a) (hf : FutS a.LB w w') (hFG : ∀ k, F k = true → G k = true) (hGF : ∀ k, G k = true → F k = true ∨ w.heap.size ≤ k) (hb : ∀ k, G k = true → k < w'.heap.size)
  (hsb : b.sb = a.sb) (hLB : ∀ k, b.LB k = true → a.LB k = true ∨ w.heap.size ≤ k) (hM : TSM X.L G v w' b) (hP : TSP X.L v b) (hl : a.K.length ≤ b.K.length)
  (hkn : ∀ c, (c ∈ b.K ∨ ∃ i, i < b.m ∧ (b.H i).c = c) → (c ∈ a.K ∨ ∃ i, i < a.m ∧ (a.H i).c = c) ∨ Kids X.L σ c) : LI X G w' (upS σ v b) := by
 have hK : KpF F w w' := KpF.of_futS h.fb (h.mem v a hv).fL hf
 have hother : ∀ u c, u ≠ v → σ u = some c → ∀ k, c.LB k = true → w'.heap[k]? = w.heap[k]? := fun u c hu hc k hk =>
  hf.block k ((h.mem u c hc).lt k hk) (h.dj u v c a hu hc hv k hk)
 have hGo : ∀ u c, u ≠ v → σ u = some c → ∀ k, G k = true → c.LB k = false := fun u c hu hc k hk => by
  cases e : c.LB k with
  | false => rfl
  | true =>
   rcases hGF k hk with h1 | h1
   ·
    rw [(h.mem u c hc).fL k h1] at e; cases e
   ·
    have := (h.mem u c hc).lt k e
    omega
 obtain ⟨M, hM1, hM2⟩ := h.sm
 have hsm : w'.heap[X.sm]? = w.heap[X.sm]? := hf.block _ hM1.lt (h.ds v a hv)
 refine ⟨(h.env.go hK).mono hFG, hb, ⟨M, hM1.of_block hsm, fun u hu => ?_⟩, ?_, fun u c hc => ?_, fun u c hc => ?_, fun u c hc => ?_, fun u1 u2 c1 c2 hu hc1 hc2 k hk => ?_, fun u c hc => ?_, fun u c x hc hx => ?_⟩
 ·
  rw [hM2 u hu]
  by_cases e : u = v
  ·
   subst e
   rw [upS_same, hv]
   simp [hsb]
  ·
   rw [upS_other _ _ _ _ e]
 ·
  cases e : G X.sm with
  | false => rfl
  | true =>
   rcases hGF _ e with h1 | h1
   ·
    rw [h.fsm] at h1; cases h1
   ·
    have := hM1.lt
    omega
 ·
  by_cases e : u = v
  ·
   subst e; exact h.vM u a hv
  ·
   rw [upS_other _ _ _ _ e] at hc; exact h.vM u c hc
 ·
  by_cases e : u = v
  ·
   subst e
   rw [upS_same] at hc
   obtain rfl := Option.some.inj hc
   exact hM
  ·
   rw [upS_other _ _ _ _ e] at hc
   exact (h.mem u c hc).keep hf.size (hother u c e hc) hK hFG hb (hGo u c e hc)
 ·
  by_cases e : u = v
  ·
   subst e
   rw [upS_same] at hc
   obtain rfl := Option.some.inj hc
   exact hP
  ·
   rw [upS_other _ _ _ _ e] at hc; exact h.pl u c hc
 ·
  have hbo : ∀ u c, u ≠ v → σ u = some c → ∀ k, b.LB k = true → c.LB k = false := fun u c hu hc k hk => by
   rcases hLB k hk with h1 | h1
   ·
    exact h.dj v u a c (Ne.symm hu) hv hc k h1
   ·
    cases e : c.LB k with
    | false => rfl
    | true =>
     have := (h.mem u c hc).lt k e
     omega
  by_cases e1 : u1 = v
  ·
   subst e1
   rw [upS_same] at hc1
   obtain rfl := Option.some.inj hc1
   rw [upS_other _ _ _ _ (Ne.symm hu)] at hc2
   exact hbo u2 c2 (Ne.symm hu) hc2 k hk
  ·
   rw [upS_other _ _ _ _ e1] at hc1
   by_cases e2 : u2 = v
   ·
    subst e2
    rw [upS_same] at hc2
    obtain rfl := Option.some.inj hc2
    cases e : b.LB k with
    | false => rfl
    | true => rw [hbo u1 c1 e1 hc1 k e] at hk; cases hk
   ·
    rw [upS_other _ _ _ _ e2] at hc2
    exact h.dj u1 u2 c1 c2 hu hc1 hc2 k hk
 ·
  by_cases e : u = v
  ·
   subst e
   rw [upS_same] at hc
   obtain rfl := Option.some.inj hc
   cases e2 : b.LB X.sm with
   | false => rfl
   | true =>
    rcases hLB _ e2 with h1 | h1
    ·
     rw [h.ds u a hv] at h1; cases h1
    ·
     have := hM1.lt
     omega
  ·
   rw [upS_other _ _ _ _ e] at hc; exact h.ds u c hc
 ·
  have hk : Kids X.L σ x := by
   by_cases e : u = v
   ·
    subst e
    rw [upS_same] at hc
    obtain rfl := Option.some.inj hc
    rcases hkn x hx with h1 | h1
    ·
     exact h.kn u a x hv h1
    ·
     exact h1
   ·
    rw [upS_other _ _ _ _ e] at hc
    exact h.kn u c x hc hx
  exact fun E i t r h1 h2 h3 => (hk E i t r h1 h2 h3).up hv hl
/-- elsewhere -/
theorem LI.go {X : LX} {F : Nat → Bool} {w w' : World} {σ : ST} (h : LI X F w σ) (hf : Fut w w') : LI X F w' σ := by
 have hK : KpF F w w' := KpF.of_fut h.fb hf
 obtain ⟨M, hM1, hM2⟩ := h.sm
 exact ⟨h.env.go hK, fun k hk => Nat.lt_of_lt_of_le (h.fb k hk) hf.size, ⟨M, hM1.fut hf, hM2⟩, h.fsm, h.vM, fun u c hc => (h.mem u c hc).keep hf.size (fun k hk => hf.block k ((h.mem u c hc).lt k hk)) hK (fun _ e => e) (fun k hk => Nat.lt_of_lt_of_le (h.fb k hk) hf.size) (h.mem u c hc).fL, h.pl, h.dj, h.ds, h.kn⟩
/-- all that may be written -/
def LBs (X : LX) (σ : ST) (k : Nat) : Prop := k = X.sm ∨ ∃ v t, σ v = some t ∧ t.LB k = true
open Classical in
noncomputable def LBb (X : LX) (σ : ST) (k : Nat) : Bool := decide (LBs X σ k)
theorem LBb_iff {X : LX} {σ : ST} {k : Nat} : LBb X σ k = true ↔ LBs X σ k := by unfold LBb; simp
/-- the state afterwards: streams B are as they were, the others have grown -/
structure Ext (B : Nat → Bool) (σ σ' : ST) : Prop where
 k : ∀ v t, σ v = some t → ∃ t', σ' v = some t' ∧ t'.sb = t.sb ∧ (t.on = true → t'.on = true) ∧ (∀ (i : Nat) c, t.K[i]? = some c → t'.K[i]? = some c) ∧ (B v = true → t' = t)
theorem Ext.refl (B : Nat → Bool) (σ : ST) : Ext B σ σ := ⟨fun _ t h => ⟨t, h, rfl, fun h => h, fun _ _ h => h, fun _ => rfl⟩⟩
theorem Ext.trans {B : Nat → Bool} {a b c : ST} (h : Ext B a b) (k : Ext B b c) : Ext B a c := ⟨fun v t hv => by
 obtain ⟨t1, h1, h2, h3, h4, h5⟩ := h.k v t hv
 obtain ⟨t2, g1, g2, g3, g4, g5⟩ := k.k v t1 h1
 exact ⟨t2, g1, g2.trans h2, fun e => g3 (h3 e), fun i c e => g4 i c (h4 i c e), fun e => (g5 e).trans (h5 e)⟩⟩
theorem Ext.mono {B C : Nat → Bool} {a b : ST} (h : Ext B a b) (hBC : ∀ v, C v = true → B v = true) : Ext C a b := ⟨fun v t hv => by
 obtain ⟨t1, h1, h2, h3, h4, h5⟩ := h.k v t hv
 exact ⟨t1, h1, h2, h3, h4, fun e => h5 (hBC v e)⟩⟩
theorem len_of_ext {K K' : List CI} (h : ∀ (i : Nat) c, K[i]? = some c → K'[i]? = some c) : K.length ≤ K'.length := by
 by_cases e : K.length = 0
 ·
  omega
 ·
  have := h (K.length - 1) _ (List.getElem?_eq_getElem (by omega))
  have := (List.getElem?_eq_some_iff.1 this).1
  omega
theorem KN.ext {B : Nat → Bool} {σ σ' : ST} (h : Ext B σ σ') {t r : Nat} (k : KN σ t r) : KN σ' t r := by
 rcases k with k | ⟨a, ha, hr⟩
 ·
  exact .inl k
 ·
  obtain ⟨a', h1, _, _, h4, _⟩ := h.k t a ha
  have := len_of_ext h4
  exact .inr ⟨a', h1, by omega⟩
/-- the frame of a call -/
structure Fr (X : LX) (F : Nat → Bool) (w : World) (σ : ST) (F' : Nat → Bool) (w' : World) (σ' : ST) : Prop where
 f : FutS (LBb X σ) w w'
 b : ∀ k, LBs X σ' k → LBs X σ k ∨ w.heap.size ≤ k
 i : ∀ k, F k = true → F' k = true
 n : ∀ k, F' k = true → F k = true ∨ w.heap.size ≤ k
theorem Fr.of_fut {X : LX} {F : Nat → Bool} {w w' : World} {σ : ST} (h : Fut w w') : Fr X F w σ F w' σ := ⟨FutS.of h, fun _ h => .inl h, fun _ h => h, fun _ h => .inl h⟩
theorem Fr.trans {X : LX} {F F1 F2 : Nat → Bool} {w w1 w2 : World} {σ σ1 σ2 : ST} (h : Fr X F w σ F1 w1 σ1) (k : Fr X F1 w1 σ1 F2 w2 σ2) : Fr X F w σ F2 w2 σ2 := by
 refine ⟨⟨k.f.os.trans h.f.os, k.f.tape.trans h.f.tape, k.f.output.trans h.f.output, Nat.le_trans h.f.size k.f.size, fun i hi hs => (k.f.block i (Nat.lt_of_lt_of_le hi h.f.size) ?_).trans (h.f.block i hi hs)⟩, fun i hi => ?_, fun i hi => k.i i (h.i i hi), fun i hi => ?_⟩
 ·
  cases e : LBb X σ1 i with
  | false => rfl
  | true =>
   rcases h.b i (LBb_iff.1 e) with h1 | h1
   ·
    rw [LBb_iff.2 h1] at hs; cases hs
   ·
    omega
 ·
  rcases k.b i hi with h1 | h1
  ·
   exact h.b i h1
  ·
   have := h.f.size
   exact .inr (by omega)
 ·
  rcases k.n i hi with h1 | h1
  ·
   exact h.n i h1
  ·
   have := h.f.size
   exact .inr (by omega)
end Go.Proofs.YtajbmdjlfniofaaDoor
/-
  The enumeration: the stream of a node.
-/
namespace Go.Proofs.YtajbmdjlfniofaaDoor
open Go.RowKit Go.Deep PK
attribute [local go_sem] Oper.lit Oper.litS fut_fut fut_drew World.cell?_alloc_some
attribute [local go_sem] World.frozen?_setCell
abbrev klessV (cb : Nat) : Value := .func (.func 53) #[] #[.pointer (some ⟨cb, 0, none⟩)]
set_option maxHeartbeats 1600000 in
theorem newK_any (cb : Nat) (w : World) : Calls Tryd.prog 52 #[klessV cb] w fun r w' => r = .returned (.pointer (some ⟨w.heap.size + 1, 0, none⟩)) ∧ w' = (w.alloc (.map #[] 0)).alloc (.cells #[klessV cb, .slice none 0 0, .map (some w.heap.size), .int .i64 0, .int .i64 0] 115) := by
 have hmm := @run_makeMap Tryd.prog
 go_enter Tryd.func52, Tryd.ntmps52
 go_wp2_with fail
 go_returns
 exact ⟨rfl, rfl⟩
theorem zero_st (w : World) : (zeroValue 90).run Tryd.prog w = .ok (.pointer none) w := by kernel_rfl
theorem kI_inj {u v : Nat} (h : kI u = kI v) : u = v := by
 injection h with _ h
 omega
theorem keyN {v : Nat} (h : v ≤ 1000000) : keyOf Tryd.prog 3 (kI v) = some (.int .i64 v) := keyI (by omega) (by omega)
/-- one stream more -/
theorem LI.add {X : LX} {F G : Nat → Bool} {w w' : World} {σ : ST} (h : LI X F w σ) {v : Nat} {a : TS} (hv : σ v = none) (hvM : v < X.M) {M : Value → Option Value} (hM1 : MF Tryd.prog 3 w X.sm M) (hM2 : ∀ v, v < X.M → M (kI v) = (σ v).map (fun t => .pointer (some ⟨t.sb, 0, none⟩)))
  (hf : FutS (fun k => k == X.sm) w w') (hFG : ∀ k, F k = true → G k = true) (hGF : ∀ k, G k = true → F k = true ∨ w.heap.size ≤ k) (hb : ∀ k, G k = true → k < w'.heap.size)
  (hLB : ∀ k, a.LB k = true → w.heap.size ≤ k) (hm : MF Tryd.prog 3 w' X.sm (mset M (kI v) (.pointer (some ⟨a.sb, 0, none⟩)))) (hM : TSM X.L G v w' a) (hP : TSP X.L v a) (hon : a.on = false) : LI X G w' (upS σ v a) := by
 have hK : KpF F w w' := KpF.of_futS h.fb (fun k hk => beq_eq_false_iff_ne.2 (fun e => by rw [e, h.fsm] at hk; cases hk)) hf
 have hlt : ∀ u c, σ u = some c → ∀ k, c.LB k = true → k < w.heap.size ∧ k ≠ X.sm := fun u c hc k hk => ⟨(h.mem u c hc).lt k hk, fun e => by rw [e, h.ds u c hc] at hk; cases hk⟩
 have hother : ∀ u c, σ u = some c → ∀ k, c.LB k = true → w'.heap[k]? = w.heap[k]? := fun u c hc k hk => hf.block k (hlt u c hc k hk).1 (beq_eq_false_iff_ne.2 (hlt u c hc k hk).2)
 have hGo : ∀ u c, σ u = some c → ∀ k, G k = true → c.LB k = false := fun u c hc k hk => by
  cases e : c.LB k with
  | false => rfl
  | true =>
   rcases hGF k hk with h1 | h1
   ·
    rw [(h.mem u c hc).fL k h1] at e; cases e
   ·
    have := (hlt u c hc k e).1
    omega
 have hsml := hM1.lt
 refine ⟨(h.env.go hK).mono hFG, hb, ⟨_, hm, fun u hu => ?_⟩, ?_, fun u c hc => ?_, fun u c hc => ?_, fun u c hc => ?_, fun u1 u2 c1 c2 hu hc1 hc2 k hk => ?_, fun u c hc => ?_, fun u c x hc hx => ?_⟩
 ·
  by_cases e : u = v
  ·
   subst e
   rw [upS_same, mset_same]; rfl
  ·
   rw [upS_other _ _ _ _ e, mset_other _ _ _ _ (fun e2 => e (kI_inj e2))]
   exact hM2 u hu
 ·
  cases e : G X.sm with
  | false => rfl
  | true =>
   rcases hGF _ e with h1 | h1
   ·
    rw [h.fsm] at h1; cases h1
   ·
    omega
 ·
  by_cases e : u = v
  ·
   subst e; exact hvM
  ·
   rw [upS_other _ _ _ _ e] at hc; exact h.vM u c hc
 ·
  by_cases e : u = v
  ·
   subst e
   rw [upS_same] at hc
   obtain rfl := Option.some.inj hc
   exact hM
  ·
   rw [upS_other _ _ _ _ e] at hc
   exact (h.mem u c hc).keep hf.size (hother u c hc) hK hFG hb (hGo u c hc)
 ·
  by_cases e : u = v
  ·
   subst e
   rw [upS_same] at hc
   obtain rfl := Option.some.inj hc
   exact hP
  ·
   rw [upS_other _ _ _ _ e] at hc; exact h.pl u c hc
 ·
  have hne : ∀ u c, σ u = some c → ∀ k, a.LB k = true → c.LB k = false := fun u c hc k hk => by
   cases e : c.LB k with
   | false => rfl
   | true =>
    have := (hlt u c hc k e).1
    have := hLB k hk
    omega
  by_cases e1 : u1 = v
  ·
   subst e1
   rw [upS_same] at hc1
   obtain rfl := Option.some.inj hc1
   rw [upS_other _ _ _ _ (Ne.symm hu)] at hc2
   exact hne u2 c2 hc2 k hk
  ·
   rw [upS_other _ _ _ _ e1] at hc1
   by_cases e2 : u2 = v
   ·
    subst e2
    rw [upS_same] at hc2
    obtain rfl := Option.some.inj hc2
    cases e : a.LB k with
    | false => rfl
    | true => rw [hne u1 c1 hc1 k e] at hk; cases hk
   ·
    rw [upS_other _ _ _ _ e2] at hc2
    exact h.dj u1 u2 c1 c2 hu hc1 hc2 k hk
 ·
  by_cases e : u = v
  ·
   subst e
   rw [upS_same] at hc
   obtain rfl := Option.some.inj hc
   cases e2 : a.LB X.sm with
   | false => rfl
   | true => have := hLB _ e2; omega
  ·
   rw [upS_other _ _ _ _ e] at hc; exact h.ds u c hc
 ·
  by_cases e : u = v
  ·
   subst e
   rw [upS_same] at hc
   obtain rfl := Option.some.inj hc
   obtain ⟨h1, h2, _⟩ := hP.off hon
   rcases hx with hx | ⟨i, hi, _⟩
   ·
    rw [h1] at hx; simp at hx
   ·
    omega
  ·
   rw [upS_other _ _ _ _ e] at hc
   intro E i t r h1 h2 h3
   rcases h.kn u c x hc hx E i t r h1 h2 h3 with h4 | ⟨b, hb1, hb2⟩
   ·
    exact .inl h4
   ·
    refine .inr ⟨b, ?_, hb2⟩
    rw [upS_other _ _ _ _ (fun e3 => by rw [e3, hv] at hb1; cases hb1)]
    exact hb1
/-- a new stream -/
def newTS (cb : Nat) : TS := ⟨cb + 2, cb + 4, cb + 3, cb + 1, cb, cb + 5, false, .slice none 0 0, [], .slice none 0 0, fun _ => ⟨⟨.node 0 none 0 [], ⟨0, 0⟩, [], none, 0⟩, 0, 0⟩, 0, 0, fun _ => none, 0⟩
theorem newTS_P (L : LP) (v cb : Nat) : TSP L v (newTS cb) := by
 refine ⟨⟨PreD.nil, fun c hc => ?_, fun x hx => ?_, fun c hc => ?_⟩, fun i j hi => ?_, fun j c hc => ?_, fun i hi => ?_, by simp [newTS], fun _ => ⟨rfl, rfl, fun _ => rfl, rfl, rfl⟩⟩
 ·
  rcases hc with hc | ⟨i, hi, _⟩
  ·
   simp [newTS] at hc
  ·
   simp [newTS] at hi
 ·
  simp [newTS] at hx
 ·
  rcases hc with hc | ⟨i, hi, _⟩
  ·
   simp [newTS] at hc
  ·
   simp [newTS] at hi
 ·
  simp [newTS] at hi
 ·
  simp [newTS] at hc
 ·
  simp [newTS] at hi
theorem newTS_lb {cb k : Nat} (h : (newTS cb).LB k = true) : cb + 1 ≤ k ∧ k ≤ cb + 4 := by
 rcases lb_of.1 h with h | h | h | h
 ·
  simp [newTS] at h; omega
 ·
  simp [newTS] at h; omega
 ·
  simp [newTS, Value.ownBlock] at h
 ·
  unfold SQ at h
  simp [newTS, Value.ownBlock] at h
  omega
set_option maxHeartbeats 3200000 in
theorem at_any (X : LX) (hX : X.OK) (F : Nat → Bool) (w : World) (σ : ST) (h : LI X F w σ) (v : Nat) (hv : v < X.M) :
  Calls Tryd.prog 46 #[.pointer (some ⟨X.L.lb, 0, none⟩), kI v] w fun e w' => ∃ F' σ' a, LI X F' w' σ' ∧ σ' v = some a ∧ e = .returned (.pointer (some ⟨a.sb, 0, none⟩)) ∧ Fr X F w σ F' w' σ' ∧ (σ' = σ ∨ (σ v = none ∧ σ' = upS σ v a ∧ a.on = false)) := by
 have HI := Lib.hid h
 have HX := Lib.hid hX
 have hM8 : X.M ≤ 8 := by have := hX.L.hN; have := hX.M; omega
 obtain ⟨M, hM1, hM2⟩ := h.sm
 have hvM := hM2 v hv
 have HM2 := Lib.hid hM2
 have HV := Lib.hid hv
 have HF := Lib.hid (show Fut w (w.alloc (.cells #[.pointer (some ⟨X.L.lb, 0, none⟩)] 63)) from (Fut.refl w).alloc _)
 have HB := Lib.hid (show Blk (w.alloc (.cells #[.pointer (some ⟨X.L.lb, 0, none⟩)] 63)) w.heap.size 63 #[.pointer (some ⟨X.L.lb, 0, none⟩)] from Blk.new _ _ _)
 have HMb := Lib.hid (hM1.fut HF.out)
 have hlk := (HMb.out.lookup klaw Tryd.underlying87 (zero_st _) (keyN (v := v) (by omega))).2
 have c1 := (h.env.now).lb.cell (i := 4) rfl
 rw [hvM] at hlk
 clear h hX hM1 hM2 hvM hv
 cases hs : σ v with
 | some a =>
  rw [hs] at hlk
  simp only [Option.map_some, Option.getD_some, Option.isSome_some] at hlk
  go_enter Tryd.func46, Tryd.ntmps46
  go_wp2_with fail
  go_ret
  exact ⟨F, σ, a, HI.out.go HF.out, hs, rfl, Fr.of_fut HF.out, .inl rfl⟩
 | none =>
  rw [hs] at hlk
  simp only [Option.map_none, Option.getD_none, Option.isSome_none] at hlk
  have hmm := @run_makeMap Tryd.prog
  go_enter Tryd.func46, Tryd.ntmps46
  go_wp2_with fail
  obtain ⟨sb, hsb⟩ : ∃ x, x = w.heap.size + 1 + 1 := ⟨_, rfl⟩
  obtain ⟨mb, hmb⟩ : ∃ x, x = w.heap.size + 1 := ⟨_, rfl⟩
  obtain ⟨cb, hcb⟩ : ∃ x, x = w.heap.size := ⟨_, rfl⟩
  rw [← hsb, ← hmb, ← hcb]
  have HSB := Lib.hid hsb
  have HMB := Lib.hid hmb
  have HCB := Lib.hid hcb
  have HC3 := Lib.hid (show Blk (((w.alloc (.cells #[.pointer (some ⟨X.L.lb, 0, none⟩)] 63)).alloc (.map #[] 0)).alloc (.cells #[.slice none 0 0, .pointer none, .bool false, .map (some mb)] 96)) cb 63 #[.pointer (some ⟨X.L.lb, 0, none⟩)] from by rw [hcb]; exact ((Blk.new _ _ _).alloc _).alloc _)
  have HM3 := Lib.hid (show (((w.alloc (.cells #[.pointer (some ⟨X.L.lb, 0, none⟩)] 63)).alloc (.map #[] 0)).alloc (.cells #[.slice none 0 0, .pointer none, .bool false, .map (some mb)] 96)).heap[mb]? = some (.map #[] 0) from by rw [hmb]; exact (Below.heap_alloc _ _ _ (by simp)).trans (heap_new' _ _ _ (by simp)))
  have HS3 := Lib.hid (show Blk (((w.alloc (.cells #[.pointer (some ⟨X.L.lb, 0, none⟩)] 63)).alloc (.map #[] 0)).alloc (.cells #[.slice none 0 0, .pointer none, .bool false, .map (some mb)] 96)) sb 96 #[.slice none 0 0, .pointer none, .bool false, .map (some mb)] from heap_new' _ _ _ (by rw [hsb]; simp only [World.size_alloc]))
  have HF3 := Lib.hid (show Fut w (((w.alloc (.cells #[.pointer (some ⟨X.L.lb, 0, none⟩)] 63)).alloc (.map #[] 0)).alloc (.cells #[.slice none 0 0, .pointer none, .bool false, .map (some mb)] 96)) from (HF.out.alloc _).alloc _)
  have HZ3 := Lib.hid (show (((w.alloc (.cells #[.pointer (some ⟨X.L.lb, 0, none⟩)] 63)).alloc (.map #[] 0)).alloc (.cells #[.slice none 0 0, .pointer none, .bool false, .map (some mb)] 96)).heap.size = w.heap.size + 3 from by simp only [World.size_alloc])
  clear hsb hmb hcb hlk HB HMb c1 hmm
  generalize ((w.alloc (.cells #[.pointer (some ⟨X.L.lb, 0, none⟩)] 63)).alloc (.map #[] 0)).alloc (.cells #[.slice none 0 0, .pointer none, .bool false, .map (some mb)] 96) = w3 at *
  refine (newK_any cb w3).mono ?_
  rintro r w4 ⟨rfl, hw4⟩
  have HF4 := Lib.hid (show Fut w3 w4 from by rw [hw4]; exact ((Fut.refl _).alloc _).alloc _)
  have HQ4 := Lib.hid (show Blk w4 (w3.heap.size + 1) 115 #[klessV cb, .slice none 0 0, .map (some w3.heap.size), .int .i64 0, .int .i64 0] from by rw [hw4]; exact heap_new' _ _ _ (by simp only [World.size_alloc]))
  have HP4 := Lib.hid (show w4.heap[w3.heap.size]? = some (.map #[] 0) from by rw [hw4]; exact (Below.heap_alloc _ _ _ (by simp)).trans (heap_new' _ _ _ (by simp)))
  have HZ4 := Lib.hid (show w4.heap.size = w.heap.size + 5 from by rw [hw4]; simp only [World.size_alloc, HZ3.out])
  clear hw4
  obtain ⟨pb, hpb⟩ : ∃ x, x = w3.heap.size := ⟨_, rfl⟩
  obtain ⟨qb, hqb⟩ : ∃ x, x = w3.heap.size + 1 := ⟨_, rfl⟩
  rw [← hqb, ← hpb] at HQ4
  rw [← hpb] at HP4
  rw [← hqb]
  have HPB := Lib.hid (show pb = w.heap.size + 3 from by rw [hpb, HZ3.out])
  have HQB := Lib.hid (show qb = w.heap.size + 4 from by rw [hqb, HZ3.out])
  have hS4 := HS3.out.fut HF4.out
  have s1 := hS4.cell (i := 1) rfl
  have f1 := hS4.fz 1
  have hne1 : cb ≠ sb := by have := HSB.out; have := HCB.out; omega
  have HEB := Lib.hid (show ∀ k u, Blk w (k : Nat) 89 u → Blk (w4.setCell ⟨sb, 1, none⟩ (.pointer (some ⟨qb, 0, none⟩))) k 89 u from fun k u hb => ((hb.fut HF3.out).fut HF4.out).setOther (a := ⟨sb, 1, none⟩) (by have := hb.lt; have := HSB.out; simp only; omega) _)
  have HC5 := Lib.hid ((HC3.out.fut HF4.out).setOther (a := ⟨sb, 1, none⟩) hne1 (.pointer (some ⟨qb, 0, none⟩)))
  have HS5 := Lib.hid (hS4.set 1 (.pointer (some ⟨qb, 0, none⟩)))
  have HQ5 := Lib.hid (HQ4.out.setOther (a := ⟨sb, 1, none⟩) (by have := HSB.out; have := HQB.out; simp only; omega) (.pointer (some ⟨qb, 0, none⟩)))
  have HP5 := Lib.hid ((blk_setCell_other w4 ⟨sb, 1, none⟩ (.pointer (some ⟨qb, 0, none⟩)) pb (by have := HSB.out; have := HPB.out; show pb ≠ sb; omega)).trans HP4.out)
  have HM5 := Lib.hid ((blk_setCell_other w4 ⟨sb, 1, none⟩ (.pointer (some ⟨qb, 0, none⟩)) mb (by have := HSB.out; have := HMB.out; show mb ≠ sb; omega)).trans ((HF4.out.block mb (by have := HMB.out; have := HZ3.out; omega)).trans HM3.out))
  obtain ⟨G, hG1, hG2⟩ := HI.out.sm
  have HG := Lib.hid hG1
  have HG2 := Lib.hid hG2
  have HGM := Lib.hid (((hG1.fut HF3.out).fut HF4.out).setCell (a := ⟨sb, 1, none⟩) (by have := hG1.lt; have := HSB.out; simp only; omega) (.pointer (some ⟨qb, 0, none⟩)))
  have HF5 := Lib.hid ((HF3.out.trans HF4.out).setCell (p := ⟨sb, 1, none⟩) (by have := HSB.out; simp only; omega) (.pointer (some ⟨qb, 0, none⟩)))
  have HZ5 := Lib.hid (show (w4.setCell ⟨sb, 1, none⟩ (.pointer (some ⟨qb, 0, none⟩))).heap.size = w.heap.size + 5 from by rw [World.size_setCell]; exact HZ4.out)
  have t0 := HC5.out.cell (i := 0) rfl
  have t1 := (HEB.out _ _ HI.out.env.now.lb).cell (i := 4) rfl
  clear hpb hqb hG1 hG2 hne1 hS4 HS3 HC3 HM3 HQ4 HP4
  go_wp2_with (at_mapUpdate; refine wpList_fput rfl (.tmp 29) (.tmp 30) (.tmp 31) rfl klaw Tryd.underlying87 rfl HGM.out (keyN (v := v) (by have := HV.out; omega)) rfl rfl ?_; intro w6 hm6 hg6)
  have e1 := HSB.out
  have e2 := HMB.out
  have e3 := HCB.out
  have e4 := HPB.out
  have e5 := HQB.out
  have hsl : X.sm < w.heap.size := HG.out.lt
  have HS6 := Lib.hid (HS5.out.grown hg6 (by intro e; have := Option.some.inj e; omega))
  have HC6 := Lib.hid (HC5.out.grown hg6 (by intro e; have := Option.some.inj e; omega))
  have HQ6 := Lib.hid (HQ5.out.grown hg6 (by intro e; have := Option.some.inj e; omega))
  have HP6 := Lib.hid ((hg6.block pb (by rw [HZ5.out]; omega) (by intro e; have := Option.some.inj e; omega)).trans HP5.out)
  have HM6 := Lib.hid ((hg6.block mb (by rw [HZ5.out]; omega) (by intro e; have := Option.some.inj e; omega)).trans HM5.out)
  have HF6 := Lib.hid (show FutS (fun k => k == X.sm) w w6 from (FutS.of HF5.out).grown hg6 (fun k hk => .inl (by rw [← Option.some.inj hk]; simp)))
  have HZ6 := Lib.hid (show w.heap.size + 5 ≤ w6.heap.size from by have := hg6.size; rw [HZ5.out] at this; exact this)
  have HMS := Lib.hid hm6
  clear HS5 HC5 HQ5 HP5 HM5 HF5 HZ5 hm6 hg6 t0 t1 s1 f1 HF4 HF3 HEB HGM HF
  go_ret
  subst e1 e2 e3 e4 e5
  have hFl : ∀ k, F k = true → k < w.heap.size := HI.out.fb
  have hK : KpF F w w6 := KpF.of_futS HI.out.fb (fun k hk => beq_eq_false_iff_ne.2 (fun e => by rw [e, HI.out.fsm] at hk; cases hk)) HF6.out
  have hG : ∀ k, (F k || k == w.heap.size) = true → F k = true ∨ k = w.heap.size := fun k hk => by
   simpa using hk
  have hGf : ∀ k, w.heap.size < k → (F k || k == w.heap.size) = false := fun k hk => by
   cases e : (F k || k == w.heap.size) with
   | false => rfl
   | true =>
    rcases hG k e with h1 | h1
    ·
     have := hFl k h1; omega
    ·
     omega
  have hTM : TSM X.L (fun k => F k || k == w.heap.size) v w6 (newTS w.heap.size) := by
   refine ⟨HS6.out, ⟨HQ6.out, ⟨#[], 0, HP6.out, MapKept.stamped_empty 0, by simp⟩, World.ownsRow_nil _ _ _ _, by simp only [newTS]; omega, by simp only [newTS]; omega, by simp only [newTS]; exact HZ6.out, fun i hi => by simp [newTS] at hi, by simp [newTS], Nat.le_refl _, fun k hk => ?_, hGf _ (by simp only [newTS]; omega), hGf _ (by simp only [newTS]; omega), fun k hk => by simp [newTS, Value.ownBlock] at hk, ?_, fun i hi => by simp [newTS] at hi, fun i hi => by simp [newTS] at hi⟩, fun j h1 h2 => by simp [newTS] at h2, World.ownsRow_nil _ _ _ _, MF.new _ _ HM6.out, fun key x hx => by simp [newTS] at hx, by simp only [newTS]; omega, by simp only [newTS]; omega, by simp only [newTS]; omega, fun c hc => by simp [newTS] at hc, fun c hc => by simp [newTS] at hc, fun k hk => ?_⟩
   ·
    have := HZ6.out
    rcases hG k hk with h1 | h1
    ·
     have := hFl k h1; omega
    ·
     omega
   ·
    intro w' hw'
    have h1 := (HI.out.env.go hK).mono (G := fun k => F k || k == w.heap.size) (fun k hk => by simp [hk]) w' hw'
    exact ⟨hw'.cell (a := ⟨w.heap.size, 0, none⟩) (by simp) (HC6.out.cell rfl), h1.envL⟩
   ·
    cases e : (newTS w.heap.size).LB k with
    | false => rfl
    | true =>
     have := newTS_lb e
     rw [hGf k (by omega)] at hk
     cases hk
  refine ⟨fun k => F k || k == w.heap.size, upS σ v (newTS w.heap.size), newTS w.heap.size, HI.out.add hs HV.out HG.out HG2.out HF6.out (fun k hk => by simp [hk]) (fun k hk => ?_) (fun k hk => ?_) (fun k hk => by have := newTS_lb hk; omega) HMS.out hTM (newTS_P _ _ _) rfl, upS_same _ _ _, rfl, ⟨HF6.out.mono (fun k hk => .inl (LBb_iff.2 (.inl (by simpa using hk)))), fun k hk => ?_, fun k hk => by simp [hk], fun k hk => ?_⟩, .inr ⟨trivial, rfl, rfl⟩⟩
  ·
   rcases hG k hk with h1 | h1
   ·
    exact .inl h1
   ·
    exact .inr (by omega)
  ·
   have := HZ6.out
   rcases hG k hk with h1 | h1
   ·
    have := hFl k h1; omega
   ·
    omega
  ·
   rcases hk with hk | ⟨u, t, hu, hk⟩
   ·
    exact .inl (.inl hk)
   ·
    by_cases e : u = v
    ·
     subst e
     rw [upS_same] at hu
     obtain rfl := Option.some.inj hu
     have := newTS_lb hk
     exact .inr (by omega)
    ·
     rw [upS_other _ _ _ _ e] at hu
     exact .inl (.inr ⟨u, t, hu, hk⟩)
  ·
   rcases hG k hk with h1 | h1
   ·
    exact .inl h1
   ·
    exact .inr (by omega)
end Go.Proofs.YtajbmdjlfniofaaDoor
/-
  The enumeration: whether a hyperedge has a finite derivation.
-/
namespace Go.Proofs.YtajbmdjlfniofaaDoor
open Go.RowKit Go.Deep PK
attribute [local go_sem] Oper.lit Oper.litS fut_fut fut_drew World.cell?_alloc_some
theorem comb_fold {c : Int} {l : List VV} : (comb c l).c < INF ↔ (foldV c l).1 < INF := by
 unfold comb foldV
 split
 ·
  unfold top
  simp only
  omega
 ·
  simp only
theorem ev_fold {V : Nat → VV} {x : EI} : (ev V (toEE x)).c < INF ↔ (foldV x.c (x.t.map (fun t => V t.toNat))).1 < INF := by
 unfold ev toEE
 simp only [List.map_map]
 exact comb_fold
set_option maxHeartbeats 3200000 in
theorem finite_any (X : LX) (hX : X.OK) (w : World) (hE : EnvX X w) (k : Nat) (x : EI) (hx : X.L.es[k]? = some x) :
  Calls Tryd.prog 63 #[.pointer (some ⟨X.L.lb, 0, none⟩), kI k] w fun r w' => r = .returned (.bool (decide ((ev X.V (toEE x)).c < INF))) ∧ w' = w := by
 have hq : k < X.L.n := by
  have := (List.getElem?_eq_some_iff.1 hx).1
  rw [hX.L.hl] at this; exact this
 have hn12 := hX.L.hn
 have hM8 : X.M ≤ 8 := by have := hX.L.hN; have := hX.M; omega
 have hxm := List.mem_of_getElem? hx
 obtain ⟨b, o, hA, hc⟩ := hE.es.1 k x hx
 obtain ⟨ht, htl⟩ := hE.es.2 x hxm
 have hO := okE_parts ((validB_parts hX.L.vd).2.2 x hxm)
 have l1 := hE.lb.cell (i := 1) rfl
 have l2 := hE.lb.cell (i := 2) rfl
 rw [hA] at l1
 have c1 := hc 1 _ (by decide) rfl
 have c2 := hc 2 _ (by decide) rfl
 have HT := Lib.hid ht
 have HV := Lib.hid hE.vr
 have HTN := Lib.hid (show ∀ t ∈ x.t, 0 ≤ t ∧ t.toNat < X.M ∧ t ≤ 8 from fun t h => by
  have h1 := hO.2.2.2.2 t h
  have := hX.M
  have := hX.L.hN
  exact ⟨h1.1, by omega, by omega⟩)
 have HOK := Lib.hid (show ∀ v ∈ x.t.map (fun t => X.V t.toNat), okV v from fun v hv => by
  obtain ⟨t, _, rfl⟩ := List.mem_map.1 hv
  exact hX.S.ok _)
 have HEF := Lib.hid (ev_fold (V := X.V) (x := x))
 have HCC := Lib.hid (show 0 ≤ x.c ∧ x.c ≤ INF from ⟨hO.2.2.1, hO.2.2.2.1⟩)
 generalize hbq : decide ((ev X.V (toEE x)).c < INF) = bq
 have HBQ := Lib.hid hbq
 obtain ⟨m, hm⟩ : ∃ m, x.t.length = m := ⟨_, rfl⟩
 have hm3 : m ≤ 3 := by have := hX.L.tl x hxm; omega
 have HM := Lib.hid hm
 obtain ⟨xh, xt, xc, xl0, xl1, xA, xk⟩ := x
 simp only at c1 c2 HT HTN HOK HEF HCC HM hm
 rw [hm] at c1
 clear hx hxm hc ht htl hO hE hA hX hm hbq
 go_enter Tryd.func63, Tryd.ntmps63
 go_wp2_with fail
 obtain ⟨w0, hw0⟩ : ∃ w0, w0 = w := ⟨_, rfl⟩
 have HW0 := Lib.hid hw0
 clear hw0
 go_loopw [5, 27] (fun s i wr => ∃ j : Nat, j ≤ m ∧ i = .int .i64 j ∧ s = .int .i64 (foldV xc ((xt.map (fun t => X.V t.toNat)).take j)).1 ∧ wr = w0) (fun _ i _ => m - (intOf i).toNat)
 case atStart => exact ⟨0, Nat.zero_le _, rfl, by simp [foldV], HW0.out.symm⟩
 case round =>
  obtain ⟨j, hj, rfl, rfl, rfl⟩ := hrel
  have hw := HW0.out
  subst hw
  by_cases hlt : j < m
  ·
   obtain ⟨t, hty⟩ := get_lt HM.out hlt
   obtain ⟨b2, o2, rfl, hd⟩ := HT.out j t hty
   obtain ⟨t0, t1, t2⟩ := HTN.out t (List.mem_of_getElem? hty)
   have hv := HV.out.c t1
   have hvo := HOK.out (X.V t.toNat) (List.mem_map.2 ⟨t, List.mem_of_getElem? hty, rfl⟩)
   have h1 := foldV_bd HCC.out HOK.out j
   have hfs := foldV_succ (cost := xc) (l := xt.map (fun t => X.V t.toNat)) (j := j) (v := X.V t.toNat) (by rw [List.getElem?_map, hty]; rfl)
   have HFS := Lib.hid hfs
   rw [show ((t.toNat * 2 : Nat)) = t.toNat * 2 from rfl] at hv
   obtain ⟨p, hp⟩ : ∃ p, p = (foldV xc ((xt.map (fun t => X.V t.toNat)).take j)).1 := ⟨_, rfl⟩
   obtain ⟨z, hz⟩ : ∃ z, z = (X.V t.toNat).c := ⟨_, rfl⟩
   have HP := Lib.hid hp
   have HZ := Lib.hid hz
   rw [← hz] at hv
   rw [← hp] at h1 ⊢
   obtain ⟨tn, rfl⟩ : ∃ tn : Nat, t = tn := ⟨t.toNat, by omega⟩
   rw [Int.toNat_natCast] at hv t1
   have hpb : 0 ≤ p ∧ p ≤ 1099511627776 := h1.1
   have hzb : 0 ≤ z ∧ z ≤ 1099511627776 := by rw [hz]; exact ⟨hvo.1, hvo.2.1⟩
   have hmin : (if p + z < 1099511627776 then p + z else 1099511627776) = min (p + z) 1099511627776 := minG
   clear hty hvo h1 hfs hp hz
   go_wp2_with fail
   refine ⟨⟨j + 1, by omega, by go_num, ?_, trivial⟩, by simp [intOf]; omega⟩
   rw [HFS.out]
   unfold combG
   simp only
   rw [← HP.out, ← HZ.out]
   rfl
  ·
   have hjm : j = m := by omega
   subst hjm
   have hl9 : (xt.map (fun t => X.V t.toNat)).take j = xt.map (fun t => X.V t.toNat) := List.take_of_length_le (by rw [List.length_map, HM.out]; omega)
   go_wp2_with fail
   go_ret
   refine ⟨?_, rfl⟩
   have h9 : decide ((foldV xc (xt.map (fun t => X.V t.toNat))).1 < 1099511627776) = bq := by rw [← HBQ.out]; exact decide_eq_decide.2 HEF.out.symm
   rw [← h9]
   rfl
end Go.Proofs.YtajbmdjlfniofaaDoor
/-
  The enumeration: a candidate offered, what it makes of the state (plain).
-/
namespace Go.Proofs.YtajbmdjlfniofaaDoor
open Go.RowKit Go.Deep PK
theorem strV_inj {a b : List UInt8} (h : strV a = strV b) : a = b := by
 injection h with h
 injection h with h
 exact List.toArray_inj h
def IdleAll (L : LP) (B : Nat → Bool) (σ : ST) : Prop := ∀ v t, σ v = some t → B v = false → t.on = true → Idle L v t
theorem IdleAll.up {L : LP} {B : Nat → Bool} {σ : ST} (h : IdleAll L B σ) {v : Nat} {t : TS} (hv : B v = true) : IdleAll L B (upS σ v t) := by
 intro u c hc hb
 rw [upS_other _ _ _ _ (fun e => by rw [e, hv] at hb; cases hb)] at hc
 exact h u c hc hb
/-- more lies still -/
theorem LI.frz {X : LX} {F G : Nat → Bool} {w : World} {σ : ST} (h : LI X F w σ) (hFG : ∀ k, F k = true → G k = true) (hG : ∀ k, G k = true → F k = true ∨ (k < w.heap.size ∧ ¬ LBs X σ k)) : LI X G w σ := by
 have hb : ∀ k, G k = true → k < w.heap.size := fun k hk => by
  rcases hG k hk with h1 | h1
  ·
   exact h.fb k h1
  ·
   exact h1.1
 refine ⟨h.env.mono hFG, hb, h.sm, ?_, h.vM, fun v t ht => (h.mem v t ht).keep (Nat.le_refl _) (fun _ _ => rfl) (KpF.refl _ _) hFG hb (fun k hk => ?_), h.pl, h.dj, h.ds, h.kn⟩
 ·
  cases e : G X.sm with
  | false => rfl
  | true =>
   rcases hG _ e with h1 | h1
   ·
    rw [h.fsm] at h1; cases h1
   ·
    exact absurd (.inl rfl) h1.2
 ·
  cases e : t.LB k with
  | false => rfl
  | true =>
   rcases hG k hk with h1 | h1
   ·
    rw [(h.mem v t ht).fL k h1] at e; cases e
   ·
    exact absurd (.inr ⟨v, t, ht, e⟩) h1.2
theorem LI.nF {X : LX} {F : Nat → Bool} {w : World} {σ : ST} (h : LI X F w σ) {k : Nat} (hk : LBs X σ k) : F k = false := by
 cases e : F k with
 | false => rfl
 | true =>
  rcases hk with rfl | ⟨v, t, ht, hk⟩
  ·
   rw [h.fsm] at e; cases e
  ·
   rw [(h.mem v t ht).fL k e] at hk; cases hk
theorem LI.bF {X : LX} {F : Nat → Bool} {w : World} {σ : ST} (h : LI X F w σ) {k : Nat} (hk : LBs X σ k) : k < w.heap.size := by
 rcases hk with rfl | ⟨v, t, ht, hk⟩
 ·
  obtain ⟨M, hM, _⟩ := h.sm
  exact hM.lt
 ·
  exact (h.mem v t ht).lt k hk
/-- the frame of a step of one stream -/
theorem Fr.step {X : LX} {F G : Nat → Bool} {w w' : World} {σ : ST} {v : Nat} {a b : TS} (hv : σ v = some a) (hf : FutS a.LB w w') (hFG : ∀ k, F k = true → G k = true) (hGF : ∀ k, G k = true → F k = true ∨ w.heap.size ≤ k) (hLB : ∀ k, b.LB k = true → a.LB k = true ∨ w.heap.size ≤ k) : Fr X F w σ G w' (upS σ v b) := by
 refine ⟨hf.mono (fun k hk => .inl (LBb_iff.2 (.inr ⟨v, a, hv, hk⟩))), fun k hk => ?_, hFG, hGF⟩
 rcases hk with hk | ⟨u, t, hu, hk⟩
 ·
  exact .inl (.inl hk)
 ·
  by_cases e : u = v
  ·
   subst e
   rw [upS_same] at hu
   obtain rfl := Option.some.inj hu
   rcases hLB k hk with h1 | h1
   ·
    exact .inl (.inr ⟨u, a, hv, h1⟩)
   ·
    exact .inr h1
  ·
   rw [upS_other _ _ _ _ e] at hu
   exact .inl (.inr ⟨u, t, hu, hk⟩)
/-- streams B but for v are as they were -/
def butv (B : Nat → Bool) (v : Nat) (u : Nat) : Bool := B u && !(u == v)
theorem butv_of {B : Nat → Bool} {v u : Nat} (h : butv B v u = true) : B u = true ∧ u ≠ v := by
 unfold butv at h
 simpa using h
theorem Ext.up {B : Nat → Bool} {σ : ST} {v : Nat} {a b : TS} (hv : σ v = some a) (hs : b.sb = a.sb) (ho : a.on = true → b.on = true) (hK : ∀ (i : Nat) c, a.K[i]? = some c → b.K[i]? = some c) : Ext (butv B v) σ (upS σ v b) := ⟨fun u t hu => by
 by_cases e : u = v
 ·
  subst e
  rw [hv] at hu
  obtain rfl := Option.some.inj hu
  exact ⟨b, upS_same _ _ _, hs, ho, hK, fun h => absurd rfl (butv_of h).2⟩
 ·
  exact ⟨t, by rw [upS_other _ _ _ _ e]; exact hu, rfl, fun h => h, fun _ _ h => h, fun _ => rfl⟩⟩
/-- the key is noted -/
noncomputable def TS.note (t : TS) (k : Nat) (l : List Nat) : TS := { t with S := mset t.S (strV (keyS k l)) (.bool true) }
theorem note_sn {t : TS} {k : Nat} {l : List Nat} (hk : k < 100) (hl : ∀ r ∈ l, r < 100) (e : Nat) (m : List Nat) : (t.note k l).Sn e m ↔ t.Sn e m ∨ (e = k ∧ m = l) := by
 unfold TS.Sn TS.note
 simp only
 constructor
 ·
  rintro ⟨h1, h2, h3⟩
  by_cases e1 : strV (keyS e m) = strV (keyS k l)
  ·
   exact .inr (keyS_inj h1 hk h2 hl (strV_inj e1))
  ·
   rw [mset_other _ _ _ _ e1] at h3
   exact .inl ⟨h1, h2, h3⟩
 ·
  rintro (⟨h1, h2, h3⟩ | ⟨rfl, rfl⟩)
  ·
   refine ⟨h1, h2, ?_⟩
   by_cases e1 : strV (keyS e m) = strV (keyS k l)
   ·
    rw [e1, mset_same]
   ·
    rw [mset_other _ _ _ _ e1]; exact h3
  ·
   exact ⟨hk, hl, mset_same _ _ _⟩
theorem TSP.note {L : LP} {v : Nat} {t : TS} (h : TSP L v t) (hon : t.on = true) {k : Nat} {l : List Nat} (hk : k < 100) (hl : ∀ r ∈ l, r < 100) : TSP L v (t.note k l) :=
 ⟨⟨h.half.pre, h.half.cok, h.half.gt, fun c hc => (note_sn hk hl _ _).2 (.inl (h.half.sn c hc))⟩, h.nd, h.rk, h.rq, h.kl, fun e => by rw [show (t.note k l).on = t.on from rfl, hon] at e; cases e⟩
/-- what an offer makes of a stream -/
def OffT (L : LP) (v : Nat) (t t' : TS) (k : Nat) (l : List Nat) : Prop :=
 t'.K = t.K ∧ t'.sb = t.sb ∧ t'.on = t.on ∧ t'.o = t.o ∧ t'.Kv = t.Kv ∧ (∀ e m, t'.Sn e m ↔ t.Sn e m ∨ (e = k ∧ m = l)) ∧
  ((t'.nx = t.nx ∧ (∀ q, t'.Q q ↔ t.Q q) ∧ (t.Sn k l ∨ Dead L.E k l)) ∨ ∃ d, TrE L.E k l d ∧ FinD L.E v d ∧ t'.nx = t.nx + 1 ∧ ¬ t.Sn k l ∧ ∀ q, t'.Q q ↔ q = ⟨k, l, d⟩ ∨ t.Q q)
/-- what was offered is listed, in the queue, or dead -/
def FrC (L : LP) (t : TS) : Prop := ∀ e l, t.Sn e l → (∃ x, (x ∈ t.K.map toCd ∨ t.Q x) ∧ x.e = e ∧ x.r = l) ∨ Dead L.E e l
theorem OffT.frc {L : LP} {v : Nat} {t t' : TS} {k : Nat} {l : List Nat} (h : OffT L v t t' k l) (hc : FrC L t) : FrC L t' := by
 obtain ⟨h1, _, _, _, _, h2, h3⟩ := h
 intro e m hm
 rw [h1]
 rcases h3 with ⟨_, hq, hd⟩ | ⟨d, hd, _, _, _, hq⟩
 ·
  have key : t.Sn e m ∨ Dead L.E e m := by
   rcases (h2 e m).1 hm with h4 | ⟨rfl, rfl⟩
   ·
    exact .inl h4
   ·
    exact hd
  rcases key with h4 | h4
  ·
   rcases hc e m h4 with ⟨x, hx, hx2⟩ | h5
   ·
    exact .inl ⟨x, hx.imp id (fun hx => (hq x).2 hx), hx2⟩
   ·
    exact .inr h5
  ·
   exact .inr h4
 ·
  rcases (h2 e m).1 hm with h4 | ⟨rfl, rfl⟩
  ·
   rcases hc e m h4 with ⟨x, hx, hx2⟩ | h5
   ·
    exact .inl ⟨x, hx.imp id (fun hx => (hq x).2 (.inr hx)), hx2⟩
   ·
    exact .inr h5
  ·
   exact .inl ⟨⟨e, m, d⟩, .inr ((hq _).2 (.inl rfl)), rfl, rfl⟩
/-- the queue takes a candidate -/
def TS.push (t : TS) (v' : Value) (H' : Nat → EK) : TS := { t with Hv := v', H := H', m := t.m + 1, nx := t.nx + 1 }
theorem push_q {t : TS} {v' : Value} {H' : Nat → EK} {c : CI} (h : ∀ e, (∃ k, k < t.m + 1 ∧ H' k = e) ↔ e = ⟨c, t.nx, t.nx⟩ ∨ ∃ k, k < t.m ∧ t.H k = e) (q : Cd) : (t.push v' H').Q q ↔ q = toCd c ∨ t.Q q := by
 unfold TS.Q TS.push
 simp only
 constructor
 ·
  rintro ⟨i, hi, rfl⟩
  rcases (h (H' i)).1 ⟨i, hi, rfl⟩ with e | ⟨j, hj, e⟩
  ·
   rw [e]; exact .inl rfl
  ·
   rw [← e]; exact .inr ⟨j, hj, rfl⟩
 ·
  rintro (rfl | ⟨j, hj, rfl⟩)
  ·
   obtain ⟨i, hi, e⟩ := (h _).2 (.inl rfl)
   exact ⟨i, hi, by rw [e]⟩
  ·
   obtain ⟨i, hi, e⟩ := (h _).2 (.inr ⟨j, hj, rfl⟩)
   exact ⟨i, hi, by rw [e]⟩
theorem TSP.push {L : LP} {v : Nat} {t : TS} (h : TSP L v t) (hon : t.on = true) {c : CI} {v' : Value} {H' : Nat → EK} (hm : ∀ e, (∃ k, k < t.m + 1 ∧ H' k = e) ↔ e = ⟨c, t.nx, t.nx⟩ ∨ ∃ k, k < t.m ∧ t.H k = e)
  (hp : ∀ P, PW P t.m t.H → (∀ i, i < t.m → P (t.H i) ⟨c, t.nx, t.nx⟩ ∧ P ⟨c, t.nx, t.nx⟩ (t.H i)) → PW P (t.m + 1) H')
  (hco : COK L.E v (toCd c)) (hgt : ∀ x ∈ t.K, cmpD L.E (toDT x.d) (toDT c.d) < 0) (hsn : t.Sn (toCd c).e c.r) (hnd : ∀ i, i < t.m → ¬ ((t.H i).c.d.e = c.d.e ∧ (t.H i).c.r = c.r)) (hr : ∀ r ∈ c.r, r ≤ t.K.length) : TSP L v (t.push v' H') := by
 refine ⟨⟨h.half.pre, fun q hq => ?_, fun x hx q hq => ?_, fun q hq => ?_⟩, ?_, h.rk, fun i hi => ?_, h.kl, fun e => by rw [show (t.push v' H').on = t.on from rfl, hon] at e; cases e⟩
 ·
  rcases hq with hq | hq
  ·
   exact h.half.cok q (.inl hq)
  ·
   rcases (push_q hm q).1 hq with rfl | hq
   ·
    exact hco
   ·
    exact h.half.cok q (.inr hq)
 ·
  rcases (push_q hm q).1 hq with rfl | hq
  ·
   obtain ⟨y, hy, rfl⟩ := List.mem_map.1 hx
   exact hgt y hy
  ·
   exact h.half.gt x hx q hq
 ·
  rcases hq with hq | hq
  ·
   exact h.half.sn q (.inl hq)
  ·
   rcases (push_q hm q).1 hq with rfl | hq
   ·
    exact hsn
   ·
    exact h.half.sn q (.inr hq)
 ·
  exact hp _ h.nd (fun i hi => ⟨fun e => hnd i hi e, fun e => hnd i hi ⟨e.1.symm, e.2.symm⟩⟩)
 ·
  rcases (hm (H' i)).1 ⟨i, hi, rfl⟩ with e | ⟨j, hj, e⟩
  ·
   rw [show (t.push v' H').H i = H' i from rfl, e]; exact hr
  ·
   rw [show (t.push v' H').H i = H' i from rfl, ← e]; exact h.rq j hj
/-- what a call of get hands back -/
def GetR (X : LX) (B : Nat → Bool) (F : Nat → Bool) (w : World) (σ : ST) (t r : Nat) (e : Ending) (w' : World) : Prop :=
 ∃ F' σ', LI X F' w' σ' ∧ IdleAll X.L B σ' ∧ Ext B σ σ' ∧ Fr X F w σ F' w' σ' ∧ ((∃ a c, σ' t = some a ∧ a.K[r]? = some c ∧ e = .returned (.tuple #[cK c, .bool true])) ∨ (ShortD X.L.E t r ∧ e = .returned (.tuple #[cK0, .bool false])))
/-! ### what else keeps the state -/
theorem LI.other {X : LX} {F S : Nat → Bool} {w w' : World} {σ : ST} (h : LI X F w σ) (hf : FutS S w w') (hS : ∀ k, S k = true → k < w.heap.size → ¬ LBs X σ k ∧ F k = false) : LI X F w' σ := by
 have hSF : ∀ k, F k = true → S k = false := fun k hk => by
  cases e : S k with
  | false => rfl
  | true => rw [(hS k e (h.fb k hk)).2] at hk; cases hk
 have hSL : ∀ k, LBs X σ k → S k = false := fun k hk => by
  cases e : S k with
  | false => rfl
  | true => exact absurd hk (hS k e (h.bF hk)).1
 have hK : KpF F w w' := KpF.of_futS h.fb hSF hf
 have hb : ∀ k, F k = true → k < w'.heap.size := fun k hk => Nat.lt_of_lt_of_le (h.fb k hk) hf.size
 obtain ⟨M, hM1, hM2⟩ := h.sm
 exact ⟨h.env.go hK, hb, ⟨M, hM1.futS hf (hSL _ (.inl rfl)), hM2⟩, h.fsm, h.vM, fun u c hc => (h.mem u c hc).keep hf.size (fun k hk => hf.block k ((h.mem u c hc).lt k hk) (hSL k (.inr ⟨u, c, hc, hk⟩))) hK (fun _ e => e) hb (h.mem u c hc).fL, h.pl, h.dj, h.ds, h.kn⟩
theorem Fr.other {X : LX} {F F' S : Nat → Bool} {w w' w'' : World} {σ σ' : ST} (h : Fr X F w σ F' w' σ') (hf : FutS S w' w'') (hS : ∀ k, S k = true → k < w'.heap.size → w.heap.size ≤ k) : Fr X F w σ F' w'' σ' :=
 ⟨⟨hf.os.trans h.f.os, hf.tape.trans h.f.tape, hf.output.trans h.f.output, Nat.le_trans h.f.size hf.size, fun i hi hs => (hf.block i (Nat.lt_of_lt_of_le hi h.f.size) (by
  cases e : S i with
  | false => rfl
  | true => have := hS i e (Nat.lt_of_lt_of_le hi h.f.size); omega)).trans (h.f.block i hi hs)⟩, h.b, h.i, h.n⟩
theorem Fr.frz {X : LX} {F F' G : Nat → Bool} {w w' : World} {σ σ' : ST} (h : Fr X F w σ F' w' σ') (h1 : ∀ k, F' k = true → G k = true) (h2 : ∀ k, G k = true → F' k = true ∨ w.heap.size ≤ k) : Fr X F w σ G w' σ' :=
 ⟨h.f, h.b, fun k hk => h1 k (h.i k hk), fun k hk => by
  rcases h2 k hk with h3 | h3
  ·
   exact h.n k h3
  ·
   exact .inr h3⟩
theorem own_ne_blk {w : World} {B sz n c : Nat} {E T : TypeId} {v : Value} {xs : List Value} {cs : Array Value} (h : w.ownsRow B E sz v n xs) (hb : Blk w c T cs) (hE : E ≠ T) : ∀ g, v.ownBlock = some g → g ≠ c := by
 intro g hg e
 subst e
 rcases h.2 with ⟨hn, _⟩ | ⟨g', cap, cur, rfl, _, hg', _⟩
 ·
  rw [hn] at hg; simp [Value.ownBlock] at hg
 ·
  simp only [Value.ownBlock, Option.some.injEq] at hg
  subst hg
  unfold Blk at hb
  rw [hb] at hg'
  injection hg' with hg'
  injection hg' with _ h2 _
  exact hE h2.symm
theorem own_ne_own {w : World} {B B2 s1 s2 n1 n2 : Nat} {E1 E2 : TypeId} {v1 v2 : Value} {x1 x2 : List Value} (h1 : w.ownsRow B E1 s1 v1 n1 x1) (h2 : w.ownsRow B2 E2 s2 v2 n2 x2) (hE : E1 ≠ E2) : ∀ g, v1.ownBlock = some g → v2.ownBlock ≠ some g := by
 intro g e1 e2
 rcases h1.2 with ⟨hn, _⟩ | ⟨g1, cap, cur, rfl, _, hg1, _⟩
 ·
  rw [hn] at e1; simp [Value.ownBlock] at e1
 ·
  rcases h2.2 with ⟨hn, _⟩ | ⟨g2, cap2, cur2, rfl, _, hg2, _⟩
  ·
   rw [hn] at e2; simp [Value.ownBlock] at e2
  ·
   simp only [Value.ownBlock, Option.some.injEq] at e1 e2
   subst e1 e2
   rw [hg1] at hg2
   injection hg2 with hg2
   injection hg2 with _ h3 _
   exact hE h3
theorem Rd1.keepF {α : Type} {F : Nat → Bool} {w w' : World} {A : Option Addr} {f : α → Value} {l : List α} (h : Rd1 w A f l) (hF : ∀ b o, A = some ⟨b, o, none⟩ → l ≠ [] → F b = true) (hk : KpF F w w') : Rd1 w' A f l := by
 intro i a hi
 obtain ⟨b, o, e, hc⟩ := h i a hi
 exact ⟨b, o, e, hk.cell (hF b o e (fun e2 => by rw [e2] at hi; simp at hi)) hc⟩
section
variable {L : LP} {F : Nat → Bool} {v : Nat} {w w' : World} {t : TS}
/-- the queue's blocks are none of the stream's others -/
theorem TSM.sq (h : TSM L F v w t) : ∀ k, SQ t.qb t.pb t.Hv k = true → k ≠ t.sb ∧ k ≠ t.mb ∧ t.Kv.ownBlock ≠ some k := by
 have hKB := fun k hk => (World.ownsRow.lt h.kown k hk).1
 have hHB := fun k hk => (World.ownsRow.lt h.qk.own k hk).1
 intro k hk
 unfold SQ at hk
 simp only [Bool.or_eq_true, beq_iff_eq] at hk
 rcases hk with (rfl | rfl) | hk
 ·
  refine ⟨fun e => ?_, fun e => h.seen.ne_blk h.qk.q e.symm, fun e => ?_⟩
  ·
   have h1 := h.sblk
   have h2 := h.qk.q
   unfold Blk at h1 h2
   rw [e, h1] at h2
   injection h2 with h2
   injection h2 with _ h3 _
   exact absurd h3 (by decide)
  ·
   have := hKB _ e
   have := h.qk.qB
   omega
 ·
  refine ⟨fun e => ?_, h.pm, fun e => ?_⟩
  ·
   obtain ⟨es, clock, hb, _⟩ := h.qk.mp
   have h1 := h.sblk
   unfold Blk at h1
   rw [e, h1] at hb
   cases hb
  ·
   have := hKB _ e
   have := h.qk.mB
   omega
 ·
  refine ⟨fun e => ?_, fun e => ?_, fun e => own_ne_own h.qk.own h.kown (by decide) k hk e⟩
  ·
   have := hHB _ hk
   have := h.sB
   omega
  ·
   have := hHB _ hk
   have := h.mB
   omega
/-- the queue was turned -/
theorem TSM.queue (h : TSM L F v w t) {v' : Value} {H' : Nat → EK} {m' nx' : Nat} (hf : FutS (SQ t.qb t.pb t.Hv) w w') (hq : QK L F (v : Int) t.cb w' t.qb t.pb t.B v' H' m' nx') (hh : HeapOK (befK L.E) H' m') : TSM L F v w' { t with Hv := v', H := H', m := m', nx := nx' } := by
 have hk : ∀ k, k < w.heap.size → SQ t.qb t.pb t.Hv k = false → w'.heap[k]? = w.heap[k]? := fun k hk hs => hf.block k hk hs
 have hn : ∀ k, (k = t.sb ∨ k = t.mb ∨ t.Kv.ownBlock = some k) → SQ t.qb t.pb t.Hv k = false := fun k hk => by
  cases e : SQ t.qb t.pb t.Hv k with
  | false => rfl
  | true =>
   obtain ⟨h1, h2, h3⟩ := h.sq k e
   rcases hk with hk | hk | hk
   ·
    exact absurd hk h1
   ·
    exact absurd hk h2
   ·
    exact absurd hk h3
 have hKF : KpF F w w' := h.qk.kp hf
 refine ⟨(hk _ h.sblk.lt (hn _ (.inl rfl))).trans h.sblk, hq, hh, ownF_keep h.kown (fun k e => hk k (World.ownsRow.lt h.kown k e).2 (hn k (.inr (.inr e)))), h.seen.of_block (hk _ h.seen.lt (hn _ (.inr (.inl rfl)))), h.sval, h.sB, h.mB, h.pm, fun c hc => (h.ktr c hc).keep hKF (fun _ e => e), h.kok, fun k hkF => ?_⟩
 cases e : TS.LB { t with Hv := v', H := H', m := m', nx := nx' } k with
 | false => rfl
 | true =>
  exfalso
  have key : ∀ j, t.LB j = true → F j = false := fun j hj => by
   cases e2 : F j with
   | false => rfl
   | true => rw [h.fL j e2] at hj; cases hj
  rcases lb_of.1 e with e1 | e1 | e1 | e1
  ·
   rw [e1, key _ (lb_s t)] at hkF; cases hkF
  ·
   rw [e1, key _ (lb_m t)] at hkF; cases hkF
  ·
   rw [key _ (lb_k e1)] at hkF; cases hkF
  ·
   unfold SQ at e1
   simp only [Bool.or_eq_true, beq_iff_eq] at e1
   rcases e1 with (e1 | e1) | e1
   ·
    rw [e1, hq.fq] at hkF; cases hkF
   ·
    rw [e1, hq.fm] at hkF; cases hkF
   ·
    rw [hq.fo k e1] at hkF; cases hkF
end
end Go.Proofs.YtajbmdjlfniofaaDoor
/-
  The enumeration: a candidate offered.
-/
namespace Go.Proofs.YtajbmdjlfniofaaDoor
open Go.RowKit Go.Deep PK
attribute [local go_sem] Oper.lit Oper.litS fut_fut fut_drew World.cell?_alloc_some
attribute [local go_sem] World.frozen?_setCell
theorem slaw : Maps.Keyed Tryd.prog 9 := Maps.string_keyed Tryd.underlying9
theorem keyS_mk {e : Nat} {l : List Nat} (he : e < 100) (hl : ∀ r ∈ l, r < 100) (hn : l.length ≤ 1000) : keyOf Tryd.prog 9 (strV (keyS e l)) = some (.string (keyS e l)) := by
 have h := keyS_len he hl
 have := WideMaps.keyOf_string_mk Tryd.underlying9 (s := ⟨(keyS e l).toArray⟩) (by simp [ByteArray.size, maxLen]; omega)
 simpa using this
theorem zero_bool (w : World) : (zeroValue 4).run Tryd.prog w = .ok (.bool false) w := by kernel_rfl
/-- while the kids are fetched: the candidate's block cb, its kids' row, the values' row -/
structure OJ (X : LX) (B : Nat → Bool) (v : Nat) (F0 : Nat → Bool) (w0 : World) (σ0 : ST) (cb k : Nat) (xt : List Int) (l : List Nat) (rV : Value) (j : Nat) (XA : Option Addr) (Xc : Nat) (YA : Option Addr) (Yc : Nat) (ks : List DI) (F : Nat → Bool) (w : World) (σ : ST) : Prop where
 li : LI X F w σ
 id : IdleAll X.L B σ
 ex : Ext B σ0 σ
 fr : Fr X F0 w0 σ0 F w σ
 c : Blk w cb 66 #[.int .i64 (k : Int), .slice XA j Xc, .int .i64 0, .int .i64 0, rV]
 kl : ks.length = j
 ko : w.ownsRow w0.heap.size 35 2 (.slice XA j Xc) j (ks.flatMap encD)
 vo : w.ownsRow w0.heap.size 37 2 (.slice YA j Yc) j ((ks.map (fun d => val X.L.E (toDT d))).flatMap encV)
 kk : ∀ (i r : Nat) (t : Int) (d : DI), xt[i]? = some t → l[i]? = some r → ks[i]? = some d → ∃ a c, σ t.toNat = some a ∧ a.K[r]? = some c ∧ c.d = d
 cl : ¬ LBs X σ cb
 kx : ∀ g, (Value.slice XA j Xc).ownBlock = some g → ¬ LBs X σ g ∧ F g = false
 vx : ∀ g, (Value.slice YA j Yc).ownBlock = some g → ¬ LBs X σ g ∧ F g = false
 cw : w0.heap.size ≤ cb
 cF : F cb = false
set_option maxHeartbeats 6400000 in
set_option maxRecDepth 4000 in
theorem offerK_any (X : LX) (hX : X.OK) (B : Nat → Bool) (v : Nat) (hB : B v = true) (F : Nat → Bool) (w : World) (σ : ST) (h : LI X F w σ) (hI : IdleAll X.L B σ) (t : TS) (ht : σ v = some t) (hon : t.on = true) (k : Nat) (x : EI) (hx : X.L.es[k]? = some x) (hxv : x.h = (v : Int)) (l : List Nat) (rA : Option Addr) (rc : Nat)
  (hl : l.length = x.t.length) (hl50 : ∀ r ∈ l, r ≤ 50) (hrl : ∀ r ∈ l, r ≤ t.K.length) (hR : Rd1 w rA rkv l) (hRF : ∀ b o, rA = some ⟨b, o, none⟩ → l ≠ [] → F b = true) (hnx : t.nx < 100000) (hgt : ¬ t.Sn k l → ∀ d, TrE X.L.E k l d → FinD X.L.E v d → ∀ c ∈ t.K, cmpD X.L.E (toDT c.d) d < 0)
  (HG : ∀ (i r : Nat) (tt : Int), x.t[i]? = some tt → l[i]? = some r → ∀ F' w' σ', LI X F' w' σ' → IdleAll X.L B σ' → Ext B (upS σ v (t.note k l)) σ' → Calls Tryd.prog 35 #[.pointer (some ⟨X.L.lb, 0, none⟩), .int .i64 tt, rkv r] w' (GetR X B F' w' σ' tt.toNat r)) :
  Calls Tryd.prog 56 #[.pointer (some ⟨X.L.lb, 0, none⟩), .pointer (some ⟨t.sb, 0, none⟩), kI k, .slice rA l.length rc] w fun e w' => (∃ u, e = .returned u) ∧ ∃ F' σ' t', LI X F' w' σ' ∧ IdleAll X.L B σ' ∧ σ' v = some t' ∧ Ext (butv B v) σ σ' ∧ OffT X.L v t t' k l ∧ Fr X F w σ F' w' σ' := by
 have hq : k < X.L.n := by
  have := (List.getElem?_eq_some_iff.1 hx).1
  rw [hX.L.hl] at this; exact this
 have hn12 := hX.L.hn
 have hxm := List.mem_of_getElem? hx
 have hm3 : x.t.length ≤ 3 := hX.L.tl x hxm
 have hk100 : k < 100 := by omega
 have hl100 : ∀ r ∈ l, r < 100 := fun r hr => by have := hl50 r hr; omega
 have hO := okE_parts ((validB_parts hX.L.vd).2.2 x hxm)
 have HXO := Lib.hid hX
 have HI := Lib.hid h
 have HID := Lib.hid hI
 have HT := Lib.hid ht
 have HON := Lib.hid hon
 have HXX := Lib.hid hx
 have HXV := Lib.hid hxv
 have HL5 := Lib.hid hl50
 have HRL := Lib.hid hrl
 have HR := Lib.hid hR
 have HRF := Lib.hid hRF
 have HGT := Lib.hid hgt
 have HGG := Lib.hid HG
 have HBV := Lib.hid hB
 have HK100 := Lib.hid hk100
 have HL100 := Lib.hid hl100
 have HKM := Lib.hid (keyS_mk hk100 hl100 (by omega))
 have HKA := Lib.hid (fun (w' : World) (hr : Rd1 w' rA rkv l) => key_any k rA rc l w' hk100 hl100 (by omega) hr)
 have HO := Lib.hid hO
 obtain ⟨m, hm⟩ : ∃ m, x.t.length = m := ⟨_, rfl⟩
 have HM := Lib.hid hm
 have HLM := Lib.hid (hl.trans hm)
 rw [hl, hm]
 rw [hl, hm] at HKA
 rw [hm] at hm3
 clear h hI ht hon hx hxv hl50 hrl hR hRF hgt HG hB hk100 hl100 hO hxm hl hm hX
 go_enter Tryd.func56, Tryd.ntmps56
 go_wp2_with fail
 refine (HKA.out _ HR.out).mono ?_
 rintro r w1 ⟨rfl, hb⟩
 have HF1 := Lib.hid (show Fut w w1 from hb)
 have HI1 := Lib.hid (HI.out.go HF1.out)
 clear hb
 have HM1 := Lib.hid (HI1.out.mem v t HT.out)
 have s3 := HM1.out.sblk.cell (i := 3) rfl
 have hlk := (HM1.out.seen.lookup slaw Tryd.underlying94 (zero_bool w1) HKM.out).1
 cases hsk : t.S (strV (keyS k l)) with
 | some y =>
  obtain rfl := HM1.out.sval _ _ hsk
  rw [hsk, Option.getD_some] at hlk
  have HSK := Lib.hid hsk
  clear hsk
  go_wp2_with fail
  go_returns
  have hsn : t.Sn k l := ⟨HK100.out, HL100.out, HSK.out⟩
  refine ⟨⟨_, rfl⟩, F, σ, t, HI1.out, HID.out, HT.out, Ext.refl _ _, ⟨rfl, rfl, rfl, rfl, rfl, fun e mm => ⟨.inl, fun h9 => ?_⟩, .inl ⟨rfl, fun _ => Iff.rfl, .inl hsn⟩⟩, Fr.of_fut HF1.out⟩
  rcases h9 with h9 | ⟨rfl, rfl⟩
  ·
   exact h9
  ·
   exact hsn
 | none =>
  rw [hsk, Option.getD_none] at hlk
  have HSK := Lib.hid hsk
  clear hsk
  obtain ⟨b, o, hA, hc⟩ := HI.out.env.now.es.1 k x HXX.out
  have HA := Lib.hid hA
  have HST := Lib.hid (fun (w2 : World) (hm2 : MF Tryd.prog 9 w2 t.mb (mset t.S (strV (keyS k l)) (.bool true))) (hg2 : w1.grownBy w2 (some t.mb)) => (show LI X F w2 (upS σ v (t.note k l)) ∧ Fr X F w σ F w2 (upS σ v (t.note k l)) ∧ w2.cell? ⟨X.L.lb, 1, none⟩ = some (.slice (some ⟨b, o, none⟩) X.L.n X.L.c) ∧ w2.cell? ⟨b, o + k * 5 + 1, none⟩ = some (.slice x.A m x.k) ∧ Rd1 w2 x.A (.int .i64 ·) x.t ∧ Rd1 w2 rA rkv l from by
   have hfs : FutS t.LB w1 w2 := (FutS.refl w1).grown hg2 (fun q hq => .inl (by rw [← Option.some.inj hq]; exact lb_m t))
   have hM := HM1.out
   have hTM : TSM X.L F v w2 (t.note k l) := by
    have hk2 : ∀ q, t.LB q = true → q ≠ t.mb → w2.heap[q]? = w1.heap[q]? := fun q hq hne => hg2.block q (hM.lt q hq) (fun e => hne (Option.some.inj e))
    have hKF : KpF F w1 w2 := KpF.of_futS HI1.out.fb hM.fL hfs
    have hfb : ∀ q, F q = true → q < w2.heap.size := fun q hq => Nat.lt_of_lt_of_le (HI1.out.fb q hq) hg2.size
    have hsq : ∀ q, SQ t.qb t.pb t.Hv q = true → q ≠ t.mb := fun q hq e => by
     subst e
     unfold SQ at hq
     simp only [Bool.or_eq_true, beq_iff_eq] at hq
     rcases hq with (e | e) | e
     ·
      exact hM.seen.ne_blk hM.qk.q e
     ·
      exact hM.pm e.symm
     ·
      have := (World.ownsRow.lt hM.qk.own _ e).1
      have := hM.mB
      omega
    refine ⟨(hk2 _ (lb_s t) (fun e => hM.seen.ne_blk hM.sblk e.symm)).trans hM.sblk, hM.qk.keep hg2.size (fun q hq => hk2 q (lb_q hq) (hsq q hq)) hKF (fun _ e => e) hfb (fun q hq => ?_), hM.heap, ownF_keep hM.kown (fun q hq => hk2 q (lb_k hq) (fun e => ?_)), hm2, fun key y hy => ?_, hM.sB, hM.mB, hM.pm, fun c hc => (hM.ktr c hc).keep hKF (fun _ e => e), hM.kok, hM.fL⟩
    ·
     cases e : SQ t.qb t.pb t.Hv q with
     | false => rfl
     | true => exact absurd (lb_q e) (by rw [hM.fL q hq]; simp)
    ·
     have := (World.ownsRow.lt hM.kown _ hq).1
     have := hM.mB
     omega
    ·
     by_cases e : key = strV (keyS k l)
     ·
      subst e
      have h9 : mset t.S (strV (keyS k l)) (.bool true) (strV (keyS k l)) = some y := hy
      rw [mset_same] at h9
      exact (Option.some.inj h9).symm
     ·
      have h9 : mset t.S (strV (keyS k l)) (.bool true) key = some y := hy
      rw [mset_other _ _ _ _ e] at h9
      exact hM.sval key y h9
   have hLI : LI X F w2 (upS σ v (t.note k l)) := HI1.out.step HT.out hfs (fun _ e => e) (fun _ e => .inl e) (fun q hq => Nat.lt_of_lt_of_le (HI1.out.fb q hq) hg2.size) rfl (fun _ e => .inl e) hTM ((HI1.out.pl v t HT.out).note HON.out HK100.out HL100.out) (Nat.le_refl _) (fun c hc => .inl hc)
   have hE := hLI.env.now
   obtain ⟨b', o', hA', hc'⟩ := hE.es.1 k x HXX.out
   rw [HA.out] at hA'
   have e1 := Option.some.inj hA'
   injection e1 with e1 e2
   subst e1 e2
   have hrd : RdC F w2 ⟨.node 0 none 0 [], ⟨0, 0⟩, l, rA, rc⟩ := RdC.keep (F := F) (w := w1) ⟨.mk RdS.nil (by decide) (fun _ _ h => by cases h) (fun _ h => by simp at h), HR.out.fut HF1.out, HRF.out⟩ (KpF.of_futS HI1.out.fb hM.fL hfs) (fun _ e => e)
   have c1 := hc' 1 _ (by decide) rfl
   rw [HM.out] at c1
   have l1 := hE.lb.cell (i := 1) rfl
   rw [HA.out] at l1
   exact ⟨hLI, (Fr.of_fut HF1.out).trans (Fr.step HT.out hfs (fun _ e => e) (fun _ e => .inl e) (fun _ e => .inl e)), l1, c1, (hE.es.2 x (List.mem_of_getElem? HXX.out)).1, hrd.2.1⟩))
  clear hA hc
  go_wp2_with (at_mapUpdate; refine wpList_fput rfl (.tmp 28) (.tmp 29) (.const (.bool true)) rfl slaw Tryd.underlying94 rfl HM1.out.seen HKM.out rfl rfl ?_; intro w2 hm2 hg2; have HS2 := Lib.hid (HST.out w2 hm2 hg2); have d1 := HS2.out.2.2.1; have d2 := HS2.out.2.2.2.1; clear hm2 hg2)
  obtain ⟨cb, hcb⟩ : ∃ q, q = w2.heap.size := ⟨_, rfl⟩
  rw [← hcb]
  have HLM2 := Lib.hid (show l.length = m from HLM.out)
  have hI2 := HS2.out.1
  have hF2 := HS2.out.2.1
  have hC3 : Blk (w2.alloc (.cells #[.int .i64 (k : Int), .slice none 0 0, .int .i64 0, .int .i64 0, .slice rA m rc] 66)) cb 66 #[.int .i64 (k : Int), .slice none 0 0, .int .i64 0, .int .i64 0, .slice rA m rc] := by rw [hcb]; exact Blk.new _ _ _
  have hJ0 : OJ X B v F w2 (upS σ v (t.note k l)) cb k x.t l (.slice rA m rc) 0 none 0 none 0 [] F (w2.alloc (.cells #[.int .i64 (k : Int), .slice none 0 0, .int .i64 0, .int .i64 0, .slice rA m rc] 66)) (upS σ v (t.note k l)) :=
   ⟨hI2.go ((Fut.refl _).alloc _), HID.out.up HBV.out, Ext.refl _ _, Fr.of_fut ((Fut.refl _).alloc _), hC3, rfl, World.ownsRow_nil _ _ _ _, World.ownsRow_nil _ _ _ _, fun i r t d _ _ h => by simp at h, fun h => by have := hI2.bF h; omega, fun g h => by simp [Value.ownBlock] at h, fun g h => by simp [Value.ownBlock] at h, by omega, by
    cases e : F cb with
    | false => rfl
    | true => have := hI2.fb cb e; omega⟩
  have HJ0 := Lib.hid hJ0
  have HCB := Lib.hid hcb
  have HTA := Lib.hid HS2.out.2.2.2.2.1
  clear hcb hC3 hJ0 hI2 hF2 d1 d2 hlk s3
  generalize w2.alloc (.cells #[.int .i64 (k : Int), .slice none 0 0, .int .i64 0, .int .i64 0, .slice rA m rc] 66) = w3 at *
  obtain ⟨xh, xt, xc, xl0, xl1, xA, xk⟩ := x
  simp only at HM HJ0 HGG HTA HXV HO
  go_loopw [10, 44] (fun y i wr => ∃ (j : Nat) (XA : Option Addr) (Xc : Nat) (YA : Option Addr) (Yc : Nat) (ks : List DI) (F' : Nat → Bool) (σ' : ST), j ≤ m ∧ i = .int .i64 j ∧ y = .slice YA j Yc ∧ Hid (OJ X B v F w2 (upS σ v (t.note k l)) cb k xt l (.slice rA m rc) j XA Xc YA Yc ks F' wr σ')) (fun _ i _ => m - (intOf i).toNat)
  case atStart => exact ⟨0, none, 0, none, 0, [], F, _, Nat.zero_le _, rfl, rfl, HJ0⟩
  case round =>
   obtain ⟨j, XA, Xc, YA, Yc, ks, F', σ', hj, rfl, rfl, HJ⟩ := hrel
   by_cases hlt : j < m
   ·
    obtain ⟨tt, hty⟩ := get_lt HM.out hlt
    obtain ⟨r, hr⟩ := get_lt HLM2.out hlt
    obtain ⟨b2, o2, hxA, hd⟩ := (HJ.out.li.env.now.es.2 _ (List.mem_of_getElem? HXX.out)).1 j tt hty
    simp only at hxA
    have hKF2 : KpF F w2 wr := KpF.of_futS HS2.out.1.fb (fun q hq => by
     cases e : LBb X (upS σ v (t.note k l)) q with
     | false => rfl
     | true => rw [HS2.out.1.nF (LBb_iff.1 e)] at hq; cases hq) HJ.out.fr.f
    obtain ⟨b3, o3, hrA, hd3⟩ := (Rd1.keepF HS2.out.2.2.2.2.2 HRF.out hKF2) j r hr
    have HGJ := Lib.hid (HGG.out j r tt hty hr F' wr σ' HJ.out.li HJ.out.id HJ.out.ex)
    have HTY := Lib.hid hty
    have HRR := Lib.hid hr
    have htt := HO.out.2.2.2.2 tt (List.mem_of_getElem? hty)
    have hrr := HL100.out r (List.mem_of_getElem? hr)
    subst hxA hrA
    clear hty hr hKF2
    go_wp2_with fail
    refine HGJ.out.mono ?_
    rintro e w4 ⟨F4, σ4, li4, id4, ex4, fr4, hres⟩
    have H4 := Lib.hid (And.intro li4 (And.intro id4 (And.intro ex4 fr4)))
    have H4e := Lib.hid (HJ.out.ex.trans ex4)
    clear li4 id4 ex4 fr4
    rcases hres with ⟨a, cc, ha, hca, rfl⟩ | ⟨hsh, rfl⟩
    ·
     have HACC := Lib.hid (And.intro ha hca)
     have hok := (H4.out.1.mem _ a ha).kok cc (List.mem_of_getElem? hca)
     have HVE := Lib.hid hok.2
     obtain ⟨kd, ⟨kvc, kvs⟩, kr, krA, krc⟩ := cc
     simp only at HVE
     have hnl : ∀ q, q < wr.heap.size → ¬ LBs X σ' q → w4.heap[q]? = wr.heap[q]? := fun q hq hn => H4.out.2.2.2.f.block q hq (by
      cases e : LBb X σ' q with
      | false => rfl
      | true => exact absurd (LBb_iff.1 e) hn)
     have hnl4 : ∀ q, q < wr.heap.size → ¬ LBs X σ' q → ¬ LBs X σ4 q := fun q hq hn h4 => by
      rcases H4.out.2.2.2.b q h4 with h5 | h5
      ·
       exact hn h5
      ·
       omega
     have hnf4 : ∀ q, q < wr.heap.size → F' q = false → F4 q = false := fun q hq hn => by
      cases e : F4 q with
      | false => rfl
      | true =>
       rcases H4.out.2.2.2.n q e with h5 | h5
       ·
        rw [hn] at h5; cases h5
       ·
        omega
     have HC4 := Lib.hid (show Blk w4 cb 66 #[.int .i64 (k : Int), .slice XA j Xc, .int .i64 0, .int .i64 0, .slice (some ⟨b3, o3, none⟩) m rc] from (hnl cb HJ.out.c.lt HJ.out.cl).trans HJ.out.c)
     have HCL := Lib.hid (And.intro (hnl4 cb HJ.out.c.lt HJ.out.cl) (hnf4 cb HJ.out.c.lt HJ.out.cF))
     have HKO := Lib.hid (ownF_keep HJ.out.ko (fun q hq => hnl q (World.ownsRow.lt HJ.out.ko q hq).2 (HJ.out.kx q hq).1))
     have HVO := Lib.hid (ownF_keep HJ.out.vo (fun q hq => hnl q (World.ownsRow.lt HJ.out.vo q hq).2 (HJ.out.vx q hq).1))
     have HKX := Lib.hid (show ∀ q, (Value.slice XA j Xc).ownBlock = some q → ¬ LBs X σ4 q ∧ F4 q = false from fun q hq => ⟨hnl4 q (World.ownsRow.lt HJ.out.ko q hq).2 (HJ.out.kx q hq).1, hnf4 q (World.ownsRow.lt HJ.out.ko q hq).2 (HJ.out.kx q hq).2⟩)
     have HVX := Lib.hid (show ∀ q, (Value.slice YA j Yc).ownBlock = some q → ¬ LBs X σ4 q ∧ F4 q = false from fun q hq => ⟨hnl4 q (World.ownsRow.lt HJ.out.vo q hq).2 (HJ.out.vx q hq).1, hnf4 q (World.ownsRow.lt HJ.out.vo q hq).2 (HJ.out.vx q hq).2⟩)
     have HSZ := Lib.hid (show w2.heap.size ≤ w4.heap.size from Nat.le_trans HJ.out.fr.f.size H4.out.2.2.2.f.size)
     have HOK4 := Lib.hid (own_fut HKO.out (((Fut.refl w4).alloc (.cells #[.int .i64 kd.e, .slice kd.A kd.k.length kd.c, .int .i64 kvc, .int .i64 kvs, .slice krA kr.length krc] 66)).alloc (.cells #[.int .i64 kd.e, .slice kd.A kd.k.length kd.c] 35)))
     have q1 := HC4.out.cell (i := 1) rfl
     have HST5 := Lib.hid (fun (g cap : Nat) (w5 : World) (h1 : w5.ownsRow w2.heap.size 35 2 (.slice (some ⟨g, 0, none⟩) (j + 1) cap) (j + 1) (ks.flatMap encD ++ [.int .i64 kd.e, .slice kd.A kd.k.length kd.c])) (h2 : ((w4.alloc (.cells #[.int .i64 kd.e, .slice kd.A kd.k.length kd.c, .int .i64 kvc, .int .i64 kvs, .slice krA kr.length krc] 66)).alloc (.cells #[.int .i64 kd.e, .slice kd.A kd.k.length kd.c] 35)).grownBy w5 (Value.slice XA j Xc).ownBlock) (h3 : (Value.slice XA j Xc).ownBlock = some g ∨ g = ((w4.alloc (.cells #[.int .i64 kd.e, .slice kd.A kd.k.length kd.c, .int .i64 kvc, .int .i64 kvs, .slice krA kr.length krc] 66)).alloc (.cells #[.int .i64 kd.e, .slice kd.A kd.k.length kd.c] 35)).heap.size) =>
      (show (w5.cell? ⟨cb, 1, none⟩ = some (.slice XA j Xc) ∧ w5.frozen? ⟨cb, 1, none⟩ = false) ∧ ((w5.setCell ⟨cb, 1, none⟩ (.slice (some ⟨g, 0, none⟩) (j + 1) cap)).cell? ⟨w4.heap.size, 2, none⟩ = some (.int .i64 kvc) ∧ (w5.setCell ⟨cb, 1, none⟩ (.slice (some ⟨g, 0, none⟩) (j + 1) cap)).cell? ⟨w4.heap.size, 3, none⟩ = some (.int .i64 kvs)) ∧
       ((w5.setCell ⟨cb, 1, none⟩ (.slice (some ⟨g, 0, none⟩) (j + 1) cap)).alloc (.cells #[.int .i64 kvc, .int .i64 kvs] 37)).ownsRow w2.heap.size 37 2 (.slice YA j Yc) j ((ks.map (fun d => val X.L.E (toDT d))).flatMap encV) ∧ w2.heap.size ≤ ((w5.setCell ⟨cb, 1, none⟩ (.slice (some ⟨g, 0, none⟩) (j + 1) cap)).alloc (.cells #[.int .i64 kvc, .int .i64 kvs] 37)).heap.size ∧
       ((w5.setCell ⟨cb, 1, none⟩ (.slice (some ⟨g, 0, none⟩) (j + 1) cap)).alloc (.cells #[.int .i64 kvc, .int .i64 kvs] 37)).ownsRow w2.heap.size 35 2 (.slice (some ⟨g, 0, none⟩) (j + 1) cap) (j + 1) ((ks ++ [kd]).flatMap encD) ∧
       Blk ((w5.setCell ⟨cb, 1, none⟩ (.slice (some ⟨g, 0, none⟩) (j + 1) cap)).alloc (.cells #[.int .i64 kvc, .int .i64 kvs] 37)) cb 66 #[.int .i64 (k : Int), .slice (some ⟨g, 0, none⟩) (j + 1) cap, .int .i64 0, .int .i64 0, .slice (some ⟨b3, o3, none⟩) m rc] ∧
       FutS (fun q => q == cb || (Value.slice XA j Xc).ownBlock == some q) w4 ((w5.setCell ⟨cb, 1, none⟩ (.slice (some ⟨g, 0, none⟩) (j + 1) cap)).alloc (.cells #[.int .i64 kvc, .int .i64 kvs] 37)) ∧ (¬ LBs X σ4 g ∧ F4 g = false) from by
      have hcr := own_ne_blk HKO.out HC4.out (by decide)
      have hB5 : Blk w5 cb 66 #[.int .i64 (k : Int), .slice XA j Xc, .int .i64 0, .int .i64 0, .slice (some ⟨b3, o3, none⟩) m rc] := ((HC4.out.alloc _).alloc _).grown h2 (fun e => hcr cb e.symm rfl)
      have hkb : Blk (w4.alloc (.cells #[.int .i64 kd.e, .slice kd.A kd.k.length kd.c, .int .i64 kvc, .int .i64 kvs, .slice krA kr.length krc] 66)) w4.heap.size 66 #[.int .i64 kd.e, .slice kd.A kd.k.length kd.c, .int .i64 kvc, .int .i64 kvs, .slice krA kr.length krc] := Blk.new _ _ _
      have hcl : cb < w4.heap.size := HC4.out.lt
      have hk5 := ((hkb.alloc (.cells #[.int .i64 kd.e, .slice kd.A kd.k.length kd.c] 35)).grown h2 (fun e => by have := (World.ownsRow.lt HKO.out _ e.symm).2; omega)).setOther (a := ⟨cb, 1, none⟩) (show w4.heap.size ≠ cb by omega) (.slice (some ⟨g, 0, none⟩) (j + 1) cap)
      have hgne : g ≠ cb := own_ne_blk h1 hB5 (by decide) g rfl
      have hv5 : w5.ownsRow w2.heap.size 37 2 (.slice YA j Yc) j ((ks.map (fun d => val X.L.E (toDT d))).flatMap encV) := ownF_keep (own_fut HVO.out (((Fut.refl w4).alloc (.cells #[.int .i64 kd.e, .slice kd.A kd.k.length kd.c, .int .i64 kvc, .int .i64 kvs, .slice krA kr.length krc] 66)).alloc (.cells #[.int .i64 kd.e, .slice kd.A kd.k.length kd.c] 35))) (fun q hq => h2.block q (by have := (World.ownsRow.lt HVO.out q hq).2; simp only [World.size_alloc]; omega) (fun e => own_ne_own HKO.out HVO.out (by decide) q e.symm hq))
      have hsz : w4.heap.size ≤ w5.heap.size := by have := h2.size; simp only [World.size_alloc] at this; omega
      have hvr := own_ne_blk HVO.out HC4.out (by decide)
      refine ⟨⟨hB5.cell rfl, hB5.fz 1⟩, ⟨hk5.cell rfl, hk5.cell rfl⟩, World.ownsRow.alloc (World.ownsRow.kept hv5 (grown_set w5 ⟨cb, 1, none⟩ _) ?_) _, ?_, ?_, (hB5.set 1 _).alloc _, ?_, ?_⟩
      ·
       cases hv9 : (Value.slice YA j Yc).ownBlock with
       | none => exact .inl rfl
       | some q => exact .inr (fun e => hvr q hv9 (Option.some.inj e))
      ·
       rw [World.size_alloc, World.size_setCell]; have := HSZ.out; omega
      ·
       refine World.ownsRow.alloc (World.ownsRow.kept ?_ (grown_set w5 ⟨cb, 1, none⟩ _) (.inr (by simp only [Value.ownBlock]; intro e; exact hgne (Option.some.inj e)))) _
       rw [List.flatMap_append]
       simpa [encD] using h1
      ·
       refine FutS.alloc (FutS.setCell (FutS.grown ((FutS.refl w4).then (((Fut.refl w4).alloc (.cells #[.int .i64 kd.e, .slice kd.A kd.k.length kd.c, .int .i64 kvc, .int .i64 kvs, .slice krA kr.length krc] 66)).alloc (.cells #[.int .i64 kd.e, .slice kd.A kd.k.length kd.c] 35))) h2 (fun q hq => .inl (by simp [hq]))) (.inl (by simp)) _) _
      ·
       rcases h3 with h3 | h3
       ·
        exact HKX.out g h3
       ·
        simp only [World.size_alloc] at h3
        refine ⟨fun h => by have := H4.out.1.bF h; omega, ?_⟩
        cases e : F4 g with
        | false => rfl
        | true => have := H4.out.1.fb g e; omega))
     clear ha hca hok hnl hnl4 hnf4
     go_wp2_with (first | (at_builtin; refine wpList_push rfl 28 35 2 32 _ Tryd.underlying28 info_dd rfl (by decide) (by decide) (.tmp 63) (.tmp 66) rfl w2.heap.size (.slice XA j Xc) j _ rfl HOK4.out (w4.heap.size + 1) [.int .i64 kd.e, .slice kd.A kd.k.length kd.c] rfl (heap_new' _ _ _ (by simp only [World.size_alloc])) rfl (by simp [Value.oneCell']) (by omega) (by have := HSZ.out; simp only [World.size_alloc]; omega) ?_; intro g cap w5 h1 h2 h3; have HP5 := Lib.hid (HST5.out g cap w5 h1 h2 h3); have u1 := HP5.out.1.1; have f1 := HP5.out.1.2; have u2 := HP5.out.2.1.1; have u3 := HP5.out.2.1.2; clear h1 h2 h3) | (at_builtin; refine wpList_push rfl 56 37 2 16 _ Tryd.underlying56 info_vv rfl (by decide) (by decide) (.tmp 70) (.tmp 73) rfl w2.heap.size (.slice YA j Yc) j _ rfl HP5.out.2.2.1 _ [.int .i64 kvc, .int .i64 kvs] rfl (heap_new' _ _ _ (by simp only [World.size_setCell])) rfl (by simp [Value.oneCell']) (by omega) HP5.out.2.2.2.1 ?_; intro g6 cap6 w7 p1 p2 p3))
     have hcbB := HP5.out.2.2.2.2.2.1
     have hvB := HP5.out.2.2.1
     have hvc := own_ne_blk hvB hcbB (by decide)
     have hko := HP5.out.2.2.2.2.1
     have hkv := own_ne_own hko hvB (by decide)
     have hFS : FutS (fun q => q == cb || (Value.slice XA j Xc).ownBlock == some q || (Value.slice YA j Yc).ownBlock == some q) w4 w7 := (HP5.out.2.2.2.2.2.2.1.mono (fun q hq => .inl (by simp only [Bool.or_eq_true] at hq ⊢; exact .inl hq))).grown p2 (fun q hq => .inl (by simp [hq]))
     have hSq : ∀ q, (q == cb || (Value.slice XA j Xc).ownBlock == some q || (Value.slice YA j Yc).ownBlock == some q) = true → q = cb ∨ (Value.slice XA j Xc).ownBlock = some q ∨ (Value.slice YA j Yc).ownBlock = some q := fun q hq => by
      simp only [Bool.or_eq_true, beq_iff_eq] at hq
      rcases hq with (hq | hq) | hq
      ·
       exact .inl hq
      ·
       exact .inr (.inl hq)
      ·
       exact .inr (.inr hq)
     refine ⟨⟨j + 1, some ⟨g, 0, none⟩, cap, some ⟨g6, 0, none⟩, cap6, ks ++ [kd], F4, σ4, by omega, by go_num, rfl, Lib.hid ⟨H4.out.1.other hFS (fun q hq hql => ?_), H4.out.2.1, H4e.out, (HJ.out.fr.trans H4.out.2.2.2).other hFS (fun q hq hql => ?_), hcbB.grown p2 (fun e => hvc cb e.symm rfl), by rw [List.length_append, HJ.out.kl]; rfl, ownF_keep hko (fun q hq => p2.block q (World.ownsRow.lt hko q hq).2 (fun e => hkv q hq e.symm)), ?_, fun i r' t' d g1 g2 g3 => ?_, HCL.out.1, fun q hq => ?_, fun q hq => ?_, HJ.out.cw, HCL.out.2⟩⟩, by simp [intOf]; omega⟩
     ·
      rcases hSq q hq with rfl | h5 | h5
      ·
       exact HCL.out
      ·
       exact HKX.out q h5
      ·
       exact HVX.out q h5
     ·
      rcases hSq q hq with rfl | h5 | h5
      ·
       exact HJ.out.cw
      ·
       exact (World.ownsRow.lt HKO.out q h5).1
      ·
       exact (World.ownsRow.lt HVO.out q h5).1
     ·
      rw [List.map_append, List.flatMap_append]
      simp only [List.map_cons, List.map_nil, ← HVE.out]
      simpa [encV] using p1
     ·
      rcases Nat.lt_or_ge i ks.length with h5 | h5
      ·
       rw [List.getElem?_append_left h5] at g3
       obtain ⟨a', c', h6, h7, h8⟩ := HJ.out.kk i r' t' d g1 g2 g3
       obtain ⟨a4, h9, _, _, h10, _⟩ := H4.out.2.2.1.k _ _ h6
       exact ⟨a4, c', h9, h10 _ _ h7, h8⟩
      ·
       rw [List.getElem?_append_right h5] at g3
       have h6 := (List.getElem?_eq_some_iff.1 g3).1
       simp only [List.length_singleton] at h6
       have h7 : i = j := by rw [← HJ.out.kl]; omega
       subst h7
       rw [show i - ks.length = 0 by omega] at g3
       simp at g3
       subst g3
       rw [HTY.out] at g1
       rw [HRR.out] at g2
       obtain rfl := Option.some.inj g1
       obtain rfl := Option.some.inj g2
       exact ⟨a, _, HACC.out.1, HACC.out.2, rfl⟩
     ·
      simp only [Value.ownBlock, Option.some.injEq] at hq
      subst hq
      exact HP5.out.2.2.2.2.2.2.2
     ·
      simp only [Value.ownBlock, Option.some.injEq] at hq
      subst hq
      rcases p3 with h5 | h5
      ·
       exact HVX.out g6 h5
      ·
       have h8 := HP5.out.2.2.2.2.2.2.1.size
       refine ⟨fun h6 => ?_, ?_⟩
       ·
        have h7 := H4.out.1.bF h6
        omega
       ·
        cases e : F4 g6 with
        | false => rfl
        | true => have := H4.out.1.fb g6 e; omega
    ·
     have HSH := Lib.hid hsh
     clear hsh
     go_wp2_with fail
     go_returns
     have e4 : σ4 v = some (t.note k l) := by
      obtain ⟨t', h1, _, _, _, h5⟩ := H4e.out.k v _ (upS_same _ _ _)
      rw [h1, h5 HBV.out]
     refine ⟨⟨_, rfl⟩, F4, σ4, t.note k l, H4.out.1.go ((Fut.refl _).alloc _), H4.out.2.1, e4, (Ext.up (B := B) (b := t.note k l) HT.out rfl (fun h => h) (fun _ _ h => h)).trans (H4e.out.mono (fun u hu => (butv_of hu).1)), ⟨rfl, rfl, rfl, rfl, rfl, note_sn HK100.out HL100.out, .inl ⟨rfl, fun _ => Iff.rfl, .inr (.inl ⟨toEE ⟨xh, xt, xc, xl0, xl1, some ⟨b2, o2, none⟩, xk⟩, j, tt.toNat, r, ?_, ?_, HRR.out, HSH.out⟩)⟩⟩, ((HS2.out.2.1.trans HJ.out.fr).trans H4.out.2.2.2).trans (Fr.of_fut ((Fut.refl _).alloc _))⟩
     ·
      rw [List.getElem?_map, HXX.out]; rfl
     ·
      unfold toEE
      simp only [List.getElem?_map, HTY.out]
      rfl
   ·
    have hjm : m = j := by omega
    subst hjm
    have hE := HJ.out.li.env.now
    obtain ⟨b', o', hA', hc'⟩ := hE.es.1 k _ HXX.out
    rw [HA.out] at hA'
    have e1 := Option.some.inj hA'
    injection e1 with e1 e2
    subst e1 e2
    have c2 := hc' 2 _ (by decide) rfl
    have l1 := hE.lb.cell (i := 1) rfl
    rw [HA.out] at l1
    have hEk : X.L.E[k]? = some (toEE ⟨xh, xt, xc, xl0, xl1, xA, xk⟩) := by rw [List.getElem?_map, HXX.out]; rfl
    have hTr : TrE X.L.E k l (.node (k : Int) (ks.map toDT)) := by
     refine ⟨_, _, hEk, rfl, by rw [List.length_map, HJ.out.kl]; simp [toEE, HM.out], by rw [HLM2.out]; simp [toEE, HM.out], fun i t' r d g1 g2 g3 => ?_⟩
     unfold toEE at g1
     simp only [List.getElem?_map] at g1 g3
     obtain ⟨tz, g4, rfl⟩ := Option.map_eq_some_iff.1 g1
     obtain ⟨dz, g5, rfl⟩ := Option.map_eq_some_iff.1 g3
     obtain ⟨a', c', g6, g7, g8⟩ := HJ.out.kk i r tz dz g4 g2 g5
     have g9 := (HJ.out.li.pl _ a' g6).half.pre.nth (r := r) (d := toDT dz) (by rw [List.getElem?_map, List.getElem?_map, g7]; simp [toCd, g8])
     exact g9
    have HTR := Lib.hid hTr
    have hval : val X.L.E (.node (k : Int) (ks.map toDT)) = comb xc (ks.map (fun d => val X.L.E (toDT d))) := by
     rw [val_node HXX.out, List.map_map]; rfl
    have HCO := Lib.hid (combine_any xc YA m Yc (ks.map (fun d => val X.L.E (toDT d))) wr (by rw [List.length_map, HJ.out.kl]) (by unfold maxLen; omega) ⟨HO.out.2.2.1, HO.out.2.2.2.1⟩ (fun v hv => by
     obtain ⟨d, _, rfl⟩ := List.mem_map.1 hv
     exact val_ok (EEs_ok HXO.out.L.vd) _) (RdS.of_own (enc := encV) encV_len (by decide) HJ.out.vo))
    generalize hz : comb xc (ks.map (fun d => val X.L.E (toDT d))) = z at HCO hval
    have HVL := Lib.hid hval
    obtain ⟨zc, zs⟩ := z
    clear hE hA' hc' hEk hTr hval hz
    go_wp2_with fail
    refine HCO.out.mono ?_
    rintro r w9 ⟨rfl, hb⟩
    have HF9 := Lib.hid (show Fut wr w9 from hb)
    clear hb
    have hC9 := HJ.out.c.fut HF9.out
    have HC10 := Lib.hid ((hC9.set 2 (.int .i64 zc)).set 3 (.int .i64 zs))
    have HF10 := Lib.hid (show FutS (fun q => q == cb) w9 ((w9.setCell ⟨cb, 2, none⟩ (.int .i64 zc)).setCell ⟨cb, 3, none⟩ (.int .i64 zs)) from ((FutS.refl w9).setCell (a := ⟨cb, 2, none⟩) (.inl (by simp)) _).setCell (a := ⟨cb, 3, none⟩) (.inl (by simp)) _)
    have u2 := hC9.cell (i := 2) rfl
    have u3 := hC9.cell (i := 3) rfl
    have f2 := hC9.fz 2
    have f3 := hC9.fz 3
    have u4 := HC10.out.cell (i := 2) rfl
    have hLI10 : LI X F' ((w9.setCell ⟨cb, 2, none⟩ (.int .i64 zc)).setCell ⟨cb, 3, none⟩ (.int .i64 zs)) σ' := (HJ.out.li.go HF9.out).other HF10.out (fun q hq _ => by rw [show q = cb by simpa using hq]; exact ⟨HJ.out.cl, HJ.out.cF⟩)
    have HLI := Lib.hid hLI10
    have hFr10 : Fr X F w2 (upS σ v (t.note k l)) F' ((w9.setCell ⟨cb, 2, none⟩ (.int .i64 zc)).setCell ⟨cb, 3, none⟩ (.int .i64 zs)) σ' := (HJ.out.fr.trans (Fr.of_fut HF9.out)).other HF10.out (fun q hq _ => by rw [show q = cb by simpa using hq]; exact HJ.out.cw)
    have HFR := Lib.hid hFr10
    have e4 : σ' v = some (t.note k l) := by
     obtain ⟨t', h1, _, _, _, h5⟩ := HJ.out.ex.k v _ (upS_same _ _ _)
     rw [h1, h5 HBV.out]
    have HE4 := Lib.hid e4
    have hEX : Ext (butv B v) σ σ' := (Ext.up (B := B) (b := t.note k l) HT.out rfl (fun h => h) (fun _ _ h => h)).trans (HJ.out.ex.mono (fun u hu => (butv_of hu).1))
    have HEX := Lib.hid hEX
    have HKO := Lib.hid (show ((w9.setCell ⟨cb, 2, none⟩ (.int .i64 zc)).setCell ⟨cb, 3, none⟩ (.int .i64 zs)).ownsRow w2.heap.size 35 2 (.slice XA m Xc) m (ks.flatMap encD) from ownF_keep (own_fut HJ.out.ko HF9.out) (fun q hq => HF10.out.block q (World.ownsRow.lt (own_fut HJ.out.ko HF9.out) q hq).2 (by
     have := own_ne_blk HJ.out.ko HJ.out.c (by decide) q hq
     simpa using this)))
    clear hC9 hLI10 hFr10 e4 hEX c2 l1
    by_cases hfin : zc < 1099511627776
    ·
     have HFIN := Lib.hid hfin
     go_wp2_with fail
     generalize (w9.setCell ⟨cb, 2, none⟩ (.int .i64 zc)).setCell ⟨cb, 3, none⟩ (.int .i64 zs) = w10 at *
     have HKX := Lib.hid HJ.out.kx
     have HKK := Lib.hid HJ.out.kk
     have HKL := Lib.hid HJ.out.kl
     have HJI := Lib.hid HJ.out.id
     obtain ⟨G, hG⟩ : ∃ G : Nat → Bool, G = fun q => F' q || (Value.slice XA m Xc).ownBlock == some q := ⟨_, rfl⟩
     have hFG : ∀ q, F' q = true → G q = true := fun q hq => by rw [hG]; simp [hq]
     have hGF : ∀ q, G q = true → F' q = true ∨ (Value.slice XA m Xc).ownBlock = some q := fun q hq => by
      rw [hG] at hq
      simpa using hq
     have hGo : ∀ q, (Value.slice XA m Xc).ownBlock = some q → G q = true := fun q hq => by rw [hG]; simp [hq]
     clear hG
     have hLG : LI X G w10 σ' := HLI.out.frz hFG (fun q hq => by
      rcases hGF q hq with h1 | h1
      ·
       exact .inl h1
      ·
       exact .inr ⟨(World.ownsRow.lt HKO.out q h1).2, (HKX.out q h1).1⟩)
     have hFG10 : Fr X F w2 (upS σ v (t.note k l)) G w10 σ' := HFR.out.frz hFG (fun q hq => by
      rcases hGF q hq with h1 | h1
      ·
       exact .inl h1
      ·
       exact .inr (World.ownsRow.lt HKO.out q h1).1)
     have hM : TSM X.L G v w10 (t.note k l) := hLG.mem v _ HE4.out
     have hrk : Rd1 w10 rA rkv l := Rd1.keepF HS2.out.2.2.2.2.2 HRF.out (KpF.of_futS HS2.out.1.fb (fun q hq => by
      cases e : LBb X (upS σ v (t.note k l)) q with
      | false => rfl
      | true => rw [HS2.out.1.nF (LBb_iff.1 e)] at hq; cases hq) HFR.out.f)
     have hxr : RdC G w10 ⟨.node (k : Int) XA Xc ks, ⟨zc, zs⟩, l, rA, rc⟩ := by
      refine ⟨.mk (RdS.of_own (enc := encD) (n := m) encD_len (by decide) HKO.out) (by rw [HKL.out]; unfold maxLen; omega) (fun b o hA hne => hGo b (by rw [hA]; rfl)) (fun d hd => ?_), hrk, fun b o e hne => hFG b (HFR.out.i b (HRF.out b o e hne))⟩
      obtain ⟨i, hi⟩ := List.getElem?_of_mem hd
      have hil := (List.getElem?_eq_some_iff.1 hi).1
      rw [HKL.out] at hil
      obtain ⟨tz, htz⟩ := get_lt HM.out hil
      obtain ⟨rz, hrz⟩ := get_lt HLM2.out hil
      obtain ⟨a', c', h1, h2, h3⟩ := HKK.out i rz tz d htz hrz hi
      rw [← h3]
      exact ((hLG.mem _ a' h1).ktr c' (List.mem_of_getElem? h2)).1
     have hvalid : PK.validD X.L.E (.node (k : Int) (ks.map toDT)) (v : Int) = true := HTR.out.valid (show X.L.E[k]? = some (toEE ⟨xh, xt, xc, xl0, xl1, xA, xk⟩) by rw [List.getElem?_map, HXX.out]; rfl) (by unfold toEE; simp only; have := HXV.out; omega)
     have hxo : okC X.L (v : Int) ⟨.node (k : Int) XA Xc ks, ⟨zc, zs⟩, l, rA, rc⟩ := by
      refine ⟨?_, ?_⟩
      ·
       simp only [toDT_eq]; exact hvalid
      ·
       simp only [toDT_eq]; exact HVL.out.symm
     have hcK : cK ⟨.node (k : Int) XA Xc ks, ⟨zc, zs⟩, l, rA, rc⟩ = .agg #[.int .i64 (k : Int), .slice XA m Xc, .int .i64 zc, .int .i64 zs, .slice rA m rc] := by
      show (.agg #[.int .i64 (k : Int), .slice XA ks.length Xc, .int .i64 zc, .int .i64 zs, .slice rA l.length rc] : Value) = _
      rw [HKL.out, HLM2.out]
     have HPU := Lib.hid (fun (w' : World) (hf : Fut w10 w') => pushK_any HXO.out.L ((show QK X.L G (v : Int) t.cb w10 t.qb t.pb t.B t.Hv t.H t.m t.nx from hM.qk).go hf) hM.heap (by omega) _ (hxr.keep (KpF.of_fut hLG.fb hf) (fun _ e => e)) hxo)
     rw [hcK] at HPU
     have s1 : w10.cell? ⟨t.sb, 1, none⟩ = some (.pointer (some ⟨t.qb, 0, none⟩)) := hM.sblk.cell (i := 1) rfl
     have x1 := cell_fut s1
     have y0 := cell_fut (HC10.out.cell (i := 0) rfl)
     have y1 := cell_fut (HC10.out.cell (i := 1) rfl)
     have y2 := cell_fut (HC10.out.cell (i := 2) rfl)
     have y3 := cell_fut (HC10.out.cell (i := 3) rfl)
     have y4 := cell_fut (HC10.out.cell (i := 4) rfl)
     have HLG := Lib.hid hLG
     have HFG10 := Lib.hid hFG10
     have HMM := Lib.hid hM
     have HXR := Lib.hid hxr
     have HXOK := Lib.hid hxo
     have HVA := Lib.hid hvalid
     clear hLG hFG10 hM hrk hxr hvalid hxo hcK s1 hFG hGF hGo
     refine wp_region_M o_kbest_lister_offer_15 (by kernel_rfl) (by kernel_rfl) (by intro c a d v w h; cases d <;> exact h) ?_; unfold o_kbest_lister_offer_15
     iterate 5 (refine wpF_h rfl rfl (fun K hK => ?_); go_simp; refine hK _ _ ?_; clear hK K)
     refine wpF_ol rfl (by kernel_rfl) rfl (fun K hK => ?_)
     go_simp
     go_at_call 64
     refine (HPU.out _ (Fut.refl w10).drew).mono ?_
     rintro r w11 ⟨⟨u, rfl⟩, ⟨v', H', q1, q2, q3, q4, g, cap, q5, q6⟩, q7⟩
     refine hK _ _ ?_
     clear hK K
     have HQ := Lib.hid (And.intro q1 (And.intro q2 (And.intro q3 (And.intro q4 (And.intro q5 (And.intro q6 q7))))))
     clear q1 q2 q3 q4 q5 q6 q7
     refine wpF_nil ?_
     go_wp2_with fail
     go_returns
     obtain ⟨q1, q2, q3, q4, q5, q6, q7⟩ := HQ.out
     have hsn : ¬ t.Sn k l := fun h => by
      have := h.2.2
      rw [HSK.out] at this
      cases this
     have hcd : toCd ⟨.node (k : Int) XA Xc ks, ⟨zc, zs⟩, l, rA, rc⟩ = ⟨k, l, .node (k : Int) (ks.map toDT)⟩ := by
      simp only [toCd, toDT_eq, DI.e, Int.toNat_natCast]
     have hfd : FinD X.L.E v (.node (k : Int) (ks.map toDT)) := ⟨HVA.out, by rw [HVL.out]; exact HFIN.out⟩
     have hTSP : TSP X.L v ((t.note k l).push v' H') := by
      refine (HLG.out.pl v _ HE4.out).push HON.out q3 q4 ?_ (fun c hc => ?_) ?_ (fun i hi => fun h => ?_) HRL.out
      ·
       rw [hcd]; exact ⟨HTR.out, hfd⟩
      ·
       simp only [toDT_eq]
       exact HGT.out hsn _ HTR.out hfd c hc
      ·
       rw [hcd]; exact (note_sn HK100.out HL100.out _ _).2 (.inr ⟨rfl, rfl⟩)
      ·
       have h1 := (HI.out.pl v t HT.out).half.sn (toCd (t.H i).c) (.inr ⟨i, hi, rfl⟩)
       have h2 : toCd (t.H i).c = ⟨k, l, toDT (t.H i).c.d⟩ := by
        have h3 : (t.H i).c.d.e = (k : Int) := h.1
        have h4 : (t.H i).c.r = l := h.2
        simp only [toCd, h3, h4, Int.toNat_natCast]
       rw [h2] at h1
       exact hsn h1
     have hTSM : TSM X.L G v w11 ((t.note k l).push v' H') := (HMM.out.keep (Nat.le_refl _) (fun _ _ => rfl) (KpF.refl _ _) (fun _ e => e) HLG.out.fb HMM.out.fL : TSM X.L G v w10.drew (t.note k l)).queue q7 q1 q2
     have hLB : ∀ q, ((t.note k l).push v' H').LB q = true → (t.note k l).LB q = true ∨ w10.heap.size ≤ q := fun q hq => by
      rcases lb_of.1 hq with h1 | h1 | h1 | h1
      ·
       rw [h1]; exact .inl (lb_s (t.note k l))
      ·
       rw [h1]; exact .inl (lb_m (t.note k l))
      ·
       exact .inl (lb_k (t := t.note k l) h1)
      ·
       unfold SQ at h1
       simp only [Bool.or_eq_true, beq_iff_eq] at h1
       rcases h1 with (h1 | h1) | h1
       ·
        rw [h1]; exact .inl (lb_q (t := t.note k l) sq_q)
       ·
        rw [h1]; exact .inl (lb_q (t := t.note k l) sq_m)
       ·
        rw [show ((t.note k l).push v' H').Hv = v' from rfl, q5] at h1
        simp only [Value.ownBlock, Option.some.injEq] at h1
        subst h1
        rcases q6 with h2 | h2
        ·
         exact .inl (lb_q (t := t.note k l) (by simp [SQ, show (t.note k l).Hv = t.Hv from rfl, h2]))
        ·
         exact .inr h2
     have hfs : FutS (t.note k l).LB w10 w11 := ⟨q7.os, q7.tape, q7.output, q7.size, fun q hq hn => q7.block q hq (by
      cases e : SQ t.qb t.pb t.Hv q with
      | false => rfl
      | true => rw [lb_q (t := t.note k l) e] at hn; cases hn)⟩
     have hLI := HLG.out.step (b := (t.note k l).push v' H') HE4.out hfs (fun _ e => e) (fun _ e => .inl e) (fun q hq => Nat.lt_of_lt_of_le (HLG.out.fb q hq) q7.size) rfl hLB hTSM hTSP (Nat.le_refl _) (fun c hc => by
      rcases hc with hc | ⟨i, hi, hc⟩
      ·
       exact .inl (.inl hc)
      ·
       rcases (q3 (H' i)).1 ⟨i, hi, rfl⟩ with e | ⟨j, hj, e⟩
       ·
        right
        rw [← hc, show ((t.note k l).push v' H').H i = H' i from rfl, e]
        intro E i t' r g1 g2 g3
        have hEk : X.L.E[k]? = some (toEE ⟨xh, xt, xc, xl0, xl1, xA, xk⟩) := by rw [List.getElem?_map, HXX.out]; rfl
        simp only [DI.e, Int.toNat_natCast] at g1
        rw [hEk] at g1
        obtain rfl := Option.some.inj g1
        unfold toEE at g2
        simp only [List.getElem?_map] at g2
        obtain ⟨tz, g4, rfl⟩ := Option.map_eq_some_iff.1 g2
        have hil : i < ks.length := by rw [HKL.out, ← HM.out]; exact (List.getElem?_eq_some_iff.1 g4).1
        obtain ⟨a', c', g6, g7, _⟩ := HKK.out i r tz _ g4 g3 (List.getElem?_eq_getElem hil)
        exact .inr ⟨a', g6, (List.getElem?_eq_some_iff.1 g7).1⟩
       ·
        left; right
        exact ⟨j, hj, by rw [← hc, show ((t.note k l).push v' H').H i = H' i from rfl, ← e]; rfl⟩)
     refine ⟨⟨_, rfl⟩, G, upS σ' v ((t.note k l).push v' H'), (t.note k l).push v' H', hLI, HJI.out.up HBV.out, upS_same _ _ _, HEX.out.trans (Ext.up (B := B) HE4.out rfl (fun h => h) (fun _ _ h => h)), ⟨rfl, rfl, rfl, rfl, rfl, note_sn HK100.out HL100.out, .inr ⟨_, HTR.out, hfd, rfl, hsn, fun q => ?_⟩⟩, (HS2.out.2.1.trans HFG10.out).trans (Fr.step HE4.out hfs (fun _ e => e) (fun _ e => .inl e) hLB)⟩
     rw [push_q (t := t.note k l) q3 q, hcd]
     exact Iff.rfl
    ·
     have HFN := Lib.hid (show ¬ zc < INF from hfin)
     go_wp2_with fail
     go_returns
     exact ⟨⟨_, rfl⟩, F', σ', t.note k l, HLI.out, HJ.out.id, HE4.out, HEX.out, ⟨rfl, rfl, rfl, rfl, rfl, note_sn HK100.out HL100.out, .inl ⟨rfl, fun _ => Iff.rfl, .inr (.inr ⟨_, HTR.out, by rw [HVL.out]; have h9 := HFN.out; show ¬ zc < INF; omega⟩)⟩⟩, HS2.out.2.1.trans HFR.out⟩
end Go.Proofs.YtajbmdjlfniofaaDoor
