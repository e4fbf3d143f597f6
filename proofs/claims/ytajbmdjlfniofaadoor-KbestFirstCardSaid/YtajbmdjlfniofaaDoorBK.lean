/-
  Texts joined: The enumeration: get, extend and begin end (the knots are tied); The enumeration: a new lister; The enumeration: the iterator, for a caller of any kind; The enumeration: a range over the iterator; Regions that draw their order, in a round's frame; The enumeration: First; The enumeration: some (of the laws).
-/
import Derived.Test.YtajbmdjlfniofaaDoorBJ
import Derived.Test.YtajbmdjlfniofaaDoorBA
import Derived.RangeFuncSeq
import Derived.RangeFuncLeaves
import Derived.TacticsIn
import Derived.BigFrameIn
import Derived.OrdersIn
import Derived.RangeFuncCalls
/-
  The enumeration: get, extend and begin end (the knots are tied).
-/
namespace Go.Proofs.YtajbmdjlfniofaaDoor
open Go.RowKit Go.Deep PK
/-! ### nodes not begun -/
def onS (σ : ST) (u : Nat) : Bool := match σ u with | some a => a.on | none => false
theorem onS_of {σ : ST} {u : Nat} {a : TS} (h : σ u = some a) : onS σ u = a.on := by unfold onS; rw [h]
def nOff (σ : ST) : Nat → Nat
 | 0 => 0
 | M + 1 => nOff σ M + if onS σ M then 0 else 1
theorem nOff_le {σ σ' : ST} (h : ∀ u, onS σ u = true → onS σ' u = true) : ∀ M, nOff σ' M ≤ nOff σ M
 | 0 => Nat.le_refl _
 | M + 1 => by
  have ih := nOff_le h M
  have h1 := h M
  unfold nOff
  cases e : onS σ M with
  | true => rw [h1 e]; simp; exact ih
  | false =>
   simp only [Bool.false_eq_true, if_false]
   split <;> omega
theorem nOff_lt {σ σ' : ST} (h : ∀ u, onS σ u = true → onS σ' u = true) {v : Nat} (h1 : onS σ v = false) (h2 : onS σ' v = true) : ∀ M, v < M → nOff σ' M < nOff σ M
 | 0, hv => by omega
 | M + 1, hv => by
  unfold nOff
  by_cases e : v = M
  ·
   subst e
   have := nOff_le h v
   rw [h1, h2]
   simp
   omega
  ·
   have ih := nOff_lt h h1 h2 M (by omega)
   have h3 := h M
   cases e : onS σ M with
   | true => rw [h3 e]; simp; exact ih
   | false =>
    simp only [Bool.false_eq_true, if_false]
    split <;> omega
theorem Ext.onS {B : Nat → Bool} {σ σ' : ST} (h : Ext B σ σ') : ∀ u, onS σ u = true → onS σ' u = true := fun u hu => by
 cases e : σ u with
 | none => unfold Proofs.YtajbmdjlfniofaaDoor.onS at hu; rw [e] at hu; cases hu
 | some a =>
  rw [onS_of e] at hu
  obtain ⟨a', h1, _, h2, _⟩ := h.k u a e
  rw [onS_of h1]
  exact h2 hu
/-- the busy ones have begun and list something -/
def Busy (B : Nat → Bool) (σ : ST) : Prop := ∀ b, B b = true → ∃ a, σ b = some a ∧ a.on = true ∧ a.K ≠ []
theorem Busy.ext {B : Nat → Bool} {σ σ' : ST} (h : Busy B σ) (e : Ext B σ σ') : Busy B σ' := fun b hb => by
 obtain ⟨a, h1, h2, h3⟩ := h b hb
 obtain ⟨a', g1, _, _, _, g5⟩ := e.k b a h1
 rw [g5 hb] at g1
 exact ⟨a, g1, h2, h3⟩
theorem Busy.add {B : Nat → Bool} {σ : ST} (h : Busy B σ) {v : Nat} {a : TS} (hv : σ v = some a) (hon : a.on = true) (hK : a.K ≠ []) : Busy (bv B v) σ := fun b hb => by
 rcases bv_of hb with h1 | rfl
 ·
  exact h b h1
 ·
  exact ⟨a, hv, hon, hK⟩
theorem tail_ok {X : LX} (hX : X.OK) {k : Nat} {x : EI} (hx : X.L.es[k]? = some x) {i : Nat} {tt : Int} (ht : x.t[i]? = some tt) : tt.toNat < X.M ∧ ((tt.toNat : Nat) : Int) = tt := by
 have h1 := (okE_parts ((validB_parts hX.L.vd).2.2 x (List.mem_of_getElem? hx))).2.2.2.2 tt (List.mem_of_getElem? ht)
 have := hX.M
 omega
/-- begin, when the first of every node can be asked for -/
theorem begin_of (X : LX) (hX : X.OK) (B : Nat → Bool) (v : Nat) (hv : v < X.M) (hBv : B v = false) (F : Nat → Bool) (w : World) (σ : ST) (h : LI X F w σ) (hI : IdleAll X.L B σ) (hB : Busy B σ) (a : TS) (ha : σ v = some a) (hoff : a.on = false)
  (H0 : ∀ σ2, nOff σ2 X.M < nOff σ X.M → Busy (bv B v) σ2 → ∀ u, u < X.M → ∀ F2 w2, LI X F2 w2 σ2 → IdleAll X.L (bv B v) σ2 → Calls Tryd.prog 35 #[.pointer (some ⟨X.L.lb, 0, none⟩), kI u, rkv 0] w2 (GetR X (bv B v) F2 w2 σ2 u 0)) :
  ∀ w', LI X F w' (upS σ v a.start) → Calls Tryd.prog 55 #[.pointer (some ⟨X.L.lb, 0, none⟩), kI v, .pointer (some ⟨a.sb, 0, none⟩)] w' (BegR X B F w' (upS σ v a.start) v) := by
 intro w' hL
 obtain ⟨hK, hm, hS, hnx, ho⟩ := (h.pl v a ha).off hoff
 have h0 : ∀ u, onS σ u = true → onS (upS σ v a.start) u = true := fun u hu => by
  by_cases e : u = v
  ·
   subst e; rw [onS_of (upS_same _ _ _)]; rfl
  ·
   unfold onS at hu ⊢
   rw [upS_other _ _ _ _ e]; exact hu
 refine beginK_any X hX B v hv hBv F w' (upS σ v a.start) hL hI.open' a.start (upS_same _ _ _) rfl hK hm hS hnx ho ?_
 intro k x hx hxv i tt htt F2 w2 σ2 a2 li2 id2 ex2 sv2 hne hon2
 obtain ⟨t1, t2⟩ := tail_ok hX hx htt
 have h1 : nOff σ2 X.M < nOff σ X.M := nOff_lt (fun u hu => ex2.onS u (h0 u hu)) (by rw [onS_of ha]; exact hoff) (by rw [onS_of sv2]; exact hon2) X.M hv
 have h2 : Busy B (upS σ v a.start) := fun b hb => by
  obtain ⟨c, g1, g2⟩ := hB b hb
  exact ⟨c, by rw [upS_other _ _ _ _ (fun e => by rw [e, hBv] at hb; cases hb)]; exact g1, g2⟩
 have h3 := H0 σ2 h1 ((h2.ext ex2).add sv2 hon2 hne) tt.toNat t1 F2 w2 li2 id2
 rw [show kI tt.toNat = .int .i64 tt from by show Value.int .i64 ((tt.toNat : Nat) : Int) = _; rw [t2]] at h3
 exact h3
/-- the first of a node -/
theorem get0_any (X : LX) (hX : X.OK) : ∀ (n : Nat) (B : Nat → Bool) (σ : ST), nOff σ X.M < n → Busy B σ → ∀ v, v < X.M → ∀ F w, LI X F w σ → IdleAll X.L B σ → Calls Tryd.prog 35 #[.pointer (some ⟨X.L.lb, 0, none⟩), kI v, rkv 0] w (GetR X B F w σ v 0) := by
 intro n
 induction n with
 | zero => intro B σ h; omega
 | succ n ih =>
  intro B σ hn hB v hv F w h hI
  refine getK_any X hX B v hv F w σ h hI 0 (by omega) ?_
  intro F' w' σ' a li id ex sv hl
  have hK0 : a.K = [] := List.length_eq_zero_iff.1 (by omega)
  have hB' := hB.ext ex
  have hBv : B v = false := by
   cases e : B v with
   | false => rfl
   | true =>
    obtain ⟨c, g1, _, g3⟩ := hB' v e
    rw [sv] at g1
    obtain rfl := Option.some.inj g1
    exact absurd hK0 g3
  refine extendK_any X hX B v hv hBv F' w' σ' li id a sv (by omega) (fun hoff => begin_of X hX B v hv hBv F' w' σ' li id hB' a sv hoff (fun σ2 h2 hb2 u hu F2 w2 li2 id2 => ?_)) (fun last x hlast => ?_)
  ·
   have := nOff_le ex.onS X.M
   exact ih (bv B v) σ2 (by omega) hb2 u hu F2 w2 li2 id2
  ·
   rw [hK0] at hlast; simp at hlast
/-! ### the others -/
noncomputable abbrev szT (d : DT) : Nat := SizeOf.sizeOf d
/-- what may be asked for -/
def Req (X : LX) (m : Nat) (B : Nat → Bool) (σ : ST) (v r : Nat) : Prop := r < 50 ∧ (r = 0 ∨ (∃ a, σ v = some a ∧ r < a.K.length) ∨ ∃ r' x, r = r' + 1 ∧ Nth X.L.E v r' x ∧ KN σ v r' ∧ szT x < m ∧ ∀ b a c, B b = true → σ b = some a → a.K[a.K.length - 1]? = some c → szT x < szT (toDT c.d))
theorem listed {X : LX} {F : Nat → Bool} {w : World} {σ : ST} (h : LI X F w σ) {v : Nat} {a : TS} (ha : σ v = some a) {r : Nat} {c : CI} (hc : a.K[r]? = some c) : Nth X.L.E v r (toDT c.d) := by
 refine (h.pl v a ha).half.pre.nth ?_
 rw [List.getElem?_map, List.getElem?_map, hc]
 rfl
theorem kid_lt {e : Int} {ks : List DT} {i : Nat} {x : DT} (h : ks[i]? = some x) : szT x < szT (DT.node e ks) := by
 have := List.sizeOf_lt_of_mem (List.mem_of_getElem? h)
 show SizeOf.sizeOf x < SizeOf.sizeOf (DT.node e ks)
 simp only [DT.node.sizeOf_spec]
 omega
theorem getS_any (X : LX) (hX : X.OK) : ∀ (m : Nat) (B : Nat → Bool) (σ : ST) (v r : Nat), Busy B σ → v < X.M → Req X m B σ v r → ∀ F w, LI X F w σ → IdleAll X.L B σ → Calls Tryd.prog 35 #[.pointer (some ⟨X.L.lb, 0, none⟩), kI v, rkv r] w (GetR X B F w σ v r) := by
 intro m
 induction m with
 | zero =>
  rintro B σ v r hB hv ⟨hr, rfl | ⟨a, ha, hlt⟩ | ⟨r', x, _, _, _, h, _⟩⟩ F w h0 hI
  ·
   exact get0_any X hX _ B σ (Nat.lt_succ_self _) hB v hv F w h0 hI
  ·
   refine getK_any X hX B v hv F w σ h0 hI r (by omega) ?_
   intro F' w' σ' a' li id ex sv hl
   obtain ⟨a2, g1, _, _, g4, _⟩ := ex.k v a ha
   rw [sv] at g1
   obtain rfl := Option.some.inj g1
   have := len_of_ext g4
   omega
  ·
   omega
 | succ m ih =>
  rintro B σ v r hB hv ⟨hr, rfl | ⟨a, ha, hlt⟩ | ⟨r', x, rfl, hN, hK, hs, hbs⟩⟩ F w h0 hI
  ·
   exact get0_any X hX _ B σ (Nat.lt_succ_self _) hB v hv F w h0 hI
  ·
   refine getK_any X hX B v hv F w σ h0 hI r (by omega) ?_
   intro F' w' σ' a' li id ex sv hl
   obtain ⟨a2, g1, _, _, g4, _⟩ := ex.k v a ha
   rw [sv] at g1
   obtain rfl := Option.some.inj g1
   have := len_of_ext g4
   omega
  ·
   refine getK_any X hX B v hv F w σ h0 hI (r' + 1) (by omega) ?_
   intro F' w' σ' a li id ex sv hl
   have hB' := hB.ext ex
   have hK' : a.K ≠ [] → a.K.length = r' + 1 := fun hne => by
    have h1 : 0 < a.K.length := List.length_pos_iff.2 hne
    rcases hK.ext ex with h2 | ⟨c, h2, h3⟩
    ·
     omega
    ·
     rw [sv] at h2
     obtain rfl := Option.some.inj h2
     omega
   have hxl : ∀ last, a.K[a.K.length - 1]? = some last → a.K.length = r' + 1 ∧ toDT last.d = x := fun last hlast => by
    have hne : a.K ≠ [] := fun e => by rw [e] at hlast; simp at hlast
    have h1 := hK' hne
    rw [h1, Nat.add_sub_cancel] at hlast
    exact ⟨h1, (listed li sv hlast).unique hN⟩
   have hBv : B v = false := by
    cases e : B v with
    | false => rfl
    | true =>
     obtain ⟨c, g1, _, g3⟩ := hB v e
     obtain ⟨c', g4, _, _, _, g5⟩ := ex.k v c g1
     rw [g5 e, sv] at g4
     obtain rfl := Option.some.inj g4
     have h1 : 0 < a.K.length := List.length_pos_iff.2 g3
     have h2 : a.K[a.K.length - 1]? = some (a.K[a.K.length - 1]'(by omega)) := List.getElem?_eq_getElem _
     have h3 := hbs v a _ e g1 h2
     rw [(hxl _ h2).2] at h3
     omega
   refine extendK_any X hX B v hv hBv F' w' σ' li id a sv (by omega) (fun hoff => begin_of X hX B v hv hBv F' w' σ' li id hB' a sv hoff (fun σ2 _ hb2 u hu F2 w2 li2 id2 => get0_any X hX _ (bv B v) σ2 (Nat.lt_succ_self _) hb2 u hu F2 w2 li2 id2)) ?_
   intro last y hlast hy i ri hri i' r2 tt htt hr2 F2 w2 σ2 a2 li2 id2 ex2 sv2 hK2 hon2
   obtain ⟨hlen, hxe⟩ := hxl last hlast
   rw [hlen, Nat.add_sub_cancel] at hlast
   obtain ⟨t1, t2⟩ := tail_ok hX hy htt
   have hlast2 : a2.K[r']? = some last := by rw [hK2]; exact hlast
   have hne2 : a2.K ≠ [] := fun e => by rw [e] at hlast2; simp at hlast2
   have hkn := li2.kn v a2 last sv2 (.inl (List.mem_of_getElem? hlast2))
   have hrk := (li2.pl v a2 sv2).rk r' last hlast2
   have hyE : X.L.E[last.d.e.toNat]? = some (toEE y) := by rw [List.getElem?_map, hy]; rfl
   have httE : (toEE y).t[i']? = some tt.toNat := by simp only [toEE, List.getElem?_map, htt, Option.map_some]
   have hcok := (li2.pl v a2 sv2).half.cok (toCd last) (.inl (List.mem_map.2 ⟨last, List.mem_of_getElem? hlast2, rfl⟩))
   have hBusy : Busy (bv B v) σ2 := (hB'.ext ex2).add sv2 hon2 hne2
   have hrq : Req X m (bv B v) σ2 tt.toNat r2 := by
    by_cases e : i = i'
    ·
     subst e
     have hil : i < last.r.length := (List.getElem?_eq_some_iff.1 hri).1
     rw [List.getElem?_set_self hil] at hr2
     obtain rfl := Option.some.inj hr2
     have h5 := hrk ri (List.mem_of_getElem? hri)
     refine ⟨by omega, .inr (.inr ⟨ri, ?_⟩)⟩
     obtain ⟨E, ks, g1, g2, g3, g4, g5⟩ := hcok.1
     have g1' : X.L.E[last.d.e.toNat]? = some E := g1
     rw [hyE] at g1'
     obtain rfl := Option.some.inj g1'
     have g2' : toDT last.d = .node (last.d.e.toNat : Int) ks := g2
     have hik : i < ks.length := by rw [g3]; exact (List.getElem?_eq_some_iff.1 httE).1
     have hki : ks[i]? = some ks[i] := List.getElem?_eq_getElem hik
     have hsz : szT ks[i] < szT x := by
      rw [← hxe, g2']
      exact kid_lt hki
     refine ⟨ks[i], rfl, g5 i tt.toNat ri _ httE hri hki, hkn _ i tt.toNat ri hyE httE hri, by omega, fun b c d hb hc hd => ?_⟩
     rcases bv_of hb with h6 | rfl
     ·
      obtain ⟨c0, q1, q2, q3⟩ := hB b h6
      obtain ⟨c1, q4, _, _, _, q5⟩ := (ex.trans ex2).k b c0 q1
      rw [q5 h6, hc] at q4
      obtain rfl := Option.some.inj q4
      have := hbs b c d h6 q1 hd
      omega
     ·
      rw [sv2] at hc
      obtain rfl := Option.some.inj hc
      rw [hK2, hlen, Nat.add_sub_cancel, hlast] at hd
      obtain rfl := Option.some.inj hd
      rw [hxe]; exact hsz
    ·
     rw [List.getElem?_set_ne e] at hr2
     have h5 := hrk r2 (List.mem_of_getElem? hr2)
     refine ⟨by omega, ?_⟩
     rcases hkn _ i' tt.toNat r2 hyE httE hr2 with h6 | h6
     ·
      exact .inl h6
     ·
      exact .inr (.inl h6)
   have h3 := ih (bv B v) σ2 tt.toNat r2 hBusy t1 hrq F2 w2 li2 id2
   rw [show kI tt.toNat = .int .i64 tt from by show Value.int .i64 ((tt.toNat : Nat) : Int) = _; rw [t2]] at h3
   exact h3
/-- the r-th of a node, when the one before it is known -/
theorem get_any (X : LX) (hX : X.OK) (F : Nat → Bool) (w : World) (σ : ST) (h : LI X F w σ) (hI : IdleAll X.L (fun _ => false) σ) (v : Nat) (hv : v < X.M) (r : Nat) (hr : r < 50) (hk : r = 0 ∨ ∃ a, σ v = some a ∧ r ≤ a.K.length) :
  Calls Tryd.prog 35 #[.pointer (some ⟨X.L.lb, 0, none⟩), kI v, rkv r] w (GetR X (fun _ => false) F w σ v r) := by
 have hB : Busy (fun _ => false) σ := fun b hb => by cases hb
 rcases hk with rfl | ⟨a, ha, hl⟩
 ·
  exact getS_any X hX 0 _ σ v 0 hB hv ⟨hr, .inl rfl⟩ F w h hI
 ·
  by_cases e : r < a.K.length
  ·
   exact getS_any X hX 0 _ σ v r hB hv ⟨hr, .inr (.inl ⟨a, ha, e⟩)⟩ F w h hI
  ·
   cases r with
   | zero => exact getS_any X hX 0 _ σ v 0 hB hv ⟨hr, .inl rfl⟩ F w h hI
   | succ r' =>
    have hc : a.K[r']? = some (a.K[r']'(by omega)) := List.getElem?_eq_getElem _
    exact getS_any X hX (szT (toDT (a.K[r']'(by omega)).d) + 1) _ σ v (r' + 1) hB hv ⟨hr, .inr (.inr ⟨r', _, rfl, listed h ha hc, .inr ⟨a, ha, by omega⟩, Nat.lt_succ_self _, fun b _ _ hb => by cases hb⟩)⟩ F w h hI
end Go.Proofs.YtajbmdjlfniofaaDoor
/-
  The enumeration: a new lister.
-/
namespace Go.Proofs.YtajbmdjlfniofaaDoor
open Go.RowKit Go.Deep PK
attribute [local go_sem] Oper.lit Oper.litS fut_fut fut_drew World.cell?_alloc_some
attribute [local go_sem] World.frozen?_setCell
/-! ### plain -/
def hdUp (es : List EI) (v i : Nat) : List Nat := (List.range i).filter (fun i => match es[i]? with | some e => decide (e.h = (v : Int)) | none => false)
theorem hdUp_succ {es : List EI} {i : Nat} {x : EI} (hx : es[i]? = some x) (v : Nat) : hdUp es v (i + 1) = hdUp es v i ++ (if x.h = (v : Int) then [i] else []) := by
 unfold hdUp
 rw [List.range_succ, List.filter_append]
 congr 1
 by_cases e : x.h = (v : Int)
 ·
  simp [hx, e]
 ·
  simp [hx, e]
theorem hdUp_len (es : List EI) (v i : Nat) : (hdUp es v i).length ≤ i := by
 unfold hdUp
 exact Nat.le_trans (List.length_filter_le _ _) (by simp)
/-- while the map of the heads is built -/
structure HJ (es : List EI) (M hm i : Nat) (w0 w : World) (HF : Value → Option Value) : Prop where
 mf : MF Tryd.prog 3 w hm HF
 row : ∀ v, v < M → (HF (kI v) = none ∧ hdUp es v i = []) ∨ ∃ A c, HF (kI v) = some (.slice A (hdUp es v i).length c) ∧ w.ownsRow w0.heap.size 3 1 (.slice A (hdUp es v i).length c) (hdUp es v i).length ((hdUp es v i).map rkv)
 dj : ∀ u v a b, u ≠ v → HF (kI u) = some a → HF (kI v) = some b → ∀ k, a.ownBlock = some k → b.ownBlock ≠ some k
 nw : ∀ v, M ≤ v → HF (kI v) = none
 f : FutS (fun k => k == hm) w0 w
theorem HJ.get {es : List EI} {M hm i : Nat} {w0 w : World} {HF : Value → Option Value} (h : HJ es M hm i w0 w HF) {u : Nat} (hu : u < M) : ∃ A c, (HF (kI u)).getD (.slice none 0 0) = .slice A (hdUp es u i).length c ∧ w.ownsRow w0.heap.size 3 1 (.slice A (hdUp es u i).length c) (hdUp es u i).length ((hdUp es u i).map rkv) ∧ (HF (kI u) = some (.slice A (hdUp es u i).length c) ∨ (Value.slice A (hdUp es u i).length c).ownBlock = none) := by
 rcases h.row u hu with ⟨h1, h2⟩ | ⟨A, c, h1, h2⟩
 ·
  rw [h1, h2]
  exact ⟨none, 0, rfl, World.ownsRow_nil _ _ _ _, .inr rfl⟩
 ·
  rw [h1]
  exact ⟨A, c, rfl, h2, .inl rfl⟩
theorem HJ.step {es : List EI} {M hm i : Nat} {w0 w w1 w2 w3 : World} {HF : Value → Option Value} (h : HJ es M hm i w0 w HF) (hhm : hm < w0.heap.size) {x : EI} (hx : es[i]? = some x) {u : Nat} (hu : x.h = (u : Int)) (huM : u < M) {A : Option Addr} {c g cap : Nat}
  (hv : HF (kI u) = some (.slice A (hdUp es u i).length c) ∨ (Value.slice A (hdUp es u i).length c).ownBlock = none) (hf : Fut w w1) (hvb : ∀ k, (Value.slice A (hdUp es u i).length c).ownBlock = some k → w0.heap.size ≤ k)
  (p1 : w2.ownsRow w0.heap.size 3 1 (.slice (some ⟨g, 0, none⟩) ((hdUp es u i).length + 1) cap) ((hdUp es u i).length + 1) ((hdUp es u i).map rkv ++ [rkv i])) (p2 : w1.grownBy w2 (Value.slice A (hdUp es u i).length c).ownBlock) (p3 : (Value.slice A (hdUp es u i).length c).ownBlock = some g ∨ g = w1.heap.size)
  (m3 : MF Tryd.prog 3 w3 hm (mset HF (kI u) (.slice (some ⟨g, 0, none⟩) ((hdUp es u i).length + 1) cap))) (g3 : w2.grownBy w3 (some hm)) : HJ es M hm (i + 1) w0 w3 (mset HF (kI u) (.slice (some ⟨g, 0, none⟩) ((hdUp es u i).length + 1) cap)) := by
 have hlen : (hdUp es u (i + 1)) = hdUp es u i ++ [i] := by rw [hdUp_succ hx, if_pos hu]
 have hg0 : w0.heap.size ≤ g := (World.ownsRow.lt p1 g rfl).1
 have hws : w.heap.size ≤ w1.heap.size := hf.size
 have hothers : ∀ v b, v ≠ u → HF (kI v) = some b → ∀ k, b.ownBlock = some k → k < w.heap.size ∧ w0.heap.size ≤ k ∧ (Value.slice A (hdUp es u i).length c).ownBlock ≠ some k := fun v b hvu hb k hk => by
  have hvM : v < M := by
   rcases Nat.lt_or_ge v M with h1 | h1
   ·
    exact h1
   ·
    rw [h.nw v h1] at hb; cases hb
  rcases h.row v hvM with ⟨h1, _⟩ | ⟨A', c', h1, h2⟩
  ·
   rw [h1] at hb; cases hb
  ·
   rw [h1] at hb
   obtain rfl := Option.some.inj hb
   have h3 := World.ownsRow.lt h2 k hk
   refine ⟨h3.2, h3.1, ?_⟩
   rcases hv with h4 | h4
   ·
    exact h.dj v u _ _ hvu h1 h4 k hk
   ·
    rw [h4]; simp
 refine ⟨m3, fun v hvM => ?_, fun a b x y hab hx' hy' k hk => ?_, fun v hvM => ?_, ?_⟩
 ·
  by_cases e : v = u
  ·
   subst e
   right
   refine ⟨some ⟨g, 0, none⟩, cap, ?_, ?_⟩
   ·
    rw [mset_same, hlen, List.length_append]; rfl
   ·
    rw [hlen, List.length_append, List.map_append]
    have h4 : w3.ownsRow w0.heap.size 3 1 (.slice (some ⟨g, 0, none⟩) ((hdUp es v i).length + 1) cap) ((hdUp es v i).length + 1) ((hdUp es v i).map rkv ++ [rkv i]) := own_futS p1 (FutS.grownS (S := fun q => q == hm) g3 (fun k hk => by rw [← Option.some.inj hk]; simp)) (fun k hk => by
     simp only [Value.ownBlock, Option.some.injEq] at hk
     exact beq_eq_false_iff_ne.2 (by omega))
    exact h4
  ·
   have h5 : hdUp es v (i + 1) = hdUp es v i := by
    rw [hdUp_succ hx, if_neg (by omega), List.append_nil]
   rw [h5, mset_other _ _ _ _ (fun e2 => e (kI_inj e2))]
   rcases h.row v hvM with h1 | ⟨A', c', h1, h2⟩
   ·
    exact .inl h1
   ·
    refine .inr ⟨A', c', h1, ?_⟩
    have h6 := own_fut h2 hf
    have h7 := own_futS h6 (FutS.grownS (S := fun q => (Value.slice A (hdUp es u i).length c).ownBlock == some q) p2 (fun k hk => by rw [hk]; simp)) (fun k hk => beq_eq_false_iff_ne.2 (hothers v _ e h1 k hk).2.2)
    exact own_futS h7 (FutS.grownS (S := fun q => q == hm) g3 (fun k hk => by rw [← Option.some.inj hk]; simp)) (fun k hk => beq_eq_false_iff_ne.2 (by
     have := (hothers v _ e h1 k hk).2.1
     omega))
 ·
  by_cases ea : a = u
  ·
   subst ea
   rw [mset_same] at hx'
   obtain rfl := Option.some.inj hx'
   rw [mset_other _ _ _ _ (fun e2 => hab (kI_inj e2).symm)] at hy'
   simp only [Value.ownBlock, Option.some.injEq] at hk
   subst hk
   intro e
   have h8 := hothers b y (Ne.symm hab) hy' g e
   rcases p3 with h9 | h9
   ·
    exact h8.2.2 h9
   ·
    omega
  ·
   rw [mset_other _ _ _ _ (fun e2 => ea (kI_inj e2))] at hx'
   by_cases eb : b = u
   ·
    subst eb
    rw [mset_same] at hy'
    obtain rfl := Option.some.inj hy'
    have h8 := hothers a x ea hx' k hk
    simp only [Value.ownBlock, ne_eq, Option.some.injEq]
    intro e
    subst e
    rcases p3 with h9 | h9
    ·
     exact h8.2.2 h9
    ·
     omega
   ·
    rw [mset_other _ _ _ _ (fun e2 => eb (kI_inj e2))] at hy'
    exact h.dj a b x y hab hx' hy' k hk
 ·
  rw [mset_other _ _ _ _ (fun e2 => by have := kI_inj e2; omega)]
  exact h.nw v hvM
 ·
  exact ((h.f.then hf).grown p2 (fun k hk => .inr (hvb k hk))).grown g3 (fun k hk => .inl (by rw [← Option.some.inj hk]; simp))
/-- all is laid -/
theorem HJ.lister {N : Nat} {A : Option Addr} {n c : Nat} {es : List EI} {V : Nat → VV} {w w3 w4 : World} {F0 : Nat → Bool} {lb vb hm sm : Nat} {HF : Value → Option Value} (h : HJ es N hm es.length w3 w4 HF) (hl : es.length = n) (hn : n ≤ 12) (hvd : validB N es = true) (hN8 : N ≤ 8) (htl : ∀ e ∈ es, e.t.length ≤ 3) (hS : Sol (EEs es) V) (hs : ∀ i, (V i).s < INF) (hb0 : ∀ k, F0 k = true → k < w.heap.size) (hR : StF F0 w (fun w' => RdE w' A es))
  (hf : Fut w w3) (hhm : w.heap.size ≤ hm ∧ hm < w3.heap.size ∧ hm ≠ sm) (hsm : w.heap.size ≤ sm) (hms : MF Tryd.prog 3 w3 sm (fun _ => none)) (hlb : Blk w3 lb 89 #[.int .i64 N, .slice A n c, .slice (some ⟨vb, 0, none⟩) N N, .map (some hm), .map (some sm)]) (hlb0 : w.heap.size ≤ lb ∧ lb ≠ hm ∧ lb ≠ sm) (hvb : RowV w3 vb N V) (hvb0 : w.heap.size ≤ vb ∧ vb ≠ hm ∧ vb ≠ sm) :
  ∃ (X : LX) (F : Nat → Bool), X.OK ∧ X.M = N ∧ X.L.N = (N : Int) ∧ X.L.A = A ∧ X.L.n = n ∧ X.L.c = c ∧ X.L.es = es ∧ X.L.lb = lb ∧ LI X F w4 (fun _ => none) ∧ (∀ k, F0 k = true → F k = true) ∧ (∀ k, F k = true → F0 k = true ∨ w.heap.size ≤ k) ∧ Fut w w4 ∧ w.heap.size ≤ X.sm := by
 have hfw : Fut w w4 := h.f.fut hf (fun k hk => by rw [eq_of_beq hk]; exact hhm.1)
 have hsz : w3.heap.size ≤ w4.heap.size := h.f.size
 have hlb4 : Blk w4 lb _ _ := hlb.futS h.f (beq_eq_false_iff_ne.2 hlb0.2.1)
 have hvl : vb < w3.heap.size := hvb.lt
 have hvb4 : RowV w4 vb N V := hvb.of_block (h.f.block vb hvl (beq_eq_false_iff_ne.2 hvb0.2.1))
 have hms4 : MF Tryd.prog 3 w4 sm (fun _ => none) := hms.futS h.f (beq_eq_false_iff_ne.2 (Ne.symm hhm.2.2))
 obtain ⟨F, hF⟩ : ∃ F : Nat → Bool, F = fun k => F0 k || (decide (w.heap.size ≤ k) && decide (k < w4.heap.size) && !(k == sm)) := ⟨_, rfl⟩
 have hF0 : ∀ k, F0 k = true → F k = true := fun k hk => by rw [hF]; simp [hk]
 have hFn : ∀ k, w.heap.size ≤ k → k < w4.heap.size → k ≠ sm → F k = true := fun k h1 h2 h3 => by rw [hF]; simp [h1, h2, h3]
 have hFi : ∀ k, F k = true → F0 k = true ∨ (w.heap.size ≤ k ∧ k < w4.heap.size ∧ k ≠ sm) := fun k hk => by
  rw [hF] at hk
  simp only [Bool.or_eq_true, Bool.and_eq_true, decide_eq_true_eq, Bool.not_eq_true', beq_eq_false_iff_ne] at hk
  rcases hk with h1 | ⟨⟨h1, h2⟩, h3⟩
  ·
   exact .inl h1
  ·
   exact .inr ⟨h1, h2, h3⟩
 clear hF
 have hw3 : w.heap.size ≤ w3.heap.size := hf.size
 have hsm3 : sm < w4.heap.size := hms4.lt
 refine ⟨⟨⟨N, A, n, c, es, lb⟩, N, V, vb, hm, sm, HF⟩, F, ⟨⟨hl, hn, hvd, by show (N : Int) ≤ 8; omega, htl⟩, rfl, hS, hs⟩, rfl, rfl, rfl, rfl, rfl, rfl, rfl, ?_, hF0, fun k hk => (hFi k hk).imp id (fun h => h.1), hfw, hsm⟩
 have hno : ∀ (v : Nat) (t : TS), (fun _ => none : ST) v = some t → False := fun v t h => by cases h
 refine ⟨fun w5 hk => ?_, fun k hk => ?_, ⟨fun _ => none, hms4, fun _ _ => rfl⟩, ?_, fun v t h => (hno v t h).elim, fun v t h => (hno v t h).elim, fun v t h => (hno v t h).elim, fun u v a b _ h => (hno u a h).elim, fun v t h => (hno v t h).elim, fun v t _ h => (hno v t h).elim⟩
 ·
  have hk3 : ∀ k, w.heap.size ≤ k → k < w4.heap.size → k ≠ sm → w5.heap[k]? = w4.heap[k]? := fun k h1 h2 h3 => hk k (hFn k h1 h2 h3)
  refine ⟨(hk3 lb hlb0.1 (by have := hlb.lt; omega) hlb0.2.2).trans hlb4, hvb4.of_block (hk3 vb hvb0.1 (by omega) hvb0.2.2), h.mf.of_block (hk3 hm hhm.1 (by omega) hhm.2.2), fun v hv => ?_, hR w5 (fun k hk0 => (hk k (hF0 k hk0)).trans (hfw.block k (hb0 k hk0)))⟩
  rcases h.row v hv with h1 | ⟨A', c', h1, h2⟩
  ·
   exact .inl h1
  ·
   refine .inr ⟨A', c', h1, Rd1.of_own (ownF_keep h2 (fun k hk' => ?_))⟩
   have h3 := World.ownsRow.lt h2 k hk'
   refine hk3 k (by omega) h3.2 (fun e => ?_)
   have := hms.lt
   omega
 ·
  rcases hFi k hk with h1 | h1
  ·
   have := hb0 k h1
   have := hfw.size
   omega
  ·
   exact h1.2.1
 ·
  cases e : F sm with
  | false => rfl
  | true =>
   rcases hFi sm e with h1 | h1
   ·
    have := hb0 sm h1; omega
   ·
    exact absurd rfl h1.2.2
/-! ### the walk -/
set_option maxHeartbeats 6400000 in
set_option maxRecDepth 4000 in
theorem newLister_any (N : Nat) (A : Option Addr) (n c : Nat) (es : List EI) (w : World) (hl : es.length = n) (hn : n ≤ 12) (hvd : validB N es = true) (hN8 : N ≤ 8) (htl : ∀ e ∈ es, e.t.length ≤ 3) (V : Nat → VV) (hS : Sol (EEs es) V) (hs : ∀ i, (V i).s < INF) (F0 : Nat → Bool) (hb0 : ∀ k, F0 k = true → k < w.heap.size) (hR : StF F0 w (fun w' => RdE w' A es)) :
  Calls Tryd.prog 34 #[hv N A n c] w fun e w' => ∃ (X : LX) (F : Nat → Bool), (X.OK ∧ X.M = N ∧ X.L.N = (N : Int) ∧ X.L.A = A ∧ X.L.n = n ∧ X.L.c = c ∧ X.L.es = es ∧ e = .returned (.pointer (some ⟨X.L.lb, 0, none⟩))) ∧ LI X F w' (fun _ => none) ∧ (∀ k, F0 k = true → F k = true) ∧ (∀ k, F k = true → F0 k = true ∨ w.heap.size ≤ k) ∧ Fut w w' ∧ w.heap.size ≤ X.sm := by
 have hmm := @run_makeMap Tryd.prog
 have HR := Lib.hid hR
 have HB0 := Lib.hid hb0
 have HL := Lib.hid hl
 have HVD := Lib.hid hvd
 have HTL := Lib.hid htl
 have HSO := Lib.hid hS
 have HSS := Lib.hid hs
 have HN12 := Lib.hid hn
 have HN8 := Lib.hid hN8
 have hRn := hR.now
 have HHE := Lib.hid (show ∀ e ∈ es, ∃ u : Nat, e.h = (u : Int) ∧ u < N from fun e he => by
  have h1 := okE_parts ((validB_parts hvd).2.2 e he)
  exact ⟨e.h.toNat, by omega, by omega⟩)
 have hsv := solve_any N A n c es ((((w.alloc (.cells #[.int .i64 N, .slice A n c] 24)).alloc (.map #[] 0)).alloc (.map #[] 0)).alloc (.cells #[.int .i64 N, .slice A n c, .slice none 0 0, .map (some (w.heap.size + 1)), .map (some (w.heap.size + 1 + 1))] 89)) hl (by omega) hvd (fun e he => by have := htl e he; omega) (hRn.fut (((((Fut.refl w).alloc _).alloc _).alloc _).alloc _))
 have HSV := Lib.hid hsv
 have HF1 := Lib.hid (show Fut w ((((w.alloc (.cells #[.int .i64 N, .slice A n c] 24)).alloc (.map #[] 0)).alloc (.map #[] 0)).alloc (.cells #[.int .i64 N, .slice A n c, .slice none 0 0, .map (some (w.heap.size + 1)), .map (some (w.heap.size + 1 + 1))] 89)) from ((((Fut.refl w).alloc _).alloc _).alloc _).alloc _)
 have HLB1 := Lib.hid (show Blk ((((w.alloc (.cells #[.int .i64 N, .slice A n c] 24)).alloc (.map #[] 0)).alloc (.map #[] 0)).alloc (.cells #[.int .i64 N, .slice A n c, .slice none 0 0, .map (some (w.heap.size + 1)), .map (some (w.heap.size + 1 + 1))] 89)) (w.heap.size + 1 + 1 + 1) 89 #[.int .i64 N, .slice A n c, .slice none 0 0, .map (some (w.heap.size + 1)), .map (some (w.heap.size + 1 + 1))] from heap_new' _ _ _ (by simp only [World.size_alloc]))
 have HHB1 := Lib.hid (show Blk ((((w.alloc (.cells #[.int .i64 N, .slice A n c] 24)).alloc (.map #[] 0)).alloc (.map #[] 0)).alloc (.cells #[.int .i64 N, .slice A n c, .slice none 0 0, .map (some (w.heap.size + 1)), .map (some (w.heap.size + 1 + 1))] 89)) w.heap.size 24 #[.int .i64 N, .slice A n c] from (((Blk.new w _ _).alloc _).alloc _).alloc _)
 have HM1 := Lib.hid (show MF Tryd.prog 3 ((((w.alloc (.cells #[.int .i64 N, .slice A n c] 24)).alloc (.map #[] 0)).alloc (.map #[] 0)).alloc (.cells #[.int .i64 N, .slice A n c, .slice none 0 0, .map (some (w.heap.size + 1)), .map (some (w.heap.size + 1 + 1))] 89)) (w.heap.size + 1) (fun _ => none) from MF.fut (MF.new _ _ (heap_new' (w.alloc (.cells #[.int .i64 N, .slice A n c] 24)) (.map #[] 0) (w.heap.size + 1) (by simp only [World.size_alloc]))) (((Fut.refl _).alloc _).alloc _))
 have HM2 := Lib.hid (show MF Tryd.prog 3 ((((w.alloc (.cells #[.int .i64 N, .slice A n c] 24)).alloc (.map #[] 0)).alloc (.map #[] 0)).alloc (.cells #[.int .i64 N, .slice A n c, .slice none 0 0, .map (some (w.heap.size + 1)), .map (some (w.heap.size + 1 + 1))] 89)) (w.heap.size + 1 + 1) (fun _ => none) from MF.fut (MF.new _ _ (heap_new' ((w.alloc (.cells #[.int .i64 N, .slice A n c] 24)).alloc (.map #[] 0)) (.map #[] 0) (w.heap.size + 1 + 1) (by simp only [World.size_alloc]))) ((Fut.refl _).alloc _))
 have HZ1 := Lib.hid (show ((((w.alloc (.cells #[.int .i64 N, .slice A n c] 24)).alloc (.map #[] 0)).alloc (.map #[] 0)).alloc (.cells #[.int .i64 N, .slice A n c, .slice none 0 0, .map (some (w.heap.size + 1)), .map (some (w.heap.size + 1 + 1))] 89)).heap.size = w.heap.size + 4 from by simp only [World.size_alloc])
 clear hR hb0 hsv hRn hvd htl hS hs
 go_enter Tryd.func34, Tryd.ntmps34
 go_wp2_with fail
 generalize (((w.alloc (.cells #[.int .i64 N, .slice A n c] 24)).alloc (.map #[] 0)).alloc (.map #[] 0)).alloc (.cells #[.int .i64 N, .slice A n c, .slice none 0 0, .map (some (w.heap.size + 1)), .map (some (w.heap.size + 1 + 1))] 89) = w1 at *
 refine HSV.out.mono ?_
 rintro r w2 ⟨⟨V', vb, eb, rfl, hs', hv', _, hvb, _⟩, hb⟩
 obtain rfl := hs'.unique HSO.out
 have f12 : Fut w1 w2 := hb
 have HF12 := Lib.hid f12
 have HLB2 := Lib.hid (HLB1.out.fut f12)
 have HV2 := Lib.hid hv'
 have HVB := Lib.hid hvb
 have h0 := (HHB1.out.fut f12).cell (i := 1) rfl
 have l2 := HLB2.out.cell (i := 2) rfl
 have z2 := HLB2.out.fz 2
 clear hs' hv' hvb hb f12
 go_wp2_with fail
 have HF23 := Lib.hid (show FutS (fun q => q == w.heap.size + 1 + 1 + 1) w2 (w2.setCell ⟨w.heap.size + 1 + 1 + 1, 2, none⟩ (.slice (some ⟨vb, 0, none⟩) N N)) from (FutS.refl w2).setCell (a := ⟨w.heap.size + 1 + 1 + 1, 2, none⟩) (.inl (by simp)) _)
 have HLB3 := Lib.hid (show Blk (w2.setCell ⟨w.heap.size + 1 + 1 + 1, 2, none⟩ (.slice (some ⟨vb, 0, none⟩) N N)) (w.heap.size + 1 + 1 + 1) 89 #[.int .i64 N, .slice A n c, .slice (some ⟨vb, 0, none⟩) N N, .map (some (w.heap.size + 1)), .map (some (w.heap.size + 1 + 1))] from HLB2.out.set 2 _)
 have HZ3 := Lib.hid (show w2.heap.size ≤ (w2.setCell ⟨w.heap.size + 1 + 1 + 1, 2, none⟩ (.slice (some ⟨vb, 0, none⟩) N N)).heap.size from by rw [World.size_setCell]; exact Nat.le_refl _)
 clear h0 l2 z2
 generalize w2.setCell ⟨w.heap.size + 1 + 1 + 1, 2, none⟩ (.slice (some ⟨vb, 0, none⟩) N N) = w3 at *
 have HF3 := Lib.hid (show Fut w w3 from FutS.fut HF23.out (HF1.out.trans HF12.out) (fun k hk => by rw [eq_of_beq hk]; omega))
 have HM3 := Lib.hid (show MF Tryd.prog 3 w3 (w.heap.size + 1) (fun _ => none) from (HM1.out.fut HF12.out).futS HF23.out (beq_eq_false_iff_ne.2 (by omega)))
 have HM4 := Lib.hid (show MF Tryd.prog 3 w3 (w.heap.size + 1 + 1) (fun _ => none) from (HM2.out.fut HF12.out).futS HF23.out (beq_eq_false_iff_ne.2 (by omega)))
 have HV3 := Lib.hid (show RowV w3 vb N V' from HV2.out.of_block (HF23.out.block vb HV2.out.lt (beq_eq_false_iff_ne.2 (by have := HVB.out; have := HZ1.out; omega))))
 have hJ0 : HJ es N (w.heap.size + 1) 0 w3 w3 (fun _ => none) := ⟨HM3.out, fun v _ => .inl ⟨rfl, rfl⟩, fun _ _ _ _ _ h => by (cases h), fun _ _ => rfl, FutS.refl _⟩
 have HJ0 := Lib.hid hJ0
 have h00 : 0 ≤ n := Nat.zero_le _
 clear hJ0
 go_loopw [22] (fun i wr => ∃ (j : Nat) (HF : Value → Option Value), j ≤ n ∧ i = .int .i64 j ∧ Hid (HJ es N (w.heap.size + 1) j w3 wr HF)) (fun i _ => n - (intOf i).toNat)
 case atStart => exact ⟨0, _, h00, rfl, HJ0⟩
 case round =>
  obtain ⟨j, HF, hj, rfl, HJJ⟩ := hrel
  have hlb := HLB3.out.futS HJJ.out.f (beq_eq_false_iff_ne.2 (by omega))
  have l3 := hlb.cell (i := 3) rfl
  by_cases hjn : j < n
  ·
   obtain ⟨x, hx⟩ := get_lt HL.out hjn
   obtain ⟨u, hu, huN⟩ := HHE.out x (List.mem_of_getElem? hx)
   have hRr : RdE wr A es := HR.out.now.fut (HJJ.out.f.fut HF3.out (fun k hk => by rw [eq_of_beq hk]; omega))
   obtain ⟨eb', eo, hA, hce⟩ := hRr.1 j x hx
   have c0 := hce 0 _ (by decide) rfl
   have c1 := hce 1 _ (by decide) rfl
   have c2 := hce 2 _ (by decide) rfl
   have c3 := hce 3 _ (by decide) rfl
   have c4 := hce 4 _ (by decide) rfl
   rw [hu, Nat.add_zero] at c0
   obtain ⟨vA, vc, hgv, how, hvc⟩ := HJJ.out.get huN
   have HX := Lib.hid hx
   have HU := Lib.hid hu
   have HUN := Lib.hid huN
   have HGV := Lib.hid hgv
   have HOW := Lib.hid how
   have HVC := Lib.hid hvc
   have HLBR := Lib.hid hlb
   subst hA
   clear hx hu huN hgv how hvc hlb hce hRr l3
   go_wp2_with fail
   clear c0 c1 c2 c3 c4
   obtain ⟨q, hq⟩ : ∃ q, q = wr.heap.size := ⟨_, rfl⟩
   have HQ := Lib.hid hq
   have HFQ := Lib.hid (show Fut wr (wr.alloc (.cells #[.int .i64 (u : Int), .slice x.A x.t.length x.k, .int .i64 x.c, .int .i64 x.l0, .int .i64 x.l1] 49)) from (Fut.refl wr).alloc _)
   have HBQ := Lib.hid (show Blk (wr.alloc (.cells #[.int .i64 (u : Int), .slice x.A x.t.length x.k, .int .i64 x.c, .int .i64 x.l0, .int .i64 x.l1] 49)) q 49 #[.int .i64 (u : Int), .slice x.A x.t.length x.k, .int .i64 x.c, .int .i64 x.l0, .int .i64 x.l1] from by rw [hq]; exact Blk.new _ _ _)
   rw [← hq]
   clear hq
   generalize wr.alloc (.cells #[.int .i64 (u : Int), .slice x.A x.t.length x.k, .int .i64 x.c, .int .i64 x.l0, .int .i64 x.l1] 49) = w5 at *
   obtain ⟨len, hlen⟩ : ∃ p, p = (hdUp es u j).length := ⟨_, rfl⟩
   have HLEN := Lib.hid hlen
   rw [← hlen] at HGV HOW HVC
   have hlen12 : len ≤ 12 := by have := hdUp_len es u j; have := HN12.out; omega
   obtain ⟨S, hS⟩ : ∃ S : Nat → Bool, S = fun k => (Value.slice vA len vc).ownBlock == some k := ⟨_, rfl⟩
   have hSb : ∀ k, k < w3.heap.size ∨ wr.heap.size ≤ k → S k = false := fun k hk => by
    rw [hS]
    refine beq_eq_false_iff_ne.2 (fun e => ?_)
    have := World.ownsRow.lt HOW.out k e
    omega
   have HSV2 := Lib.hid (show ∀ k, (Value.slice vA len vc).ownBlock = some k → S k = true from fun k hk => by rw [hS]; simp [hk])
   have x3 := cell_futS (HFQ.out.cell (HLBR.out.cell (i := 3) rfl)) (hSb _ (.inl HLB3.out.lt))
   have y0 := cell_futS (HBQ.out.cell (i := 0) rfl) (hSb q (.inr (by rw [HQ.out]; exact Nat.le_refl _)))
   clear hS hSb hlen
   have hlk1 := ((HJJ.out.mf.fut (HFQ.out.drew)).lookup klaw Tryd.underlying86 (zero_li _) (keyN (v := u) (by have := HUN.out; omega))).1
   have hlk2 := ((HJJ.out.mf.fut ((HFQ.out.alloc (.cells #[.int .i64 (j : Int)] 3)).drew)).lookup klaw Tryd.underlying86 (zero_li _) (keyN (v := u) (by have := HUN.out; omega))).1
   rw [HGV.out] at hlk1 hlk2
   refine wp_region_MG (relS S) o_kbest_newLister_6 (by kernel_rfl) (by kernel_rfl) (by intro c a d v w h; cases d <;> exact h) ?_; unfold o_kbest_newLister_6
   iterate 13 (refine wpS_h rfl rfl (fun K hK => ?_); go_simp; refine hK _ _ ?_; clear hK K)
   refine wpG_two' rfl rfl (fun K hK => ?_) (fun K hK => ?_)
   ·
    go_simp
    refine hK _ _ (.inr (FutS.refl _)) ?_
    clear hK K
    refine wpG_o rfl rfl (fun K hK => ?_)
    go_simp
    refine hK _ _ (.inr ((relS S).of_fut ((Fut.refl _).alloc _))) ?_
    clear hK K
    clear x3 y0 hlk1 hlk2
    obtain ⟨w6, hw6⟩ : ∃ w6, w6 = (w5.alloc (.cells #[.int .i64 (j : Int)] 3)).drew := ⟨_, rfl⟩
    have HF6 := Lib.hid (show Fut wr w6 from by rw [hw6]; exact (HFQ.out.alloc _).drew)
    have HNB := Lib.hid (show w6.heap[w5.heap.size]? = some (.cells #[.int .i64 (j : Int)] 3 (0, 0)) from by rw [hw6]; exact heap_new' _ _ _ rfl)
    have HOW6 := Lib.hid (own_fut HOW.out HF6.out)
    rw [show (w5.alloc (.cells #[.int .i64 (j : Int)] 3)).drew = w6 from hw6.symm]
    clear hw6
    refine wpG_o rfl rfl (fun K hK => ?_)
    refine wp_push 46 3 1 8 _ Tryd.underlying46 info_intQ rfl (by decide) (by decide) (.tmp 39) (.tmp 41) rfl w3.heap.size (.slice vA len vc) len _ rfl HOW6.out w5.heap.size [.int .i64 (j : Int)] rfl HNB.out rfl (by simp [Value.oneCell']) (by omega) (Nat.le_trans HJJ.out.f.size HF6.out.size) ?_
    intro g cap w7 p1 p2 p3
    refine hK _ _ (.inr ((FutS.refl _).grown p2 (fun k hk => .inl (HSV2.out k hk)))) ?_
    clear hK K
    have hown3 : ∀ k, (Value.slice vA len vc).ownBlock = some k → w3.heap.size ≤ k := fun k hk => (World.ownsRow.lt HOW.out k hk).1
    have HM7 := Lib.hid (show MF Tryd.prog 3 w7 (w.heap.size + 1) HF from (HJJ.out.mf.fut HF6.out).grown p2 (fun e => by have := hown3 _ e.symm; have := HM3.out.lt; omega))
    have HP7 := Lib.hid (And.intro p1 (And.intro p2 (And.intro p3 hown3)))
    clear p1 p2 p3 hown3
    refine wpG_ol rfl (by kernel_rfl) rfl (fun K hK => ?_)
    refine wp_fput (.tmp 30) (.tmp 32) (.tmp 42) rfl klaw Tryd.underlying86 rfl HM7.out (keyN (v := u) (by have := HUN.out; omega)) rfl rfl ?_
    intro w8 hm8 hg8
    refine hK _ _ ?_
    clear hK K
    refine wpG_nil ?_
    obtain ⟨p1, p2, p3, hown3⟩ := HP7.out
    have hlt1 : w.heap.size + 1 < w3.heap.size := HM3.out.lt
    have hJ8 : HJ es N (w.heap.size + 1) (j + 1) w3 w8 (mset HF (kI u) (.slice (some ⟨g, 0, none⟩) (len + 1) cap)) := by
     have hle := HLEN.out
     subst hle
     exact HJJ.out.step hlt1 HX.out HU.out HUN.out HVC.out HF6.out hown3 p1 p2 p3 hm8 hg8
    have HJ8 := Lib.hid hJ8
    clear hJ8 hm8 hg8 p1 p2 p3 hown3 hlt1
    go_wp2_with fail
    exact ⟨⟨j + 1, _, by omega, by go_num, HJ8⟩, by simp [intOf]; omega⟩
   ·
    go_simp
    refine hK _ _ (.inr ((relS S).of_fut ((Fut.refl _).alloc _))) ?_
    clear hK K
    refine wpG_o rfl rfl (fun K hK => ?_)
    go_simp
    refine hK _ _ (.inr (FutS.refl _)) ?_
    clear hK K
    clear x3 y0 hlk1 hlk2
    obtain ⟨w6, hw6⟩ : ∃ w6, w6 = (w5.alloc (.cells #[.int .i64 (j : Int)] 3)).drew := ⟨_, rfl⟩
    have HF6 := Lib.hid (show Fut wr w6 from by rw [hw6]; exact (HFQ.out.alloc _).drew)
    have HNB := Lib.hid (show w6.heap[w5.heap.size]? = some (.cells #[.int .i64 (j : Int)] 3 (0, 0)) from by rw [hw6]; exact heap_new' _ _ _ rfl)
    have HOW6 := Lib.hid (own_fut HOW.out HF6.out)
    rw [show (w5.alloc (.cells #[.int .i64 (j : Int)] 3)).drew = w6 from hw6.symm]
    clear hw6
    refine wpG_o rfl rfl (fun K hK => ?_)
    refine wp_push 46 3 1 8 _ Tryd.underlying46 info_intQ rfl (by decide) (by decide) (.tmp 39) (.tmp 41) rfl w3.heap.size (.slice vA len vc) len _ rfl HOW6.out w5.heap.size [.int .i64 (j : Int)] rfl HNB.out rfl (by simp [Value.oneCell']) (by omega) (Nat.le_trans HJJ.out.f.size HF6.out.size) ?_
    intro g cap w7 p1 p2 p3
    refine hK _ _ (.inr ((FutS.refl _).grown p2 (fun k hk => .inl (HSV2.out k hk)))) ?_
    clear hK K
    have hown3 : ∀ k, (Value.slice vA len vc).ownBlock = some k → w3.heap.size ≤ k := fun k hk => (World.ownsRow.lt HOW.out k hk).1
    have HM7 := Lib.hid (show MF Tryd.prog 3 w7 (w.heap.size + 1) HF from (HJJ.out.mf.fut HF6.out).grown p2 (fun e => by have := hown3 _ e.symm; have := HM3.out.lt; omega))
    have HP7 := Lib.hid (And.intro p1 (And.intro p2 (And.intro p3 hown3)))
    clear p1 p2 p3 hown3
    refine wpG_ol rfl (by kernel_rfl) rfl (fun K hK => ?_)
    refine wp_fput (.tmp 30) (.tmp 32) (.tmp 42) rfl klaw Tryd.underlying86 rfl HM7.out (keyN (v := u) (by have := HUN.out; omega)) rfl rfl ?_
    intro w8 hm8 hg8
    refine hK _ _ ?_
    clear hK K
    refine wpG_nil ?_
    obtain ⟨p1, p2, p3, hown3⟩ := HP7.out
    have hlt1 : w.heap.size + 1 < w3.heap.size := HM3.out.lt
    have hJ8 : HJ es N (w.heap.size + 1) (j + 1) w3 w8 (mset HF (kI u) (.slice (some ⟨g, 0, none⟩) (len + 1) cap)) := by
     have hle := HLEN.out
     subst hle
     exact HJJ.out.step hlt1 HX.out HU.out HUN.out HVC.out HF6.out hown3 p1 p2 p3 hm8 hg8
    have HJ8 := Lib.hid hJ8
    clear hJ8 hm8 hg8 p1 p2 p3 hown3 hlt1
    go_wp2_with fail
    exact ⟨⟨j + 1, _, by omega, by go_num, HJ8⟩, by simp [intOf]; omega⟩
  ·
   have hjn2 : j = es.length := by have := HL.out; omega
   clear l3 hlb
   go_wp2_with fail
   go_returns
   have hJn : HJ es N (w.heap.size + 1) es.length w3 wr HF := by rw [← hjn2]; exact HJJ.out
   have h4 := HM3.out.lt
   have h5 := HM4.out.lt
   have h6 := HZ1.out
   have h7 := HVB.out
   obtain ⟨X, F, g1, g2, g3, g4, g5, g6, g7, g8, g9⟩ := hJn.lister HL.out HN12.out HVD.out HN8.out HTL.out HSO.out HSS.out HB0.out HR.out HF3.out (sm := w.heap.size + 1 + 1) ⟨by omega, h4, by omega⟩ (by omega) HM4.out HLB3.out ⟨by omega, by omega, by omega⟩ HV3.out ⟨by omega, by omega, by omega⟩
   exact ⟨X, F, ⟨g1, g2, g3, g4, g5, g6, g7, by rw [g8]; rfl⟩, g9⟩
end Go.Proofs.YtajbmdjlfniofaaDoor
/-
  The enumeration: the iterator, for a caller of any kind.
-/
namespace Go.Proofs.YtajbmdjlfniofaaDoor
open Go.RowKit Go.Deep PK
attribute [local go_sem] Oper.lit Oper.litS fut_fut fut_drew World.cell?_alloc_some
attribute [local go_sem] World.frozen?_setCell
/-- what a caller of the iterator keeps between two rounds: the trees it was handed, its own blocks C, the blocks F of the trees -/
structure CJ (J : List DI → (Nat → Bool) → (Nat → Bool) → World → Prop) : Prop where
 lt : ∀ ks C F w, J ks C F w → ∀ k, C k = true → k < w.heap.size
 keep : ∀ ks C F G w w', J ks C F w → w.heap.size ≤ w'.heap.size → KpF C w w' → KpF F w w' → (∀ k, F k = true → G k = true) → J ks C G w'
/-- a round, as a caller meets it -/
def RoundK (J Jx : List DI → (Nat → Bool) → (Nat → Bool) → World → Prop) (l : Nat) : Prop :=
 ∀ ks C F w d, J ks C F w → RdP (fun b => F b = true) w d → (∀ k, F k = true → k < w.heap.size ∧ C k = false) →
  YieldAt Fence.wide 0 Tryd.prog l #[dv d] w fun e w' => ∃ C', (∀ k, C' k = true → C k = true ∨ w.heap.size ≤ k) ∧ FutS C w w' ∧ ((e = .returned (.bool true) ∧ J (ks ++ [d]) C' F w') ∨ (e = .returned (.bool false) ∧ Jx (ks ++ [d]) C' F w'))
/-- between two rounds, in the iterator -/
structure IJ (X : LX) (J : List DI → (Nat → Bool) → (Nat → Bool) → World → Prop) (root rb : Nat) (C0 : Nat → Bool) (w0 : World) (ks : List DI) (C F : Nat → Bool) (σ : ST) (w : World) : Prop where
 j : J ks C F w
 li : LI X F w σ
 id : IdleAll X.L (fun _ => false) σ
 cl : ∀ k, C k = true → ¬ LBs X σ k ∧ F k = false
 kn : ks = [] ∨ ∃ a, σ root = some a ∧ ks.length ≤ a.K.length ∧ ks = (a.K.take ks.length).map (·.d)
 bx : Blk w rb 3 #[.int .i64 (root : Int)]
 fr : F rb = true
 f : FutS C0 w0 w
 cn : ∀ k, C k = true → C0 k = true ∨ w0.heap.size ≤ k
 ln : ∀ k, LBs X σ k → w0.heap.size ≤ k
theorem zip_pre {X : LX} {F : Nat → Bool} {w : World} {σ : ST} (h : LI X F w σ) {v : Nat} {a : TS} (ha : σ v = some a) (r : Nat) : PreD X.L.E v (((a.K.take r).map (·.d)).map toDT) := by
 have h1 := (h.pl v a ha).half.pre.take r
 rw [List.map_map] at h1 ⊢
 rw [← List.map_take, ] at h1
 exact h1
theorem IJ.pre {X : LX} {J : List DI → (Nat → Bool) → (Nat → Bool) → World → Prop} {root rb : Nat} {C0 : Nat → Bool} {w0 : World} {ks : List DI} {C F : Nat → Bool} {σ : ST} {w : World} (h : IJ X J root rb C0 w0 ks C F σ w) : PreD X.L.E root (ks.map toDT) := by
 rcases h.kn with h1 | ⟨a, ha, _, hk⟩
 ·
  rw [h1]; exact PreD.nil
 ·
  rw [hk]; exact zip_pre h.li ha _
/-- get's word, in the iterator -/
theorem IJ.got {X : LX} {J : List DI → (Nat → Bool) → (Nat → Bool) → World → Prop} (hJ : CJ J) {root rb : Nat} {C0 : Nat → Bool} {w0 : World} {ks : List DI} {C F : Nat → Bool} {σ : ST} {w : World} (h : IJ X J root rb C0 w0 ks C F σ w) {F' : Nat → Bool} {σ' : ST} {w' : World} (li : LI X F' w' σ') (id : IdleAll X.L (fun _ => false) σ') (ex : Ext (fun _ => false) σ σ') (fr : Fr X F w σ F' w' σ') : IJ X J root rb C0 w0 ks C F' σ' w' := by
 have hws : w.heap.size ≤ w'.heap.size := fr.f.size
 have hlt := hJ.lt _ _ _ _ h.j
 have hC : KpF C w w' := fun k hk => fr.f.block k (hlt k hk) (by
  cases e : LBb X σ k with
  | false => rfl
  | true => exact absurd (LBb_iff.1 e) (h.cl k hk).1)
 have hF : KpF F w w' := KpF.of_futS h.li.fb (fun q hq => by
  cases e : LBb X σ q with
  | false => rfl
  | true => rw [h.li.nF (LBb_iff.1 e)] at hq; cases hq) fr.f
 refine ⟨hJ.keep _ _ _ _ _ _ h.j hws hC hF fr.i, li, id, fun k hk => ⟨fun h1 => ?_, ?_⟩, ?_, (hF rb h.fr).trans h.bx, fr.i rb h.fr, ?_, h.cn, fun k hk => ?_⟩
 ·
  rcases fr.b k h1 with h2 | h2
  ·
   exact (h.cl k hk).1 h2
  ·
   have := hlt k hk; omega
 ·
  cases e : F' k with
  | false => rfl
  | true =>
   rcases fr.n k e with h2 | h2
   ·
    rw [(h.cl k hk).2] at h2; cases h2
   ·
    have := hlt k hk; omega
 ·
  rcases h.kn with h1 | ⟨a, ha, hl, hk⟩
  ·
   exact .inl h1
  ·
   obtain ⟨a', g1, _, _, g4, _⟩ := ex.k root a ha
   have hll := len_of_ext g4
   refine .inr ⟨a', g1, by omega, hk.trans ?_⟩
   congr 1
   apply List.ext_getElem?
   intro i
   rw [List.getElem?_take, List.getElem?_take]
   split
   ·
    rename_i hi
    have h5 : a.K[i]? = some (a.K[i]'(by omega)) := List.getElem?_eq_getElem _
    rw [h5, g4 i _ h5]
   ·
    rfl
 ·
  refine ⟨fr.f.os.trans h.f.os, fr.f.tape.trans h.f.tape, fr.f.output.trans h.f.output, Nat.le_trans h.f.size hws, fun k hk hs => (fr.f.block k (Nat.lt_of_lt_of_le hk h.f.size) ?_).trans (h.f.block k hk hs)⟩
  cases e : LBb X σ k with
  | false => rfl
  | true => have := h.ln k (LBb_iff.1 e); omega
 ·
  rcases fr.b k hk with h2 | h2
  ·
   exact h.ln k h2
  ·
   have := h.f.size; omega
theorem IJ.go {X : LX} {J : List DI → (Nat → Bool) → (Nat → Bool) → World → Prop} (hJ : CJ J) {root rb : Nat} {C0 : Nat → Bool} {w0 : World} {ks : List DI} {C F : Nat → Bool} {σ : ST} {w : World} (h : IJ X J root rb C0 w0 ks C F σ w) {w' : World} (hf : Fut w w') : IJ X J root rb C0 w0 ks C F σ w' :=
 h.got hJ (h.li.go hf) h.id (Ext.refl _ _) (Fr.of_fut hf)
/-- a round, in the iterator -/
theorem IJ.round {X : LX} {J J' : List DI → (Nat → Bool) → (Nat → Bool) → World → Prop} (hJ : CJ J) {root rb : Nat} {C0 : Nat → Bool} {w0 : World} {ks : List DI} {C F : Nat → Bool} {σ : ST} {w : World} (h : IJ X J root rb C0 w0 ks C F σ w) {a : TS} (ha : σ root = some a) {c : CI} (hc : a.K[ks.length]? = some c) {C' : Nat → Bool} {w' : World} (h1 : ∀ k, C' k = true → C k = true ∨ w.heap.size ≤ k) (h2 : FutS C w w') (h3 : J' (ks ++ [c.d]) C' F w') : IJ X J' root rb C0 w0 (ks ++ [c.d]) C' F σ w' := by
 have hlt := hJ.lt _ _ _ _ h.j
 have hkl := (List.getElem?_eq_some_iff.1 hc).1
 refine ⟨h3, h.li.other h2 (fun k hk _ => h.cl k hk), h.id, fun k hk => ?_, .inr ⟨a, ha, by rw [List.length_append]; simp; omega, ?_⟩, (h2.block rb h.bx.lt ?_).trans h.bx, h.fr, ?_, fun k hk => ?_, h.ln⟩
 ·
  rcases h1 k hk with h4 | h4
  ·
   exact h.cl k h4
  ·
   refine ⟨fun h5 => by have := h.li.bF h5; omega, ?_⟩
   cases e : F k with
   | false => rfl
   | true => have := h.li.fb k e; omega
 ·
  rw [List.length_append, List.length_singleton, List.take_add_one, hc, List.map_append]
  congr 1
  rcases h.kn with h4 | ⟨a', ha', _, hk⟩
  ·
   rw [h4]; rfl
  ·
   rw [ha] at ha'
   obtain rfl := Option.some.inj ha'
   exact hk
 ·
  cases e : C rb with
  | false => rfl
  | true => have := (h.cl rb e).2; rw [h.fr] at this; cases this
 ·
  refine ⟨h2.os.trans h.f.os, h2.tape.trans h.f.tape, h2.output.trans h.f.output, Nat.le_trans h.f.size h2.size, fun k hk hs => (h2.block k (Nat.lt_of_lt_of_le hk h.f.size) ?_).trans (h.f.block k hk hs)⟩
  cases e : C k with
  | false => rfl
  | true =>
   rcases h.cn k e with h4 | h4
   ·
    rw [h4] at hs; cases hs
   ·
    omega
 ·
  have := h.f.size
  rcases h1 k hk with h4 | h4
  ·
   exact h.cn k h4
  ·
   exact .inr (by omega)
set_option maxHeartbeats 6400000 in
set_option maxRecDepth 4000 in
theorem iter_any (N : Nat) (A : Option Addr) (n c : Nat) (es : List EI) (w : World) (hl : es.length = n) (hn : n ≤ 12) (hvd : validB N es = true) (hN8 : N ≤ 8) (htl : ∀ e ∈ es, e.t.length ≤ 3) (V : Nat → VV) (hS : Sol (EEs es) V) (hs : ∀ i, (V i).s < INF) (F0 : Nat → Bool) (hb0 : ∀ k, F0 k = true → k < w.heap.size) (hR : StF F0 w (fun w' => RdE w' A es))
  (root : Nat) (hroot : root < N) (hb rb l : Nat) (hhb : Blk w hb 24 #[.int .i64 N, .slice A n c]) (hrb : Blk w rb 3 #[.int .i64 (root : Int)]) (hfr : F0 rb = true)
  (J Jx : List DI → (Nat → Bool) → (Nat → Bool) → World → Prop) (hJ : CJ J) (hJ50 : ∀ ks C F w, J ks C F w → ks.length < 50) (hRK : RoundK J Jx l) (C : Nat → Bool) (hC : ∀ k, F0 k = true → C k = false) (h0 : J [] C F0 w) :
  Calls Tryd.prog 33 #[.func (.yield l) #[] #[], .pointer (some ⟨hb, 0, none⟩), .pointer (some ⟨rb, 0, none⟩)] w fun e w' => (∃ v, e = .returned v) ∧ ∃ ks C' F', PreD (EEs es) root (ks.map toDT) ∧ ((J ks C' F' w' ∧ FullD (EEs es) root (ks.map toDT)) ∨ Jx ks C' F' w') ∧ FutS C w w' ∧ (∀ k, C' k = true → F' k = false) := by
 have HNL := Lib.hid (newLister_any N A n c es w hl hn hvd hN8 htl V hS hs F0 hb0 hR)
 have HJ := Lib.hid hJ
 have HJ5 := Lib.hid hJ50
 have HRK := Lib.hid hRK
 have HC := Lib.hid hC
 have H0 := Lib.hid h0
 have HRB := Lib.hid hrb
 have HFR := Lib.hid hfr
 have HB0 := Lib.hid hb0
 have HRT := Lib.hid hroot
 have q0 := hhb.cell (i := 0) rfl
 have q1 := hhb.cell (i := 1) rfl
 clear hl hn hvd hN8 htl hS hs hb0 hR hJ hJ50 hRK hC h0 hrb hhb hfr hroot
 go_enter Tryd.func33, Tryd.ntmps33
 go_wp2_with fail
 refine HNL.out.mono ?_
 rintro e w1 ⟨X, F, ⟨hX, hXM, hXN, hXA, hXn, hXc, hXe, rfl⟩, li, f0, f1, hf, hsm⟩
 have hJ1 : IJ X J root rb C w [] C F (fun _ => none) w1 := by
  have hlt := HJ.out.lt _ _ _ _ H0.out
  refine ⟨HJ.out.keep _ _ _ _ _ _ H0.out hf.size (fun k hk => hf.block k (hlt k hk)) (fun k hk => hf.block k (HB0.out k hk)) f0, li, fun v t h => by (cases h), fun k hk => ⟨fun h1 => ?_, ?_⟩, .inl rfl, (hf.block rb HRB.out.lt).trans HRB.out, f0 rb HFR.out, FutS.of hf, fun k hk => .inl hk, fun k hk => ?_⟩
  ·
   rcases h1 with h1 | ⟨v, t, h1, _⟩
   ·
    have := hlt k hk; omega
   ·
    cases h1
  ·
   cases e : F k with
   | false => rfl
   | true =>
    rcases f1 k e with h2 | h2
    ·
     have := HC.out k h2; rw [hk] at this; cases this
    ·
     have := hlt k hk; omega
  ·
   rcases hk with h1 | ⟨v, t, h1, _⟩
   ·
    rw [h1]; exact hsm
   ·
    cases h1
 have HJ1 := Lib.hid hJ1
 have HX := Lib.hid hX
 have HXM := Lib.hid hXM
 have HXE := Lib.hid hXe
 clear hJ1 hX hXM hXN hXA hXn hXc hXe li f0 f1 hf hsm q0 q1
 go_wp2_with fail
 go_loopw [5] (fun i wr => ∃ (ks : List DI) (C' F' : Nat → Bool) (σ : ST), i = .int .i64 (ks.length : Nat) ∧ Hid (IJ X J root rb C w ks C' F' σ wr)) (fun i _ => 50 - (intOf i).toNat)
 case atStart => exact ⟨[], C, F, _, rfl, HJ1⟩
 case round =>
  obtain ⟨ks, C', F', σ, rfl, HI⟩ := hrel
  refine (wpIn_wide (n := 0)).1 ?_
  have r0 := HI.out.bx.cell (i := 0) rfl
  have hk50 : ks.length < 50 := HJ5.out _ _ _ _ HI.out.j
  obtain ⟨r, hr⟩ : ∃ r, ks.length = r := ⟨_, rfl⟩
  have HRR := Lib.hid hr
  rw [hr] at hk50
  have HGC := Lib.hid (get_any X HX.out F' wr σ HI.out.li HI.out.id root (by rw [HXM.out]; exact HRT.out) r hk50 (by
   rcases HI.out.kn with h1 | ⟨a, ha, h2, _⟩
   ·
    left; rw [← hr, h1]; rfl
   ·
    right; exact ⟨a, ha, by rw [← hr]; exact h2⟩))
  rw [hr]
  clear hr
  gi_wp2_with fail
  refine ⟨trivial, rfl, (callsIn_wide.2 HGC.out).mono ?_⟩
  rintro e w2 ⟨F2, σ2, li2, id2, ex2, fr2, hres⟩
  have hI2 := HI.out.got HJ.out li2 id2 ex2 fr2
  have HI2 := Lib.hid hI2
  clear li2 id2 ex2 fr2 hI2 r0
  rcases hres with ⟨a, cd, sv, hc, rfl⟩ | ⟨hsh, rfl⟩
  ·
   have HSV := Lib.hid sv
   rw [← HRR.out] at hc
   have HCD := Lib.hid hc
   clear sv hc
   obtain ⟨w3, hw3⟩ : ∃ w3, w3 = w2.alloc (.cells #[.int .i64 cd.d.e, .slice cd.d.A cd.d.k.length cd.d.c, .int .i64 cd.v.c, .int .i64 cd.v.s, .slice cd.rA cd.r.length cd.rc] 66) := ⟨_, rfl⟩
   have HI3 := Lib.hid (show IJ X J root rb C w ks C' F2 σ2 w3 from by rw [hw3]; exact HI2.out.go HJ.out ((Fut.refl w2).alloc _))
   have hB3 : Blk w3 w2.heap.size 66 #[.int .i64 cd.d.e, .slice cd.d.A cd.d.k.length cd.d.c, .int .i64 cd.v.c, .int .i64 cd.v.s, .slice cd.rA cd.r.length cd.rc] := by rw [hw3]; exact Blk.new _ _ _
   obtain ⟨fn, tmps, assign, body, hy, hround⟩ := HRK.out ks C' F2 w3 cd.d HI3.out.j ((HI3.out.li.mem root a HSV.out).ktr cd (List.mem_of_getElem? HCD.out)).1 (fun k hk => ⟨HI3.out.li.fb k hk, by
    cases e : C' k with
    | false => rfl
    | true => have := (HI3.out.cl k e).2; rw [hk] at this; cases this⟩)
   simp only [dv] at hy
   have HRD := Lib.hid hround
   have d0 := hB3.cell (i := 0) rfl
   have d1 := hB3.cell (i := 1) rfl
   clear hround hB3
   rw [hw3] at hy d0 d1
   gi_wp2_with fail
   refine ⟨rfl, ?_⟩
   rw [← hw3]
   clear hy d0 d1 hw3
   refine HRD.out.mono ?_
   rintro e w4 ⟨C2, g1, g2, ⟨rfl, h3⟩ | ⟨rfl, h3⟩⟩
   ·
    have HI4 := Lib.hid (HI3.out.round HJ.out HSV.out HCD.out g1 g2 h3)
    have hr1 : (ks ++ [cd.d]).length = r + 1 := by rw [List.length_append, HRR.out]; rfl
    have hr50 := HJ5.out _ _ _ _ h3
    rw [hr1] at hr50
    clear g1 g2 h3
    gi_wp2_with fail
    exact ⟨⟨ks ++ [cd.d], C2, F2, σ2, by rw [hr1]; go_num, HI4⟩, by simp [intOf]; omega⟩
   ·
    have HI4 := Lib.hid (HI3.out.round HJ.out HSV.out HCD.out g1 g2 h3)
    clear g1 g2 h3
    gi_wp2_with fail
    go_returns
    refine ⟨⟨_, rfl⟩, ks ++ [cd.d], C2, F2, ?_, .inr HI4.out.j, HI4.out.f, fun k hk => (HI4.out.cl k hk).2⟩
    have h5 := HI4.out.pre
    unfold LP.E at h5
    rw [HXE.out] at h5
    exact h5
  ·
   have HSH := Lib.hid hsh
   clear hsh
   gi_wp2_with fail
   refine ⟨fun f h => (by cases h), ?_⟩
   go_at_K
   gi_wp2_with fail
   go_returns
   have h5 := HI2.out.pre
   have h6 : FullD X.L.E root (ks.map toDT) := fun d hd => by
    obtain ⟨K, k1, k2, k3⟩ := HSH.out
    have h7 : K.length ≤ (ks.map toDT).length := by rw [List.length_map, HRR.out]; exact k3
    have h8 := k1.eq_take h5 h7
    have h9 := k2 d hd
    rw [h8] at h9
    exact List.mem_of_mem_take h9
   unfold LP.E at h5 h6
   rw [HXE.out] at h5 h6
   have hI9 := HI2.out.go HJ.out ((Fut.refl w2).alloc (.cells #[.int .i64 0, .slice none 0 0, .int .i64 0, .int .i64 0, .slice none 0 0] 66))
   exact ⟨⟨_, rfl⟩, ks, C', F2, h5, .inl ⟨hI9.j, h6⟩, hI9.f, fun k hk => (hI9.cl k hk).2⟩
end Go.Proofs.YtajbmdjlfniofaaDoor
/-
  The enumeration: a range over the iterator.
-/
namespace Go.Proofs.YtajbmdjlfniofaaDoor
open Go.RowKit Go.Deep PK
attribute [local go_sem] Oper.lit Oper.litS fut_fut fut_drew World.cell?_alloc_some
attribute [local go_sem] World.frozen?_setCell
theorem fut_put {w : World} {l : Nat} (o : Obj) : FutS (fun k => k == l) w (w.putObj l o) :=
 ⟨rfl, rfl, rfl, by simp, fun k _ hk => World.putObj_heap_other (beq_eq_false_iff_ne.1 hk)⟩
/-- a round's end, as the caller shows it -/
def BP (O : List DI → (Nat → Bool) → (Nat → Bool) → World → Prop) (Ox : Code → List DI → (Nat → Bool) → (Nat → Bool) → World → Prop) (ks : List DI) (C F : Nat → Bool) (n0 : Nat) (w : World) : Exit → Act → World → Prop
 | .normal, _, w' => ∃ C', (∀ k, C' k = true → C k = true ∨ n0 ≤ k) ∧ FutS (fun k => C k || decide (n0 ≤ k)) w w' ∧ O ks C' F w'
 | .exit id, _, w' => ∃ C', (∀ k, C' k = true → C k = true ∨ n0 ≤ k) ∧ FutS (fun k => C k || decide (n0 ≤ k)) w w' ∧ Ox (.exit id) ks C' F w'
 | _, _, _ => False
/-- the loop's record and the caller's own -/
def JO (O : List DI → (Nat → Bool) → (Nat → Bool) → World → Prop) (rc : Loop) (l D : Nat) (ks : List DI) (C F : Nat → Bool) (w : World) : Prop :=
 ∃ C1, (∀ k, C k = (C1 k || k == l || k == D)) ∧ O ks C1 F w ∧ C1 l = false ∧ C1 D = false ∧ w.heap[l]? = some (.loop rc) ∧ w.heap[D]? = some (.deferred (some []))
theorem JO.cj {O : List DI → (Nat → Bool) → (Nat → Bool) → World → Prop} (hO : CJ O) (rc : Loop) (l D : Nat) : CJ (JO O rc l D) := by
 refine ⟨fun ks C F w h k hk => ?_, fun ks C F G w w' h hs hC hF hFG => ?_⟩
 ·
  obtain ⟨C1, h1, h2, h3, h4, h5, h6⟩ := h
  rw [h1] at hk
  simp only [Bool.or_eq_true, beq_iff_eq] at hk
  rcases hk with (hk | hk) | hk
  ·
   exact hO.lt _ _ _ _ h2 k hk
  ·
   rw [hk]; exact (Array.getElem?_eq_some_iff.1 h5).1
  ·
   rw [hk]; exact (Array.getElem?_eq_some_iff.1 h6).1
 ·
  obtain ⟨C1, h1, h2, h3, h4, h5, h6⟩ := h
  exact ⟨C1, h1, hO.keep _ _ _ _ _ _ h2 hs (fun k hk => hC k (by rw [h1, hk]; rfl)) hF hFG, h3, h4, (hC l (by rw [h1]; simp)).trans h5, (hC D (by rw [h1]; simp)).trans h6⟩
theorem range_any (N : Nat) (A : Option Addr) (n c : Nat) (es : List EI) (hl : es.length = n) (hn : n ≤ 12) (hvd : validB N es = true) (hN8 : N ≤ 8) (htl : ∀ e ∈ es, e.t.length ≤ 3) (V : Nat → VV) (hS : Sol (EEs es) V) (hs : ∀ i, (V i).s < INF)
  {g : Operand} {ps : Array Tmp} {assign body : Code} {Q : Exit → Act → World → Prop} {a : Act} {w : World} (m : Nat)
  (F0 : Nat → Bool) (hb0 : ∀ k, F0 k = true → k < w.heap.size) (hR : StF F0 w (fun w' => RdE w' A es))
  (root : Nat) (hroot : root < N) (hb rb : Nat) (hhb : Blk w hb 24 #[.int .i64 N, .slice A n c]) (hrb : Blk w rb 3 #[.int .i64 (root : Int)]) (hfr : F0 rb = true)
  (hg : a.eval g = .func (.func 33) #[] #[.pointer (some ⟨hb, 0, none⟩), .pointer (some ⟨rb, 0, none⟩)]) (hps : ps.size = 1)
  (O : List DI → (Nat → Bool) → (Nat → Bool) → World → Prop) (Ox : Code → List DI → (Nat → Bool) → (Nat → Bool) → World → Prop) (hO : CJ O) (hOx : ∀ c, CJ (Ox c)) (hO50 : ∀ ks C F w, O ks C F w → ks.length < 50) (C : Nat → Bool) (hC : ∀ k, F0 k = true → C k = false) (h0 : O [] C F0 w)
  (hwalk : ∀ (l : Nat) (ks : List DI) (C1 F : Nat → Bool) (W : World) (d : DI), O ks C1 F W → RdP (fun b => F b = true) W d → (∀ k, F k = true → k < W.heap.size ∧ C1 k = false) → l < W.heap.size → C1 l = false → F l = false →
   assign.wpIn (Fence.wide.inRound l) 0 Tryd.prog (Exit.then (fun a1 w1 => Fut W w1 ∧ ∀ w2, FutS (fun k => k == l) w1 w2 → body.wpIn (Fence.wide.inRound l) 0 Tryd.prog (BP O Ox (ks ++ [d]) C1 F W.heap.size w2) a1 w2) (fun _ _ _ => False)) { tmps := (ps.zip #[dv d]).foldl (fun tmps (t, a) => tmps.setIfInBounds t a) a.tmps, defers := [] } W)
  (hdone : ∀ (D : Nat) (ks : List DI) (C1 F : Nat → Bool) (W : World), O ks C1 F W → PreD (EEs es) root (ks.map toDT) → FullD (EEs es) root (ks.map toDT) → FutS C w W → w.heap.size ≤ D → W.heap[D]? = some (.deferred (some [])) → C1 D = false → F D = false → Q .normal { a with defers := { target := .collected D, args := #[] } :: a.defers } W)
  (hstop : ∀ (D : Nat) (j : Code) (ks : List DI) (C1 F : Nat → Bool) (W : World), Ox j ks C1 F W → PreD (EEs es) root (ks.map toDT) → FutS C w W → w.heap.size ≤ D → W.heap[D]? = some (.deferred (some [])) → C1 D = false → F D = false → j.wpIn Fence.wide m Tryd.prog Q { a with defers := { target := .collected D, args := #[] } :: a.defers } W) :
  (Code.rangeFunc g ps assign body).wpIn Fence.wide m Tryd.prog Q a w := by
 refine wpIn_rangeFunc ?_
 intro fn _
 obtain ⟨rec, hrec⟩ : ∃ rec : LoopState → Option Code → Loop, rec = fun st pe => { state := st, pending := pe, fn, tmps := a.tmps, params := ps, assign, body, defers := w.heap.size } := ⟨_, rfl⟩
 obtain ⟨W1, hW1⟩ : ∃ W1, (w.alloc (.deferred (some []))).alloc (.loop (rec .ready none)) = W1 := ⟨_, rfl⟩
 have hL1 : W1.heap[w.heap.size + 1]? = some (.loop (rec .ready none)) := by
  rw [← hW1]; have := World.alloc_heap_new (w.alloc (.deferred (some []))) (.loop (rec .ready none)); rwa [World.size_alloc] at this
 have hK1 : W1.heap[w.heap.size]? = some (.deferred (some [])) := by
  rw [← hW1]; exact (Below.heap_alloc _ _ _ (by simp)).trans (World.alloc_heap_new w _)
 have hf1 : Fut w W1 := by rw [← hW1]; exact ((Fut.refl w).alloc _).alloc _
 have hClt := hO.lt _ _ _ _ h0
 have hO1 : O [] C F0 W1 := hO.keep _ _ _ _ _ _ h0 hf1.size (fun k hk => hf1.block k (hClt k hk)) (fun k hk => hf1.block k (hb0 k hk)) (fun _ h => h)
 have hJ1 : JO O (rec .ready none) (w.heap.size + 1) w.heap.size [] (fun k => C k || k == w.heap.size + 1 || k == w.heap.size) F0 W1 := by
  refine ⟨C, fun _ => rfl, hO1, ?_, ?_, hL1, hK1⟩
  ·
   cases e : C (w.heap.size + 1) with
   | false => rfl
   | true => have := hClt _ e; omega
  ·
   cases e : C w.heap.size with
   | false => rfl
   | true => have := hClt _ e; omega
 have hRK : RoundK (JO O (rec .ready none) (w.heap.size + 1) w.heap.size) (fun ks C F W => ∃ j, JO (Ox j) (rec .done (some j)) (w.heap.size + 1) w.heap.size ks C F W) (w.heap.size + 1) := by
  intro ks C' F W d hJ hd hFC
  obtain ⟨C1, e1, o1, c1, c2, k1, k2⟩ := hJ
  have hlt : w.heap.size + 1 < W.heap.size := (Array.getElem?_eq_some_iff.1 k1).1
  have hFl : F (w.heap.size + 1) = false := by
   cases e : F (w.heap.size + 1) with
   | false => rfl
   | true => have := (hFC _ e).2; rw [e1] at this; simp at this
  have hFD : F w.heap.size = false := by
   cases e : F w.heap.size with
   | false => rfl
   | true => have := (hFC _ e).2; rw [e1] at this; simp at this
  have hy := run_yield (P := Tryd.prog) (args := #[dv d]) k1 (by rw [hrec]; exact hps.symm)
  rw [hrec] at hy
  refine ⟨fn, _, assign, body, hy, roundIn_of_wpIn trivial (wpIn_mono (hwalk (w.heap.size + 1) ks C1 F W d o1 hd (fun k hk => ⟨(hFC k hk).1, by
   have := (hFC k hk).2
   rw [e1] at this
   simp only [Bool.or_eq_false_iff] at this
   exact this.1.1⟩) hlt c1 hFl) ?_)⟩
  rintro e a1 w1 hp
  cases e with
  | normal =>
   obtain ⟨f1, hbody⟩ := hp
   have k1' : w1.heap[w.heap.size + 1]? = some (.loop (rec .ready none)) := (f1.block _ hlt).trans k1
   have k2' : w1.heap[w.heap.size]? = some (.deferred (some [])) := (f1.block _ (by omega)).trans k2
   have hl1 : w.heap.size + 1 < w1.heap.size := (Array.getElem?_eq_some_iff.1 k1').1
   refine ⟨_, run_beginRound k1' (by rw [hrec]), wpIn_mono (hbody _ (fut_put _)) ?_⟩
   have b1 : (w1.putObj (w.heap.size + 1) (.loop { rec .ready none with state := .busy })).heap[w.heap.size + 1]? = some (.loop { rec .ready none with state := .busy }) := World.putObj_heap_same hl1
   have b2 : (w1.putObj (w.heap.size + 1) (.loop { rec .ready none with state := .busy })).heap[w.heap.size]? = some (.deferred (some [])) := (World.putObj_heap_other (by omega)).trans k2'
   have b3 : FutS (fun k => k == w.heap.size + 1) W (w1.putObj (w.heap.size + 1) (.loop { rec .ready none with state := .busy })) := (FutS.of f1).trans (fut_put _)
   generalize w1.putObj (w.heap.size + 1) (.loop { rec .ready none with state := .busy }) = w2 at *
   have hsz2 : W.heap.size ≤ w2.heap.size := b3.size
   have fin : ∀ (jump : Option Code) (O' : List DI → (Nat → Bool) → (Nat → Bool) → World → Prop) (w3 : World) (C2 : Nat → Bool), CJ O' → (∀ k, C2 k = true → C1 k = true ∨ W.heap.size ≤ k) → FutS (fun k => C1 k || decide (W.heap.size ≤ k)) w2 w3 → O' (ks ++ [d]) C2 F w3 →
     (Instr.endRound (w.heap.size + 1) jump).run Tryd.prog w3 = .ok (.bool jump.isNone) (w3.putObj (w.heap.size + 1) (.loop (rec (if jump.isNone then .ready else .done) jump))) ∧
     JO O' (rec (if jump.isNone then .ready else .done) jump) (w.heap.size + 1) w.heap.size (ks ++ [d]) (fun k => C2 k || k == w.heap.size + 1 || k == w.heap.size) F (w3.putObj (w.heap.size + 1) (.loop (rec (if jump.isNone then .ready else .done) jump))) ∧
     FutS C' W (w3.putObj (w.heap.size + 1) (.loop (rec (if jump.isNone then .ready else .done) jump))) := fun jump O' w3 C2 hO' hC2 hf3 ho => by
    have hno : ∀ k, k < W.heap.size → C1 k = false → (C1 k || decide (W.heap.size ≤ k)) = false := fun k h1 h2 => by rw [h2]; simp; omega
    have b1' := (hf3.block (w.heap.size + 1) (by omega) (hno _ hlt c1)).trans b1
    have b2' := (hf3.block w.heap.size (by omega) (hno _ (by omega) c2)).trans b2
    have hl3 : w.heap.size + 1 < w3.heap.size := (Array.getElem?_eq_some_iff.1 b1').1
    have hr := run_endRound (P := Tryd.prog) jump b1'
    rw [hrec] at hr ⊢
    have hC2n : ∀ k, k < W.heap.size → C1 k = false → C2 k = false := fun k h1 h2 => by
     cases e : C2 k with
     | false => rfl
     | true =>
      rcases hC2 k e with h3 | h3
      ·
       rw [h2] at h3; cases h3
      ·
       omega
    refine ⟨hr, ⟨C2, fun _ => rfl, hO'.keep _ _ _ _ _ _ ho (by simp) (fun k hk => World.putObj_heap_other (fun e => by
     rw [e, hC2n _ hlt c1] at hk; cases hk)) (fun k hk => World.putObj_heap_other (fun e => by rw [e, hFl] at hk; cases hk)) (fun _ h => h), hC2n _ hlt c1, hC2n _ (by omega) c2, World.putObj_heap_same hl3, (World.putObj_heap_other (by omega)).trans b2'⟩, ?_⟩
    refine ⟨hf3.os.trans b3.os, hf3.tape.trans b3.tape, hf3.output.trans b3.output, by simp only [World.putObj_size]; exact Nat.le_trans hsz2 hf3.size, fun k hk hS => ?_⟩
    rw [e1] at hS
    simp only [Bool.or_eq_false_iff, beq_eq_false_iff_ne] at hS
    exact (World.putObj_heap_other hS.1.2).trans ((hf3.block k (by omega) (hno k hk hS.1.1)).trans (b3.block k hk (beq_eq_false_iff_ne.2 hS.1.2)))
   have hCC : ∀ (C2 : Nat → Bool), (∀ k, C2 k = true → C1 k = true ∨ W.heap.size ≤ k) → ∀ k, (C2 k || k == w.heap.size + 1 || k == w.heap.size) = true → C' k = true ∨ W.heap.size ≤ k := fun C2 hC2 k hk => by
    simp only [Bool.or_eq_true, beq_iff_eq] at hk
    rw [e1]
    rcases hk with (hk | hk) | hk
    ·
     rcases hC2 k hk with h3 | h3
     ·
      left; simp [h3]
     ·
      exact .inr h3
    ·
     left; simp [hk]
    ·
     left; simp [hk]
   rintro e a3 w3 hp
   cases e with
   | normal =>
    obtain ⟨C2, hC2, hf3, ho⟩ := hp
    obtain ⟨hr, hj, hff⟩ := fin none O w3 C2 hO hC2 hf3 ho
    exact ⟨_, _, hr, _, hCC C2 hC2, hff, .inl ⟨rfl, hj⟩⟩
   | exit id =>
    obtain ⟨C2, hC2, hf3, ho⟩ := hp
    obtain ⟨hr, hj, hff⟩ := fin (some (.exit id)) (Ox (.exit id)) w3 C2 (hOx _) hC2 hf3 ho
    exact ⟨_, _, hr, _, hCC C2 hC2, hff, .inr ⟨rfl, .exit id, hj⟩⟩
   | ret => exact hp.elim
   | goto t => exact hp.elim
   | panic ch => exact hp.elim
   | outgrown => exact hp.elim
  | ret => exact hp.elim
  | exit id => exact hp.elim
  | goto t => exact hp.elim
  | panic ch => exact hp.elim
  | outgrown => exact hp.elim
 have hit := iter_any N A n c es W1 hl hn hvd hN8 htl V hS hs F0 (fun k hk => Nat.lt_of_lt_of_le (hb0 k hk) hf1.size) (hR.go (fun k hk => hf1.block k (hb0 k hk))) root hroot hb rb (w.heap.size + 1) (hhb.fut hf1) (hrb.fut hf1) hfr _ _ (JO.cj hO (rec .ready none) (w.heap.size + 1) w.heap.size) (fun ks C F W h => by obtain ⟨C1, _, h2, _⟩ := h; exact hO50 _ _ _ _ h2) hRK _ (fun k hk => by
  have h1 := hC k hk
  have h2 := hb0 k hk
  simp only [h1, Bool.false_or, Bool.or_eq_false_iff, beq_eq_false_iff_ne]
  omega) hJ1
 refine ⟨w.heap.size + 1, [{ target := .collected w.heap.size, args := #[] }], W1, { target := .fn (.func 33) #[.pointer (some ⟨hb, 0, none⟩), .pointer (some ⟨rb, 0, none⟩)], args := #[.func (.yield (w.heap.size + 1)) #[] #[]] }, W1, 33,
  #[.func (.yield (w.heap.size + 1)) #[] #[]] ++ #[.pointer (some ⟨hb, 0, none⟩), .pointer (some ⟨rb, 0, none⟩)], W1, ?_, ?_, ?_, ?_, fun h => by (cases h), ?_⟩
 ·
  rw [← hW1, hrec]; exact run_enterLoop_outer _ _ _ _ _
 ·
  simp only [resolve, hg]
  simp [go_sem]
 ·
  intro f' _; trivial
 ·
  simp [invoke, go_sem]
 ·
  refine (callsIn_wide.2 hit).mono ?_
  rintro e W2 ⟨⟨v, rfl⟩, ks, C', F', hpre, hres, hff, hCF⟩
  have hfw : FutS C w W2 := ⟨hff.os.trans hf1.os, hff.tape.trans hf1.tape, hff.output.trans hf1.output, Nat.le_trans hf1.size hff.size, fun k hk hS => (hff.block k (Nat.lt_of_lt_of_le hk hf1.size) (by
   simp only [hS, Bool.false_or, Bool.or_eq_false_iff, beq_eq_false_iff_ne]
   omega)).trans (hf1.block k hk)⟩
  have hend : ∀ (O' : List DI → (Nat → Bool) → (Nat → Bool) → World → Prop) (st : LoopState) (pe : Option Code), CJ O' → st ≠ .busy → JO O' (rec st pe) (w.heap.size + 1) w.heap.size ks C' F' W2 → F' (w.heap.size + 1) = false → ∃ C1 W3, (Instr.endLoop (w.heap.size + 1)).run Tryd.prog W2 = .ok pe W3 ∧ O' ks C1 F' W3 ∧ FutS C w W3 ∧ W3.heap[w.heap.size]? = some (.deferred (some [])) ∧ C1 w.heap.size = false := fun O' st pe hO' hst hj hF' => by
   obtain ⟨C1, e1, o1, c1, c2, k1, k2⟩ := hj
   refine ⟨C1, _, by have := run_endLoop (P := Tryd.prog) k1 (by rw [hrec]; exact hst); rw [hrec] at this; exact this, hO'.keep _ _ _ _ _ _ o1 (by simp) (fun k hk => World.putObj_heap_other (fun e => by rw [e, c1] at hk; cases hk)) (fun k hk => World.putObj_heap_other (fun e => by rw [e, hF'] at hk; cases hk)) (fun _ h => h), ⟨hfw.os, hfw.tape, hfw.output, by simp only [World.putObj_size]; exact hfw.size, fun k hk hS => (World.putObj_heap_other (by omega)).trans (hfw.block k hk hS)⟩, (World.putObj_heap_other (by omega)).trans k2, c2⟩
  have hFl : ∀ {O' : List DI → (Nat → Bool) → (Nat → Bool) → World → Prop} {rc : Loop}, JO O' rc (w.heap.size + 1) w.heap.size ks C' F' W2 → F' (w.heap.size + 1) = false ∧ F' w.heap.size = false := fun hj => by
   obtain ⟨C1, e1, _⟩ := hj
   exact ⟨hCF _ (by rw [e1]; simp), hCF _ (by rw [e1]; simp)⟩
  rcases hres with ⟨hj, hfull⟩ | ⟨j, hj⟩
  ·
   obtain ⟨C1, W3, g1, g2, g3, g4, g5⟩ := hend O .ready none hO (by simp) hj (hFl hj).1
   exact ⟨none, W3, g1, hdone _ ks C1 F' W3 g2 hpre hfull g3 (Nat.le_refl _) g4 g5 (hFl hj).2⟩
  ·
   obtain ⟨C1, W3, g1, g2, g3, g4, g5⟩ := hend (Ox j) .done (some j) (hOx j) (by simp) hj (hFl hj).1
   exact ⟨some j, W3, g1, hstop _ j ks C1 F' W3 g2 hpre g3 (Nat.le_refl _) g4 g5 (hFl hj).2⟩
end Go.Proofs.YtajbmdjlfniofaaDoor
/-
  Regions that draw their order, in a round's frame.
-/
namespace Go.Proofs.YtajbmdjlfniofaaDoor
open Go.RowKit
theorem any_region_G {P : Program} {Q : Exit → Act → World → Prop} {R : World → World → Prop} (hrel : RelW R) {os : List Oper} (l : Sched) {a : Act} {w : World} (_hm : P.follows .mixedOrders = true)
  (hB : canonB os.toArray l = true) (hQ : ∀ c a d v w, Q (.panic c) (a.put d v) w → Q (.panic c) a w)
  (h : wpG R P os.toArray Q l w a w.drew) : wpAny P .any os.toArray Q os.toArray.size (Array.replicate os.toArray.size false) a w.drew := by
 simp only [canonB, Bool.and_eq_true] at hB
 exact wpAny_of_F _ _ _ _ (wpAnyF_of_wpF hrel hB.1 hQ _ l w (Array.replicate os.toArray.size false) a w.drew (closed_start _) hB.2 (hrel.of_fut (Fut.refl w).drew) h)
theorem any_region_MG {P : Program} {Q : Exit → Act → World → Prop} {R : World → World → Prop} (hrel : RelW R) {os : List Oper} (l : Sched) {a : Act} {w : World} (hm : P.follows .mixedOrders = true)
  (hB : fastB os.toArray l = true) (hQ : ∀ c a d v w, Q (.panic c) (a.put d v) w → Q (.panic c) a w)
  (h : wpG R P os.toArray Q l w a w.drew) : wpAny P .any os.toArray Q os.toArray.size (Array.replicate os.toArray.size false) a w.drew := by
 simp only [fastB, Bool.and_eq_true] at hB
 obtain ⟨⟨h1, h2⟩, h3⟩ := hB
 refine any_region_G hrel l hm ?_ hQ h
 simp only [canonB, Bool.and_eq_true]
 refine ⟨h1, order_of_M (fun o ho e he hb => ?_) _ _ _ 0 ⟨by simp, fun k hk => ?_⟩ h3⟩
 ·
  have h4 := List.all_eq_true.1 h2 o (by simpa using ho)
  have h5 := List.all_eq_true.1 h4 e (by simpa using he)
  simpa [hb] using h5
 ·
  simp only [List.size_toArray] at hk
  simp [hk]
theorem upon_in {P : Program} {o : Oper} {a : Act} {K : Act → World → Prop} {Q : Exit → Act → World → Prop} {r : Result Next} (l n : Nat) (h : o.upon P a K Q r) : o.uponIn (Fence.wide.inRound l) n P a K Q r := by
 cases r with
 | ok x w' =>
  cases x with
  | value v => exact h
  | skip => exact h
  | defer d => exact h
  | enter f args => exact ⟨fun h => (by cases h), CallsIn.inRound l (callsIn_wide.2 h)⟩
  | row row args => exact ⟨fun h => (by cases h), fun c cs _ => let ⟨v, w', r, s⟩ := h c cs; ⟨v, w', r, (stepsIn_wide (P := P)).2 s⟩⟩
  | _ => exact h.elim
 | halt x w' =>
  cases x with
  | panic v => exact h
  | _ => exact h.elim
theorem wpAnyIn_of_any {P : Program} {md : Region.Mode} {ops : Array Oper} {Q : Exit → Act → World → Prop} (l n : Nat) (hnd : ∀ (i : Nat) (o : Oper) c, ops[i]? = some o → o.op ≠ .defer c) (hno : ¬ LetsOut Q) : ∀ (fuel : Nat) (listed : Array Bool) (a : Act) (w : World), wpAny P md ops Q fuel listed a w → wpAnyIn (Fence.wide.inRound l) n P md ops Q fuel listed a w
 | 0, _, _, _, h => h
 | fuel + 1, listed, a, w, h => ⟨h.1, fun i hi => by
  have h1 := h.2 i hi
  have ih := wpAnyIn_of_any (P := P) (md := md) l n hnd hno fuel (listed.setIfInBounds i true)
  unfold wpOp at h1
  unfold wpOpIn
  cases ho : ops[i]? with
  | none =>
   simp only [ho] at h1 ⊢
   exact ih a w h1
  | some o =>
   simp only [ho] at h1 ⊢
   split
   ·
    rename_i hw
    simp only [hw, if_true] at h1
    rcases h1 with h1 | h1
    ·
     refine Oper.wpIn_mono (fun a w h => ih a w h) ⟨fun _ _ => trivial, ?_⟩
     rw [Oper.semAt_eq _ _ _ (fun c => hnd i o c ho)]
     exact upon_in l n h1
    ·
     exact absurd h1.2 hno
   ·
    rename_i hw
    simp only [hw, if_false, Bool.false_eq_true] at h1
    exact ⟨fun _ _ => trivial, ih _ _ h1⟩⟩
def noDefer (os : List Oper) : Bool := os.all (fun o => match o.op with | .defer _ => false | _ => true)
theorem wpIn_region_MG {P : Program} {Q : Exit → Act → World → Prop} {R : World → World → Prop} (hrel : RelW R) {id : Nat} {os : List Oper} (s : Sched) {a : Act} {w : World} (l n : Nat) (hm : P.follows .mixedOrders = true)
  (hB : fastB os.toArray s = true) (hd : noDefer os = true) (hQ : ∀ c a d v w, Q (.panic c) (a.put d v) w → Q (.panic c) a w) (hno : ¬ LetsOut Q)
  (h : wpG R P os.toArray Q s w a w.drew) : (Code.region id os.toArray true).wpIn (Fence.wide.inRound l) n P Q a w := by
 refine wpIn_region_any hm (wpAnyIn_of_any l n (fun i o c ho e => ?_) hno _ _ _ _ (any_region_MG hrel s hm hB hQ h))
 have h1 := List.all_eq_true.1 hd o (by
  have := Array.mem_of_getElem? ho
  simpa using this)
 rw [e] at h1
 cases h1
end Go.Proofs.YtajbmdjlfniofaaDoor
/-
  The enumeration: First.
-/
namespace Go.Proofs.YtajbmdjlfniofaaDoor
open Go.RowKit Go.Deep PK
attribute [local go_sem] Oper.lit Oper.litS fut_fut fut_drew World.cell?_alloc_some
attribute [local go_sem] World.frozen?_setCell
attribute [local go_sem] Oper.semAt_some
theorem RdE.below {w w' : World} {A : Option Addr} {es : List EI} (h : RdE w A es) (hk : ∀ k, k < w.heap.size → w'.heap[k]? = w.heap[k]?) : RdE w' A es := by
 have hc : ∀ (a : Addr) v, w.cell? a = some v → w'.cell? a = some v := fun a v e => (World.cell?_of_block (hk _ (World.block_lt_of_cell? _ _ e))).trans e
 refine ⟨fun i a hi => ?_, fun e he => ⟨fun i a hi => ?_, (h.2 e he).2⟩⟩
 ·
  obtain ⟨b, o, e, h1⟩ := h.1 i a hi
  exact ⟨b, o, e, fun j u hj hu => hc _ _ (h1 j u hj hu)⟩
 ·
  obtain ⟨b, o, e, h1⟩ := (h.2 e he).1 i a hi
  exact ⟨b, o, e, hc _ _ h1⟩
/-- the caller's list, its bound, and its trees -/
def OG (R : Nat → Prop) (ob kb B : Nat) (kk : Int) (ks : List DI) (C F : Nat → Bool) (W : World) : Prop :=
 ∃ v, Blk W ob 28 #[v] ∧ W.ownsRow B 35 2 v ks.length (ks.flatMap encD) ∧ (∀ d ∈ ks, RdP (fun b => F b = true) W d) ∧ R ks.length ∧ Blk W kb 3 #[.int .i64 kk] ∧ (∀ j, C j = true ↔ j = ob ∨ j = kb ∨ v.ownBlock = some j) ∧ B ≤ W.heap.size
theorem OG.cj (R : Nat → Prop) (ob kb B : Nat) (kk : Int) : CJ (OG R ob kb B kk) := by
 refine ⟨fun ks C F w h k hk => ?_, fun ks C F G w w' h hs hC hF hFG => ?_⟩
 ·
  obtain ⟨v, h1, h2, h3, h4, h5, h6, _⟩ := h
  rcases (h6 k).1 hk with rfl | rfl | h7
  ·
   exact h1.lt
  ·
   exact h5.lt
  ·
   exact (World.ownsRow.lt h2 k h7).2
 ·
  obtain ⟨v, h1, h2, h3, h4, h5, h6, h7⟩ := h
  exact ⟨v, (hC ob ((h6 ob).2 (.inl rfl))).trans h1, ownF_keep h2 (fun k hk => hC k ((h6 k).2 (.inr (.inr hk)))), fun d hd => (h3 d hd).keep (fun b hb _ => ⟨hF b hb, hFG b hb⟩), h4, (hC kb ((h6 kb).2 (.inr (.inl rfl)))).trans h5, h6, Nat.le_trans h7 hs⟩
theorem OG.push {R R' : Nat → Prop} {ob kb B : Nat} {kk : Int} {ks : List DI} {C1 F : Nat → Bool} {w2 w9 : World} {d : DI} {n0 : Nat} (hO : OG R ob kb B kk ks C1 F w2) (hd : RdP (fun b => F b = true) w2 d) (hFC : ∀ k, F k = true → k < n0 ∧ C1 k = false) (hn0 : n0 ≤ w2.heap.size) {v : Value} (hv : Blk w2 ob 28 #[v]) {g cap : Nat}
  (hb9 : Blk w9 ob 28 #[.slice (some ⟨g, 0, none⟩) (ks.length + 1) cap]) (how : w9.ownsRow B 35 2 (.slice (some ⟨g, 0, none⟩) (ks.length + 1) cap) (ks.length + 1) (ks.flatMap encD ++ encD d))
  (hfs : FutS (fun q => v.ownBlock == some q || q == ob || decide (w2.heap.size ≤ q)) w2 w9) (hg : v.ownBlock = some g ∨ n0 ≤ g) (hR : R' (ks.length + 1)) (hkb : kb ≠ ob) :
  ∃ C', (∀ k, C' k = true → C1 k = true ∨ n0 ≤ k) ∧ FutS (fun k => C1 k || decide (n0 ≤ k)) w2 w9 ∧ OG R' ob kb B kk (ks ++ [d]) C' F w9 := by
 obtain ⟨v', g1, g2, g3, g4, g5, g6, g7⟩ := hO
 have hvv : v' = v := by
  unfold Blk at g1 hv
  rw [g1] at hv
  injection hv with hv
  injection hv with hv _ _
  have h1 := congrArg (fun a => a[0]?) hv
  simpa using h1
 subst hvv
 have hSF : ∀ q, F q = true → (v'.ownBlock == some q || q == ob || decide (w2.heap.size ≤ q)) = false := fun q hq => by
  have h1 := hFC q hq
  have h2 : C1 q ≠ true := by rw [h1.2]; simp
  rw [Ne, g6 q] at h2
  have h3 : ¬ v'.ownBlock = some q := fun e => h2 (.inr (.inr e))
  have h4 : ¬ q = ob := fun e => h2 (.inl e)
  simp [h3, h4]
  omega
 have hkp : ∀ d', RdP (fun b => F b = true) w2 d' → RdP (fun b => F b = true) w9 d' := fun d' h => h.keep (fun b hb hlt => ⟨hfs.block b hlt (hSF b hb), hb⟩)
 have hkl : kb < w2.heap.size := g5.lt
 have hkB : v'.ownBlock ≠ some kb := fun e => own_ne_blk g2 g5 (by decide) kb e rfl
 refine ⟨fun q => q == ob || q == kb || q == g, fun q hq => ?_, ?_, .slice (some ⟨g, 0, none⟩) (ks.length + 1) cap, hb9, ?_, fun d' hd' => ?_, by rw [List.length_append]; exact hR, (hfs.block kb hkl (by simp [hkB, hkb]; omega)).trans g5, fun j => ?_, Nat.le_trans g7 hfs.size⟩
 ·
  simp only [Bool.or_eq_true, beq_iff_eq] at hq
  rcases hq with (rfl | rfl) | rfl
  ·
   exact .inl ((g6 _).2 (.inl rfl))
  ·
   exact .inl ((g6 _).2 (.inr (.inl rfl)))
  ·
   rcases hg with h | h
   ·
    exact .inl ((g6 _).2 (.inr (.inr h)))
   ·
    exact .inr h
 ·
  refine hfs.mono (fun q hq => ?_)
  simp only [Bool.or_eq_true, beq_iff_eq, decide_eq_true_eq] at hq
  rcases hq with (h | h) | h
  ·
   left; rw [(g6 q).2 (.inr (.inr h))]; rfl
  ·
   left; rw [(g6 q).2 (.inl h)]; rfl
  ·
   exact .inr h
 ·
  rw [List.length_append, List.flatMap_append]
  simpa using how
 ·
  rcases List.mem_append.1 hd' with h | h
  ·
   exact hkp d' (g3 d' h)
  ·
   rw [List.mem_singleton.1 h]; exact hkp d hd
 ·
  simp only [Bool.or_eq_true, beq_iff_eq, Value.ownBlock, Option.some.injEq]
  constructor
  ·
   rintro ((h | h) | h)
   ·
    exact .inl h
   ·
    exact .inr (.inl h)
   ·
    exact .inr (.inr h.symm)
  ·
   rintro (h | h | h)
   ·
    exact .inl (.inl h)
   ·
    exact .inl (.inr h)
   ·
    exact .inr h.symm
theorem set_two {xs : List Value} {a b c d : Value} {n : Nat} (h : xs.length = n) : ((xs ++ [a, b]).set n c).set (n + 1) d = xs ++ [c, d] := by
 subst h
 rw [List.set_append_right _ _ (Nat.le_refl _), List.set_append_right _ _ (by omega)]
 simp
theorem flatD_len (ks : List DI) : (ks.flatMap encD).length = ks.length * 2 := by
 induction ks with
 | nil => rfl
 | cons d ks ih => rw [List.flatMap_cons, List.length_append, ih, List.length_cons]; show 2 + _ = _; omega
theorem own_cap {w : World} {B sz n c : Nat} {E : TypeId} {A : Option Addr} {xs : List Value} (h : w.ownsRow B E sz (.slice A n c) n xs) : n ≤ c := by
 rcases h.2 with ⟨_, h0⟩ | ⟨g, cap, cur, h', _, _, hnc, _⟩
 ·
  omega
 ·
  injection h' with _ _ e
  omega
theorem info_dr : (Tryd.prog.info? 35).map (fun i => (i.zero, i.size, i.bytes)) = some (some (.agg #[.int .i64 0, .slice none 0 0]), 2, 32) := by kernel_rfl
/-- Iterate hands back the closure over its two boxes -/
theorem iterate_any (N : Int) (A : Option Addr) (n c : Nat) (r : Int) (w : World) :
  Calls Tryd.prog 24 #[hv N A n c, .int .i64 r] w fun e w' => e = .returned (.func (.func 33) #[] #[.pointer (some ⟨w.heap.size, 0, none⟩), .pointer (some ⟨w.heap.size + 1, 0, none⟩)]) ∧ w' = (w.alloc (.cells #[.int .i64 N, .slice A n c] 24)).alloc (.cells #[.int .i64 r] 3) := by
 go_enter Tryd.func24, Tryd.ntmps24
 go_wp2_with fail
 go_returns
 exact ⟨rfl, rfl⟩
def o_push : Sched := .hoist 1 (.two 0 (.hoist 2 (.one 3 (.one 4 (.hoist 5 (.two 6 (.one 7 (.done)) 7 (.one 6 (.done)))))))  3 (.one 0 (.hoist 2 (.one 4 (.hoist 5 (.two 6 (.one 7 (.done)) 7 (.one 6 (.done))))))))
set_option maxHeartbeats 6400000 in
set_option maxRecDepth 4000 in
theorem first_any (N : Nat) (A : Option Addr) (n c : Nat) (es : List EI) (w : World) (hl : es.length = n) (hn : n ≤ 12) (hvd : validB N es = true) (hN8 : N ≤ 8) (htl : ∀ e ∈ es, e.t.length ≤ 3) (V : Nat → VV) (hS : Sol (EEs es) V) (hs : ∀ i, (V i).s < INF) (hR : RdE w A es) (root : Nat) (hroot : root < N) (k : Int) (hk50 : k ≤ 50) :
  Calls Tryd.prog 13 #[hv N A n c, .int .i64 (root : Int), .int .i64 k] w fun e w' => (∃ oA oc ks, e = .returned (.slice oA (ks : List DI).length oc) ∧ RdS w' oA 2 encD ks ∧ (∀ d ∈ ks, RdD w' d) ∧ PreD (EEs es) root (ks.map toDT) ∧ (k ≤ 0 → ks = []) ∧ (0 < k → (ks.length : Int) ≤ k ∧ ((ks.length : Int) = k ∨ FullD (EEs es) root (ks.map toDT))) ∧ ks.length ≤ oc) ∧ Fut w w' := by
 refine (callsIn_wide (n := 0)).1 (callsIn_of_wp_marks Tryd.func13 rfl trivial ?_ rfl)
 simp only [Tryd.ntmps13, List.size_toArray, List.length_cons, List.length_nil, Nat.reduceAdd, Nat.reduceSub, Array.replicate_succ,
  Array.replicate_zero, List.push_toArray, List.append_toArray, List.nil_append, List.cons_append]
 by_cases hk : k ≤ 0
 ·
  gi_wp2_with fail
  refine ⟨_, results_tmp rfl _ _ _, ⟨none, 0, [], rfl, RdS.nil, fun d hd => by simp at hd, PreD.nil, fun _ => rfl, fun h => by omega, Nat.le_refl _⟩, (((Fut.refl w).alloc _).alloc _).alloc _⟩
 ·
  have HR := Lib.hid hR
  have HL := Lib.hid hl
  have HVD := Lib.hid hvd
  have HTL := Lib.hid htl
  have HSO := Lib.hid hS
  have HSS := Lib.hid hs
  have HN12 := Lib.hid hn
  have HN8 := Lib.hid hN8
  have HRT := Lib.hid hroot
  have HK5 := Lib.hid hk50
  clear hR hl hvd htl hS hs hn hN8 hroot hk50
  gi_wp2_with fail
  refine ⟨trivial, rfl, (callsIn_wide.2 (iterate_any N A n c root _)).mono ?_⟩
  rintro e w1 ⟨rfl, hw1⟩
  rw [hw1]
  clear hw1 w1
  gi_wp2_with fail
  have hf : Fut w (((((w.alloc (.cells #[.int .i64 N, .slice A n c] 24)).alloc (.cells #[.int .i64 k] 3)).alloc (.cells #[.slice none 0 0] 28)).alloc (.cells #[.int .i64 N, .slice A n c] 24)).alloc (.cells #[.int .i64 root] 3)) := (((((Fut.refl w).alloc _).alloc _).alloc _).alloc _).alloc _
  have hsz : (((((w.alloc (.cells #[.int .i64 N, .slice A n c] 24)).alloc (.cells #[.int .i64 k] 3)).alloc (.cells #[.slice none 0 0] 28)).alloc (.cells #[.int .i64 N, .slice A n c] 24)).alloc (.cells #[.int .i64 root] 3)).heap.size = w.heap.size + 5 := by simp only [World.size_alloc]
  have hb1 : Blk (((((w.alloc (.cells #[.int .i64 N, .slice A n c] 24)).alloc (.cells #[.int .i64 k] 3)).alloc (.cells #[.slice none 0 0] 28)).alloc (.cells #[.int .i64 N, .slice A n c] 24)).alloc (.cells #[.int .i64 root] 3)) (w.heap.size + 1) 3 #[.int .i64 k] := (Blk.fut (w := (w.alloc (.cells #[.int .i64 N, .slice A n c] 24)).alloc (.cells #[.int .i64 k] 3)) (heap_new' _ _ _ (by simp only [World.size_alloc])) ((((Fut.refl _).alloc _).alloc _).alloc _))
  have hb2 : Blk (((((w.alloc (.cells #[.int .i64 N, .slice A n c] 24)).alloc (.cells #[.int .i64 k] 3)).alloc (.cells #[.slice none 0 0] 28)).alloc (.cells #[.int .i64 N, .slice A n c] 24)).alloc (.cells #[.int .i64 root] 3)) (w.heap.size + 1 + 1) 28 #[.slice none 0 0] := (Blk.fut (w := ((w.alloc (.cells #[.int .i64 N, .slice A n c] 24)).alloc (.cells #[.int .i64 k] 3)).alloc (.cells #[.slice none 0 0] 28)) (heap_new' _ _ _ (by simp only [World.size_alloc])) (((Fut.refl _).alloc _).alloc _))
  have hb3 : Blk (((((w.alloc (.cells #[.int .i64 N, .slice A n c] 24)).alloc (.cells #[.int .i64 k] 3)).alloc (.cells #[.slice none 0 0] 28)).alloc (.cells #[.int .i64 N, .slice A n c] 24)).alloc (.cells #[.int .i64 root] 3)) (w.heap.size + 1 + 1 + 1) 24 #[.int .i64 N, .slice A n c] := (Blk.fut (w := (((w.alloc (.cells #[.int .i64 N, .slice A n c] 24)).alloc (.cells #[.int .i64 k] 3)).alloc (.cells #[.slice none 0 0] 28)).alloc (.cells #[.int .i64 N, .slice A n c] 24)) (heap_new' _ _ _ (by simp only [World.size_alloc])) ((Fut.refl _).alloc _))
  have hb4 : Blk (((((w.alloc (.cells #[.int .i64 N, .slice A n c] 24)).alloc (.cells #[.int .i64 k] 3)).alloc (.cells #[.slice none 0 0] 28)).alloc (.cells #[.int .i64 N, .slice A n c] 24)).alloc (.cells #[.int .i64 root] 3)) (w.heap.size + 1 + 1 + 1 + 1) 3 #[.int .i64 root] := heap_new' _ _ _ (by simp only [World.size_alloc])
  generalize ((((w.alloc (.cells #[.int .i64 N, .slice A n c] 24)).alloc (.cells #[.int .i64 k] 3)).alloc (.cells #[.slice none 0 0] 28)).alloc (.cells #[.int .i64 N, .slice A n c] 24)).alloc (.cells #[.int .i64 root] 3) = w1 at *
  obtain ⟨F0, hF0⟩ : ∃ F0 : Nat → Bool, F0 = fun q => decide (q < w.heap.size) || q == w.heap.size + 1 + 1 + 1 + 1 := ⟨_, rfl⟩
  have hF0i : ∀ q, F0 q = true ↔ q < w.heap.size ∨ q = w.heap.size + 1 + 1 + 1 + 1 := fun q => by rw [hF0]; simp
  obtain ⟨C, hC⟩ : ∃ C : Nat → Bool, C = fun q => q == w.heap.size + 1 + 1 || q == w.heap.size + 1 := ⟨_, rfl⟩
  have hCi : ∀ q, C q = true ↔ q = w.heap.size + 1 + 1 ∨ q = w.heap.size + 1 := fun q => by rw [hC]; simp
  clear hF0 hC
  refine range_any N A n c es HL.out HN12.out HVD.out HN8.out HTL.out V HSO.out HSS.out 0 F0 (fun q hq => by have := (hF0i q).1 hq; omega) (fun w' hk => HR.out.below (fun q hq => (hk q ((hF0i q).2 (.inl hq))).trans (hf.block q hq))) root HRT.out (w.heap.size + 1 + 1 + 1) (w.heap.size + 1 + 1 + 1 + 1) hb3 hb4 ((hF0i _).2 (.inr rfl)) rfl rfl (OG (fun m => (m : Int) < k) (w.heap.size + 1 + 1) (w.heap.size + 1) w1.heap.size k) (fun j ks C F W => j = .exit 0 ∧ OG (fun m => (m : Int) = k) (w.heap.size + 1 + 1) (w.heap.size + 1) w1.heap.size k ks C F W) (OG.cj _ _ _ _ _) (fun j => ⟨fun ks C F W h => (OG.cj _ _ _ _ _).lt ks C F W h.2, fun ks C F G W W' h a b c d => ⟨h.1, (OG.cj _ _ _ _ _).keep ks C F G W W' h.2 a b c d⟩⟩) (fun ks C F W h => by
   obtain ⟨v, _, _, _, h4, _⟩ := h
   have := HK5.out
   omega) C (fun q hq => ?_) ?_ ?_ ?_ ?_
  ·
   have h1 := (hF0i q).1 hq
   cases e : C q with
   | false => rfl
   | true => have := (hCi q).1 e; omega
  ·
   exact ⟨.slice none 0 0, hb2, World.ownsRow_nil _ _ _ _, fun d hd => by simp at hd, by simp; omega, hb1, fun j => by rw [hCi]; simp [Value.ownBlock], Nat.le_refl _⟩
  ·
   intro l ks C1 F W d hO hd hFC hl hC1l hFl
   have HO := Lib.hid hO
   have HD := Lib.hid hd
   have HFC := Lib.hid hFC
   clear hO hd hFC hF0i hCi hb1 hb2 hb3 hb4 hf hsz
   gi_wp2_with fail
   refine ⟨(Fut.refl W).alloc _, fun w2 hw2 => ?_⟩
   have hlt := (OG.cj _ _ _ _ _).lt _ _ _ _ HO.out
   have hfw : ∀ q, q < W.heap.size → q ≠ l → w2.heap[q]? = W.heap[q]? := fun q h1 h2 => (hw2.block q (by rw [World.size_alloc]; omega) (beq_eq_false_iff_ne.2 h2)).trans (((Fut.refl W).alloc _).block q h1)
   have hsz2 : W.heap.size < w2.heap.size := by have := hw2.size; rw [World.size_alloc] at this; omega
   have hO2 := (OG.cj _ _ _ _ _).keep ks C1 F F W w2 HO.out (by omega) (fun q hq => hfw q (hlt q hq) (fun e => by rw [e, hC1l] at hq; cases hq)) (fun q hq => hfw q (HFC.out q hq).1 (fun e => by rw [e, hFl] at hq; cases hq)) (fun _ h => h)
   have hd2 : RdP (fun b => F b = true) w2 d := HD.out.keep (fun b hb hl' => ⟨hfw b hl' (fun e => by rw [e, hFl] at hb; cases hb), hb⟩)
   have hbd : Blk w2 W.heap.size 35 #[.int .i64 d.e, .slice d.A d.k.length d.c] := (Blk.new W _ _).futS hw2 (beq_eq_false_iff_ne.2 (by omega))
   have HO2 := Lib.hid hO2
   have HD2 := Lib.hid (And.intro hd2 hsz2)
   obtain ⟨v, g1, g2, g3, g4, g5, g6, g7⟩ := hO2
   obtain ⟨KA, Kc, rfl⟩ := own_formK g2
   obtain ⟨n, hn⟩ : ∃ p, p = ks.length := ⟨_, rfl⟩
   have HN := Lib.hid hn
   rw [← hn] at g1 g2
   have hn50 : n < 50 := by have := HK5.out; have h4 : (ks.length : Int) < k := g4; omega
   obtain ⟨S, hS⟩ : ∃ S : Nat → Bool, S = fun q => (Value.slice KA n Kc).ownBlock == some q || q == w.heap.size + 1 + 1 || decide (w2.heap.size ≤ q) := ⟨_, rfl⟩
   have hown : ∀ q, (Value.slice KA n Kc).ownBlock = some q → q < W.heap.size := fun q hq => by
    have h1 := HO.out
    obtain ⟨v', e1, e2, _, _, _, e6, _⟩ := h1
    refine hlt q ?_
    have h8 := (g6 q).2 (.inr (.inr (by rw [← hn]; exact hq)))
    exact h8
   have hobW : w.heap.size + 1 + 1 < W.heap.size := hlt _ ((g6 _).2 (.inl rfl))
   have hSb : S W.heap.size = false := by
    rw [hS]
    simp only [Bool.or_eq_false_iff, beq_eq_false_iff_ne, decide_eq_false_iff_not]
    exact ⟨⟨fun e => by have := hown _ e; omega, by omega⟩, by omega⟩
   have HS1 := Lib.hid (show ∀ q, (Value.slice KA n Kc).ownBlock = some q → S q = true from fun q hq => by rw [hS]; simp [hq])
   have HS2 := Lib.hid (show S (w.heap.size + 1 + 1) = true from by rw [hS]; simp)
   have HS3 := Lib.hid (show ∀ q, w2.heap.size ≤ q → S q = true from fun q hq => by rw [hS]; simp [hq])
   have HSE := Lib.hid hS
   have y0 := cell_futS (hbd.cell (i := 0) rfl) hSb
   have y1 := cell_futS (hbd.cell (i := 1) rfl) hSb
   have x0 := g1.cell (i := 0) rfl
   have HB1 := Lib.hid g1
   have HB2 := Lib.hid g2
   have HB5 := Lib.hid g5
   have HGB := Lib.hid g7
   clear g1 g2 g3 g4 g5 g6 g7 hSb hS hd2 hbd hfw hw2 hlt hsz2 hn hown hobW
   gi_wp2_with fail
   refine wpIn_region_MG (relS S) o_push l 0 (by kernel_rfl) (by kernel_rfl) (by kernel_rfl) (by intro c a d v w h; cases d <;> exact h) (by rintro ⟨a, w, h⟩; exact h) ?_
   unfold o_push
   (refine wpS_h rfl rfl (fun K hK => ?_); go_simp; refine hK _ _ ?_; clear hK K)
   refine wpG_two' rfl rfl (fun K hK => ?_) (fun K hK => ?_)
   ·
    go_simp
    refine hK _ _ (.inr (FutS.refl _)) ?_
    clear hK K
    (refine wpS_h rfl rfl (fun K hK => ?_); go_simp; refine hK _ _ ?_; clear hK K)
    refine wpG_o rfl rfl (fun K hK => ?_)
    go_simp
    refine hK _ _ (.inr ((relS S).of_fut ((Fut.refl _).alloc _))) ?_
    clear hK K
    clear x0 y0 y1
    obtain ⟨w6, hw6⟩ : ∃ w6, w6 = (w2.alloc (.cells #[.int .i64 0, .slice none 0 0] 35)).drew := ⟨_, rfl⟩
    have HF6 := Lib.hid (show Fut w2 w6 from by rw [hw6]; exact ((Fut.refl w2).alloc _).drew)
    have HNB := Lib.hid (show w6.heap[w2.heap.size]? = some (.cells #[.int .i64 0, .slice none 0 0] 35 (0, 0)) from by rw [hw6]; exact heap_new' _ _ _ rfl)
    have HB26 := Lib.hid (own_fut HB2.out HF6.out)
    rw [show (w2.alloc (.cells #[.int .i64 0, .slice none 0 0] 35)).drew = w6 from hw6.symm]
    clear hw6
    refine wpG_o rfl rfl (fun K hK => ?_)
    refine wp_push 28 35 2 32 _ Tryd.underlying28 info_dr rfl (by decide) (by decide) (.tmp 15) (.tmp 18) rfl w1.heap.size (.slice KA n Kc) n _ rfl HB26.out w2.heap.size [.int .i64 0, .slice none 0 0] rfl HNB.out rfl (by simp [Value.oneCell']) (by omega) (Nat.le_trans HGB.out HF6.out.size) ?_
    intro g cap w7 p1 p2 p3
    refine hK _ _ (.inr ((FutS.refl _).grown p2 (fun q hq => .inl (HS1.out q hq)))) ?_
    clear hK K
    have HP := Lib.hid (And.intro p1 (And.intro p2 p3))
    have hgS : S g = true := by
     rcases p3 with h | h
     ·
      exact HS1.out g h
     ·
      exact HS3.out g (by rw [h]; exact HF6.out.size)
    have HGS := Lib.hid hgS
    have hgo : g ≠ w.heap.size + 1 + 1 := own_ne_blk p1 ((HB1.out.fut HF6.out).grown p2 (fun e => own_ne_blk HB26.out (HB1.out.fut HF6.out) (by decide) _ e.symm rfl)) (by decide) g rfl
    have hb7 : Blk w7 (w.heap.size + 1 + 1) 28 #[.slice KA n Kc] := (HB1.out.fut HF6.out).grown p2 (fun e => own_ne_blk HB26.out (HB1.out.fut HF6.out) (by decide) _ e.symm rfl)
    have HGO := Lib.hid hgo
    have HB7 := Lib.hid hb7
    have hl7 : (ks.flatMap encD ++ [Value.int .i64 0, Value.slice none 0 0]).length = n * 2 + 2 := by rw [List.length_append, flatD_len, HN.out]; rfl
    have e0 : w7.cell? ⟨g, n * 2, none⟩ = some (.int .i64 0) := (World.ownsRow.cellAt p1 (n * 2) (by omega)).trans (by rw [List.getElem?_append_right (by rw [flatD_len, HN.out]; exact Nat.le_refl _), flatD_len, HN.out, Nat.sub_self]; rfl)
    have e1 : w7.cell? ⟨g, n * 2 + 1, none⟩ = some (.slice none 0 0) := (World.ownsRow.cellAt p1 (n * 2 + 1) (by omega)).trans (by rw [List.getElem?_append_right (by rw [flatD_len, HN.out]; omega), flatD_len, HN.out, Nat.add_sub_cancel_left]; rfl)
    have x7 := hb7.cell (i := 0) rfl
    have hgo1 : ¬ g = w.heap.size + 1 + 1 := hgo
    have hgo2 : ¬ w.heap.size + 1 + 1 = g := Ne.symm hgo
    clear p1 p2 p3 hgS hgo hb7 hl7
    have f0 := World.ownsRow.frozenAt HP.out.1 (n * 2)
    have f1 := World.ownsRow.frozenAt HP.out.1 (n * 2 + 1)
    have f2 := HB7.out.fz 0
    have hnn : (n : Int) < (n : Int) + 1 := by omega
    (refine wpS_h rfl rfl (fun K hK => ?_); go_simp; refine hK _ _ ?_; clear hK K)
    refine wpG_two' rfl rfl (fun K hK => ?_) (fun K hK => ?_)
    ·
     go_simp
     refine hK _ _ (.inr (((FutS.refl _).setCell (a := ⟨g, n * 2, none⟩) (.inl HGS.out) _).setCell (a := ⟨g, n * 2 + 1, none⟩) (.inl HGS.out) _)) ?_
     clear hK K
     refine wpG_o rfl rfl (fun K hK => ?_)
     go_simp
     refine hK _ _ (.inr ((FutS.refl _).setCell (a := ⟨w.heap.size + 1 + 1, 0, none⟩) (.inl HS2.out) _)) ?_
     clear hK K
     refine wpG_nil ?_
     clear e0 e1 f0 f1 f2 hnn hgo1 hgo2 x7
     have HB9 := Lib.hid (show Blk (((w7.setCell ⟨g, n * 2, none⟩ (.int .i64 d.e)).setCell ⟨g, n * 2 + 1, none⟩ (.slice d.A d.k.length d.c)).setCell ⟨w.heap.size + 1 + 1, 0, none⟩ (.slice (some ⟨g, 0, none⟩) (n + 1) cap)) (w.heap.size + 1 + 1) 28 #[(.slice (some ⟨g, 0, none⟩) (n + 1) cap)] from ((HB7.out.setOther (a := ⟨g, n * 2, none⟩) (Ne.symm HGO.out) (.int .i64 d.e)).setOther (a := ⟨g, n * 2 + 1, none⟩) (Ne.symm HGO.out) (.slice d.A d.k.length d.c)).set 0 (.slice (some ⟨g, 0, none⟩) (n + 1) cap))
     have HOW9 := Lib.hid (show World.ownsRow (((w7.setCell ⟨g, n * 2, none⟩ (.int .i64 d.e)).setCell ⟨g, n * 2 + 1, none⟩ (.slice d.A d.k.length d.c)).setCell ⟨w.heap.size + 1 + 1, 0, none⟩ (.slice (some ⟨g, 0, none⟩) (n + 1) cap)) w1.heap.size 35 2 (.slice (some ⟨g, 0, none⟩) (n + 1) cap) (n + 1) (((ks.flatMap encD ++ [Value.int .i64 0, Value.slice none 0 0]).set (n * 2) (.int .i64 d.e)).set (n * 2 + 1) (.slice d.A d.k.length d.c)) from World.ownsRow.kept (World.ownsRow.stored (World.ownsRow.stored HP.out.1 (n * 2) (.int .i64 d.e)).1 (n * 2 + 1) (.slice d.A d.k.length d.c)).1 (grown_set _ ⟨w.heap.size + 1 + 1, 0, none⟩ (.slice (some ⟨g, 0, none⟩) (n + 1) cap)) (.inr (by simp only [Value.ownBlock]; intro e; exact HGO.out (Option.some.inj e))))
     have HFS9 := Lib.hid (show FutS S w2 (((w7.setCell ⟨g, n * 2, none⟩ (.int .i64 d.e)).setCell ⟨g, n * 2 + 1, none⟩ (.slice d.A d.k.length d.c)).setCell ⟨w.heap.size + 1 + 1, 0, none⟩ (.slice (some ⟨g, 0, none⟩) (n + 1) cap)) from ((((FutS.of HF6.out).grown HP.out.2.1 (fun q hq => .inl (HS1.out q hq))).setCell (a := ⟨g, n * 2, none⟩) (.inl HGS.out) (.int .i64 d.e)).setCell (a := ⟨g, n * 2 + 1, none⟩) (.inl HGS.out) (.slice d.A d.k.length d.c)).setCell (a := ⟨w.heap.size + 1 + 1, 0, none⟩) (.inl HS2.out) (.slice (some ⟨g, 0, none⟩) (n + 1) cap))
     generalize (((w7.setCell ⟨g, n * 2, none⟩ (.int .i64 d.e)).setCell ⟨g, n * 2 + 1, none⟩ (.slice d.A d.k.length d.c)).setCell ⟨w.heap.size + 1 + 1, 0, none⟩ (.slice (some ⟨g, 0, none⟩) (n + 1) cap)) = w9 at *
     have hend : ∀ R' : Nat → Prop, R' (n + 1) → ∃ C', (∀ q, C' q = true → C1 q = true ∨ W.heap.size ≤ q) ∧ FutS (fun q => C1 q || decide (W.heap.size ≤ q)) w2 w9 ∧ OG R' (w.heap.size + 1 + 1) (w.heap.size + 1) w1.heap.size k (ks ++ [d]) C' F w9 := by
      intro R' hR'
      have hb9 := HB9.out
      have how9 := HOW9.out
      have hb1' := HB1.out
      have hg : (Value.slice KA n Kc).ownBlock = some g ∨ W.heap.size ≤ g := HP.out.2.2.imp id (fun e => by rw [e]; exact Nat.le_trans (Nat.le_of_lt HD2.out.2) HF6.out.size)
      have hfs := HFS9.out
      rw [HSE.out] at hfs
      have hn := HN.out
      rw [set_two (by rw [flatD_len, hn])] at how9
      subst hn
      exact OG.push (R' := R') HO2.out HD2.out.1 HFC.out (Nat.le_of_lt HD2.out.2) hb1' hb9 how9 hfs hg hR' (by omega)
     have HEN := Lib.hid hend
     have z0 := HB9.out.cell (i := 0) rfl
     have z1 : w9.cell? ⟨w.heap.size + 1, 0, none⟩ = some (.int .i64 k) := by
      obtain ⟨C', _, _, _, _, _, _, _, h5, _⟩ := hend (fun _ => True) trivial
      exact h5.cell (i := 0) rfl
     have hnk : (n : Int) < k := by
      obtain ⟨_, _, _, _, h4, _⟩ := HO2.out
      have := HN.out
      have h5 : (ks.length : Int) < k := h4
      omega
     clear hend
     by_cases hq : ((n : Int) + 1) = k
     ·
      have HQ := Lib.hid hq
      gi_wp2_with fail
      obtain ⟨C', g1, g2, g3⟩ := HEN.out (fun m => (m : Int) = k) (by have := HQ.out; omega)
      exact ⟨C', g1, g2, rfl, g3⟩
     ·
      have HQ := Lib.hid hq
      gi_wp2_with fail
      obtain ⟨C', g1, g2, g3⟩ := HEN.out (fun m => (m : Int) < k) (by have := HQ.out; omega)
      exact ⟨C', g1, g2, g3⟩
    ·
     go_simp
     refine hK _ _ (.inr ((FutS.refl _).setCell (a := ⟨w.heap.size + 1 + 1, 0, none⟩) (.inl HS2.out) _)) ?_
     clear hK K
     refine wpG_o rfl rfl (fun K hK => ?_)
     go_simp
     refine hK _ _ (.inr (((FutS.refl _).setCell (a := ⟨g, n * 2, none⟩) (.inl HGS.out) _).setCell (a := ⟨g, n * 2 + 1, none⟩) (.inl HGS.out) _)) ?_
     clear hK K
     refine wpG_nil ?_
     clear e0 e1 f0 f1 f2 hnn hgo1 hgo2 x7
     have HB9 := Lib.hid (show Blk (((w7.setCell ⟨w.heap.size + 1 + 1, 0, none⟩ (.slice (some ⟨g, 0, none⟩) (n + 1) cap)).setCell ⟨g, n * 2, none⟩ (.int .i64 d.e)).setCell ⟨g, n * 2 + 1, none⟩ (.slice d.A d.k.length d.c)) (w.heap.size + 1 + 1) 28 #[(.slice (some ⟨g, 0, none⟩) (n + 1) cap)] from ((HB7.out.set 0 (.slice (some ⟨g, 0, none⟩) (n + 1) cap)).setOther (a := ⟨g, n * 2, none⟩) (Ne.symm HGO.out) (.int .i64 d.e)).setOther (a := ⟨g, n * 2 + 1, none⟩) (Ne.symm HGO.out) (.slice d.A d.k.length d.c))
     have HOW9 := Lib.hid (show World.ownsRow (((w7.setCell ⟨w.heap.size + 1 + 1, 0, none⟩ (.slice (some ⟨g, 0, none⟩) (n + 1) cap)).setCell ⟨g, n * 2, none⟩ (.int .i64 d.e)).setCell ⟨g, n * 2 + 1, none⟩ (.slice d.A d.k.length d.c)) w1.heap.size 35 2 (.slice (some ⟨g, 0, none⟩) (n + 1) cap) (n + 1) (((ks.flatMap encD ++ [Value.int .i64 0, Value.slice none 0 0]).set (n * 2) (.int .i64 d.e)).set (n * 2 + 1) (.slice d.A d.k.length d.c)) from (World.ownsRow.stored (World.ownsRow.stored (World.ownsRow.kept HP.out.1 (grown_set _ ⟨w.heap.size + 1 + 1, 0, none⟩ (.slice (some ⟨g, 0, none⟩) (n + 1) cap)) (.inr (by simp only [Value.ownBlock]; intro e; exact HGO.out (Option.some.inj e)))) (n * 2) (.int .i64 d.e)).1 (n * 2 + 1) (.slice d.A d.k.length d.c)).1)
     have HFS9 := Lib.hid (show FutS S w2 (((w7.setCell ⟨w.heap.size + 1 + 1, 0, none⟩ (.slice (some ⟨g, 0, none⟩) (n + 1) cap)).setCell ⟨g, n * 2, none⟩ (.int .i64 d.e)).setCell ⟨g, n * 2 + 1, none⟩ (.slice d.A d.k.length d.c)) from ((((FutS.of HF6.out).grown HP.out.2.1 (fun q hq => .inl (HS1.out q hq))).setCell (a := ⟨w.heap.size + 1 + 1, 0, none⟩) (.inl HS2.out) (.slice (some ⟨g, 0, none⟩) (n + 1) cap)).setCell (a := ⟨g, n * 2, none⟩) (.inl HGS.out) (.int .i64 d.e)).setCell (a := ⟨g, n * 2 + 1, none⟩) (.inl HGS.out) (.slice d.A d.k.length d.c))
     generalize (((w7.setCell ⟨w.heap.size + 1 + 1, 0, none⟩ (.slice (some ⟨g, 0, none⟩) (n + 1) cap)).setCell ⟨g, n * 2, none⟩ (.int .i64 d.e)).setCell ⟨g, n * 2 + 1, none⟩ (.slice d.A d.k.length d.c)) = w9 at *
     have hend : ∀ R' : Nat → Prop, R' (n + 1) → ∃ C', (∀ q, C' q = true → C1 q = true ∨ W.heap.size ≤ q) ∧ FutS (fun q => C1 q || decide (W.heap.size ≤ q)) w2 w9 ∧ OG R' (w.heap.size + 1 + 1) (w.heap.size + 1) w1.heap.size k (ks ++ [d]) C' F w9 := by
      intro R' hR'
      have hb9 := HB9.out
      have how9 := HOW9.out
      have hb1' := HB1.out
      have hg : (Value.slice KA n Kc).ownBlock = some g ∨ W.heap.size ≤ g := HP.out.2.2.imp id (fun e => by rw [e]; exact Nat.le_trans (Nat.le_of_lt HD2.out.2) HF6.out.size)
      have hfs := HFS9.out
      rw [HSE.out] at hfs
      have hn := HN.out
      rw [set_two (by rw [flatD_len, hn])] at how9
      subst hn
      exact OG.push (R' := R') HO2.out HD2.out.1 HFC.out (Nat.le_of_lt HD2.out.2) hb1' hb9 how9 hfs hg hR' (by omega)
     have HEN := Lib.hid hend
     have z0 := HB9.out.cell (i := 0) rfl
     have z1 : w9.cell? ⟨w.heap.size + 1, 0, none⟩ = some (.int .i64 k) := by
      obtain ⟨C', _, _, _, _, _, _, _, h5, _⟩ := hend (fun _ => True) trivial
      exact h5.cell (i := 0) rfl
     have hnk : (n : Int) < k := by
      obtain ⟨_, _, _, _, h4, _⟩ := HO2.out
      have := HN.out
      have h5 : (ks.length : Int) < k := h4
      omega
     clear hend
     by_cases hq : ((n : Int) + 1) = k
     ·
      have HQ := Lib.hid hq
      gi_wp2_with fail
      obtain ⟨C', g1, g2, g3⟩ := HEN.out (fun m => (m : Int) = k) (by have := HQ.out; omega)
      exact ⟨C', g1, g2, rfl, g3⟩
     ·
      have HQ := Lib.hid hq
      gi_wp2_with fail
      obtain ⟨C', g1, g2, g3⟩ := HEN.out (fun m => (m : Int) < k) (by have := HQ.out; omega)
      exact ⟨C', g1, g2, g3⟩
   ·
    go_simp
    refine hK _ _ (.inr ((relS S).of_fut ((Fut.refl _).alloc _))) ?_
    clear hK K
    refine wpG_o rfl rfl (fun K hK => ?_)
    go_simp
    refine hK _ _ (.inr (FutS.refl _)) ?_
    clear hK K
    (refine wpS_h rfl rfl (fun K hK => ?_); go_simp; refine hK _ _ ?_; clear hK K)
    clear x0 y0 y1
    obtain ⟨w6, hw6⟩ : ∃ w6, w6 = (w2.alloc (.cells #[.int .i64 0, .slice none 0 0] 35)).drew := ⟨_, rfl⟩
    have HF6 := Lib.hid (show Fut w2 w6 from by rw [hw6]; exact ((Fut.refl w2).alloc _).drew)
    have HNB := Lib.hid (show w6.heap[w2.heap.size]? = some (.cells #[.int .i64 0, .slice none 0 0] 35 (0, 0)) from by rw [hw6]; exact heap_new' _ _ _ rfl)
    have HB26 := Lib.hid (own_fut HB2.out HF6.out)
    rw [show (w2.alloc (.cells #[.int .i64 0, .slice none 0 0] 35)).drew = w6 from hw6.symm]
    clear hw6
    refine wpG_o rfl rfl (fun K hK => ?_)
    refine wp_push 28 35 2 32 _ Tryd.underlying28 info_dr rfl (by decide) (by decide) (.tmp 15) (.tmp 18) rfl w1.heap.size (.slice KA n Kc) n _ rfl HB26.out w2.heap.size [.int .i64 0, .slice none 0 0] rfl HNB.out rfl (by simp [Value.oneCell']) (by omega) (Nat.le_trans HGB.out HF6.out.size) ?_
    intro g cap w7 p1 p2 p3
    refine hK _ _ (.inr ((FutS.refl _).grown p2 (fun q hq => .inl (HS1.out q hq)))) ?_
    clear hK K
    have HP := Lib.hid (And.intro p1 (And.intro p2 p3))
    have hgS : S g = true := by
     rcases p3 with h | h
     ·
      exact HS1.out g h
     ·
      exact HS3.out g (by rw [h]; exact HF6.out.size)
    have HGS := Lib.hid hgS
    have hgo : g ≠ w.heap.size + 1 + 1 := own_ne_blk p1 ((HB1.out.fut HF6.out).grown p2 (fun e => own_ne_blk HB26.out (HB1.out.fut HF6.out) (by decide) _ e.symm rfl)) (by decide) g rfl
    have hb7 : Blk w7 (w.heap.size + 1 + 1) 28 #[.slice KA n Kc] := (HB1.out.fut HF6.out).grown p2 (fun e => own_ne_blk HB26.out (HB1.out.fut HF6.out) (by decide) _ e.symm rfl)
    have HGO := Lib.hid hgo
    have HB7 := Lib.hid hb7
    have hl7 : (ks.flatMap encD ++ [Value.int .i64 0, Value.slice none 0 0]).length = n * 2 + 2 := by rw [List.length_append, flatD_len, HN.out]; rfl
    have e0 : w7.cell? ⟨g, n * 2, none⟩ = some (.int .i64 0) := (World.ownsRow.cellAt p1 (n * 2) (by omega)).trans (by rw [List.getElem?_append_right (by rw [flatD_len, HN.out]; exact Nat.le_refl _), flatD_len, HN.out, Nat.sub_self]; rfl)
    have e1 : w7.cell? ⟨g, n * 2 + 1, none⟩ = some (.slice none 0 0) := (World.ownsRow.cellAt p1 (n * 2 + 1) (by omega)).trans (by rw [List.getElem?_append_right (by rw [flatD_len, HN.out]; omega), flatD_len, HN.out, Nat.add_sub_cancel_left]; rfl)
    have x7 := hb7.cell (i := 0) rfl
    have hgo1 : ¬ g = w.heap.size + 1 + 1 := hgo
    have hgo2 : ¬ w.heap.size + 1 + 1 = g := Ne.symm hgo
    clear p1 p2 p3 hgS hgo hb7 hl7
    have f0 := World.ownsRow.frozenAt HP.out.1 (n * 2)
    have f1 := World.ownsRow.frozenAt HP.out.1 (n * 2 + 1)
    have f2 := HB7.out.fz 0
    have hnn : (n : Int) < (n : Int) + 1 := by omega
    (refine wpS_h rfl rfl (fun K hK => ?_); go_simp; refine hK _ _ ?_; clear hK K)
    refine wpG_two' rfl rfl (fun K hK => ?_) (fun K hK => ?_)
    ·
     go_simp
     refine hK _ _ (.inr (((FutS.refl _).setCell (a := ⟨g, n * 2, none⟩) (.inl HGS.out) _).setCell (a := ⟨g, n * 2 + 1, none⟩) (.inl HGS.out) _)) ?_
     clear hK K
     refine wpG_o rfl rfl (fun K hK => ?_)
     go_simp
     refine hK _ _ (.inr ((FutS.refl _).setCell (a := ⟨w.heap.size + 1 + 1, 0, none⟩) (.inl HS2.out) _)) ?_
     clear hK K
     refine wpG_nil ?_
     clear e0 e1 f0 f1 f2 hnn hgo1 hgo2 x7
     have HB9 := Lib.hid (show Blk (((w7.setCell ⟨g, n * 2, none⟩ (.int .i64 d.e)).setCell ⟨g, n * 2 + 1, none⟩ (.slice d.A d.k.length d.c)).setCell ⟨w.heap.size + 1 + 1, 0, none⟩ (.slice (some ⟨g, 0, none⟩) (n + 1) cap)) (w.heap.size + 1 + 1) 28 #[(.slice (some ⟨g, 0, none⟩) (n + 1) cap)] from ((HB7.out.setOther (a := ⟨g, n * 2, none⟩) (Ne.symm HGO.out) (.int .i64 d.e)).setOther (a := ⟨g, n * 2 + 1, none⟩) (Ne.symm HGO.out) (.slice d.A d.k.length d.c)).set 0 (.slice (some ⟨g, 0, none⟩) (n + 1) cap))
     have HOW9 := Lib.hid (show World.ownsRow (((w7.setCell ⟨g, n * 2, none⟩ (.int .i64 d.e)).setCell ⟨g, n * 2 + 1, none⟩ (.slice d.A d.k.length d.c)).setCell ⟨w.heap.size + 1 + 1, 0, none⟩ (.slice (some ⟨g, 0, none⟩) (n + 1) cap)) w1.heap.size 35 2 (.slice (some ⟨g, 0, none⟩) (n + 1) cap) (n + 1) (((ks.flatMap encD ++ [Value.int .i64 0, Value.slice none 0 0]).set (n * 2) (.int .i64 d.e)).set (n * 2 + 1) (.slice d.A d.k.length d.c)) from World.ownsRow.kept (World.ownsRow.stored (World.ownsRow.stored HP.out.1 (n * 2) (.int .i64 d.e)).1 (n * 2 + 1) (.slice d.A d.k.length d.c)).1 (grown_set _ ⟨w.heap.size + 1 + 1, 0, none⟩ (.slice (some ⟨g, 0, none⟩) (n + 1) cap)) (.inr (by simp only [Value.ownBlock]; intro e; exact HGO.out (Option.some.inj e))))
     have HFS9 := Lib.hid (show FutS S w2 (((w7.setCell ⟨g, n * 2, none⟩ (.int .i64 d.e)).setCell ⟨g, n * 2 + 1, none⟩ (.slice d.A d.k.length d.c)).setCell ⟨w.heap.size + 1 + 1, 0, none⟩ (.slice (some ⟨g, 0, none⟩) (n + 1) cap)) from ((((FutS.of HF6.out).grown HP.out.2.1 (fun q hq => .inl (HS1.out q hq))).setCell (a := ⟨g, n * 2, none⟩) (.inl HGS.out) (.int .i64 d.e)).setCell (a := ⟨g, n * 2 + 1, none⟩) (.inl HGS.out) (.slice d.A d.k.length d.c)).setCell (a := ⟨w.heap.size + 1 + 1, 0, none⟩) (.inl HS2.out) (.slice (some ⟨g, 0, none⟩) (n + 1) cap))
     generalize (((w7.setCell ⟨g, n * 2, none⟩ (.int .i64 d.e)).setCell ⟨g, n * 2 + 1, none⟩ (.slice d.A d.k.length d.c)).setCell ⟨w.heap.size + 1 + 1, 0, none⟩ (.slice (some ⟨g, 0, none⟩) (n + 1) cap)) = w9 at *
     have hend : ∀ R' : Nat → Prop, R' (n + 1) → ∃ C', (∀ q, C' q = true → C1 q = true ∨ W.heap.size ≤ q) ∧ FutS (fun q => C1 q || decide (W.heap.size ≤ q)) w2 w9 ∧ OG R' (w.heap.size + 1 + 1) (w.heap.size + 1) w1.heap.size k (ks ++ [d]) C' F w9 := by
      intro R' hR'
      have hb9 := HB9.out
      have how9 := HOW9.out
      have hb1' := HB1.out
      have hg : (Value.slice KA n Kc).ownBlock = some g ∨ W.heap.size ≤ g := HP.out.2.2.imp id (fun e => by rw [e]; exact Nat.le_trans (Nat.le_of_lt HD2.out.2) HF6.out.size)
      have hfs := HFS9.out
      rw [HSE.out] at hfs
      have hn := HN.out
      rw [set_two (by rw [flatD_len, hn])] at how9
      subst hn
      exact OG.push (R' := R') HO2.out HD2.out.1 HFC.out (Nat.le_of_lt HD2.out.2) hb1' hb9 how9 hfs hg hR' (by omega)
     have HEN := Lib.hid hend
     have z0 := HB9.out.cell (i := 0) rfl
     have z1 : w9.cell? ⟨w.heap.size + 1, 0, none⟩ = some (.int .i64 k) := by
      obtain ⟨C', _, _, _, _, _, _, _, h5, _⟩ := hend (fun _ => True) trivial
      exact h5.cell (i := 0) rfl
     have hnk : (n : Int) < k := by
      obtain ⟨_, _, _, _, h4, _⟩ := HO2.out
      have := HN.out
      have h5 : (ks.length : Int) < k := h4
      omega
     clear hend
     by_cases hq : ((n : Int) + 1) = k
     ·
      have HQ := Lib.hid hq
      gi_wp2_with fail
      obtain ⟨C', g1, g2, g3⟩ := HEN.out (fun m => (m : Int) = k) (by have := HQ.out; omega)
      exact ⟨C', g1, g2, rfl, g3⟩
     ·
      have HQ := Lib.hid hq
      gi_wp2_with fail
      obtain ⟨C', g1, g2, g3⟩ := HEN.out (fun m => (m : Int) < k) (by have := HQ.out; omega)
      exact ⟨C', g1, g2, g3⟩
    ·
     go_simp
     refine hK _ _ (.inr ((FutS.refl _).setCell (a := ⟨w.heap.size + 1 + 1, 0, none⟩) (.inl HS2.out) _)) ?_
     clear hK K
     refine wpG_o rfl rfl (fun K hK => ?_)
     go_simp
     refine hK _ _ (.inr (((FutS.refl _).setCell (a := ⟨g, n * 2, none⟩) (.inl HGS.out) _).setCell (a := ⟨g, n * 2 + 1, none⟩) (.inl HGS.out) _)) ?_
     clear hK K
     refine wpG_nil ?_
     clear e0 e1 f0 f1 f2 hnn hgo1 hgo2 x7
     have HB9 := Lib.hid (show Blk (((w7.setCell ⟨w.heap.size + 1 + 1, 0, none⟩ (.slice (some ⟨g, 0, none⟩) (n + 1) cap)).setCell ⟨g, n * 2, none⟩ (.int .i64 d.e)).setCell ⟨g, n * 2 + 1, none⟩ (.slice d.A d.k.length d.c)) (w.heap.size + 1 + 1) 28 #[(.slice (some ⟨g, 0, none⟩) (n + 1) cap)] from ((HB7.out.set 0 (.slice (some ⟨g, 0, none⟩) (n + 1) cap)).setOther (a := ⟨g, n * 2, none⟩) (Ne.symm HGO.out) (.int .i64 d.e)).setOther (a := ⟨g, n * 2 + 1, none⟩) (Ne.symm HGO.out) (.slice d.A d.k.length d.c))
     have HOW9 := Lib.hid (show World.ownsRow (((w7.setCell ⟨w.heap.size + 1 + 1, 0, none⟩ (.slice (some ⟨g, 0, none⟩) (n + 1) cap)).setCell ⟨g, n * 2, none⟩ (.int .i64 d.e)).setCell ⟨g, n * 2 + 1, none⟩ (.slice d.A d.k.length d.c)) w1.heap.size 35 2 (.slice (some ⟨g, 0, none⟩) (n + 1) cap) (n + 1) (((ks.flatMap encD ++ [Value.int .i64 0, Value.slice none 0 0]).set (n * 2) (.int .i64 d.e)).set (n * 2 + 1) (.slice d.A d.k.length d.c)) from (World.ownsRow.stored (World.ownsRow.stored (World.ownsRow.kept HP.out.1 (grown_set _ ⟨w.heap.size + 1 + 1, 0, none⟩ (.slice (some ⟨g, 0, none⟩) (n + 1) cap)) (.inr (by simp only [Value.ownBlock]; intro e; exact HGO.out (Option.some.inj e)))) (n * 2) (.int .i64 d.e)).1 (n * 2 + 1) (.slice d.A d.k.length d.c)).1)
     have HFS9 := Lib.hid (show FutS S w2 (((w7.setCell ⟨w.heap.size + 1 + 1, 0, none⟩ (.slice (some ⟨g, 0, none⟩) (n + 1) cap)).setCell ⟨g, n * 2, none⟩ (.int .i64 d.e)).setCell ⟨g, n * 2 + 1, none⟩ (.slice d.A d.k.length d.c)) from ((((FutS.of HF6.out).grown HP.out.2.1 (fun q hq => .inl (HS1.out q hq))).setCell (a := ⟨w.heap.size + 1 + 1, 0, none⟩) (.inl HS2.out) (.slice (some ⟨g, 0, none⟩) (n + 1) cap)).setCell (a := ⟨g, n * 2, none⟩) (.inl HGS.out) (.int .i64 d.e)).setCell (a := ⟨g, n * 2 + 1, none⟩) (.inl HGS.out) (.slice d.A d.k.length d.c))
     generalize (((w7.setCell ⟨w.heap.size + 1 + 1, 0, none⟩ (.slice (some ⟨g, 0, none⟩) (n + 1) cap)).setCell ⟨g, n * 2, none⟩ (.int .i64 d.e)).setCell ⟨g, n * 2 + 1, none⟩ (.slice d.A d.k.length d.c)) = w9 at *
     have hend : ∀ R' : Nat → Prop, R' (n + 1) → ∃ C', (∀ q, C' q = true → C1 q = true ∨ W.heap.size ≤ q) ∧ FutS (fun q => C1 q || decide (W.heap.size ≤ q)) w2 w9 ∧ OG R' (w.heap.size + 1 + 1) (w.heap.size + 1) w1.heap.size k (ks ++ [d]) C' F w9 := by
      intro R' hR'
      have hb9 := HB9.out
      have how9 := HOW9.out
      have hb1' := HB1.out
      have hg : (Value.slice KA n Kc).ownBlock = some g ∨ W.heap.size ≤ g := HP.out.2.2.imp id (fun e => by rw [e]; exact Nat.le_trans (Nat.le_of_lt HD2.out.2) HF6.out.size)
      have hfs := HFS9.out
      rw [HSE.out] at hfs
      have hn := HN.out
      rw [set_two (by rw [flatD_len, hn])] at how9
      subst hn
      exact OG.push (R' := R') HO2.out HD2.out.1 HFC.out (Nat.le_of_lt HD2.out.2) hb1' hb9 how9 hfs hg hR' (by omega)
     have HEN := Lib.hid hend
     have z0 := HB9.out.cell (i := 0) rfl
     have z1 : w9.cell? ⟨w.heap.size + 1, 0, none⟩ = some (.int .i64 k) := by
      obtain ⟨C', _, _, _, _, _, _, _, h5, _⟩ := hend (fun _ => True) trivial
      exact h5.cell (i := 0) rfl
     have hnk : (n : Int) < k := by
      obtain ⟨_, _, _, _, h4, _⟩ := HO2.out
      have := HN.out
      have h5 : (ks.length : Int) < k := h4
      omega
     clear hend
     by_cases hq : ((n : Int) + 1) = k
     ·
      have HQ := Lib.hid hq
      gi_wp2_with fail
      obtain ⟨C', g1, g2, g3⟩ := HEN.out (fun m => (m : Int) = k) (by have := HQ.out; omega)
      exact ⟨C', g1, g2, rfl, g3⟩
     ·
      have HQ := Lib.hid hq
      gi_wp2_with fail
      obtain ⟨C', g1, g2, g3⟩ := HEN.out (fun m => (m : Int) < k) (by have := HQ.out; omega)
      exact ⟨C', g1, g2, g3⟩
  ·
   intro D ks C1 F W hO hpre hfull hff hD hDD hC1D hFD
   obtain ⟨v, g1, g2, g3, g4, g5, g6, g7⟩ := hO
   obtain ⟨oA, oc, rfl⟩ := own_formK g2
   have q0 := g1.cell (i := 0) rfl
   have hw4 := (OG.cj (fun m => (m : Int) < k) (w.heap.size + 1 + 1) (w.heap.size + 1) w1.heap.size k).keep ks C1 F F W (W.putObj D (.deferred none)) ⟨_, g1, g2, g3, g4, g5, g6, g7⟩ (by simp) (fun q hq => World.putObj_heap_other (fun e => by rw [e, hC1D] at hq; cases hq)) (fun q hq => World.putObj_heap_other (fun e => by rw [e, hFD] at hq; cases hq)) (fun _ h => h)
   have hfW : Fut w (W.putObj D (.deferred none)) := FutS.fut (fut_put _) (FutS.fut hff hf (fun q hq => by have := (hCi q).1 hq; omega)) (fun q hq => by rw [eq_of_beq hq]; omega)
   have h9 := ownF_keep (w' := W.putObj D (.deferred none)) g2 (fun q hq => World.putObj_heap_other (fun e => by have h8 := (g6 q).2 (.inr (.inr hq)); rw [e, hC1D] at h8; cases h8))
   have HW := Lib.hid (And.intro hw4 hfW)
   have H9 := Lib.hid h9
   have HPF := Lib.hid (And.intro hpre hfull)
   have HG2 := Lib.hid (And.intro g2 (And.intro g3 g4))
   have HDD := Lib.hid hDD
   have HCD := Lib.hid (And.intro hC1D hFD)
   clear hpre hfull hff hD hC1D hFD hf hsz hb1 hb2 hb3 hb4 hF0i hCi g1 g2 g3 g4 g5 g6 g7 hw4 hfW hDD h9
   gi_wp2_with fail
   refine ⟨by simp, .inl ⟨_, _, rfl, run_takeDeferred HDD.out, ?_⟩⟩
   refine ⟨_, results_tmp rfl _ _ _, ⟨oA, oc, ks, rfl, ?_, ?_, HPF.out.1, fun h => (by exfalso; omega), fun _ => ⟨by have := HG2.out.2.2; omega, .inr HPF.out.2⟩, own_cap H9.out⟩, HW.out.2⟩
   ·
    exact RdS.of_own (fun _ => rfl) (by decide) H9.out
   ·
    obtain ⟨v, _, _, h3, _⟩ := HW.out.1
    exact fun d hd => (h3 d hd).rd
  ·
   rintro D j ks C1 F W ⟨rfl, hO⟩ hpre hff hD hDD hC1D hFD
   obtain ⟨v, g1, g2, g3, g4, g5, g6, g7⟩ := hO
   obtain ⟨oA, oc, rfl⟩ := own_formK g2
   have q0 := g1.cell (i := 0) rfl
   have hw4 := (OG.cj (fun m => (m : Int) = k) (w.heap.size + 1 + 1) (w.heap.size + 1) w1.heap.size k).keep ks C1 F F W (W.putObj D (.deferred none)) ⟨_, g1, g2, g3, g4, g5, g6, g7⟩ (by simp) (fun q hq => World.putObj_heap_other (fun e => by rw [e, hC1D] at hq; cases hq)) (fun q hq => World.putObj_heap_other (fun e => by rw [e, hFD] at hq; cases hq)) (fun _ h => h)
   have hfW : Fut w (W.putObj D (.deferred none)) := FutS.fut (fut_put _) (FutS.fut hff hf (fun q hq => by have := (hCi q).1 hq; omega)) (fun q hq => by rw [eq_of_beq hq]; omega)
   have h9 := ownF_keep (w' := W.putObj D (.deferred none)) g2 (fun q hq => World.putObj_heap_other (fun e => by have h8 := (g6 q).2 (.inr (.inr hq)); rw [e, hC1D] at h8; cases h8))
   have HW := Lib.hid (And.intro hw4 hfW)
   have H9 := Lib.hid h9
   have HPF := Lib.hid hpre
   have HG2 := Lib.hid (And.intro g2 (And.intro g3 g4))
   have HDD := Lib.hid hDD
   have HCD := Lib.hid (And.intro hC1D hFD)
   clear hpre hff hD hC1D hFD hf hsz hb1 hb2 hb3 hb4 hF0i hCi g1 g2 g3 g4 g5 g6 g7 hw4 hfW hDD h9
   gi_wp2_with fail
   refine ⟨by simp, .inl ⟨_, _, rfl, run_takeDeferred HDD.out, ?_⟩⟩
   refine ⟨_, results_tmp rfl _ _ _, ⟨oA, oc, ks, rfl, ?_, ?_, HPF.out, fun h => (by exfalso; omega), fun _ => ⟨by have := HG2.out.2.2; omega, .inl HG2.out.2.2⟩, own_cap H9.out⟩, HW.out.2⟩
   ·
    exact RdS.of_own (fun _ => rfl) (by decide) H9.out
   ·
    obtain ⟨v, _, _, h3, _⟩ := HW.out.1
    exact fun d hd => (h3 d hd).rd
end Go.Proofs.YtajbmdjlfniofaaDoor
/-
  The enumeration: some (of the laws).
-/
namespace Go.Proofs.YtajbmdjlfniofaaDoor
open Go.RowKit Go.Deep PK
attribute [local go_sem] Oper.lit Oper.litS fut_fut fut_drew World.cell?_alloc_some
attribute [local go_sem] World.frozen?_setCell
attribute [local go_sem] Oper.semAt_some
theorem eql_fn (f : FuncId) (x y : Value) (w : World) : (binOp .eql 52 (.func (.func f) #[] #[x, y]) .nilFunc).run Tryd.prog w = .ok (.bool false) w := by kernel_rfl
set_option maxHeartbeats 6400000 in
set_option maxRecDepth 4000 in
theorem some_any (N : Nat) (A : Option Addr) (n c : Nat) (es : List EI) (w : World) (hl : es.length = n) (hn : n ≤ 12) (hvd : validB N es = true) (hN8 : N ≤ 8) (htl : ∀ e ∈ es, e.t.length ≤ 3) (V : Nat → VV) (hS : Sol (EEs es) V) (hs : ∀ i, (V i).s < INF) (hR : RdE w A es) (root : Nat) (hroot : root < N) (k : Int) (hk50 : k ≤ 50) :
  Calls Tryd.prog 15 #[hv N A n c, .int .i64 (root : Int), .int .i64 k] w fun e w' => (∃ oA oc ks, e = .returned (.tuple #[.slice oA (ks : List DI).length oc, .bool true]) ∧ RdS w' oA 2 encD ks ∧ (∀ d ∈ ks, RdD w' d) ∧ PreD (EEs es) root (ks.map toDT) ∧ (k ≤ 0 → ks = []) ∧ (0 < k → (ks.length : Int) ≤ k ∧ ((ks.length : Int) = k ∨ FullD (EEs es) root (ks.map toDT))) ∧ ks.length ≤ oc) ∧ Fut w w' := by
 refine (callsIn_wide (n := 0)).1 (callsIn_of_wp_marks Tryd.func15 rfl trivial ?_ rfl)
 simp only [Tryd.ntmps15, List.size_toArray, List.length_cons, List.length_nil, Nat.reduceAdd, Nat.reduceSub, Array.replicate_succ,
  Array.replicate_zero, List.push_toArray, List.append_toArray, List.nil_append, List.cons_append]
 have HR := Lib.hid hR
 have HL := Lib.hid hl
 have HVD := Lib.hid hvd
 have HTL := Lib.hid htl
 have HSO := Lib.hid hS
 have HSS := Lib.hid hs
 have HN12 := Lib.hid hn
 have HN8 := Lib.hid hN8
 have HRT := Lib.hid hroot
 have HK5 := Lib.hid hk50
 clear hR hl hvd htl hS hs hn hN8 hroot hk50
 gi_wp2_with fail
 refine ⟨trivial, rfl, (callsIn_wide.2 (iterate_any N A n c root _)).mono ?_⟩
 rintro e w1 ⟨rfl, hw1⟩
 rw [hw1]
 clear hw1 w1
 have hfn := eql_fn
 by_cases hk : k < 1
 ·
  gi_wp2_with fail
  refine ⟨_, results_tmp2 rfl _ _ _, ⟨none, 0, [], rfl, RdS.nil, fun d hd => by simp at hd, PreD.nil, fun _ => rfl, fun h => by omega, Nat.le_refl _⟩, (((((Fut.refl w).alloc _).alloc _).alloc _).alloc _).alloc _⟩
 ·
  gi_wp2_with fail
  have hf : Fut w (((((w.alloc (.cells #[.int .i64 N, .slice A n c] 24)).alloc (.cells #[.int .i64 k] 3)).alloc (.cells #[.int .i64 N, .slice A n c] 24)).alloc (.cells #[.int .i64 root] 3)).alloc (.cells #[.slice none 0 0] 28)) := (((((Fut.refl w).alloc _).alloc _).alloc _).alloc _).alloc _
  have hsz : (((((w.alloc (.cells #[.int .i64 N, .slice A n c] 24)).alloc (.cells #[.int .i64 k] 3)).alloc (.cells #[.int .i64 N, .slice A n c] 24)).alloc (.cells #[.int .i64 root] 3)).alloc (.cells #[.slice none 0 0] 28)).heap.size = w.heap.size + 5 := by simp only [World.size_alloc]
  have hb1 : Blk (((((w.alloc (.cells #[.int .i64 N, .slice A n c] 24)).alloc (.cells #[.int .i64 k] 3)).alloc (.cells #[.int .i64 N, .slice A n c] 24)).alloc (.cells #[.int .i64 root] 3)).alloc (.cells #[.slice none 0 0] 28)) (w.heap.size + 1) 3 #[.int .i64 k] := (Blk.fut (w := (w.alloc (.cells #[.int .i64 N, .slice A n c] 24)).alloc (.cells #[.int .i64 k] 3)) (heap_new' _ _ _ (by simp only [World.size_alloc])) ((((Fut.refl _).alloc _).alloc _).alloc _))
  have hb3 : Blk (((((w.alloc (.cells #[.int .i64 N, .slice A n c] 24)).alloc (.cells #[.int .i64 k] 3)).alloc (.cells #[.int .i64 N, .slice A n c] 24)).alloc (.cells #[.int .i64 root] 3)).alloc (.cells #[.slice none 0 0] 28)) (w.heap.size + 1 + 1) 24 #[.int .i64 N, .slice A n c] := (Blk.fut (w := ((w.alloc (.cells #[.int .i64 N, .slice A n c] 24)).alloc (.cells #[.int .i64 k] 3)).alloc (.cells #[.int .i64 N, .slice A n c] 24)) (heap_new' _ _ _ (by simp only [World.size_alloc])) (((Fut.refl _).alloc _).alloc _))
  have hb4 : Blk (((((w.alloc (.cells #[.int .i64 N, .slice A n c] 24)).alloc (.cells #[.int .i64 k] 3)).alloc (.cells #[.int .i64 N, .slice A n c] 24)).alloc (.cells #[.int .i64 root] 3)).alloc (.cells #[.slice none 0 0] 28)) (w.heap.size + 1 + 1 + 1) 3 #[.int .i64 root] := (Blk.fut (w := (((w.alloc (.cells #[.int .i64 N, .slice A n c] 24)).alloc (.cells #[.int .i64 k] 3)).alloc (.cells #[.int .i64 N, .slice A n c] 24)).alloc (.cells #[.int .i64 root] 3)) (heap_new' _ _ _ (by simp only [World.size_alloc])) ((Fut.refl _).alloc _))
  have hb2 : Blk (((((w.alloc (.cells #[.int .i64 N, .slice A n c] 24)).alloc (.cells #[.int .i64 k] 3)).alloc (.cells #[.int .i64 N, .slice A n c] 24)).alloc (.cells #[.int .i64 root] 3)).alloc (.cells #[.slice none 0 0] 28)) (w.heap.size + 1 + 1 + 1 + 1) 28 #[.slice none 0 0] := heap_new' _ _ _ (by simp only [World.size_alloc])
  generalize ((((w.alloc (.cells #[.int .i64 N, .slice A n c] 24)).alloc (.cells #[.int .i64 k] 3)).alloc (.cells #[.int .i64 N, .slice A n c] 24)).alloc (.cells #[.int .i64 root] 3)).alloc (.cells #[.slice none 0 0] 28) = w1 at *
  obtain ⟨F0, hF0⟩ : ∃ F0 : Nat → Bool, F0 = fun q => decide (q < w.heap.size) || q == w.heap.size + 1 + 1 + 1 := ⟨_, rfl⟩
  have hF0i : ∀ q, F0 q = true ↔ q < w.heap.size ∨ q = w.heap.size + 1 + 1 + 1 := fun q => by rw [hF0]; simp
  obtain ⟨C, hC⟩ : ∃ C : Nat → Bool, C = fun q => q == w.heap.size + 1 + 1 + 1 + 1 || q == w.heap.size + 1 := ⟨_, rfl⟩
  have hCi : ∀ q, C q = true ↔ q = w.heap.size + 1 + 1 + 1 + 1 ∨ q = w.heap.size + 1 := fun q => by rw [hC]; simp
  clear hF0 hC
  refine range_any N A n c es HL.out HN12.out HVD.out HN8.out HTL.out V HSO.out HSS.out 0 F0 (fun q hq => by have := (hF0i q).1 hq; omega) (fun w' hk => HR.out.below (fun q hq => (hk q ((hF0i q).2 (.inl hq))).trans (hf.block q hq))) root HRT.out (w.heap.size + 1 + 1) (w.heap.size + 1 + 1 + 1) hb3 hb4 ((hF0i _).2 (.inr rfl)) rfl rfl (OG (fun m => (m : Int) < k) (w.heap.size + 1 + 1 + 1 + 1) (w.heap.size + 1) w1.heap.size k) (fun j ks C F W => j = .exit 0 ∧ OG (fun m => (m : Int) = k) (w.heap.size + 1 + 1 + 1 + 1) (w.heap.size + 1) w1.heap.size k ks C F W) (OG.cj _ _ _ _ _) (fun j => ⟨fun ks C F W h => (OG.cj _ _ _ _ _).lt ks C F W h.2, fun ks C F G W W' h a b c d => ⟨h.1, (OG.cj _ _ _ _ _).keep ks C F G W W' h.2 a b c d⟩⟩) (fun ks C F W h => by
   obtain ⟨v, _, _, _, h4, _⟩ := h
   have := HK5.out
   omega) C (fun q hq => ?_) ?_ ?_ ?_ ?_
  ·
   have h1 := (hF0i q).1 hq
   cases e : C q with
   | false => rfl
   | true => have := (hCi q).1 e; omega
  ·
   exact ⟨.slice none 0 0, hb2, World.ownsRow_nil _ _ _ _, fun d hd => by simp at hd, by simp; omega, hb1, fun j => by rw [hCi]; simp [Value.ownBlock], Nat.le_refl _⟩
  ·
   intro l ks C1 F W d hO hd hFC hl hC1l hFl
   have HO := Lib.hid hO
   have HD := Lib.hid hd
   have HFC := Lib.hid hFC
   clear hO hd hFC hF0i hCi hb1 hb2 hb3 hb4 hf hsz
   gi_wp2_with fail
   refine ⟨(Fut.refl W).alloc _, fun w2 hw2 => ?_⟩
   have hlt := (OG.cj _ _ _ _ _).lt _ _ _ _ HO.out
   have hfw : ∀ q, q < W.heap.size → q ≠ l → w2.heap[q]? = W.heap[q]? := fun q h1 h2 => (hw2.block q (by rw [World.size_alloc]; omega) (beq_eq_false_iff_ne.2 h2)).trans (((Fut.refl W).alloc _).block q h1)
   have hsz2 : W.heap.size < w2.heap.size := by have := hw2.size; rw [World.size_alloc] at this; omega
   have hO2 := (OG.cj _ _ _ _ _).keep ks C1 F F W w2 HO.out (by omega) (fun q hq => hfw q (hlt q hq) (fun e => by rw [e, hC1l] at hq; cases hq)) (fun q hq => hfw q (HFC.out q hq).1 (fun e => by rw [e, hFl] at hq; cases hq)) (fun _ h => h)
   have hd2 : RdP (fun b => F b = true) w2 d := HD.out.keep (fun b hb hl' => ⟨hfw b hl' (fun e => by rw [e, hFl] at hb; cases hb), hb⟩)
   have hbd : Blk w2 W.heap.size 35 #[.int .i64 d.e, .slice d.A d.k.length d.c] := (Blk.new W _ _).futS hw2 (beq_eq_false_iff_ne.2 (by omega))
   have HO2 := Lib.hid hO2
   have HD2 := Lib.hid (And.intro hd2 hsz2)
   obtain ⟨v, g1, g2, g3, g4, g5, g6, g7⟩ := hO2
   obtain ⟨KA, Kc, rfl⟩ := own_formK g2
   obtain ⟨n, hn⟩ : ∃ p, p = ks.length := ⟨_, rfl⟩
   have HN := Lib.hid hn
   rw [← hn] at g1 g2
   have hn50 : n < 50 := by have := HK5.out; have h4 : (ks.length : Int) < k := g4; omega
   obtain ⟨S, hS⟩ : ∃ S : Nat → Bool, S = fun q => (Value.slice KA n Kc).ownBlock == some q || q == w.heap.size + 1 + 1 + 1 + 1 || decide (w2.heap.size ≤ q) := ⟨_, rfl⟩
   have hown : ∀ q, (Value.slice KA n Kc).ownBlock = some q → q < W.heap.size := fun q hq => by
    have h1 := HO.out
    obtain ⟨v', e1, e2, _, _, _, e6, _⟩ := h1
    refine hlt q ?_
    have h8 := (g6 q).2 (.inr (.inr (by rw [← hn]; exact hq)))
    exact h8
   have hobW : w.heap.size + 1 + 1 + 1 + 1 < W.heap.size := hlt _ ((g6 _).2 (.inl rfl))
   have hSb : S W.heap.size = false := by
    rw [hS]
    simp only [Bool.or_eq_false_iff, beq_eq_false_iff_ne, decide_eq_false_iff_not]
    exact ⟨⟨fun e => by have := hown _ e; omega, by omega⟩, by omega⟩
   have HS1 := Lib.hid (show ∀ q, (Value.slice KA n Kc).ownBlock = some q → S q = true from fun q hq => by rw [hS]; simp [hq])
   have HS2 := Lib.hid (show S (w.heap.size + 1 + 1 + 1 + 1) = true from by rw [hS]; simp)
   have HS3 := Lib.hid (show ∀ q, w2.heap.size ≤ q → S q = true from fun q hq => by rw [hS]; simp [hq])
   have HSE := Lib.hid hS
   have y0 := cell_futS (hbd.cell (i := 0) rfl) hSb
   have y1 := cell_futS (hbd.cell (i := 1) rfl) hSb
   have x0 := g1.cell (i := 0) rfl
   have HB1 := Lib.hid g1
   have HB2 := Lib.hid g2
   have HB5 := Lib.hid g5
   have HGB := Lib.hid g7
   clear g1 g2 g3 g4 g5 g6 g7 hSb hS hd2 hbd hfw hw2 hlt hsz2 hn hown hobW
   gi_wp2_with fail
   refine wpIn_region_MG (relS S) o_push l 0 (by kernel_rfl) (by kernel_rfl) (by kernel_rfl) (by intro c a d v w h; cases d <;> exact h) (by rintro ⟨a, w, h⟩; exact h) ?_
   unfold o_push
   (refine wpS_h rfl rfl (fun K hK => ?_); go_simp; refine hK _ _ ?_; clear hK K)
   refine wpG_two' rfl rfl (fun K hK => ?_) (fun K hK => ?_)
   ·
    go_simp
    refine hK _ _ (.inr (FutS.refl _)) ?_
    clear hK K
    (refine wpS_h rfl rfl (fun K hK => ?_); go_simp; refine hK _ _ ?_; clear hK K)
    refine wpG_o rfl rfl (fun K hK => ?_)
    go_simp
    refine hK _ _ (.inr ((relS S).of_fut ((Fut.refl _).alloc _))) ?_
    clear hK K
    clear x0 y0 y1
    obtain ⟨w6, hw6⟩ : ∃ w6, w6 = (w2.alloc (.cells #[.int .i64 0, .slice none 0 0] 35)).drew := ⟨_, rfl⟩
    have HF6 := Lib.hid (show Fut w2 w6 from by rw [hw6]; exact ((Fut.refl w2).alloc _).drew)
    have HNB := Lib.hid (show w6.heap[w2.heap.size]? = some (.cells #[.int .i64 0, .slice none 0 0] 35 (0, 0)) from by rw [hw6]; exact heap_new' _ _ _ rfl)
    have HB26 := Lib.hid (own_fut HB2.out HF6.out)
    rw [show (w2.alloc (.cells #[.int .i64 0, .slice none 0 0] 35)).drew = w6 from hw6.symm]
    clear hw6
    refine wpG_o rfl rfl (fun K hK => ?_)
    refine wp_push 28 35 2 32 _ Tryd.underlying28 info_dr rfl (by decide) (by decide) (.tmp 21) (.tmp 24) rfl w1.heap.size (.slice KA n Kc) n _ rfl HB26.out w2.heap.size [.int .i64 0, .slice none 0 0] rfl HNB.out rfl (by simp [Value.oneCell']) (by omega) (Nat.le_trans HGB.out HF6.out.size) ?_
    intro g cap w7 p1 p2 p3
    refine hK _ _ (.inr ((FutS.refl _).grown p2 (fun q hq => .inl (HS1.out q hq)))) ?_
    clear hK K
    have HP := Lib.hid (And.intro p1 (And.intro p2 p3))
    have hgS : S g = true := by
     rcases p3 with h | h
     ·
      exact HS1.out g h
     ·
      exact HS3.out g (by rw [h]; exact HF6.out.size)
    have HGS := Lib.hid hgS
    have hgo : g ≠ w.heap.size + 1 + 1 + 1 + 1 := own_ne_blk p1 ((HB1.out.fut HF6.out).grown p2 (fun e => own_ne_blk HB26.out (HB1.out.fut HF6.out) (by decide) _ e.symm rfl)) (by decide) g rfl
    have hb7 : Blk w7 (w.heap.size + 1 + 1 + 1 + 1) 28 #[.slice KA n Kc] := (HB1.out.fut HF6.out).grown p2 (fun e => own_ne_blk HB26.out (HB1.out.fut HF6.out) (by decide) _ e.symm rfl)
    have HGO := Lib.hid hgo
    have HB7 := Lib.hid hb7
    have hl7 : (ks.flatMap encD ++ [Value.int .i64 0, Value.slice none 0 0]).length = n * 2 + 2 := by rw [List.length_append, flatD_len, HN.out]; rfl
    have e0 : w7.cell? ⟨g, n * 2, none⟩ = some (.int .i64 0) := (World.ownsRow.cellAt p1 (n * 2) (by omega)).trans (by rw [List.getElem?_append_right (by rw [flatD_len, HN.out]; exact Nat.le_refl _), flatD_len, HN.out, Nat.sub_self]; rfl)
    have e1 : w7.cell? ⟨g, n * 2 + 1, none⟩ = some (.slice none 0 0) := (World.ownsRow.cellAt p1 (n * 2 + 1) (by omega)).trans (by rw [List.getElem?_append_right (by rw [flatD_len, HN.out]; omega), flatD_len, HN.out, Nat.add_sub_cancel_left]; rfl)
    have x7 := hb7.cell (i := 0) rfl
    have hgo1 : ¬ g = w.heap.size + 1 + 1 + 1 + 1 := hgo
    have hgo2 : ¬ w.heap.size + 1 + 1 + 1 + 1 = g := Ne.symm hgo
    clear p1 p2 p3 hgS hgo hb7 hl7
    have f0 := World.ownsRow.frozenAt HP.out.1 (n * 2)
    have f1 := World.ownsRow.frozenAt HP.out.1 (n * 2 + 1)
    have f2 := HB7.out.fz 0
    have hnn : (n : Int) < (n : Int) + 1 := by omega
    (refine wpS_h rfl rfl (fun K hK => ?_); go_simp; refine hK _ _ ?_; clear hK K)
    refine wpG_two' rfl rfl (fun K hK => ?_) (fun K hK => ?_)
    ·
     go_simp
     refine hK _ _ (.inr (((FutS.refl _).setCell (a := ⟨g, n * 2, none⟩) (.inl HGS.out) _).setCell (a := ⟨g, n * 2 + 1, none⟩) (.inl HGS.out) _)) ?_
     clear hK K
     refine wpG_o rfl rfl (fun K hK => ?_)
     go_simp
     refine hK _ _ (.inr ((FutS.refl _).setCell (a := ⟨w.heap.size + 1 + 1 + 1 + 1, 0, none⟩) (.inl HS2.out) _)) ?_
     clear hK K
     refine wpG_nil ?_
     clear e0 e1 f0 f1 f2 hnn hgo1 hgo2 x7
     have HB9 := Lib.hid (show Blk (((w7.setCell ⟨g, n * 2, none⟩ (.int .i64 d.e)).setCell ⟨g, n * 2 + 1, none⟩ (.slice d.A d.k.length d.c)).setCell ⟨w.heap.size + 1 + 1 + 1 + 1, 0, none⟩ (.slice (some ⟨g, 0, none⟩) (n + 1) cap)) (w.heap.size + 1 + 1 + 1 + 1) 28 #[(.slice (some ⟨g, 0, none⟩) (n + 1) cap)] from ((HB7.out.setOther (a := ⟨g, n * 2, none⟩) (Ne.symm HGO.out) (.int .i64 d.e)).setOther (a := ⟨g, n * 2 + 1, none⟩) (Ne.symm HGO.out) (.slice d.A d.k.length d.c)).set 0 (.slice (some ⟨g, 0, none⟩) (n + 1) cap))
     have HOW9 := Lib.hid (show World.ownsRow (((w7.setCell ⟨g, n * 2, none⟩ (.int .i64 d.e)).setCell ⟨g, n * 2 + 1, none⟩ (.slice d.A d.k.length d.c)).setCell ⟨w.heap.size + 1 + 1 + 1 + 1, 0, none⟩ (.slice (some ⟨g, 0, none⟩) (n + 1) cap)) w1.heap.size 35 2 (.slice (some ⟨g, 0, none⟩) (n + 1) cap) (n + 1) (((ks.flatMap encD ++ [Value.int .i64 0, Value.slice none 0 0]).set (n * 2) (.int .i64 d.e)).set (n * 2 + 1) (.slice d.A d.k.length d.c)) from World.ownsRow.kept (World.ownsRow.stored (World.ownsRow.stored HP.out.1 (n * 2) (.int .i64 d.e)).1 (n * 2 + 1) (.slice d.A d.k.length d.c)).1 (grown_set _ ⟨w.heap.size + 1 + 1 + 1 + 1, 0, none⟩ (.slice (some ⟨g, 0, none⟩) (n + 1) cap)) (.inr (by simp only [Value.ownBlock]; intro e; exact HGO.out (Option.some.inj e))))
     have HFS9 := Lib.hid (show FutS S w2 (((w7.setCell ⟨g, n * 2, none⟩ (.int .i64 d.e)).setCell ⟨g, n * 2 + 1, none⟩ (.slice d.A d.k.length d.c)).setCell ⟨w.heap.size + 1 + 1 + 1 + 1, 0, none⟩ (.slice (some ⟨g, 0, none⟩) (n + 1) cap)) from ((((FutS.of HF6.out).grown HP.out.2.1 (fun q hq => .inl (HS1.out q hq))).setCell (a := ⟨g, n * 2, none⟩) (.inl HGS.out) (.int .i64 d.e)).setCell (a := ⟨g, n * 2 + 1, none⟩) (.inl HGS.out) (.slice d.A d.k.length d.c)).setCell (a := ⟨w.heap.size + 1 + 1 + 1 + 1, 0, none⟩) (.inl HS2.out) (.slice (some ⟨g, 0, none⟩) (n + 1) cap))
     generalize (((w7.setCell ⟨g, n * 2, none⟩ (.int .i64 d.e)).setCell ⟨g, n * 2 + 1, none⟩ (.slice d.A d.k.length d.c)).setCell ⟨w.heap.size + 1 + 1 + 1 + 1, 0, none⟩ (.slice (some ⟨g, 0, none⟩) (n + 1) cap)) = w9 at *
     have hend : ∀ R' : Nat → Prop, R' (n + 1) → ∃ C', (∀ q, C' q = true → C1 q = true ∨ W.heap.size ≤ q) ∧ FutS (fun q => C1 q || decide (W.heap.size ≤ q)) w2 w9 ∧ OG R' (w.heap.size + 1 + 1 + 1 + 1) (w.heap.size + 1) w1.heap.size k (ks ++ [d]) C' F w9 := by
      intro R' hR'
      have hb9 := HB9.out
      have how9 := HOW9.out
      have hb1' := HB1.out
      have hg : (Value.slice KA n Kc).ownBlock = some g ∨ W.heap.size ≤ g := HP.out.2.2.imp id (fun e => by rw [e]; exact Nat.le_trans (Nat.le_of_lt HD2.out.2) HF6.out.size)
      have hfs := HFS9.out
      rw [HSE.out] at hfs
      have hn := HN.out
      rw [set_two (by rw [flatD_len, hn])] at how9
      subst hn
      exact OG.push (R' := R') HO2.out HD2.out.1 HFC.out (Nat.le_of_lt HD2.out.2) hb1' hb9 how9 hfs hg hR' (by omega)
     have HEN := Lib.hid hend
     have z0 := HB9.out.cell (i := 0) rfl
     have z1 : w9.cell? ⟨w.heap.size + 1, 0, none⟩ = some (.int .i64 k) := by
      obtain ⟨C', _, _, _, _, _, _, _, h5, _⟩ := hend (fun _ => True) trivial
      exact h5.cell (i := 0) rfl
     have hnk : (n : Int) < k := by
      obtain ⟨_, _, _, _, h4, _⟩ := HO2.out
      have := HN.out
      have h5 : (ks.length : Int) < k := h4
      omega
     clear hend
     by_cases hq : k ≤ ((n : Int) + 1)
     ·
      have HQ := Lib.hid hq
      gi_wp2_with fail
      obtain ⟨C', g1, g2, g3⟩ := HEN.out (fun m => (m : Int) = k) (by have := HQ.out; omega)
      exact ⟨C', g1, g2, rfl, g3⟩
     ·
      have HQ := Lib.hid hq
      gi_wp2_with fail
      obtain ⟨C', g1, g2, g3⟩ := HEN.out (fun m => (m : Int) < k) (by have := HQ.out; omega)
      exact ⟨C', g1, g2, g3⟩
    ·
     go_simp
     refine hK _ _ (.inr ((FutS.refl _).setCell (a := ⟨w.heap.size + 1 + 1 + 1 + 1, 0, none⟩) (.inl HS2.out) _)) ?_
     clear hK K
     refine wpG_o rfl rfl (fun K hK => ?_)
     go_simp
     refine hK _ _ (.inr (((FutS.refl _).setCell (a := ⟨g, n * 2, none⟩) (.inl HGS.out) _).setCell (a := ⟨g, n * 2 + 1, none⟩) (.inl HGS.out) _)) ?_
     clear hK K
     refine wpG_nil ?_
     clear e0 e1 f0 f1 f2 hnn hgo1 hgo2 x7
     have HB9 := Lib.hid (show Blk (((w7.setCell ⟨w.heap.size + 1 + 1 + 1 + 1, 0, none⟩ (.slice (some ⟨g, 0, none⟩) (n + 1) cap)).setCell ⟨g, n * 2, none⟩ (.int .i64 d.e)).setCell ⟨g, n * 2 + 1, none⟩ (.slice d.A d.k.length d.c)) (w.heap.size + 1 + 1 + 1 + 1) 28 #[(.slice (some ⟨g, 0, none⟩) (n + 1) cap)] from ((HB7.out.set 0 (.slice (some ⟨g, 0, none⟩) (n + 1) cap)).setOther (a := ⟨g, n * 2, none⟩) (Ne.symm HGO.out) (.int .i64 d.e)).setOther (a := ⟨g, n * 2 + 1, none⟩) (Ne.symm HGO.out) (.slice d.A d.k.length d.c))
     have HOW9 := Lib.hid (show World.ownsRow (((w7.setCell ⟨w.heap.size + 1 + 1 + 1 + 1, 0, none⟩ (.slice (some ⟨g, 0, none⟩) (n + 1) cap)).setCell ⟨g, n * 2, none⟩ (.int .i64 d.e)).setCell ⟨g, n * 2 + 1, none⟩ (.slice d.A d.k.length d.c)) w1.heap.size 35 2 (.slice (some ⟨g, 0, none⟩) (n + 1) cap) (n + 1) (((ks.flatMap encD ++ [Value.int .i64 0, Value.slice none 0 0]).set (n * 2) (.int .i64 d.e)).set (n * 2 + 1) (.slice d.A d.k.length d.c)) from (World.ownsRow.stored (World.ownsRow.stored (World.ownsRow.kept HP.out.1 (grown_set _ ⟨w.heap.size + 1 + 1 + 1 + 1, 0, none⟩ (.slice (some ⟨g, 0, none⟩) (n + 1) cap)) (.inr (by simp only [Value.ownBlock]; intro e; exact HGO.out (Option.some.inj e)))) (n * 2) (.int .i64 d.e)).1 (n * 2 + 1) (.slice d.A d.k.length d.c)).1)
     have HFS9 := Lib.hid (show FutS S w2 (((w7.setCell ⟨w.heap.size + 1 + 1 + 1 + 1, 0, none⟩ (.slice (some ⟨g, 0, none⟩) (n + 1) cap)).setCell ⟨g, n * 2, none⟩ (.int .i64 d.e)).setCell ⟨g, n * 2 + 1, none⟩ (.slice d.A d.k.length d.c)) from ((((FutS.of HF6.out).grown HP.out.2.1 (fun q hq => .inl (HS1.out q hq))).setCell (a := ⟨w.heap.size + 1 + 1 + 1 + 1, 0, none⟩) (.inl HS2.out) (.slice (some ⟨g, 0, none⟩) (n + 1) cap)).setCell (a := ⟨g, n * 2, none⟩) (.inl HGS.out) (.int .i64 d.e)).setCell (a := ⟨g, n * 2 + 1, none⟩) (.inl HGS.out) (.slice d.A d.k.length d.c))
     generalize (((w7.setCell ⟨w.heap.size + 1 + 1 + 1 + 1, 0, none⟩ (.slice (some ⟨g, 0, none⟩) (n + 1) cap)).setCell ⟨g, n * 2, none⟩ (.int .i64 d.e)).setCell ⟨g, n * 2 + 1, none⟩ (.slice d.A d.k.length d.c)) = w9 at *
     have hend : ∀ R' : Nat → Prop, R' (n + 1) → ∃ C', (∀ q, C' q = true → C1 q = true ∨ W.heap.size ≤ q) ∧ FutS (fun q => C1 q || decide (W.heap.size ≤ q)) w2 w9 ∧ OG R' (w.heap.size + 1 + 1 + 1 + 1) (w.heap.size + 1) w1.heap.size k (ks ++ [d]) C' F w9 := by
      intro R' hR'
      have hb9 := HB9.out
      have how9 := HOW9.out
      have hb1' := HB1.out
      have hg : (Value.slice KA n Kc).ownBlock = some g ∨ W.heap.size ≤ g := HP.out.2.2.imp id (fun e => by rw [e]; exact Nat.le_trans (Nat.le_of_lt HD2.out.2) HF6.out.size)
      have hfs := HFS9.out
      rw [HSE.out] at hfs
      have hn := HN.out
      rw [set_two (by rw [flatD_len, hn])] at how9
      subst hn
      exact OG.push (R' := R') HO2.out HD2.out.1 HFC.out (Nat.le_of_lt HD2.out.2) hb1' hb9 how9 hfs hg hR' (by omega)
     have HEN := Lib.hid hend
     have z0 := HB9.out.cell (i := 0) rfl
     have z1 : w9.cell? ⟨w.heap.size + 1, 0, none⟩ = some (.int .i64 k) := by
      obtain ⟨C', _, _, _, _, _, _, _, h5, _⟩ := hend (fun _ => True) trivial
      exact h5.cell (i := 0) rfl
     have hnk : (n : Int) < k := by
      obtain ⟨_, _, _, _, h4, _⟩ := HO2.out
      have := HN.out
      have h5 : (ks.length : Int) < k := h4
      omega
     clear hend
     by_cases hq : k ≤ ((n : Int) + 1)
     ·
      have HQ := Lib.hid hq
      gi_wp2_with fail
      obtain ⟨C', g1, g2, g3⟩ := HEN.out (fun m => (m : Int) = k) (by have := HQ.out; omega)
      exact ⟨C', g1, g2, rfl, g3⟩
     ·
      have HQ := Lib.hid hq
      gi_wp2_with fail
      obtain ⟨C', g1, g2, g3⟩ := HEN.out (fun m => (m : Int) < k) (by have := HQ.out; omega)
      exact ⟨C', g1, g2, g3⟩
   ·
    go_simp
    refine hK _ _ (.inr ((relS S).of_fut ((Fut.refl _).alloc _))) ?_
    clear hK K
    refine wpG_o rfl rfl (fun K hK => ?_)
    go_simp
    refine hK _ _ (.inr (FutS.refl _)) ?_
    clear hK K
    (refine wpS_h rfl rfl (fun K hK => ?_); go_simp; refine hK _ _ ?_; clear hK K)
    clear x0 y0 y1
    obtain ⟨w6, hw6⟩ : ∃ w6, w6 = (w2.alloc (.cells #[.int .i64 0, .slice none 0 0] 35)).drew := ⟨_, rfl⟩
    have HF6 := Lib.hid (show Fut w2 w6 from by rw [hw6]; exact ((Fut.refl w2).alloc _).drew)
    have HNB := Lib.hid (show w6.heap[w2.heap.size]? = some (.cells #[.int .i64 0, .slice none 0 0] 35 (0, 0)) from by rw [hw6]; exact heap_new' _ _ _ rfl)
    have HB26 := Lib.hid (own_fut HB2.out HF6.out)
    rw [show (w2.alloc (.cells #[.int .i64 0, .slice none 0 0] 35)).drew = w6 from hw6.symm]
    clear hw6
    refine wpG_o rfl rfl (fun K hK => ?_)
    refine wp_push 28 35 2 32 _ Tryd.underlying28 info_dr rfl (by decide) (by decide) (.tmp 21) (.tmp 24) rfl w1.heap.size (.slice KA n Kc) n _ rfl HB26.out w2.heap.size [.int .i64 0, .slice none 0 0] rfl HNB.out rfl (by simp [Value.oneCell']) (by omega) (Nat.le_trans HGB.out HF6.out.size) ?_
    intro g cap w7 p1 p2 p3
    refine hK _ _ (.inr ((FutS.refl _).grown p2 (fun q hq => .inl (HS1.out q hq)))) ?_
    clear hK K
    have HP := Lib.hid (And.intro p1 (And.intro p2 p3))
    have hgS : S g = true := by
     rcases p3 with h | h
     ·
      exact HS1.out g h
     ·
      exact HS3.out g (by rw [h]; exact HF6.out.size)
    have HGS := Lib.hid hgS
    have hgo : g ≠ w.heap.size + 1 + 1 + 1 + 1 := own_ne_blk p1 ((HB1.out.fut HF6.out).grown p2 (fun e => own_ne_blk HB26.out (HB1.out.fut HF6.out) (by decide) _ e.symm rfl)) (by decide) g rfl
    have hb7 : Blk w7 (w.heap.size + 1 + 1 + 1 + 1) 28 #[.slice KA n Kc] := (HB1.out.fut HF6.out).grown p2 (fun e => own_ne_blk HB26.out (HB1.out.fut HF6.out) (by decide) _ e.symm rfl)
    have HGO := Lib.hid hgo
    have HB7 := Lib.hid hb7
    have hl7 : (ks.flatMap encD ++ [Value.int .i64 0, Value.slice none 0 0]).length = n * 2 + 2 := by rw [List.length_append, flatD_len, HN.out]; rfl
    have e0 : w7.cell? ⟨g, n * 2, none⟩ = some (.int .i64 0) := (World.ownsRow.cellAt p1 (n * 2) (by omega)).trans (by rw [List.getElem?_append_right (by rw [flatD_len, HN.out]; exact Nat.le_refl _), flatD_len, HN.out, Nat.sub_self]; rfl)
    have e1 : w7.cell? ⟨g, n * 2 + 1, none⟩ = some (.slice none 0 0) := (World.ownsRow.cellAt p1 (n * 2 + 1) (by omega)).trans (by rw [List.getElem?_append_right (by rw [flatD_len, HN.out]; omega), flatD_len, HN.out, Nat.add_sub_cancel_left]; rfl)
    have x7 := hb7.cell (i := 0) rfl
    have hgo1 : ¬ g = w.heap.size + 1 + 1 + 1 + 1 := hgo
    have hgo2 : ¬ w.heap.size + 1 + 1 + 1 + 1 = g := Ne.symm hgo
    clear p1 p2 p3 hgS hgo hb7 hl7
    have f0 := World.ownsRow.frozenAt HP.out.1 (n * 2)
    have f1 := World.ownsRow.frozenAt HP.out.1 (n * 2 + 1)
    have f2 := HB7.out.fz 0
    have hnn : (n : Int) < (n : Int) + 1 := by omega
    (refine wpS_h rfl rfl (fun K hK => ?_); go_simp; refine hK _ _ ?_; clear hK K)
    refine wpG_two' rfl rfl (fun K hK => ?_) (fun K hK => ?_)
    ·
     go_simp
     refine hK _ _ (.inr (((FutS.refl _).setCell (a := ⟨g, n * 2, none⟩) (.inl HGS.out) _).setCell (a := ⟨g, n * 2 + 1, none⟩) (.inl HGS.out) _)) ?_
     clear hK K
     refine wpG_o rfl rfl (fun K hK => ?_)
     go_simp
     refine hK _ _ (.inr ((FutS.refl _).setCell (a := ⟨w.heap.size + 1 + 1 + 1 + 1, 0, none⟩) (.inl HS2.out) _)) ?_
     clear hK K
     refine wpG_nil ?_
     clear e0 e1 f0 f1 f2 hnn hgo1 hgo2 x7
     have HB9 := Lib.hid (show Blk (((w7.setCell ⟨g, n * 2, none⟩ (.int .i64 d.e)).setCell ⟨g, n * 2 + 1, none⟩ (.slice d.A d.k.length d.c)).setCell ⟨w.heap.size + 1 + 1 + 1 + 1, 0, none⟩ (.slice (some ⟨g, 0, none⟩) (n + 1) cap)) (w.heap.size + 1 + 1 + 1 + 1) 28 #[(.slice (some ⟨g, 0, none⟩) (n + 1) cap)] from ((HB7.out.setOther (a := ⟨g, n * 2, none⟩) (Ne.symm HGO.out) (.int .i64 d.e)).setOther (a := ⟨g, n * 2 + 1, none⟩) (Ne.symm HGO.out) (.slice d.A d.k.length d.c)).set 0 (.slice (some ⟨g, 0, none⟩) (n + 1) cap))
     have HOW9 := Lib.hid (show World.ownsRow (((w7.setCell ⟨g, n * 2, none⟩ (.int .i64 d.e)).setCell ⟨g, n * 2 + 1, none⟩ (.slice d.A d.k.length d.c)).setCell ⟨w.heap.size + 1 + 1 + 1 + 1, 0, none⟩ (.slice (some ⟨g, 0, none⟩) (n + 1) cap)) w1.heap.size 35 2 (.slice (some ⟨g, 0, none⟩) (n + 1) cap) (n + 1) (((ks.flatMap encD ++ [Value.int .i64 0, Value.slice none 0 0]).set (n * 2) (.int .i64 d.e)).set (n * 2 + 1) (.slice d.A d.k.length d.c)) from World.ownsRow.kept (World.ownsRow.stored (World.ownsRow.stored HP.out.1 (n * 2) (.int .i64 d.e)).1 (n * 2 + 1) (.slice d.A d.k.length d.c)).1 (grown_set _ ⟨w.heap.size + 1 + 1 + 1 + 1, 0, none⟩ (.slice (some ⟨g, 0, none⟩) (n + 1) cap)) (.inr (by simp only [Value.ownBlock]; intro e; exact HGO.out (Option.some.inj e))))
     have HFS9 := Lib.hid (show FutS S w2 (((w7.setCell ⟨g, n * 2, none⟩ (.int .i64 d.e)).setCell ⟨g, n * 2 + 1, none⟩ (.slice d.A d.k.length d.c)).setCell ⟨w.heap.size + 1 + 1 + 1 + 1, 0, none⟩ (.slice (some ⟨g, 0, none⟩) (n + 1) cap)) from ((((FutS.of HF6.out).grown HP.out.2.1 (fun q hq => .inl (HS1.out q hq))).setCell (a := ⟨g, n * 2, none⟩) (.inl HGS.out) (.int .i64 d.e)).setCell (a := ⟨g, n * 2 + 1, none⟩) (.inl HGS.out) (.slice d.A d.k.length d.c)).setCell (a := ⟨w.heap.size + 1 + 1 + 1 + 1, 0, none⟩) (.inl HS2.out) (.slice (some ⟨g, 0, none⟩) (n + 1) cap))
     generalize (((w7.setCell ⟨g, n * 2, none⟩ (.int .i64 d.e)).setCell ⟨g, n * 2 + 1, none⟩ (.slice d.A d.k.length d.c)).setCell ⟨w.heap.size + 1 + 1 + 1 + 1, 0, none⟩ (.slice (some ⟨g, 0, none⟩) (n + 1) cap)) = w9 at *
     have hend : ∀ R' : Nat → Prop, R' (n + 1) → ∃ C', (∀ q, C' q = true → C1 q = true ∨ W.heap.size ≤ q) ∧ FutS (fun q => C1 q || decide (W.heap.size ≤ q)) w2 w9 ∧ OG R' (w.heap.size + 1 + 1 + 1 + 1) (w.heap.size + 1) w1.heap.size k (ks ++ [d]) C' F w9 := by
      intro R' hR'
      have hb9 := HB9.out
      have how9 := HOW9.out
      have hb1' := HB1.out
      have hg : (Value.slice KA n Kc).ownBlock = some g ∨ W.heap.size ≤ g := HP.out.2.2.imp id (fun e => by rw [e]; exact Nat.le_trans (Nat.le_of_lt HD2.out.2) HF6.out.size)
      have hfs := HFS9.out
      rw [HSE.out] at hfs
      have hn := HN.out
      rw [set_two (by rw [flatD_len, hn])] at how9
      subst hn
      exact OG.push (R' := R') HO2.out HD2.out.1 HFC.out (Nat.le_of_lt HD2.out.2) hb1' hb9 how9 hfs hg hR' (by omega)
     have HEN := Lib.hid hend
     have z0 := HB9.out.cell (i := 0) rfl
     have z1 : w9.cell? ⟨w.heap.size + 1, 0, none⟩ = some (.int .i64 k) := by
      obtain ⟨C', _, _, _, _, _, _, _, h5, _⟩ := hend (fun _ => True) trivial
      exact h5.cell (i := 0) rfl
     have hnk : (n : Int) < k := by
      obtain ⟨_, _, _, _, h4, _⟩ := HO2.out
      have := HN.out
      have h5 : (ks.length : Int) < k := h4
      omega
     clear hend
     by_cases hq : k ≤ ((n : Int) + 1)
     ·
      have HQ := Lib.hid hq
      gi_wp2_with fail
      obtain ⟨C', g1, g2, g3⟩ := HEN.out (fun m => (m : Int) = k) (by have := HQ.out; omega)
      exact ⟨C', g1, g2, rfl, g3⟩
     ·
      have HQ := Lib.hid hq
      gi_wp2_with fail
      obtain ⟨C', g1, g2, g3⟩ := HEN.out (fun m => (m : Int) < k) (by have := HQ.out; omega)
      exact ⟨C', g1, g2, g3⟩
    ·
     go_simp
     refine hK _ _ (.inr ((FutS.refl _).setCell (a := ⟨w.heap.size + 1 + 1 + 1 + 1, 0, none⟩) (.inl HS2.out) _)) ?_
     clear hK K
     refine wpG_o rfl rfl (fun K hK => ?_)
     go_simp
     refine hK _ _ (.inr (((FutS.refl _).setCell (a := ⟨g, n * 2, none⟩) (.inl HGS.out) _).setCell (a := ⟨g, n * 2 + 1, none⟩) (.inl HGS.out) _)) ?_
     clear hK K
     refine wpG_nil ?_
     clear e0 e1 f0 f1 f2 hnn hgo1 hgo2 x7
     have HB9 := Lib.hid (show Blk (((w7.setCell ⟨w.heap.size + 1 + 1 + 1 + 1, 0, none⟩ (.slice (some ⟨g, 0, none⟩) (n + 1) cap)).setCell ⟨g, n * 2, none⟩ (.int .i64 d.e)).setCell ⟨g, n * 2 + 1, none⟩ (.slice d.A d.k.length d.c)) (w.heap.size + 1 + 1 + 1 + 1) 28 #[(.slice (some ⟨g, 0, none⟩) (n + 1) cap)] from ((HB7.out.set 0 (.slice (some ⟨g, 0, none⟩) (n + 1) cap)).setOther (a := ⟨g, n * 2, none⟩) (Ne.symm HGO.out) (.int .i64 d.e)).setOther (a := ⟨g, n * 2 + 1, none⟩) (Ne.symm HGO.out) (.slice d.A d.k.length d.c))
     have HOW9 := Lib.hid (show World.ownsRow (((w7.setCell ⟨w.heap.size + 1 + 1 + 1 + 1, 0, none⟩ (.slice (some ⟨g, 0, none⟩) (n + 1) cap)).setCell ⟨g, n * 2, none⟩ (.int .i64 d.e)).setCell ⟨g, n * 2 + 1, none⟩ (.slice d.A d.k.length d.c)) w1.heap.size 35 2 (.slice (some ⟨g, 0, none⟩) (n + 1) cap) (n + 1) (((ks.flatMap encD ++ [Value.int .i64 0, Value.slice none 0 0]).set (n * 2) (.int .i64 d.e)).set (n * 2 + 1) (.slice d.A d.k.length d.c)) from (World.ownsRow.stored (World.ownsRow.stored (World.ownsRow.kept HP.out.1 (grown_set _ ⟨w.heap.size + 1 + 1 + 1 + 1, 0, none⟩ (.slice (some ⟨g, 0, none⟩) (n + 1) cap)) (.inr (by simp only [Value.ownBlock]; intro e; exact HGO.out (Option.some.inj e)))) (n * 2) (.int .i64 d.e)).1 (n * 2 + 1) (.slice d.A d.k.length d.c)).1)
     have HFS9 := Lib.hid (show FutS S w2 (((w7.setCell ⟨w.heap.size + 1 + 1 + 1 + 1, 0, none⟩ (.slice (some ⟨g, 0, none⟩) (n + 1) cap)).setCell ⟨g, n * 2, none⟩ (.int .i64 d.e)).setCell ⟨g, n * 2 + 1, none⟩ (.slice d.A d.k.length d.c)) from ((((FutS.of HF6.out).grown HP.out.2.1 (fun q hq => .inl (HS1.out q hq))).setCell (a := ⟨w.heap.size + 1 + 1 + 1 + 1, 0, none⟩) (.inl HS2.out) (.slice (some ⟨g, 0, none⟩) (n + 1) cap)).setCell (a := ⟨g, n * 2, none⟩) (.inl HGS.out) (.int .i64 d.e)).setCell (a := ⟨g, n * 2 + 1, none⟩) (.inl HGS.out) (.slice d.A d.k.length d.c))
     generalize (((w7.setCell ⟨w.heap.size + 1 + 1 + 1 + 1, 0, none⟩ (.slice (some ⟨g, 0, none⟩) (n + 1) cap)).setCell ⟨g, n * 2, none⟩ (.int .i64 d.e)).setCell ⟨g, n * 2 + 1, none⟩ (.slice d.A d.k.length d.c)) = w9 at *
     have hend : ∀ R' : Nat → Prop, R' (n + 1) → ∃ C', (∀ q, C' q = true → C1 q = true ∨ W.heap.size ≤ q) ∧ FutS (fun q => C1 q || decide (W.heap.size ≤ q)) w2 w9 ∧ OG R' (w.heap.size + 1 + 1 + 1 + 1) (w.heap.size + 1) w1.heap.size k (ks ++ [d]) C' F w9 := by
      intro R' hR'
      have hb9 := HB9.out
      have how9 := HOW9.out
      have hb1' := HB1.out
      have hg : (Value.slice KA n Kc).ownBlock = some g ∨ W.heap.size ≤ g := HP.out.2.2.imp id (fun e => by rw [e]; exact Nat.le_trans (Nat.le_of_lt HD2.out.2) HF6.out.size)
      have hfs := HFS9.out
      rw [HSE.out] at hfs
      have hn := HN.out
      rw [set_two (by rw [flatD_len, hn])] at how9
      subst hn
      exact OG.push (R' := R') HO2.out HD2.out.1 HFC.out (Nat.le_of_lt HD2.out.2) hb1' hb9 how9 hfs hg hR' (by omega)
     have HEN := Lib.hid hend
     have z0 := HB9.out.cell (i := 0) rfl
     have z1 : w9.cell? ⟨w.heap.size + 1, 0, none⟩ = some (.int .i64 k) := by
      obtain ⟨C', _, _, _, _, _, _, _, h5, _⟩ := hend (fun _ => True) trivial
      exact h5.cell (i := 0) rfl
     have hnk : (n : Int) < k := by
      obtain ⟨_, _, _, _, h4, _⟩ := HO2.out
      have := HN.out
      have h5 : (ks.length : Int) < k := h4
      omega
     clear hend
     by_cases hq : k ≤ ((n : Int) + 1)
     ·
      have HQ := Lib.hid hq
      gi_wp2_with fail
      obtain ⟨C', g1, g2, g3⟩ := HEN.out (fun m => (m : Int) = k) (by have := HQ.out; omega)
      exact ⟨C', g1, g2, rfl, g3⟩
     ·
      have HQ := Lib.hid hq
      gi_wp2_with fail
      obtain ⟨C', g1, g2, g3⟩ := HEN.out (fun m => (m : Int) < k) (by have := HQ.out; omega)
      exact ⟨C', g1, g2, g3⟩
  ·
   intro D ks C1 F W hO hpre hfull hff hD hDD hC1D hFD
   obtain ⟨v, g1, g2, g3, g4, g5, g6, g7⟩ := hO
   obtain ⟨oA, oc, rfl⟩ := own_formK g2
   have q0 := g1.cell (i := 0) rfl
   have hw4 := (OG.cj (fun m => (m : Int) < k) (w.heap.size + 1 + 1 + 1 + 1) (w.heap.size + 1) w1.heap.size k).keep ks C1 F F W (W.putObj D (.deferred none)) ⟨_, g1, g2, g3, g4, g5, g6, g7⟩ (by simp) (fun q hq => World.putObj_heap_other (fun e => by rw [e, hC1D] at hq; cases hq)) (fun q hq => World.putObj_heap_other (fun e => by rw [e, hFD] at hq; cases hq)) (fun _ h => h)
   have hfW : Fut w (W.putObj D (.deferred none)) := FutS.fut (fut_put _) (FutS.fut hff hf (fun q hq => by have := (hCi q).1 hq; omega)) (fun q hq => by rw [eq_of_beq hq]; omega)
   have h9 := ownF_keep (w' := W.putObj D (.deferred none)) g2 (fun q hq => World.putObj_heap_other (fun e => by have h8 := (g6 q).2 (.inr (.inr hq)); rw [e, hC1D] at h8; cases h8))
   have HW := Lib.hid (And.intro hw4 hfW)
   have H9 := Lib.hid h9
   have HPF := Lib.hid (And.intro hpre hfull)
   have HG2 := Lib.hid (And.intro g2 (And.intro g3 g4))
   have HDD := Lib.hid hDD
   have HCD := Lib.hid (And.intro hC1D hFD)
   clear hpre hfull hff hD hC1D hFD hf hsz hb1 hb2 hb3 hb4 hF0i hCi g1 g2 g3 g4 g5 g6 g7 hw4 hfW hDD h9
   gi_wp2_with fail
   refine ⟨by simp, .inl ⟨_, _, rfl, run_takeDeferred HDD.out, ?_⟩⟩
   refine ⟨_, results_tmp2 rfl _ _ _, ⟨oA, oc, ks, rfl, ?_, ?_, HPF.out.1, fun h => (by exfalso; omega), fun _ => ⟨by have := HG2.out.2.2; omega, .inr HPF.out.2⟩, own_cap H9.out⟩, HW.out.2⟩
   ·
    exact RdS.of_own (fun _ => rfl) (by decide) H9.out
   ·
    obtain ⟨v, _, _, h3, _⟩ := HW.out.1
    exact fun d hd => (h3 d hd).rd
  ·
   rintro D j ks C1 F W ⟨rfl, hO⟩ hpre hff hD hDD hC1D hFD
   obtain ⟨v, g1, g2, g3, g4, g5, g6, g7⟩ := hO
   obtain ⟨oA, oc, rfl⟩ := own_formK g2
   have q0 := g1.cell (i := 0) rfl
   have hw4 := (OG.cj (fun m => (m : Int) = k) (w.heap.size + 1 + 1 + 1 + 1) (w.heap.size + 1) w1.heap.size k).keep ks C1 F F W (W.putObj D (.deferred none)) ⟨_, g1, g2, g3, g4, g5, g6, g7⟩ (by simp) (fun q hq => World.putObj_heap_other (fun e => by rw [e, hC1D] at hq; cases hq)) (fun q hq => World.putObj_heap_other (fun e => by rw [e, hFD] at hq; cases hq)) (fun _ h => h)
   have hfW : Fut w (W.putObj D (.deferred none)) := FutS.fut (fut_put _) (FutS.fut hff hf (fun q hq => by have := (hCi q).1 hq; omega)) (fun q hq => by rw [eq_of_beq hq]; omega)
   have h9 := ownF_keep (w' := W.putObj D (.deferred none)) g2 (fun q hq => World.putObj_heap_other (fun e => by have h8 := (g6 q).2 (.inr (.inr hq)); rw [e, hC1D] at h8; cases h8))
   have HW := Lib.hid (And.intro hw4 hfW)
   have H9 := Lib.hid h9
   have HPF := Lib.hid hpre
   have HG2 := Lib.hid (And.intro g2 (And.intro g3 g4))
   have HDD := Lib.hid hDD
   have HCD := Lib.hid (And.intro hC1D hFD)
   clear hpre hff hD hC1D hFD hf hsz hb1 hb2 hb3 hb4 hF0i hCi g1 g2 g3 g4 g5 g6 g7 hw4 hfW hDD h9
   gi_wp2_with fail
   refine ⟨by simp, .inl ⟨_, _, rfl, run_takeDeferred HDD.out, ?_⟩⟩
   refine ⟨_, results_tmp2 rfl _ _ _, ⟨oA, oc, ks, rfl, ?_, ?_, HPF.out, fun h => (by exfalso; omega), fun _ => ⟨by have := HG2.out.2.2; omega, .inl HG2.out.2.2⟩, own_cap H9.out⟩, HW.out.2⟩
   ·
    exact RdS.of_own (fun _ => rfl) (by decide) H9.out
   ·
    obtain ⟨v, _, _, h3, _⟩ := HW.out.1
    exact fun d hd => (h3 d hd).rd
end Go.Proofs.YtajbmdjlfniofaaDoor
