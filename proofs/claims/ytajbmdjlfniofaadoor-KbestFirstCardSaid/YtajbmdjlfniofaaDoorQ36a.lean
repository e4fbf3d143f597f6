/-
  The reference's First: its loops in plain mathematics.
-/
import Derived.Test.YtajbmdjlfniofaaDoorQ35
import Derived.Test.YtajbmdjlfniofaaDoorBD
namespace Go.Proofs.YtajbmdjlfniofaaDoor
open Go.RowKit Go.Deep PK
attribute [local go_sem] Oper.lit Oper.litS fut_fut fut_drew World.cell?_alloc_some
theorem info_ds : (Tryd.prog.info? 28).map (fun i => (i.zero, i.size, i.bytes)) = some (some (.slice none 0 0), 1, 24) := by kernel_rfl
theorem EEs_tails {N : Nat} {es : List EI} (h : validB N es = true) : ∀ e ∈ EEs es, ∀ t ∈ e.t, t < N := by
 intro e he t ht
 obtain ⟨x, hx, rfl⟩ := List.mem_map.1 he
 simp only [toEE] at ht
 obtain ⟨y, hy, rfl⟩ := List.mem_map.1 ht
 have := (okE_parts ((validB_parts h).2.2 x hx)).2.2.2.2 y hy
 omega
theorem fld_v (x y : Int) (w : World) : (Instr.field 37 (vv ⟨x, y⟩) 0).run Tryd.prog w = .ok (.int .i64 x) w := by kernel_rfl
theorem EEs_heads {N : Nat} {es : List EI} (h : validB N es = true) : ∀ e ∈ EEs es, e.h < N := by
 intro e he
 obtain ⟨x, hx, rfl⟩ := List.mem_map.1 he
 have := okE_parts ((validB_parts h).2.2 x hx)
 simp only [toEE]
 omega
theorem rdP_row {ok : Nat → Prop} {w : World} {D : DI} (h : RdP ok w D) : RdS w D.A 2 encD D.k ∧ ∀ x ∈ D.k, RdP ok w x := by
 obtain ⟨e, A, c, k⟩ := D
 obtain ⟨h1, _, _, h4⟩ := h.parts
 exact ⟨h1, h4⟩
theorem rdP_ok {ok : Nat → Prop} {w : World} {D : DI} (h : RdP ok w D) {b o : Nat} (hA : D.A = some ⟨b, o, none⟩) (hne : D.k ≠ []) : ok b := by
 obtain ⟨e, A, c, k⟩ := D
 obtain ⟨_, _, h3, _⟩ := h.parts
 exact h3 b o hA hne
/-- the choice, as it lies in its row -/
def chF (ch : List Nat) (i : Nat) : Int := ((ch[i]?.getD 0 : Nat) : Int)
def Q1 (cb T k : Nat) (w : World) (m : Nat) : Prop := ∃ ch : List Nat, RowI w cb T (chF ch) ∧ ch.length = T ∧ m = k ^ T - cval k ch.reverse
theorem chF_inj {w : World} {cb T : Nat} {a b : List Nat} (h : RowI w cb T (chF a)) (g : RowI w cb T (chF b)) (ha : a.length = T) (hb : b.length = T) : a = b := by
 apply List.ext_getElem (by omega)
 intro i h1 h2
 have h3 := World.rowIs.cell h (i := i) (by omega)
 have h4 := World.rowIs.cell g (i := i) (by omega)
 rw [h3] at h4
 simp only [chF, List.getElem?_eq_getElem h1, List.getElem?_eq_getElem h2, Option.getD_some, Option.some.injEq, Value.int.injEq, true_and] at h4
 omega
theorem Q1_min {w : World} {cb T k : Nat} {ch : List Nat} (h : RowI w cb T (chF ch)) (hl : ch.length = T) : minN (Q1 cb T k w) = k ^ T - cval k ch.reverse := by
 obtain ⟨ch', h1, h2, h3⟩ : Q1 cb T k w (minN (Q1 cb T k w)) := minN_mem (m := k ^ T - cval k ch.reverse) ⟨ch, h, hl, rfl⟩
 rw [h3, chF_inj h1 h h2 hl]
/-- the kids chosen so far -/
def KidI (x : EI) (Ls : Nat → DI) (ch : List Nat) (i : Nat) (ks : List DI) : Prop := ks.length = i ∧ ∀ (q : Nat) (t : Int) (p : Nat) (y : DI), q < i → x.t[q]? = some t → ch[q]? = some p → ks[q]? = some y → (Ls t.toNat).k[p]? = some y
/-- there is no such kid -/
def KidNo (x : EI) (Ls : Nat → DI) (ch : List Nat) : Prop := ∃ (q : Nat) (t : Int) (p : Nat), x.t[q]? = some t ∧ ch[q]? = some p ∧ (Ls t.toNat).k.length ≤ p
/-- what a pass starts from -/
def P0 (w0 : World) (N : Nat) (A : Option Addr) (n c : Nat) (es : List EI) (k : Nat) (wr : World) (Ls : Nat → DI) : Prop := FM w0 N A n c (fun b => b ≠ w0.heap.size + 1) wr Ls ∧ ∀ v, v < N → SF (EEs es) v (Lp Ls v) ∧ (Lp Ls v).length ≤ k
def Q0 (w0 : World) (N : Nat) (A : Option Addr) (n c : Nat) (es : List EI) (k : Nat) (K : Nat → List DT) (wr : World) (m : Nat) : Prop := ∃ Ls, P0 w0 N A n c es k wr Ls ∧ mu N K (Lp Ls) = m
theorem lp_len (Ls : Nat → DI) (v : Nat) : (Lp Ls v).length = (Ls v).k.length := by unfold Lp; rw [List.length_map]
theorem lp_get {Ls : Nat → DI} {v p : Nat} {y : DI} (h : (Ls v).k[p]? = some y) : (Lp Ls v)[p]? = some (toDT y) := by unfold Lp; rw [List.getElem?_map, h]; rfl
theorem tails_len (x : EI) : (toEE x).t.length = x.t.length := by simp only [toEE, List.length_map]
theorem tails_get {x : EI} {q : Nat} {t : Int} (h : x.t[q]? = some t) : (toEE x).t[q]? = some t.toNat := by simp only [toEE, List.getElem?_map, h]; rfl
theorem kid_no {x : EI} {Ls : Nat → DI} {ch : List Nat} {kids : List DT} (h : KidNo x Ls ch) (hk : kids.length = x.t.length) (ha : AtP (Lp Ls) (toEE x) kids ch) : False := by
 obtain ⟨q, t, p, h1, h2, h3⟩ := h
 have hq := (List.getElem?_eq_some_iff.1 h1).1
 have h4 := ha.2 q t.toNat p _ (tails_get h1) (List.getElem?_eq_getElem (show q < kids.length by omega)) h2
 have h5 := (List.getElem?_eq_some_iff.1 h4).1
 rw [lp_len] at h5
 omega
theorem kid_eq {x : EI} {Ls : Nat → DI} {ch : List Nat} {kids : List DT} {ks : List DI} (h : KidI x Ls ch x.t.length ks) (hc : ch.length = x.t.length) (hk : kids.length = x.t.length) (ha : AtP (Lp Ls) (toEE x) kids ch) : kids = ks.map toDT := by
 apply List.ext_getElem?
 intro q
 by_cases hq : q < x.t.length
 ·
  have h1 : x.t[q]? = some x.t[q] := List.getElem?_eq_getElem hq
  have h2 : ch[q]? = some (ch[q]'(by omega)) := List.getElem?_eq_getElem _
  have h3 : ks[q]? = some (ks[q]'(by have := h.1; omega)) := List.getElem?_eq_getElem _
  have h4 : kids[q]? = some (kids[q]'(by omega)) := List.getElem?_eq_getElem _
  have h5 := lp_get (h.2 q _ _ _ hq h1 h2 h3)
  have h6 := ha.2 q _ _ _ (tails_get h1) h4 h2
  rw [h6] at h5
  rw [h4, List.getElem?_map, h3, Option.some.inj h5]; rfl
 ·
  rw [List.getElem?_eq_none (by omega), List.getElem?_eq_none (by rw [List.length_map]; have := h.1; omega)]
theorem kid_valid {es : List EI} {N : Nat} {x : EI} {Ls : Nat → DI} {ch : List Nat} {ks : List DI} {j : Nat} {KA : Option Addr} {KC : Nat} (hx : es[j]? = some x) (hh : 0 ≤ x.h) (ht : ∀ t ∈ x.t, 0 ≤ t ∧ t < (N : Int)) (hc : ch.length = x.t.length) (hg : ∀ v, v < N → ∀ d ∈ Lp Ls v, FinD (EEs es) v d) (h : KidI x Ls ch x.t.length ks) : PK.validD (EEs es) (toDT (.node (j : Int) KA KC ks)) x.h = true := by
 rw [toDT_eq]
 refine (validD_iff _ _ _ _).2 ⟨toEE x, edge_at hx, by simp only [toEE]; omega, by rw [tails_len, List.length_map]; exact h.1.symm, fun q d t hd htq => ?_⟩
 rw [List.getElem?_map] at hd
 obtain ⟨y, hy, rfl⟩ := Option.map_eq_some_iff.1 hd
 simp only [toEE, List.getElem?_map] at htq
 obtain ⟨t', ht', rfl⟩ := Option.map_eq_some_iff.1 htq
 have hq := (List.getElem?_eq_some_iff.1 ht').1
 have h2 : ch[q]? = some (ch[q]'(by omega)) := List.getElem?_eq_getElem _
 have h3 := h.2 q t' _ y hq ht' h2 hy
 have h4 := ht t' (List.mem_of_getElem? ht')
 exact (hg t'.toNat (by omega) (toDT y) (List.mem_of_getElem? (lp_get h3))).1
/-! ### the next choice -/
/-- the places from q on are counted through -/
def IncI (ch ln : List Nat) (T q : Nat) (b : Bool) (cc : List Nat) : Prop :=
 (b = true → cc = ch.take q ++ List.replicate (T - q) 0 ∧ nxt ch.reverse ln.reverse = (List.replicate (T - q) 0 ++ (nxt (ch.take q).reverse (ln.take q).reverse).1, (nxt (ch.take q).reverse (ln.take q).reverse).2)) ∧
 (b = false → nxt ch.reverse ln.reverse = (cc.reverse, false))
theorem inc_start {ch ln : List Nat} {T : Nat} (hc : ch.length = T) (hl : ln.length = T) : IncI ch ln T T true ch := by
 refine ⟨fun _ => ?_, fun h => by cases h⟩
 rw [List.take_of_length_le (by omega), List.take_of_length_le (by omega), Nat.sub_self]
 simp
theorem take_rev {l : List Nat} {q a : Nat} (h : l[q]? = some a) : (l.take (q + 1)).reverse = a :: (l.take q).reverse := by
 rw [List.take_add_one, h]
 simp
theorem set_take {ch : List Nat} {T q v : Nat} (hc : ch.length = T) (hq : q < T) : (ch.take (q + 1) ++ List.replicate (T - (q + 1)) 0).set q v = ch.take q ++ v :: List.replicate (T - (q + 1)) 0 := by
 apply List.ext_getElem?
 intro i
 have hl1 : (ch.take (q + 1)).length = q + 1 := by rw [List.length_take]; omega
 have hl2 : (ch.take q).length = q := by rw [List.length_take]; omega
 rw [List.getElem?_set]
 by_cases e : q = i
 ·
  subst e
  rw [if_pos rfl, if_pos (by rw [List.length_append, hl1]; omega), List.getElem?_append_right (by omega), hl2, Nat.sub_self]; rfl
 ·
  rw [if_neg e]
  rcases Nat.lt_or_ge i q with h | h
  ·
   rw [List.getElem?_append_left (by omega), List.getElem?_append_left (by omega), List.getElem?_take, List.getElem?_take, if_pos (by omega), if_pos h]
  ·
   rw [List.getElem?_append_right (by omega), List.getElem?_append_right (by omega), hl1, hl2]
   obtain ⟨d, rfl⟩ : ∃ d, i = q + 1 + d := ⟨i - (q + 1), by omega⟩
   rw [show q + 1 + d - (q + 1) = d from by omega, show q + 1 + d - q = d + 1 from by omega, List.getElem?_cons_succ]
theorem inc_stop {ch ln cc : List Nat} {T q p m : Nat} (hc : ch.length = T) (h : IncI ch ln T (q + 1) true cc) (hq : q < T) (hp : ch[q]? = some p) (hm : ln[q]? = some m) (hlt : p + 1 < m) : IncI ch ln T q false (cc.set q (p + 1)) := by
 obtain ⟨h1, h2⟩ := h.1 rfl
 refine ⟨fun h => (by cases h), fun _ => ?_⟩
 rw [h2, take_rev hp, take_rev hm, nxt, if_pos hlt, h1, set_take hc hq]
 simp
theorem inc_go {ch ln cc : List Nat} {T q p m : Nat} (hc : ch.length = T) (h : IncI ch ln T (q + 1) true cc) (hq : q < T) (hp : ch[q]? = some p) (hm : ln[q]? = some m) (hlt : ¬ p + 1 < m) : IncI ch ln T q true (cc.set q 0) := by
 obtain ⟨h1, h2⟩ := h.1 rfl
 refine ⟨fun _ => ⟨?_, ?_⟩, fun h => (by cases h)⟩
 ·
  rw [h1, set_take hc hq, show T - q = T - (q + 1) + 1 from by omega, List.replicate_succ]
 ·
  rw [h2, take_rev hp, take_rev hm, nxt, if_neg hlt, show T - q = T - (q + 1) + 1 from by omega, List.replicate_succ']
  simp
theorem inc_cc {ch ln cc : List Nat} {T q p : Nat} (h : IncI ch ln T (q + 1) true cc) (hp : ch[q]? = some p) : cc[q]? = some p := by
 rw [(h.1 rfl).1, List.getElem?_append_left (by rw [List.length_take]; have := (List.getElem?_eq_some_iff.1 hp).1; omega), List.getElem?_take, if_pos (by omega)]
 exact hp
theorem inc_end {ch ln cc : List Nat} {T q : Nat} {b : Bool} (h : IncI ch ln T q b cc) (he : q = 0 ∨ b = false) : nxt ch.reverse ln.reverse = (cc.reverse, b) := by
 cases b with
 | false => exact h.2 rfl
 | true =>
  rcases he with rfl | he
  ·
   obtain ⟨h1, h2⟩ := h.1 rfl
   rw [h2, h1]
   simp [nxt]
  ·
   cases he
theorem chF_set {cc : List Nat} {q v i : Nat} (hq : q < cc.length) : upd (chF cc) q (v : Int) i = chF (cc.set q v) i := by
 unfold upd chF
 rw [List.getElem?_set]
 by_cases e : i = q
 ·
  subst e
  simp [hq]
 ·
  have e' : ¬ q = i := fun h => e h.symm
  simp [e, e']
/-- the lengths of the tails' lists -/
def lnL (x : EI) (Ls : Nat → DI) : List Nat := x.t.map (fun t => (Ls t.toNat).k.length)
theorem lnL_eq (x : EI) (Ls : Nat → DI) : (toEE x).t.map (fun t => (Lp Ls t).length) = lnL x Ls := by
 unfold lnL
 simp only [toEE, List.map_map]
 exact List.map_congr_left (fun t _ => by simp only [Function.comp, lp_len])
theorem lnL_get {x : EI} {Ls : Nat → DI} {q : Nat} {t : Int} (h : x.t[q]? = some t) : (lnL x Ls)[q]? = some (Ls t.toNat).k.length := by unfold lnL; rw [List.getElem?_map, h]; rfl
/-- the end of a round over the choices -/
theorem inc_round {es : List EI} {N k j T : Nat} {K : Nat → List DT} (hK : ∀ v, v < N → FinL (EEs es) v k (K v)) {Ls0 Lz : Nat → DI} {x : EI} (hE : (EEs es)[j]? = some (toEE x)) (hN : (toEE x).h < N) {ch cc : List Nat} {b : Bool} (hT : x.t.length = T) (hc : ch.length = T) (hd : ∀ a ∈ ch, a < k) (hk : 1 ≤ k) (hl : ∀ v, v < N → (Lp Lz v).length ≤ k) (htN : ∀ t ∈ (toEE x).t, t < N)
  (hA : AheadS k K (Lp Ls0) (Lp Lz) j (toEE x) ch) (he : nxt ch.reverse (lnL x Lz).reverse = (cc.reverse, b)) :
  (b = true → Done K (Lp Ls0) (Lp Lz) j (toEE x)) ∧ (b = false → Ahead k K (Lp Ls0) (Lp Lz) j (toEE x) cc ∧ cval k ch.reverse < cval k cc.reverse ∧ cval k ch.reverse < k ^ T) ∧ ∀ a ∈ cc, a < k := by
 have h1 := ahead_next hK hE hN (c := ch) (by rw [tails_len]; omega) hd (fun t ht => hl t (htN t ht)) hA
 rw [lnL_eq, he] at h1
 simp only [List.reverse_reverse] at h1
 have hln : ∀ n ∈ (lnL x Lz).reverse, n ≤ k := fun n hn => by
  rw [← lnL_eq] at hn
  obtain ⟨t, ht, rfl⟩ := List.mem_map.1 (List.mem_reverse.1 hn)
  exact hl t (htN t ht)
 refine ⟨h1.1, fun hb => ⟨h1.2, ?_, ?_⟩, fun a ha => ?_⟩
 ·
  have h2 := nxt_lt k ch.reverse (lnL x Lz).reverse (fun a ha => hd a (List.mem_reverse.1 ha)) (by rw [he]; exact hb)
  rw [he] at h2
  exact h2
 ·
  have h2 := cval_lt k ch.reverse (fun a ha => hd a (List.mem_reverse.1 ha))
  rw [List.length_reverse, hc] at h2
  exact h2
 ·
  have h2 := nxt_dig k (by omega) ch.reverse (lnL x Lz).reverse (fun a ha => hd a (List.mem_reverse.1 ha)) hln
  rw [he] at h2
  exact h2 a (List.mem_reverse.2 ha)
theorem meas_lt {M a b : Nat} (h1 : a < b) (h2 : a < M) : (1 - 0) * (1 + (M - b)) < (1 - 0) * (1 + (M - a)) := by omega
theorem meas_lt0 {a b : Nat} : (1 - 1) * a < (1 - 0) * (1 + b) := by omega
end Go.Proofs.YtajbmdjlfniofaaDoor
