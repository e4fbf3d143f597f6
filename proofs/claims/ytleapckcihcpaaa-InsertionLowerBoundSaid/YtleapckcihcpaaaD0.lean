/-
  Derivations: how a tree lies in memory; its validity and value, opened.
-/
import Derived.Test.YtleapckcihcpaaaKyp
import Derived.Test.YtleapckcihcpaaaPfol
namespace Go.Proofs.Ytleapckcihcpaaa
open Go.RowKit
/-- a tree, and where the kids of each node lie -/
inductive DI where
  | node (e : Int) (A : Option Addr) (c : Nat) (k : List DI)
def DI.e : DI → Int
  | .node e _ _ _ => e
def DI.A : DI → Option Addr
  | .node _ A _ _ => A
def DI.c : DI → Nat
  | .node _ _ c _ => c
def DI.k : DI → List DI
  | .node _ _ _ k => k
theorem DI.ind {P : DI → Prop} (h : ∀ e A c k, (∀ d ∈ k, P d) → P (.node e A c k)) : ∀ d, P d
  | .node e A c k => h e A c k (fun d _hd => DI.ind h d)
termination_by d => SizeOf.sizeOf d
decreasing_by
  have := List.sizeOf_lt_of_mem _hd
  simp
  omega
def encD (d : DI) : List Value := [.int .i64 d.e, .slice d.A d.k.length d.c]
abbrev dv (d : DI) : Value := .agg #[.int .i64 d.e, .slice d.A d.k.length d.c]
mutual
def toDT : DI → PK.DT
  | .node e _ _ k => .node e (toDTs k)
def toDTs : List DI → List PK.DT
  | [] => []
  | d :: k => toDT d :: toDTs k
end
theorem toDTs_map : ∀ k, toDTs k = k.map toDT
  | [] => by rw [toDTs]; rfl
  | d :: k => by rw [toDTs, toDTs_map k]; rfl
theorem toDT_eq (e : Int) (A : Option Addr) (c : Nat) (k : List DI) : toDT (.node e A c k) = .node e (k.map toDT) := by rw [toDT, toDTs_map]
/-- the tree lies in memory -/
inductive RdD (w : World) : DI → Prop
  | mk {e : Int} {A : Option Addr} {c : Nat} {k : List DI} (hS : RdS w A 2 encD k) (hl : k.length ≤ maxLen) (hk : ∀ d ∈ k, RdD w d) : RdD w (.node e A c k)
theorem RdD.parts {w : World} {e : Int} {A : Option Addr} {c : Nat} {k : List DI} (h : RdD w (.node e A c k)) : RdS w A 2 encD k ∧ k.length ≤ maxLen ∧ ∀ d ∈ k, RdD w d := by
  cases h with
  | mk hS hl hk => exact ⟨hS, hl, hk⟩
theorem RdD.fut {w w' : World} {d : DI} (h : RdD w d) (hf : Fut w w') : RdD w' d := by
  induction d using DI.ind with
  | h e A c k ih =>
    obtain ⟨h1, h2, h3⟩ := h.parts
    exact .mk (h1.fut hf) h2 (fun x hx => ih x hx (h3 x hx))
theorem cmpF_no {a b : Int} (h : ¬ a = b) : ((a = b) = False) ∧ (a == b) = false ∧ (a != b) = true := by simp [h]
theorem map_take {α β : Type} {f : α → β} {k l : List α} {j : Nat} {x y : α} (h : (k.take j).map f = (l.take j).map f) (hx : k[j]? = some x) (hy : l[j]? = some y) (hxy : f x = f y) : (k.take (j + 1)).map f = (l.take (j + 1)).map f := by
  rw [List.take_add_one, List.take_add_one, hx, hy, List.map_append, List.map_append, h]; simp [hxy]
theorem edge_at {es : List EI} {j : Nat} {x : EI} (hx : es[j]? = some x) : PK.edge (EEs es) (j : Int) = some (toEE x) := by
  unfold PK.edge
  rw [if_pos (by omega), Int.toNat_natCast, List.getElem?_map, hx]; rfl
theorem validD_good {N : Int} {es : List EI} (hvd : validB N es = true) {j : Nat} {x : EI} {r : Int} {k : List DI} (hx : es[j]? = some x) (hl : x.t.length = k.length) : PK.validD (EEs es) (.node (j : Int) (k.map toDT)) r = true ↔ x.h = r ∧ ∀ (i : Nat) d t, k[i]? = some d → x.t[i]? = some t → PK.validD (EEs es) (toDT d) t = true := by
  obtain ⟨h1, _, _, _, h5⟩ := okE_parts ((validB_parts hvd).2.2 x (List.mem_of_getElem? hx))
  rw [PK.validD_iff]
  constructor
  · rintro ⟨E, e1, e2, e3, e4⟩
    rw [edge_at hx] at e1
    obtain rfl := Option.some.inj e1
    refine ⟨by rw [← e2]; unfold toEE; simp only; omega, fun i d t hd ht => ?_⟩
    have := e4 i (toDT d) t.toNat (by rw [List.getElem?_map, hd]; rfl) (by unfold toEE; simp only; rw [List.getElem?_map, ht]; rfl)
    rwa [Int.toNat_of_nonneg (h5 t (List.mem_of_getElem? ht)).1] at this
  · rintro ⟨e1, e2⟩
    refine ⟨toEE x, edge_at hx, by unfold toEE; simp only; omega, by unfold toEE; simp [hl], fun i d t hd ht => ?_⟩
    rw [List.getElem?_map] at hd
    obtain ⟨d', hd', rfl⟩ := Option.map_eq_some_iff.1 hd
    unfold toEE at ht
    simp only [List.getElem?_map] at ht
    obtain ⟨t', ht', rfl⟩ := Option.map_eq_some_iff.1 ht
    rw [Int.toNat_of_nonneg (h5 t' (List.mem_of_getElem? ht')).1]
    exact e2 i d' t' hd' ht'
theorem validD_out {es : List EI} {e r : Int} {k : List PK.DT} (h : e < 0 ∨ (es.length : Int) ≤ e) : PK.validD (EEs es) (.node e k) r = false := by
  cases h9 : PK.validD (EEs es) (.node e k) r with
  | false => rfl
  | true =>
    obtain ⟨E, e1, _⟩ := (PK.validD_iff _ _ _ _).1 h9
    unfold PK.edge at e1
    split at e1
    · rw [List.getElem?_eq_none (by rw [List.length_map]; omega)] at e1; cases e1
    · cases e1
theorem validD_bad {es : List EI} {j : Nat} {x : EI} {r : Int} {k : List PK.DT} (hx : es[j]? = some x) (h : ¬ ((x.h.toNat : Nat) : Int) = r ∨ ¬ x.t.length = k.length) : PK.validD (EEs es) (.node (j : Int) k) r = false := by
  cases h9 : PK.validD (EEs es) (.node (j : Int) k) r with
  | false => rfl
  | true =>
    obtain ⟨E, e1, e2, e3, _⟩ := (PK.validD_iff _ _ _ _).1 h9
    rw [edge_at hx] at e1
    obtain rfl := Option.some.inj e1
    rcases h with h | h
    · exact absurd e2 h
    · exact absurd (by rw [← e3]; unfold toEE; simp) h
open PK
theorem own_fut {w w' : World} {B sz n : Nat} {E : TypeId} {v : Value} {xs : List Value} (h : w.ownsRow B E sz v n xs) (hf : Fut w w') : w'.ownsRow B E sz v n xs := by
  refine ⟨h.1, ?_⟩
  rcases h.2 with hn | ⟨g, cap, cur, rfl, hb, hg, rest⟩
  · exact .inl hn
  · exact .inr ⟨g, cap, cur, rfl, hb, (hf.block g (Array.getElem?_eq_some_iff.1 hg).1).trans hg, rest⟩
theorem val_ok {es : List EE} (hes : ∀ e ∈ es, PK.okE e) (d : DT) : okV (val es d) := by
  induction d using DT.ind with
  | h e k ih =>
    rw [val]
    cases h : PK.edge es e with
    | none => exact okV_top
    | some E =>
      have hE : E ∈ es := by
        unfold PK.edge at h
        split at h
        · exact List.mem_of_getElem? h
        · cases h
      refine comb_ok (hes E hE) (fun v hv => ?_)
      rw [valL_map] at hv
      obtain ⟨d, hd, rfl⟩ := List.mem_map.1 hv
      exact ih d hd
theorem val_node {es : List EI} {j : Nat} {x : EI} {k : List DT} (hx : es[j]? = some x) : val (EEs es) (.node (j : Int) k) = comb x.c (k.map (val (EEs es))) := by
  rw [val, edge_at hx, valL_map]; rfl
/-- a valid tree, opened: its hyperedge and its kids -/
theorem validD_parts {N : Int} {es : List EI} (hvd : validB N es = true) {e r : Int} {k : List DI} (h : PK.validD (EEs es) (.node e (k.map toDT)) r = true) : ∃ (q : Nat) (x : EI), e = q ∧ es[q]? = some x ∧ x.h = r ∧ x.t.length = k.length ∧ ∀ (i : Nat) d t, k[i]? = some d → x.t[i]? = some t → PK.validD (EEs es) (toDT d) t = true := by
  obtain ⟨E, e1, e2, e3, e4⟩ := (PK.validD_iff _ _ _ _).1 h
  unfold PK.edge at e1
  split at e1
  · rename_i he
    rw [List.getElem?_map] at e1
    obtain ⟨x, hx, rfl⟩ := Option.map_eq_some_iff.1 e1
    have hl : x.t.length = k.length := by
      unfold toEE at e3
      simpa using e3
    obtain ⟨q, rfl⟩ : ∃ q : Nat, e = q := ⟨e.toNat, by omega⟩
    rw [Int.toNat_natCast] at hx
    obtain ⟨h1, h2⟩ := (validD_good hvd hx hl).1 h
    exact ⟨q, x, rfl, hx, h1, hl, h2⟩
  · cases e1
end Go.Proofs.Ytleapckcihcpaaa
