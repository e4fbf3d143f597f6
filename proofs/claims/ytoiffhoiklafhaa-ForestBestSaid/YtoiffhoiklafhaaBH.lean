/-
  Texts joined: Derivations: how a tree lies in memory; its validity and value, opened; The program's follow: the derivation by the chosen hyperedges; Valid of derivations, as the program has it; Value of derivations, as the program has it.
-/
import Derived.Test.YtoiffhoiklafhaaBC
import Derived.Test.YtoiffhoiklafhaaBB
import Derived.Test.YtoiffhoiklafhaaBD
/-
  Derivations: how a tree lies in memory; its validity and value, opened.
-/
namespace Go.Proofs.Ytoiffhoiklafhaa
open Go.RowKit
/-- a tree, and where the kids of each node lie -/
inductive DI where
  | node (e : Int) (A : Option Addr) (c : Nat) (k : List DI)
def DI.e : DI → Int
  | .node e _ _ _ => e
def DI.A : DI → Option Addr
  | .node _ A _ _ => A
def DI.c : DI → Nat
  | .node _ _ c _ => c
def DI.k : DI → List DI
  | .node _ _ _ k => k
theorem DI.ind {P : DI → Prop} (h : ∀ e A c k, (∀ d ∈ k, P d) → P (.node e A c k)) : ∀ d, P d
  | .node e A c k => h e A c k (fun d _hd => DI.ind h d)
termination_by d => SizeOf.sizeOf d
decreasing_by
  have := List.sizeOf_lt_of_mem _hd
  simp
  omega
def encD (d : DI) : List Value := [.int .i64 d.e, .slice d.A d.k.length d.c]
abbrev dv (d : DI) : Value := .agg #[.int .i64 d.e, .slice d.A d.k.length d.c]
mutual
def toDT : DI → PK.DT
  | .node e _ _ k => .node e (toDTs k)
def toDTs : List DI → List PK.DT
  | [] => []
  | d :: k => toDT d :: toDTs k
end
theorem toDTs_map : ∀ k, toDTs k = k.map toDT
  | [] => by rw [toDTs]; rfl
  | d :: k => by rw [toDTs, toDTs_map k]; rfl
theorem toDT_eq (e : Int) (A : Option Addr) (c : Nat) (k : List DI) : toDT (.node e A c k) = .node e (k.map toDT) := by rw [toDT, toDTs_map]
/-- the tree lies in memory -/
inductive RdD (w : World) : DI → Prop
  | mk {e : Int} {A : Option Addr} {c : Nat} {k : List DI} (hS : RdS w A 2 encD k) (hl : k.length ≤ maxLen) (hk : ∀ d ∈ k, RdD w d) : RdD w (.node e A c k)
theorem RdD.parts {w : World} {e : Int} {A : Option Addr} {c : Nat} {k : List DI} (h : RdD w (.node e A c k)) : RdS w A 2 encD k ∧ k.length ≤ maxLen ∧ ∀ d ∈ k, RdD w d := by
  cases h with
  | mk hS hl hk => exact ⟨hS, hl, hk⟩
theorem RdD.fut {w w' : World} {d : DI} (h : RdD w d) (hf : Fut w w') : RdD w' d := by
  induction d using DI.ind with
  | h e A c k ih =>
    obtain ⟨h1, h2, h3⟩ := h.parts
    exact .mk (h1.fut hf) h2 (fun x hx => ih x hx (h3 x hx))
theorem cmpF_no {a b : Int} (h : ¬ a = b) : ((a = b) = False) ∧ (a == b) = false ∧ (a != b) = true := by simp [h]
theorem map_take {α β : Type} {f : α → β} {k l : List α} {j : Nat} {x y : α} (h : (k.take j).map f = (l.take j).map f) (hx : k[j]? = some x) (hy : l[j]? = some y) (hxy : f x = f y) : (k.take (j + 1)).map f = (l.take (j + 1)).map f := by
  rw [List.take_add_one, List.take_add_one, hx, hy, List.map_append, List.map_append, h]; simp [hxy]
theorem edge_at {es : List EI} {j : Nat} {x : EI} (hx : es[j]? = some x) : PK.edge (EEs es) (j : Int) = some (toEE x) := by
  unfold PK.edge
  rw [if_pos (by omega), Int.toNat_natCast, List.getElem?_map, hx]; rfl
theorem validD_good {N : Int} {es : List EI} (hvd : validB N es = true) {j : Nat} {x : EI} {r : Int} {k : List DI} (hx : es[j]? = some x) (hl : x.t.length = k.length) : PK.validD (EEs es) (.node (j : Int) (k.map toDT)) r = true ↔ x.h = r ∧ ∀ (i : Nat) d t, k[i]? = some d → x.t[i]? = some t → PK.validD (EEs es) (toDT d) t = true := by
  obtain ⟨h1, _, _, _, h5⟩ := okE_parts ((validB_parts hvd).2.2 x (List.mem_of_getElem? hx))
  rw [PK.validD_iff]
  constructor
  · rintro ⟨E, e1, e2, e3, e4⟩
    rw [edge_at hx] at e1
    obtain rfl := Option.some.inj e1
    refine ⟨by rw [← e2]; unfold toEE; simp only; omega, fun i d t hd ht => ?_⟩
    have := e4 i (toDT d) t.toNat (by rw [List.getElem?_map, hd]; rfl) (by unfold toEE; simp only; rw [List.getElem?_map, ht]; rfl)
    rwa [Int.toNat_of_nonneg (h5 t (List.mem_of_getElem? ht)).1] at this
  · rintro ⟨e1, e2⟩
    refine ⟨toEE x, edge_at hx, by unfold toEE; simp only; omega, by unfold toEE; simp [hl], fun i d t hd ht => ?_⟩
    rw [List.getElem?_map] at hd
    obtain ⟨d', hd', rfl⟩ := Option.map_eq_some_iff.1 hd
    unfold toEE at ht
    simp only [List.getElem?_map] at ht
    obtain ⟨t', ht', rfl⟩ := Option.map_eq_some_iff.1 ht
    rw [Int.toNat_of_nonneg (h5 t' (List.mem_of_getElem? ht')).1]
    exact e2 i d' t' hd' ht'
theorem validD_out {es : List EI} {e r : Int} {k : List PK.DT} (h : e < 0 ∨ (es.length : Int) ≤ e) : PK.validD (EEs es) (.node e k) r = false := by
  cases h9 : PK.validD (EEs es) (.node e k) r with
  | false => rfl
  | true =>
    obtain ⟨E, e1, _⟩ := (PK.validD_iff _ _ _ _).1 h9
    unfold PK.edge at e1
    split at e1
    · rw [List.getElem?_eq_none (by rw [List.length_map]; omega)] at e1; cases e1
    · cases e1
theorem validD_bad {es : List EI} {j : Nat} {x : EI} {r : Int} {k : List PK.DT} (hx : es[j]? = some x) (h : ¬ ((x.h.toNat : Nat) : Int) = r ∨ ¬ x.t.length = k.length) : PK.validD (EEs es) (.node (j : Int) k) r = false := by
  cases h9 : PK.validD (EEs es) (.node (j : Int) k) r with
  | false => rfl
  | true =>
    obtain ⟨E, e1, e2, e3, _⟩ := (PK.validD_iff _ _ _ _).1 h9
    rw [edge_at hx] at e1
    obtain rfl := Option.some.inj e1
    rcases h with h | h
    · exact absurd e2 h
    · exact absurd (by rw [← e3]; unfold toEE; simp) h
open PK
theorem own_fut {w w' : World} {B sz n : Nat} {E : TypeId} {v : Value} {xs : List Value} (h : w.ownsRow B E sz v n xs) (hf : Fut w w') : w'.ownsRow B E sz v n xs := by
  refine ⟨h.1, ?_⟩
  rcases h.2 with hn | ⟨g, cap, cur, rfl, hb, hg, rest⟩
  · exact .inl hn
  · exact .inr ⟨g, cap, cur, rfl, hb, (hf.block g (Array.getElem?_eq_some_iff.1 hg).1).trans hg, rest⟩
theorem val_ok {es : List EE} (hes : ∀ e ∈ es, PK.okE e) (d : DT) : okV (val es d) := by
  induction d using DT.ind with
  | h e k ih =>
    rw [val]
    cases h : PK.edge es e with
    | none => exact okV_top
    | some E =>
      have hE : E ∈ es := by
        unfold PK.edge at h
        split at h
        · exact List.mem_of_getElem? h
        · cases h
      refine comb_ok (hes E hE) (fun v hv => ?_)
      rw [valL_map] at hv
      obtain ⟨d, hd, rfl⟩ := List.mem_map.1 hv
      exact ih d hd
theorem val_node {es : List EI} {j : Nat} {x : EI} {k : List DT} (hx : es[j]? = some x) : val (EEs es) (.node (j : Int) k) = comb x.c (k.map (val (EEs es))) := by
  rw [val, edge_at hx, valL_map]; rfl
/-- a valid tree, opened: its hyperedge and its kids -/
theorem validD_parts {N : Int} {es : List EI} (hvd : validB N es = true) {e r : Int} {k : List DI} (h : PK.validD (EEs es) (.node e (k.map toDT)) r = true) : ∃ (q : Nat) (x : EI), e = q ∧ es[q]? = some x ∧ x.h = r ∧ x.t.length = k.length ∧ ∀ (i : Nat) d t, k[i]? = some d → x.t[i]? = some t → PK.validD (EEs es) (toDT d) t = true := by
  obtain ⟨E, e1, e2, e3, e4⟩ := (PK.validD_iff _ _ _ _).1 h
  unfold PK.edge at e1
  split at e1
  · rename_i he
    rw [List.getElem?_map] at e1
    obtain ⟨x, hx, rfl⟩ := Option.map_eq_some_iff.1 e1
    have hl : x.t.length = k.length := by
      unfold toEE at e3
      simpa using e3
    obtain ⟨q, rfl⟩ : ∃ q : Nat, e = q := ⟨e.toNat, by omega⟩
    rw [Int.toNat_natCast] at hx
    obtain ⟨h1, h2⟩ := (validD_good hvd hx hl).1 h
    exact ⟨q, x, rfl, hx, h1, hl, h2⟩
  · cases e1
end Go.Proofs.Ytoiffhoiklafhaa
/-
  The program's follow: the derivation by the chosen hyperedges.
-/
namespace Go.Proofs.Ytoiffhoiklafhaa
open Go.RowKit Go.Deep PK
attribute [local go_sem] Oper.lit Oper.litS fut_fut fut_drew World.cell?_alloc_some
/-- the tree lies in memory, in blocks of a kind -/
inductive RdP (ok : Nat → Prop) (w : World) : DI → Prop
  | mk {e : Int} {A : Option Addr} {c : Nat} {k : List DI} (hS : RdS w A 2 encD k) (hl : k.length ≤ maxLen) (hb : ∀ b o, A = some ⟨b, o, none⟩ → k ≠ [] → ok b) (hk : ∀ d ∈ k, RdP ok w d) : RdP ok w (.node e A c k)
theorem RdP.parts {ok : Nat → Prop} {w : World} {e : Int} {A : Option Addr} {c : Nat} {k : List DI} (h : RdP ok w (.node e A c k)) : RdS w A 2 encD k ∧ k.length ≤ maxLen ∧ (∀ b o, A = some ⟨b, o, none⟩ → k ≠ [] → ok b) ∧ ∀ d ∈ k, RdP ok w d := by
  cases h with
  | mk hS hl hb hk => exact ⟨hS, hl, hb, hk⟩
theorem RdP.rd {ok : Nat → Prop} {w : World} {d : DI} (h : RdP ok w d) : RdD w d := by
  induction d using DI.ind with
  | h e A c k ih =>
    obtain ⟨h1, h2, _, h3⟩ := h.parts
    exact .mk h1 h2 (fun x hx => ih x hx (h3 x hx))
theorem RdP.keep {ok ok' : Nat → Prop} {w w' : World} {d : DI} (h : RdP ok w d) (hk : ∀ b, ok b → b < w.heap.size → w'.heap[b]? = w.heap[b]? ∧ ok' b) : RdP ok' w' d := by
  induction d using DI.ind with
  | h e A c k ih =>
    obtain ⟨h1, h2, h3, h4⟩ := h.parts
    refine .mk (fun i a hi => ?_) h2 (fun b o hA hne => ?_) (fun x hx => ih x hx (h4 x hx))
    · obtain ⟨b, o, e, hc⟩ := h1 i a hi
      have hne : k ≠ [] := by rintro rfl; simp at hi
      refine ⟨b, o, e, fun j u hj hu => ?_⟩
      have h5 := hc j u hj hu
      have h6 := World.block_lt_of_cell? w _ h5
      exact (World.cell?_of_block (hk b (h3 b o e hne) h6).1).trans h5
    · obtain ⟨x, l, rfl⟩ := List.exists_cons_of_ne_nil hne
      obtain ⟨b', o', e, hc⟩ := h1 0 x rfl
      rw [hA] at e
      obtain ⟨rfl, rfl, _⟩ := (by simpa using e : b = b' ∧ o = o' ∧ True)
      have h6 := World.block_lt_of_cell? w _ (hc 0 _ (by decide) rfl)
      exact (hk b (h3 b o hA (by simp)) h6).2
theorem own_keep {w w' : World} {B sz n : Nat} {E : TypeId} {v : Value} {xs : List Value} (h : w.ownsRow B E sz v n xs) (hf : ∀ g, v.ownBlock = some g → w'.heap[g]? = w.heap[g]?) : w'.ownsRow B E sz v n xs := by
  refine ⟨h.1, ?_⟩
  rcases h.2 with hn | ⟨g, cap, cur, rfl, hb, hg, rest⟩
  · exact .inl hn
  · exact .inr ⟨g, cap, cur, rfl, hb, (hf g rfl).trans hg, rest⟩
/-- what Best answers -/
def BestR (N : Int) (es : List EI) (V : Nat → VV) (root : Int) (d : DI) (e : Int) : Prop :=
  (validB N es = false ∧ e = 1 ∧ d = .node 0 none 0 []) ∨
  (validB N es = true ∧ ¬ (0 ≤ root ∧ root < N) ∧ e = 2 ∧ d = .node 0 none 0 []) ∨
  (validB N es = true ∧ (0 ≤ root ∧ root < N) ∧ INF ≤ (V root.toNat).c ∧ e = 6 ∧ d = .node 0 none 0 []) ∨
  (validB N es = true ∧ (0 ≤ root ∧ root < N) ∧ (V root.toNat).c < INF ∧ e = 0 ∧ Fol V (EEs es) root.toNat (toDT d))
theorem rdP_leaf {ok : Nat → Prop} {w : World} : RdP ok w (.node 0 none 0 []) := .mk RdS.nil (by decide) (fun b o h => by cases h) (fun d h => by simp at h)
theorem smallB_parts {N : Int} {es : List EI} (h : smallB N es = true) : N ≤ 30 ∧ es.length ≤ 60 ∧ (∀ e ∈ es, e.t.length ≤ 4) ∧ validB N es = true := by
  simp only [smallB, Bool.and_eq_true, decide_eq_true_eq, List.all_eq_true] at h
  exact ⟨h.1.1.1, h.1.1.2, h.1.2, h.2⟩
theorem info_dd : (Try.prog.info? 36).map (fun i => (i.zero, i.size, i.bytes)) = some (some (.agg #[.int .i64 0, .slice none 0 0]), 2, 32) := by kernel_rfl
theorem encD_len (d : DI) : (encD d).length = 2 := rfl
theorem fol_res : Try.f49.results = #[.cell 6 36] := by kernel_rfl
set_option maxHeartbeats 6400000 in
theorem follow_any (N : Nat) (A : Option Addr) (n c : Nat) (es : List EI) (hl : es.length = n) (hn : n ≤ maxLen) (_hN : N ≤ 1048576) (hvd : validB N es = true) (htl : ∀ e ∈ es, e.t.length ≤ 1000000) (V : Nat → VV) (hS : Sol (EEs es) V) (eb : Nat) (M : Nat) : ∀ (v : Nat) w, v < N → (V v).c < INF → (V v).s < INF → (V v).s.toNat < M → RdE w A es → RowI w eb N (chL V (EEs es) 0) →
    Calls Try.prog 49 #[hv N A n c, .slice (some ⟨eb, 0, none⟩) N N, .int .i64 v] w fun r w' => (∃ d, r = .returned (dv d) ∧ Fol V (EEs es) v (toDT d) ∧ RdP (fun b => w.heap.size ≤ b) w' d) ∧ Below w.heap.size w w' := by
  have HL := Lib.hid hl
  have HVD := Lib.hid hvd
  have HTL := Lib.hid htl
  have HSO := Lib.hid hS
  have hn63 : n ≤ 9223372036854775807 := hn
  clear hl hvd hn htl hS
  induction M with
  | zero => intro v w _ _ _ h; omega
  | succ M ih =>
    intro v w hvN hvf hvs hvM hR hRI
    obtain ⟨q, E, hch, hqE, hEh, hev, _⟩ := chosen_fin (EEs_ok HVD.out) HSO.out hvf
    have HED := Lib.hid (edge_nat hqE)
    rw [List.getElem?_map] at hqE
    obtain ⟨x, hx, rfl⟩ := Option.map_eq_some_iff.1 hqE
    have hq : q < n := by
      have := (List.getElem?_eq_some_iff.1 hx).1
      rw [HL.out] at this; exact this
    obtain ⟨b, o, rfl, hc⟩ := hR.1 q x hx
    obtain ⟨ht, htl⟩ := hR.2 x (List.mem_of_getElem? hx)
    have hxm := List.mem_of_getElem? hx
    have hxt : x.t.length ≤ 1000000 := HTL.out x hxm
    have hO := okE_parts ((validB_parts HVD.out).2.2 x hxm)
    have HT := Lib.hid ht
    have HR := Lib.hid hR
    have HRI := Lib.hid hRI
    have HCH := Lib.hid hch
    have hcc := hRI.cell hvN
    rw [hch] at hcc
    have HIH := Lib.hid (fun (t : Int) (ht : t ∈ x.t) => (show 0 ≤ t ∧ t < N ∧ t.toNat < N ∧ ∀ w', RdE w' (some ⟨b, o, none⟩) es → RowI w' eb N (chL V (EEs es) 0) → Calls Try.prog 49 #[hv N (some ⟨b, o, none⟩) n c, .slice (some ⟨eb, 0, none⟩) N N, .int .i64 t] w' fun r w'' => (∃ d, r = .returned (dv d) ∧ Fol V (EEs es) t.toNat (toDT d) ∧ RdP (fun b => w'.heap.size ≤ b) w'' d) ∧ Below w'.heap.size w' w'' from by
      have h5 := hO.2.2.2.2 t ht
      have hmm : t.toNat ∈ (toEE x).t := List.mem_map.2 ⟨t, ht, rfl⟩
      have hee : toEE x ∈ EEs es := List.mem_map.2 ⟨x, hxm, rfl⟩
      have h6 := tails_fin (EEs_ok HVD.out) HSO.out hee hvf hev hmm
      have h7 := tails_size (EEs_ok HVD.out) HSO.out hee hvf hvs hev hmm
      have h8 := (HSO.out.ok t.toNat).2.2.1
      refine ⟨h5.1, h5.2, by omega, fun w' hR' hI' => ?_⟩
      have := ih t.toNat w' (by omega) h6 (by omega) (by omega) hR' hI'
      rwa [Int.toNat_of_nonneg h5.1] at this))
    obtain ⟨m, hm⟩ : ∃ m, x.t.length = m := ⟨_, rfl⟩
    have hm6 : m ≤ 1000000 := by omega
    have HM := Lib.hid hm
    have c1 := hc 1 _ (by decide) rfl
    obtain ⟨xh, xt, xc, xl0, xl1, xA, xk⟩ := x
    simp only at c1 HT HIH HM hm HED
    rw [hm] at c1
    clear ih hR hRI hx hev hEh hqE hxm htl ht hO hxt hc hm hch hvf hvs hvM
    obtain ⟨wb, hwb⟩ : ∃ wb, wb = (((w.alloc (.cells #[.int .i64 N, .slice (some ⟨b, o, none⟩) n c] 24)).alloc (.cells #[.int .i64 0, .slice none 0 0] 36)).alloc (.cells #[.int .i64 q, .slice none 0 0] 36)) := ⟨_, rfl⟩
    have HF := Lib.hid (show Fut w wb from by rw [hwb]; exact (((Fut.refl w).alloc _).alloc _).alloc _)
    have HSZ := Lib.hid (show wb.heap.size = w.heap.size + 3 from by rw [hwb]; simp only [World.size_alloc])
    have Q0 := Lib.hid (show wb.cell? ⟨w.heap.size, 0, none⟩ = some (.int .i64 N) from by rw [hwb]; (repeat (first | exact (cell_al_new _ _ _ _ _ _ (by first | rfl | (simp only [World.size_alloc]))).trans rfl | refine (cell_al_old _ _ _ (by first | omega | (simp only [World.size_alloc]; omega))).trans ?_)))
    have Q1 := Lib.hid (show wb.cell? ⟨w.heap.size, 1, none⟩ = some (.slice (some ⟨b, o, none⟩) n c) from by rw [hwb]; (repeat (first | exact (cell_al_new _ _ _ _ _ _ (by first | rfl | (simp only [World.size_alloc]))).trans rfl | refine (cell_al_old _ _ _ (by first | omega | (simp only [World.size_alloc]; omega))).trans ?_)))
    have HZ := Lib.hid (show Blk wb (w.heap.size + 1) 36 #[.int .i64 0, .slice none 0 0] from by rw [hwb]; exact Blk.alloc (show Blk _ _ _ _ from heap_new' _ _ _ (by simp only [World.size_alloc])) _)
    have HD := Lib.hid (show Blk wb (w.heap.size + 1 + 1) 36 #[.int .i64 q, .slice none 0 0] from by rw [hwb]; exact heap_new' _ _ _ (by simp only [World.size_alloc]))
    replace c1 := HF.out.cell c1
    rw [hwb] at c1
    go_enter Try.func49, Try.ntmps49
    go_wp2_with fail
    rw [← hwb]
    clear hwb c1 hcc
    go_loopw [23] (fun i wr => ∃ (j : Nat) (ks : List DI) (XA : Option Addr) (Xc : Nat), j ≤ m ∧ i = .int .i64 j ∧ Hid (ks.length = j) ∧ Hid (∀ (i : Nat) d t, ks[i]? = some d → xt[i]? = some t → Fol V (EEs es) t.toNat (toDT d))
      ∧ Hid (wr.ownsRow wb.heap.size 36 2 (.slice XA j Xc) j (ks.flatMap encD)) ∧ Blk wr (w.heap.size + 1 + 1) 36 #[.int .i64 q, .slice XA j Xc]
      ∧ Hid (∀ d ∈ ks, RdP (fun b => wb.heap.size ≤ b ∧ (Value.slice XA j Xc).ownBlock ≠ some b) wr d) ∧ FutS (fun k => k == w.heap.size + 1 + 1) wb wr) (fun i _ => m - (intOf i).toNat)
    case atStart => exact ⟨0, [], none, 0, Nat.zero_le _, rfl, Lib.hid rfl, Lib.hid (fun i d t h => by simp at h), Lib.hid (World.ownsRow_nil _ _ _ _), HD.out, Lib.hid (fun d h => by simp at h), FutS.refl _⟩
    case round =>
      obtain ⟨j, ks, XA, Xc, hj, rfl, HKL, HFO, HO, hB, HRP, hF⟩ := hrel
      have HF2 := Lib.hid hF
      have HB := Lib.hid hB
      have HFW := Lib.hid (hF.fut HF.out (fun k hk => by
        have := beq_iff_eq.1 hk
        omega))
      have q0 := hF.cell Q0.out (beq_eq_false_iff_ne.2 (by simp only; omega))
      have q1 := hF.cell Q1.out (beq_eq_false_iff_ne.2 (by simp only; omega))
      have qe := hB.cell (i := 0) rfl
      have qk := hB.cell (i := 1) rfl
      by_cases hlt : j < m
      · obtain ⟨t, hty⟩ := get_lt HM.out hlt
        obtain ⟨b2, o2, rfl, hd⟩ := HT.out j t hty
        have d0 := HFW.out.cell hd
        have HTY := Lib.hid hty
        obtain ⟨t1, t2, t3, t4⟩ := HIH.out t (List.mem_of_getElem? hty)
        have HC := Lib.hid (fun w' (hf : Fut wr w') => t4 w' ((HR.out.fut HFW.out).fut hf) ((HRI.out.fut HFW.out).fut hf))
        replace q0 := cell_fut q0
        replace q1 := cell_fut q1
        replace qk := cell_fut qk
        skip
        clear hty hd hF t4 qe hB
        go_wp2_with fail
        refine wp_region_M o_derivation_follow_5 (by kernel_rfl) (by kernel_rfl) (by intro c a d v w h; cases d <;> exact h) ?_; unfold o_derivation_follow_5
        iterate 5 (refine wpF_h rfl rfl (fun K hK => ?_); go_simp; refine hK _ _ ?_; clear hK K)
        refine wpF_o rfl rfl (fun K hK => ?_)
        go_simp
        go_at_call 49
        refine (HC.out _ (Fut.refl wr).drew).mono ?_
        rintro r w1 ⟨⟨d, rfl, hfd, hrd⟩, hb⟩
        have f2 : Fut wr w1 := (Fut.refl wr).drew.trans hb
        have HFD := Lib.hid hfd
        have HRD := Lib.hid hrd
        refine hK _ _ (.inr hb) ?_
        have HB1 := Lib.hid (HB.out.fut f2)
        have HO1 := Lib.hid (World.ownsRow.alloc (own_fut HO.out f2) (.cells #[.int .i64 d.e, .slice d.A d.k.length d.c] 36))
        have HW1 := Lib.hid f2
        clear hb f2 HC hK K hfd hrd
        refine wpF_o rfl rfl (fun K hK => ?_)
        go_simp
        refine hK _ _ (.inr ((Fut.refl _).alloc _)) ?_
        clear hK K
        refine wpF_ol rfl (by kernel_rfl) rfl (fun K hK => ?_)
        refine wp_push 34 36 2 32 _ Try.underlying34 info_dd rfl (by decide) (by decide) (.tmp 28) (.tmp 33) rfl wb.heap.size (.slice XA j Xc) j _ rfl HO1.out w1.heap.size [.int .i64 d.e, .slice d.A d.k.length d.c] rfl (heap_new' _ _ _ rfl) rfl (by simp [Value.oneCell']) (by omega) (((HF2.out.then HW1.out).alloc _).size) ?_
        intro g cap w' h1 h2 h3
        refine hK _ _ ?_
        clear hK K
        have hgo : ∀ k, (Value.slice XA j Xc).ownBlock = some k → wb.heap.size ≤ k ∧ k < wr.heap.size := fun k hk => World.ownsRow.lt HO.out k hk
        have hB2 : Blk w' (w.heap.size + 1 + 1) 36 #[.int .i64 q, .slice XA j Xc] := (HB1.out.alloc _).grown h2 (fun e => by
          have := hgo _ e.symm
          have := HSZ.out
          omega)
        have q8 := hB2.cell (i := 1) rfl
        have q9 := hB2.fz 1
        have HB2 := Lib.hid hB2
        have HH1 := Lib.hid h1
        have HH2 := Lib.hid h2
        have HH3 := Lib.hid h3
        have HGO := Lib.hid hgo
        clear hB2 h1 h2 h3 hgo
        (refine wpF_h rfl rfl (fun K hK => ?_); go_simp; refine hK _ _ ?_; clear hK K)
        refine wpF_o rfl rfl (fun K hK => ?_)
        go_simp
        refine hK _ _ (.inl (by kernel_rfl)) ?_
        clear hK K
        refine wpF_nil ?_
        go_wp2_with fail
        have hgb : w.heap.size + 3 ≤ g ∧ g < w'.heap.size := by
          obtain ⟨g', cap', e9, h8, _⟩ := HH1.out.form (by omega)
          injection e9 with e9
          injection e9 with e9
          injection e9 with e9
          subst e9
          have := HSZ.out
          exact ⟨by omega, (World.ownsRow.lt HH1.out g rfl).2⟩
        refine ⟨⟨j + 1, ks ++ [d], some ⟨g, 0, none⟩, cap, by omega, by go_num, Lib.hid (by rw [List.length_append, HKL.out]; rfl), Lib.hid ?_, Lib.hid ?_, ?_, Lib.hid ?_, ?_⟩, by simp [intOf]; omega⟩
        · intro i y u hy hu
          by_cases e9 : i < j
          · rw [List.getElem?_append_left (by rw [HKL.out]; omega)] at hy
            exact HFO.out i y u hy hu
          · rw [List.getElem?_append_right (by rw [HKL.out]; omega), HKL.out] at hy
            have e8 : i = j := by
              have := (List.getElem?_eq_some_iff.1 hy).1
              simp at this; omega
            subst e8
            rw [Nat.sub_self] at hy
            obtain rfl : d = y := by simpa using hy
            rw [HTY.out] at hu
            obtain rfl := Option.some.inj hu
            exact HFD.out
        · rw [List.flatMap_append]
          refine own_keep HH1.out (fun k hk => ?_)
          obtain rfl : g = k := by
            have h9 : (some g : Option Nat) = some k := hk
            exact Option.some.inj h9
          exact blk_setCell_other _ _ _ _ (by simp only; omega)
        · exact HB2.out.set 1 _
        · intro y hy
          have hkeep : ∀ b, b < w1.heap.size → (Value.slice XA j Xc).ownBlock ≠ some b → b ≠ w.heap.size + 1 + 1 → (w'.setCell ⟨w.heap.size + 1 + 1, 1, none⟩ (.slice (some ⟨g, 0, none⟩) (j + 1) cap)).heap[b]? = w1.heap[b]? := fun b h1 h2 h3 =>
            (blk_setCell_other _ _ _ _ h3).trans ((HH2.out.block b (by rw [World.size_alloc]; omega) (fun e => h2 e.symm)).trans (((Fut.refl w1).alloc _).block b h1))
          have hgn : ∀ b, b < w1.heap.size → (Value.slice XA j Xc).ownBlock ≠ some b → (Value.slice (some ⟨g, 0, none⟩) (j + 1) cap).ownBlock ≠ some b := fun b h1 h2 e => by
            have h9 : (some g : Option Nat) = some b := e
            obtain rfl := Option.some.inj h9
            rcases HH3.out with h3 | h3
            · exact h2 h3
            · rw [World.size_alloc] at h3; omega
          rcases List.mem_append.1 hy with hy | hy
          · refine (HRP.out y hy).keep (fun b hb hlt => ?_)
            have hs := HW1.out.size
            refine ⟨(hkeep b (by omega) hb.2 (by have := HSZ.out; omega)).trans (HW1.out.block b hlt), hb.1, hgn b (by omega) hb.2⟩
          · obtain rfl : y = d := by simpa using hy
            refine HRD.out.keep (fun b hb hlt => ?_)
            have hb' : wr.heap.size ≤ b := hb
            have hs := HF2.out.size
            have h2 : (Value.slice XA j Xc).ownBlock ≠ some b := fun e => by
              have := (HGO.out b e).2
              omega
            exact ⟨hkeep b hlt h2 (by have := HSZ.out; omega), by omega, hgn b hlt h2⟩
        · refine (((HF2.out.then HW1.out).alloc _).grown HH2.out (fun k hk => .inr (HGO.out k hk).1)).setCell (.inl (by simp)) _
      · have hjn : j = m := by omega
        obtain rfl := hjn
        have hz := HZ.out.futS hF (beq_eq_false_iff_ne.2 (by omega))
        have g4 := hz.cell (i := 0) rfl
        have g5 := hz.cell (i := 1) rfl
        have g2 := hz.fz 0
        have g3 := hz.fz 1
        have HZ3 := Lib.hid hz
        clear hz hB hF
        go_wp2_with fail
        refine bodyPost_ret (results_cell_row fol_res _ _ (w.heap.size + 1) _ _ _ _ rfl ((HZ3.out.set 0 (.int .i64 q)).set 1 (.slice XA j Xc)) Try.underlying36 rfl (by kernel_rfl)) rfl ?_
        have hkeep : ∀ b, b ≠ w.heap.size + 1 → ((wr.setCell ⟨w.heap.size + 1, 0, none⟩ (.int .i64 q)).setCell ⟨w.heap.size + 1, 1, none⟩ (.slice XA j Xc)).heap[b]? = wr.heap[b]? := fun b h => (blk_setCell_other _ _ _ _ h).trans (blk_setCell_other _ _ _ _ h)
        have hKN := HKL.out
        have hsz := HSZ.out
        refine ⟨⟨.node q XA Xc ks, by simp only [dv, DI.e, DI.A, DI.c, DI.k, hKN]; rfl, ?_, ?_⟩, (HFW.out.setCell (p := ⟨w.heap.size + 1, 0, none⟩) (by simp only; omega) _).setCell (p := ⟨w.heap.size + 1, 1, none⟩) (by simp only; omega) _⟩
        · rw [toDT_eq, ← HCH.out]
          refine Fol.mk (by rw [HCH.out]; exact HED.out) (by rw [List.length_map, hKN]; simp only [toEE, List.length_map]; exact HM.out.symm) (fun i d t hd ht => ?_)
          rw [List.getElem?_map] at hd
          obtain ⟨d', hd', rfl⟩ := Option.map_eq_some_iff.1 hd
          simp only [toEE, List.getElem?_map] at ht
          obtain ⟨t', ht', rfl⟩ := Option.map_eq_some_iff.1 ht
          exact HFO.out i d' t' hd' ht'
        · have ho := own_keep (w' := (wr.setCell ⟨w.heap.size + 1, 0, none⟩ (.int .i64 q)).setCell ⟨w.heap.size + 1, 1, none⟩ (.slice XA j Xc)) HO.out (fun k hk => hkeep k (by
            have := (World.ownsRow.lt HO.out k hk).1
            omega))
          refine RdP.mk (RdS.of_own (enc := encD) encD_len (by decide) ho) (by rw [hKN]; unfold maxLen; omega) (fun b o hA hne => ?_) (fun d hd => (HRP.out d hd).keep (fun b hb hlt => ⟨hkeep b (by omega), by omega⟩))
          subst hA
          obtain ⟨g', cap', e9, h8, _⟩ := HO.out.form (by
            have := List.length_pos_iff.2 hne
            omega)
          injection e9 with e9
          injection e9 with e9
          injection e9 with e9
          show w.heap.size ≤ b
          omega
end Go.Proofs.Ytoiffhoiklafhaa
/-
  Valid of derivations, as the program has it.
-/
namespace Go.Proofs.Ytoiffhoiklafhaa
open Go.RowKit
attribute [local go_sem] Oper.lit Oper.litS fut_fut fut_drew World.cell?_alloc_some
set_option maxHeartbeats 6400000 in
theorem dvalid_any (N : Int) (A : Option Addr) (n c : Nat) (es : List EI) (hl : es.length = n) (hn : n ≤ maxLen) (hvd : validB N es = true) (d : DI) : ∀ (r : Int) w, RdE w A es → RdD w d →
    Calls Try.prog 40 #[hv N A n c, .int .i64 r, dv d] w fun q w' => q = .returned (.bool (PK.validD (EEs es) (toDT d) r)) ∧ Below w.heap.size w w' := by
  have HL := Lib.hid hl
  have HVD := Lib.hid hvd
  have hn63 : n ≤ 9223372036854775807 := hn
  clear hl hvd hn
  induction d using DI.ind with
  | h e B d k ih =>
    intro r w hR hRD
    obtain ⟨hS, hkl, hK⟩ := hRD.parts
    have HR := Lib.hid hR
    have HS := Lib.hid hS
    have HK := Lib.hid hK
    have HI := Lib.hid ih
    obtain ⟨m, hm⟩ : ∃ m, k.length = m := ⟨_, rfl⟩
    have hm63 : m ≤ 9223372036854775807 := hm ▸ hkl
    have HM := Lib.hid hm
    simp only [dv, DI.e, DI.A, DI.c, DI.k, hm]
    rw [toDT_eq]
    clear hS hK hR ih hkl hm hRD
    by_cases hin : 0 ≤ e ∧ e < (n : Int)
    · obtain ⟨q, rfl⟩ : ∃ q : Nat, e = q := ⟨e.toNat, by omega⟩
      have hq : q < n := by omega
      obtain ⟨x, hx⟩ := get_lt HL.out hq
      obtain ⟨b, o, rfl, hc⟩ := HR.out.1 q x hx
      obtain ⟨ht, htl⟩ := (HR.out.2 x (List.mem_of_getElem? hx))
      have HX := Lib.hid hx
      have HT := Lib.hid ht
      have HO := Lib.hid (okE_parts ((validB_parts HVD.out).2.2 x (List.mem_of_getElem? hx)))
      have c0 := hc 0 _ (by decide) rfl
      have c1 := hc 1 _ (by decide) rfl
      have c2 := hc 2 _ (by decide) rfl
      have c3 := hc 3 _ (by decide) rfl
      have c4 := hc 4 _ (by decide) rfl
      simp only [Nat.add_zero] at c0
      have HG := Lib.hid (fun hl : x.t.length = k.length => validD_good (r := r) HVD.out hx hl)
      have HB := Lib.hid (fun h => validD_bad (r := r) (k := k.map toDT) hx h)
      clear hin hx hc ht
      obtain ⟨xh, xt, xc, xl0, xl1, xA, xk⟩ := x
      simp only at c0 c1 c2 c3 c4 HT HO HG HB htl
      obtain ⟨tl, htl2⟩ : ∃ tl, xt.length = tl := ⟨_, rfl⟩
      rw [htl2] at c1 htl
      have htl63 : tl ≤ 9223372036854775807 := htl
      have HTL := Lib.hid htl2
      clear htl htl2
      generalize PK.validD (EEs es) (.node (q : Int) (k.map toDT)) r = res at HG HB ⊢
      by_cases hr : xh = r
      · subst hr
        by_cases hlen : tl = m
        · subst hlen
          have hqn : ¬ ((q : Int) < 0) := by omega
          go_enter Try.func40, Try.ntmps40
          go_wp2_with fail
          have HF := Lib.hid (show Fut w (((w.alloc (.cells #[.int .i64 N, .slice (some ⟨b, o, none⟩) n c] 24)).alloc (.cells #[.int .i64 q, .slice B tl d] 36)).alloc (.cells #[.int .i64 xh, .slice xA tl xk, .int .i64 xc, .int .i64 xl0, .int .i64 xl1] 49)) from (((Fut.refl w).alloc _).alloc _).alloc _)
          have Q0 := Lib.hid (show (((w.alloc (.cells #[.int .i64 N, .slice (some ⟨b, o, none⟩) n c] 24)).alloc (.cells #[.int .i64 q, .slice B tl d] 36)).alloc (.cells #[.int .i64 xh, .slice xA tl xk, .int .i64 xc, .int .i64 xl0, .int .i64 xl1] 49)).cell? ⟨w.heap.size, 0, none⟩ = some (.int .i64 N) from by (repeat (first | exact (cell_al_new _ _ _ _ _ _ (by first | rfl | (simp only [World.size_alloc]))).trans rfl | refine (cell_al_old _ _ _ (by first | omega | (simp only [World.size_alloc]; omega))).trans ?_)))
          have Q1 := Lib.hid (show (((w.alloc (.cells #[.int .i64 N, .slice (some ⟨b, o, none⟩) n c] 24)).alloc (.cells #[.int .i64 q, .slice B tl d] 36)).alloc (.cells #[.int .i64 xh, .slice xA tl xk, .int .i64 xc, .int .i64 xl0, .int .i64 xl1] 49)).cell? ⟨w.heap.size, 1, none⟩ = some (.slice (some ⟨b, o, none⟩) n c) from by (repeat (first | exact (cell_al_new _ _ _ _ _ _ (by first | rfl | (simp only [World.size_alloc]))).trans rfl | refine (cell_al_old _ _ _ (by first | omega | (simp only [World.size_alloc]; omega))).trans ?_)))
          have Q2 := Lib.hid (show (((w.alloc (.cells #[.int .i64 N, .slice (some ⟨b, o, none⟩) n c] 24)).alloc (.cells #[.int .i64 q, .slice B tl d] 36)).alloc (.cells #[.int .i64 xh, .slice xA tl xk, .int .i64 xc, .int .i64 xl0, .int .i64 xl1] 49)).cell? ⟨w.heap.size + 1 + 1, 1, none⟩ = some (.slice xA tl xk) from by (repeat (first | exact (cell_al_new _ _ _ _ _ _ (by first | rfl | (simp only [World.size_alloc]))).trans rfl | refine (cell_al_old _ _ _ (by first | omega | (simp only [World.size_alloc]; omega))).trans ?_)))
          clear c0 c1 c2 c3 c4
          generalize ((w.alloc (.cells #[.int .i64 N, .slice (some ⟨b, o, none⟩) n c] 24)).alloc (.cells #[.int .i64 q, .slice B tl d] 36)).alloc (.cells #[.int .i64 xh, .slice xA tl xk, .int .i64 xc, .int .i64 xl0, .int .i64 xl1] 49) = wb at *
          go_loopw [43] (fun i wr => ∃ j : Nat, j ≤ tl ∧ i = .int .i64 j ∧ Hid (∀ (i : Nat) d t, i < j → k[i]? = some d → xt[i]? = some t → PK.validD (EEs es) (toDT d) t = true) ∧ Fut wb wr) (fun i _ => tl - (intOf i).toNat)
          case atStart => exact ⟨0, Nat.zero_le _, rfl, Lib.hid (fun i d t h => by omega), Fut.refl _⟩
          case round =>
            obtain ⟨j, hj, rfl, hall, hF⟩ := hrel
            have HF2 := Lib.hid hF
            by_cases hlt : j < tl
            · obtain ⟨y, hy⟩ := get_lt HM.out hlt
              obtain ⟨t, hty⟩ := get_lt HTL.out hlt
              obtain ⟨b1, o1, rfl, hd⟩ := HS.out j y hy
              obtain ⟨b2, o2, rfl, he⟩ := HT.out j t hty
              have HY := Lib.hid hy
              have HTY := Lib.hid hty
              have d0 := hF.cell (HF.out.cell (hd 0 _ (by decide) rfl))
              have d1 := hF.cell (HF.out.cell (hd 1 _ (by decide) rfl))
              have e0 := hF.cell (HF.out.cell he)
              simp only [Nat.add_zero] at d0
              have HC := Lib.hid (fun w' (hf : Fut wr w') => HI.out y (List.mem_of_getElem? hy) t w' (((HR.out.fut HF.out).fut hF).fut hf) ((((HK.out y (List.mem_of_getElem? hy)).fut HF.out).fut hF).fut hf))
              have q0 := hF.cell Q0.out
              have q1 := hF.cell Q1.out
              have q2 := hF.cell Q2.out
              obtain ⟨bb, hbb⟩ : ∃ bb, PK.validD (EEs es) (toDT y) t = bb := ⟨_, rfl⟩
              have HBB := Lib.hid hbb
              rw [hbb] at HC
              clear hy hty hd he hF hbb
              obtain ⟨ye, yA, yc, yk⟩ := y
              simp only [DI.e, DI.A, DI.c, DI.k] at d0 d1
              go_wp2_with fail
              have f1 := (Fut.refl wr).alloc (.cells #[.int .i64 ye, .slice yA yk.length yc] 36)
              have k0 : (wr.alloc (.cells #[.int .i64 ye, .slice yA yk.length yc] 36)).cell? ⟨wr.heap.size, 0, none⟩ = some (.int .i64 ye) := by (repeat (first | exact (cell_al_new _ _ _ _ _ _ (by first | rfl | (simp only [World.size_alloc]))).trans rfl | refine (cell_al_old _ _ _ (by first | omega | (simp only [World.size_alloc]; omega))).trans ?_))
              have k1 : (wr.alloc (.cells #[.int .i64 ye, .slice yA yk.length yc] 36)).cell? ⟨wr.heap.size, 1, none⟩ = some (.slice yA yk.length yc) := by (repeat (first | exact (cell_al_new _ _ _ _ _ _ (by first | rfl | (simp only [World.size_alloc]))).trans rfl | refine (cell_al_old _ _ _ (by first | omega | (simp only [World.size_alloc]; omega))).trans ?_))
              replace e0 := cell_fut (f1.cell e0)
              replace q0 := cell_fut (f1.cell q0)
              replace q1 := cell_fut (f1.cell q1)
              replace q2 := cell_fut (f1.cell q2)
              replace k0 := cell_fut k0
              replace k1 := cell_fut k1
              have HF3 := Lib.hid f1
              generalize wr.alloc (.cells #[.int .i64 ye, .slice yA yk.length yc] 36) = wi at *
              clear f1 d0 d1
              refine wp_region_M o_derivation_Valid_9 (by kernel_rfl) (by kernel_rfl) (by intro c a d v w h; cases d <;> exact h) ?_; unfold o_derivation_Valid_9
              iterate 7 (refine wpF_h rfl rfl (fun K hK => ?_); go_simp; refine hK _ _ ?_; clear hK K)
              (refine wpF_o rfl rfl (fun K hK => ?_); go_simp; first | (go_at_call 40; refine (HC.out _ (HF3.out.trans (by show Fut _ _; repeat (first | (with_reducible assumption) | exact Fut.refl _ | exact Fut.fut _ _ _ | refine Fut.drew ?_ | refine Fut.alloc ?_ _ | refine Fut.trans ?_ (Fut.fut _ _ _) | refine Fut.trans ?_ (by assumption))))).mono ?_; rintro e w1 ⟨rfl, hb1⟩; have hf1 : Fut _ w1 := hb1; refine hK _ _ (.inr hf1) ?_; clear hK K hb1))
              (refine wpF_h rfl rfl (fun K hK => ?_); go_simp; refine hK _ _ ?_; clear hK K)
              refine wpF_nil ?_
              cases bb with
              | true =>
                have HA := Lib.hid (show ∀ (i : Nat) d t, i < j + 1 → k[i]? = some d → xt[i]? = some t → PK.validD (EEs es) (toDT d) t = true from fun i d u h1 h2 h3 => by
                  by_cases e9 : i = j
                  · subst e9
                    rw [HY.out] at h2
                    rw [HTY.out] at h3
                    obtain rfl := Option.some.inj h2
                    obtain rfl := Option.some.inj h3
                    exact HBB.out
                  · exact hall.out i d u (by omega) h2 h3)
                go_wp2_with fail
                exact ⟨⟨j + 1, by omega, by go_num, HA, HF2.out.trans (HF3.out.trans (by show Fut _ _; repeat (first | (with_reducible assumption) | exact Fut.refl _ | exact Fut.fut _ _ _ | refine Fut.drew ?_ | refine Fut.alloc ?_ _ | refine Fut.trans ?_ (Fut.fut _ _ _) | refine Fut.trans ?_ (by assumption))))⟩, by simp [intOf]; omega⟩
              | false =>
                have HA := Lib.hid (show res = false from by
                  cases h9 : res with
                  | false => rfl
                  | true =>
                    have h8 := ((HG.out (HTL.out.trans HM.out.symm)).1 h9).2 j _ _ HY.out HTY.out
                    rw [HBB.out] at h8; cases h8)
                go_wp2_with fail
                go_ret
                exact ⟨by rw [HA.out]; rfl, HF.out.trans (HF2.out.trans (HF3.out.trans (by show Fut _ _; repeat (first | (with_reducible assumption) | exact Fut.refl _ | exact Fut.fut _ _ _ | refine Fut.drew ?_ | refine Fut.alloc ?_ _ | refine Fut.trans ?_ (Fut.fut _ _ _) | refine Fut.trans ?_ (by assumption)))))⟩
            · have HA := Lib.hid ((HG.out (HTL.out.trans HM.out.symm)).2 ⟨by first | rfl | trivial, fun i d t h2 h3 => hall.out i d t (by
                have := (List.getElem?_eq_some_iff.1 h2).1
                rw [HM.out] at this; omega) h2 h3⟩)
              go_wp2_with fail
              go_ret
              exact ⟨by rw [HA.out]; rfl, HF.out.trans HF2.out⟩
        · have HA := Lib.hid (HB.out (.inr (by rw [List.length_map, HM.out, HTL.out]; exact hlen)))
          have hxx : ¬ (tl : Int) = (m : Int) := by omega
          obtain ⟨x1, x2, x3⟩ := cmpF_no hxx
          clear hxx hlen
          have hqn : ¬ ((q : Int) < 0) := by omega
          go_enter Try.func40, Try.ntmps40
          go_wp2_with fail
          go_ret
          exact ⟨by rw [HA.out]; rfl, (((Fut.refl w).alloc _).alloc _).alloc _⟩
      · have HA := Lib.hid (HB.out (.inl (by
          have := HO.out.1
          omega)))
        obtain ⟨x1, x2, x3⟩ := cmpF_no hr
        clear hr
        have hqn : ¬ ((q : Int) < 0) := by omega
        go_enter Try.func40, Try.ntmps40
        go_wp2_with fail
        go_ret
        exact ⟨by rw [HA.out]; rfl, (((Fut.refl w).alloc _).alloc _).alloc _⟩
    · have HA := Lib.hid (validD_out (r := r) (k := k.map toDT) (es := es) (e := e) (by rw [HL.out]; omega))
      have hg : e < 0 ∨ (¬ e < 0 ∧ (n : Int) ≤ e) := by omega
      clear hin
      rcases hg with h1 | ⟨h1, h2⟩
      all_goals
        go_enter Try.func40, Try.ntmps40
        go_wp2_with fail
        go_ret
        exact ⟨by rw [HA.out]; rfl, ((Fut.refl w).alloc _).alloc _⟩
end Go.Proofs.Ytoiffhoiklafhaa
/-
  Value of derivations, as the program has it.
-/
namespace Go.Proofs.Ytoiffhoiklafhaa
open Go.RowKit Go.Deep PK
attribute [local go_sem] Oper.lit Oper.litS fut_fut fut_drew World.cell?_alloc_some
theorem dval_res : Try.f42.results = #[.cell 4 46] := by kernel_rfl
set_option maxHeartbeats 6400000 in
theorem dvalue_any (N : Int) (A : Option Addr) (n c : Nat) (es : List EI) (hl : es.length = n) (hn : n ≤ maxLen) (hvd : validB N es = true) (htl : ∀ e ∈ es, e.t.length ≤ 1000000) (d : DI) : ∀ (r : Int) w, PK.validD (EEs es) (toDT d) r = true → RdE w A es → RdD w d →
    Calls Try.prog 42 #[hv N A n c, dv d] w fun q w' => q = .returned (vv (val (EEs es) (toDT d))) ∧ Below w.heap.size w w' := by
  have HL := Lib.hid hl
  have HVD := Lib.hid hvd
  have HTL := Lib.hid htl
  have hn63 : n ≤ 9223372036854775807 := hn
  clear hl hvd hn htl
  induction d using DI.ind with
  | h e B d k ih =>
    intro r w hval hR hRD
    obtain ⟨hS, hkl, hK⟩ := hRD.parts
    rw [toDT_eq] at hval
    obtain ⟨q, x, rfl, hx, hxr, hxl, hkv⟩ := validD_parts HVD.out hval
    obtain ⟨b, o, rfl, hc⟩ := hR.1 q x hx
    have hq : q < n := by
      have := (List.getElem?_eq_some_iff.1 hx).1
      rw [HL.out] at this; exact this
    have HVN := Lib.hid (val_node (k := k.map toDT) hx)
    have HR := Lib.hid hR
    have HS := Lib.hid hS
    have HK := Lib.hid hK
    have HI := Lib.hid ih
    have HKV := Lib.hid hkv
    have hxt : x.t.length ≤ 1000000 := HTL.out x (List.mem_of_getElem? hx)
    obtain ⟨m, hm⟩ : ∃ m, k.length = m := ⟨_, rfl⟩
    have hm6 : m ≤ 1000000 := by omega
    have HM := Lib.hid hm
    have HXL := Lib.hid (hxl.trans hm)
    simp only [dv, DI.e, DI.A, DI.c, DI.k, hm]
    rw [toDT_eq]
    have hO := okE_parts ((validB_parts HVD.out).2.2 x (List.mem_of_getElem? hx))
    have HCC := Lib.hid (show 0 ≤ x.c ∧ x.c ≤ INF from ⟨hO.2.2.1, hO.2.2.2.1⟩)
    have c2 := hc 2 _ (by decide) rfl
    obtain ⟨xh, xt, xc, xl0, xl1, xA, xk⟩ := x
    simp only at c2 HCC HVN HXL HKV
    have C2 := Lib.hid c2
    clear hS hK hR ih hkl hm hRD hval hx hxr hxl hkv hc hxt hO c2
    go_enter Try.func42, Try.ntmps42
    go_wp2_with fail
    obtain ⟨wb, hwb⟩ : ∃ wb, wb = (((w.alloc (.cells #[.int .i64 N, .slice (some ⟨b, o, none⟩) n c] 24)).alloc (.cells #[.int .i64 q, .slice B m d] 36)).alloc (.cells #[.int .i64 0, .int .i64 0] 46)) := ⟨_, rfl⟩
    have HF := Lib.hid (show Fut w wb from by rw [hwb]; exact (((Fut.refl w).alloc _).alloc _).alloc _)
    have Q0 := Lib.hid (show wb.cell? ⟨w.heap.size, 0, none⟩ = some (.int .i64 N) from by rw [hwb]; (repeat (first | exact (cell_al_new _ _ _ _ _ _ (by first | rfl | (simp only [World.size_alloc]))).trans rfl | refine (cell_al_old _ _ _ (by first | omega | (simp only [World.size_alloc]; omega))).trans ?_)))
    have Q1 := Lib.hid (show wb.cell? ⟨w.heap.size, 1, none⟩ = some (.slice (some ⟨b, o, none⟩) n c) from by rw [hwb]; (repeat (first | exact (cell_al_new _ _ _ _ _ _ (by first | rfl | (simp only [World.size_alloc]))).trans rfl | refine (cell_al_old _ _ _ (by first | omega | (simp only [World.size_alloc]; omega))).trans ?_)))
    have Q2 := Lib.hid (show wb.cell? ⟨w.heap.size + 1, 0, none⟩ = some (.int .i64 q) from by rw [hwb]; (repeat (first | exact (cell_al_new _ _ _ _ _ _ (by first | rfl | (simp only [World.size_alloc]))).trans rfl | refine (cell_al_old _ _ _ (by first | omega | (simp only [World.size_alloc]; omega))).trans ?_)))
    have HZ := Lib.hid (show Blk wb (w.heap.size + 1 + 1) 46 #[.int .i64 0, .int .i64 0] from by rw [hwb]; exact heap_new' _ _ _ (by simp only [World.size_alloc]))
    rw [← hwb]
    clear hwb
    go_loopw [5, 11] (fun x i wr => ∃ j : Nat, j ≤ m ∧ i = .int .i64 j ∧ Hid (wr.ownsRow wb.heap.size 46 2 x j (((k.take j).map (fun d => val (EEs es) (toDT d))).flatMap encV)) ∧ Fut wb wr) (fun _ i _ => m - (intOf i).toNat)
    case atStart => exact ⟨0, Nat.zero_le _, rfl, Lib.hid (World.ownsRow_nil _ _ _ _), Fut.refl _⟩
    case round =>
      obtain ⟨j, hj, rfl, HO, hF⟩ := hrel
      have HF2 := Lib.hid hF
      obtain ⟨XA, Xc, rfl, _⟩ := own_form HO.out
      have q0 := hF.cell Q0.out
      have q1 := hF.cell Q1.out
      have q2 := hF.cell Q2.out
      by_cases hlt : j < m
      · obtain ⟨y, hy⟩ := get_lt HM.out hlt
        obtain ⟨t, hty⟩ := get_lt HXL.out hlt
        obtain ⟨b1, o1, rfl, hd⟩ := HS.out j y hy
        have d0 := hF.cell (HF.out.cell (hd 0 _ (by decide) rfl))
        have d1 := hF.cell (HF.out.cell (hd 1 _ (by decide) rfl))
        simp only [Nat.add_zero] at d0
        have HY := Lib.hid hy
        have HC := Lib.hid (fun w' (hf : Fut wr w') => HI.out y (List.mem_of_getElem? hy) t w' (HKV.out j y t hy hty) (((HR.out.fut HF.out).fut hF).fut hf) ((((HK.out y (List.mem_of_getElem? hy)).fut HF.out).fut hF).fut hf))
        obtain ⟨z, hz⟩ : ∃ z, val (EEs es) (toDT y) = z := ⟨_, rfl⟩
        have HZV := Lib.hid hz
        rw [hz] at HC
        clear hy hty hd hF hz q2
        obtain ⟨ye, yA, yc, yk⟩ := y
        obtain ⟨zc, zs⟩ := z
        simp only [DI.e, DI.A, DI.c, DI.k] at d0 d1
        have f1 := (Fut.refl wr).alloc (.cells #[.int .i64 ye, .slice yA yk.length yc] 36)
        have HOW := Lib.hid (World.ownsRow.alloc HO.out (.cells #[.int .i64 ye, .slice yA yk.length yc] 36))
        have HF3 := Lib.hid f1
        clear f1
        go_wp2_with fail
        refine (HC.out _ HF3.out).mono ?_
        rintro r w1 ⟨rfl, hb⟩
        have f2 : Fut _ w1 := hb
        have HO1 := Lib.hid (World.ownsRow.alloc (own_fut HOW.out f2) (.cells #[.int .i64 zc, .int .i64 zs] 46))
        have HF4 := Lib.hid (show Fut wb (w1.alloc (.cells #[.int .i64 zc, .int .i64 zs] 46)) from (HF2.out.trans (HF3.out.trans f2)).alloc _)
        clear hb f2 HOW HC
        go_wp2_with (at_builtin; refine wpList_push rfl 42 46 2 16 _ Try.underlying42 info_vv rfl (by decide) (by decide) (.tmp 15) (.tmp 19) rfl wb.heap.size (.slice XA j Xc) j _ rfl HO1.out w1.heap.size [.int .i64 zc, .int .i64 zs] rfl (heap_new' _ _ _ rfl) rfl (by simp [Value.oneCell']) (by omega) HF4.out.size ?_; intro g cap w' h1 h2 h3)
        refine ⟨⟨j + 1, by omega, by go_num, Lib.hid ?_, Below.grown HF4.out h2 HF4.out.size (fun q hq => (World.ownsRow.lt HO1.out q hq).1)⟩, by simp [intOf]; omega⟩
        rw [List.take_add_one, HY.out, List.map_append, List.flatMap_append]
        simp only [Option.toList_some, List.map_cons, List.map_nil, HZV.out]
        exact h1
      · have hjn : j = m := by omega
        obtain rfl := hjn
        have hl9 : k.take j = k := List.take_of_length_le (by rw [HM.out]; omega)
        have h9 := HO.out
        rw [hl9] at h9
        have h8 := RdS.of_own (enc := encV) encV_len (by decide) h9
        have c2 := hF.cell (HF.out.cell C2.out)
        have HCO := Lib.hid (combine_any xc XA j Xc (k.map (fun d => val (EEs es) (toDT d))) wr (by rw [List.length_map, HM.out]) (by unfold maxLen; omega) HCC.out (fun v hv => by
          obtain ⟨d, _, rfl⟩ := List.mem_map.1 hv
          exact val_ok (EEs_ok HVD.out) _) h8)
        generalize hcv : comb xc (k.map (fun d => val (EEs es) (toDT d))) = z at HCO
        have HCV := Lib.hid hcv
        obtain ⟨zc, zs⟩ := z
        clear hl9 h9 h8 hF hcv
        go_wp2_with fail
        refine HCO.out.mono ?_
        rintro r w1 ⟨rfl, hb⟩
        have f1 : Fut wr w1 := hb
        have hz1 := (HZ.out.fut HF2.out).fut f1
        have g4 := hz1.cell (i := 0) rfl
        have g5 := hz1.cell (i := 1) rfl
        have g2 := hz1.fz 0
        have g3 := hz1.fz 1
        have HZ3 := Lib.hid hz1
        have HF3 := Lib.hid (HF.out.trans (HF2.out.trans f1))
        clear hb f1 hz1
        go_wp2_with fail
        refine bodyPost_ret (results_cell_row dval_res _ _ (w.heap.size + 1 + 1) _ _ _ _ rfl ((HZ3.out.set 0 (.int .i64 zc)).set 1 (.int .i64 zs)) Try.underlying46 rfl (by kernel_rfl)) rfl ?_
        exact ⟨by rw [HVN.out, List.map_map, show (val (EEs es) ∘ toDT) = (fun d => val (EEs es) (toDT d)) from rfl, HCV.out]; rfl, (HF3.out.setCell (p := ⟨w.heap.size + 1 + 1, 0, none⟩) (by simp only; omega) _).setCell (p := ⟨w.heap.size + 1 + 1, 1, none⟩) (by simp only; omega) _⟩
end Go.Proofs.Ytoiffhoiklafhaa
