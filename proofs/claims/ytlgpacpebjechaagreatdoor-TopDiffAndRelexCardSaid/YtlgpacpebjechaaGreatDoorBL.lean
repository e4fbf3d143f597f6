/-
  Texts joined: Runs over given memories, taken into a greater memory; Runs that are taken from a list, as one more thing that the evaluator knows.
-/
import Derived.Test.YtlgpacpebjechaaGreatDoorBK
/-
  Runs over given memories, taken into a greater memory.
-/
namespace Go.Proofs.YtlgpacpebjechaaGreatDoor
open Go.RowKit Go.Deep Go.Sort
namespace Ev
theorem tr_put_at : ∀ (d : Nat) (t : Tr) (n m : Nat) (x : AV), n + 1 < 2 ^ d → Tr.get (Tr.put d t n x) m = if m = n then some x else Tr.get t m
  | 0, _, n, _, _, h => by simp at h
  | d + 1, t, n, m, x, h => by
    rw [Nat.pow_succ] at h
    rw [tr_put_succ]
    cases t with
    | nil =>
      dsimp only
      rw [tr_get_nil]
      by_cases h0 : n = 0
      · rw [if_pos h0, tr_get_node]
        by_cases hm : m = 0
        · rw [if_pos hm, if_pos (by omega)]
        · rw [if_neg hm, if_neg (show ¬ m = n by omega)]
          split <;> rfl
      · rw [if_neg h0]
        by_cases h1 : n % 2 = 1
        · rw [if_pos h1, tr_get_node]
          by_cases hm : m = 0
          · rw [if_pos hm, if_neg (by omega)]
          · rw [if_neg hm]
            by_cases h2 : m % 2 = 1
            · rw [if_pos h2, tr_put_at d _ _ _ _ (by omega), tr_get_nil]
              by_cases h3 : m = n
              · rw [if_pos h3, if_pos (by omega)]
              · rw [if_neg h3, if_neg (by omega)]
            · rw [if_neg h2, if_neg (by omega)]; rfl
        · rw [if_neg h1, tr_get_node]
          by_cases hm : m = 0
          · rw [if_pos hm, if_neg (by omega)]
          · rw [if_neg hm]
            by_cases h2 : m % 2 = 1
            · rw [if_pos h2, if_neg (by omega)]; rfl
            · rw [if_neg h2, tr_put_at d _ _ _ _ (by omega), tr_get_nil]
              by_cases h3 : m = n
              · rw [if_pos h3, if_pos (by omega)]
              · rw [if_neg h3, if_neg (by omega)]
    | node v l r =>
      dsimp only
      rw [tr_get_node v l r m]
      by_cases h0 : n = 0
      · rw [if_pos h0, tr_get_node]
        by_cases hm : m = 0
        · rw [if_pos hm, if_pos (by omega)]
        · rw [if_neg hm, if_neg (show ¬ m = n by omega), if_neg hm]
      · rw [if_neg h0]
        by_cases h1 : n % 2 = 1
        · rw [if_pos h1, tr_get_node]
          by_cases hm : m = 0
          · rw [if_pos hm, if_neg (by omega), if_pos hm]
          · rw [if_neg hm, if_neg hm]
            by_cases h2 : m % 2 = 1
            · rw [if_pos h2, if_pos h2, tr_put_at d _ _ _ _ (by omega)]
              by_cases h3 : m = n
              · rw [if_pos h3, if_pos (by omega)]
              · rw [if_neg h3, if_neg (by omega)]
            · rw [if_neg h2, if_neg h2, if_neg (by omega)]
        · rw [if_neg h1, tr_get_node]
          by_cases hm : m = 0
          · rw [if_pos hm, if_neg (by omega), if_pos hm]
          · rw [if_neg hm, if_neg hm]
            by_cases h2 : m % 2 = 1
            · rw [if_pos h2, if_pos h2, if_neg (by omega)]
            · rw [if_neg h2, if_neg h2, tr_put_at d _ _ _ _ (by omega)]
              by_cases h3 : m = n
              · rw [if_pos h3, if_pos (by omega)]
              · rw [if_neg h3, if_neg (by omega)]
theorem laid_cons (v : AV) (l : List AV) (i : Nat) (t : Tr) : laid (v :: l) i t = laid l (i + 1) (Tr.put 24 t i v) := rfl
theorem laid_keep : ∀ (l : List AV) (i : Nat) (t : Tr) (m : Nat), i + l.length + 1 < 2 ^ 24 → m < i → Tr.get (laid l i t) m = Tr.get t m
  | [], i, t, m, _, _ => rfl
  | v :: l, i, t, m, h, hm => by
    rw [List.length_cons] at h
    rw [laid_cons, laid_keep l (i + 1) _ m (by omega) (by omega), tr_put_at _ _ _ _ _ (by omega), if_neg (by omega)]
theorem laid_at : ∀ (l : List AV) (i : Nat) (t : Tr) (j : Nat) (u : AV), i + l.length + 1 < 2 ^ 24 → l[j]? = some u → Tr.get (laid l i t) (i + j) = some u
  | [], i, t, j, u, _, hj => by simp at hj
  | v :: l, i, t, j, u, h, hj => by
    rw [List.length_cons] at h
    rw [laid_cons]
    cases j with
    | zero =>
      rw [List.getElem?_cons_zero] at hj
      show Tr.get (laid l (i + 1) (Tr.put 24 t i v)) i = some u
      rw [laid_keep l (i + 1) _ i (by omega) (by omega), tr_put_at _ _ _ _ _ (by omega), if_pos rfl, hj]
    | succ j =>
      rw [List.getElem?_cons_succ] at hj
      rw [show i + (j + 1) = (i + 1) + j by omega]
      exact laid_at l (i + 1) _ j u (by omega) hj
/-- the rows, one by one -/
theorem HR.lit {σ : Sg} {N : Nat} {w : World} {l : List LR} (hr : HR σ N (litH l) w) (hs : ∀ p ∈ l, p.2.length ≤ 10000) {b : Pa} {p : LR} (h0 : b.num ≠ 0) (hp : l[b.num - 1]? = some p) :
    ∃ g q cs ty, σ.blk b = some (g, q) ∧ N ≤ g ∧ w.heap[g]? = some (.cells cs ty (0, 0)) ∧ (p.1 = 0 ∨ cs.size = q * p.1) ∧ p.2.length ≤ cs.size ∧ ∀ (j : Nat) (a : AV), p.2[j]? = some a → ∃ u, cs[j]? = some u ∧ R σ a u := by
  have hb := hr.blk b
  rw [litH_row h0 hp] at hb
  obtain ⟨g, q, cs, ty, h1, h2, h3, h4, h5⟩ := hb
  refine ⟨g, q, cs, ty, h1, h2, h3, h4, h5.le, fun j a hj => ?_⟩
  have hlen := hs p (List.mem_of_getElem? hp)
  have := laid_at p.2 0 .nil j a (by have : (2 : Nat) ^ 24 = 16777216 := by decide
                                     omega) hj
  rw [Nat.zero_add] at this
  exact (h5.get j a this).2
noncomputable def paN : Nat → Pa
  | 0 => .z
  | n + 1 => Pa.succ (paN n)
theorem num_paN : ∀ n, (paN n).num = n
  | 0 => rfl
  | n + 1 => by show (Pa.succ (paN n)).num = _; rw [num_succ, num_paN n]
noncomputable def renR (ρ : EN) (l : List LR) : List LR := List.rec (motive := fun _ => List LR) [] (fun p _ ih => (p.1, rens ρ p.2) :: ih) l
theorem renR_eq (ρ : EN) : ∀ l, renR ρ l = l.map (fun p => (p.1, rens ρ p.2))
  | [] => rfl
  | p :: l => by
    show (p.1, rens ρ p.2) :: renR ρ l = _
    rw [renR_eq ρ l]; rfl
section
variable {σ : Sg} {N : Nat} {h : Hp} {w : World} {f : FuncId} {largs : List AV} {l : List LR} {lv : AV} {news : List LR} {r : List Pa} {args : List AV}
theorem memo_calls (hC : Chunk f largs l lv news) (hm : Matched r h l) (ha : mVs (mkR r) largs args = true) {vs : List Value} (hr : HR σ N h w) (hR : Rs σ args vs) :
    Calls Tryz.prog f vs.toArray w (fun e w' => ∃ σ' u, Go σ N h w σ' (litFrom (renR (mkR (catP r (idsP news h.n))) news) h) w' ∧ R σ' (ren (mkR (catP r (idsP news h.n))) lv) u ∧ e = .returned u) := by
  rw [catP_eq, renR_eq]
  have hsub := hr.sub hm
  refine (hC.calls (comp σ r) N vs w hsub (mVs_R comp_map hR largs ha)).mono ?_
  rintro e w' ⟨σ1, u, hg, hu, rfl⟩
  have hnz : 1 ≤ h.n.num := by
    rcases Nat.eq_zero_or_pos h.n.num with h0 | h0
    · obtain ⟨tr, h1, _⟩ := hm.ro
      rw [hr.none_fresh (p := .z) (by rw [h0]; exact Nat.zero_le _)] at h1
      cases h1
    · exact h0
  have hlt : ∀ b, hget h b ≠ .none → b.num < h.n.num := fun b hb => by
    rcases Nat.lt_or_ge b.num h.n.num with h1 | h1
    · exact h1
    · exact absurd (hr.none_fresh h1) hb
  -- the blocks of the given memory
  have hold : ∀ b, b.num ≠ 0 → b.num ≤ l.length → ∃ b' y, at? r b = some b' ∧ b'.num < h.n.num ∧ ownB (hget h b') = true ∧ σ.blk b' = some y ∧ σ1.blk b = some y := fun b h0 h1 => by
    obtain ⟨b', p, tr, h2, _, _, h3, _⟩ := hm.at h0 h1
    have hb := hr.blk b'
    rw [h3] at hb
    obtain ⟨g, q, _, _, h4, _⟩ := hb
    exact ⟨b', (g, q), h2, hlt b' (by rw [h3]; exact fun e => nomatch e), by rw [h3]; rfl, h4, hg.le.2 _ _ (by rw [comp_at h2]; exact h4)⟩
  obtain ⟨σ', hσ'⟩ : ∃ σ' : Sg, σ' = ⟨fun b => if h.n.num ≤ b.num ∧ b.num < h.n.num + news.length then σ1.blk (paN (b.num - h.n.num + (l.length + 1))) else σ.blk b, σ.byte⟩ := ⟨_, rfl⟩
  have hin : ∀ b, b.num < h.n.num → σ'.blk b = σ.blk b := fun b hb => by
    rw [hσ']
    show (if _ then _ else _) = _
    rw [if_neg (by omega)]
  have hnew : ∀ b, h.n.num ≤ b.num → b.num < h.n.num + news.length → σ'.blk b = σ1.blk (paN (b.num - h.n.num + (l.length + 1))) := fun b h1 h2 => by
    rw [hσ']
    show (if _ then _ else _) = _
    rw [if_pos ⟨h1, h2⟩]
  have hz1 : σ1.blk .z = some (0, 0) := hg.hr.glob
  have hρ : ∀ b b' o, EN.get b (mkR (r ++ idsP news h.n)) = .ptr b' o → ∀ x, σ1.blk b = some x → σ'.blk b' = some x := fun b b' o e x hx => by
    have e := mkR_ptr e
    unfold at? at e
    by_cases h0 : b.num = 0
    · rw [if_pos h0] at e
      injection e with e
      subst e
      have : b = .z := num_inj (q := .z) h0
      subst this
      rw [hin .z (by show 0 < _; omega), hr.glob, ← hz1]
      exact hx
    · rw [if_neg h0] at e
      by_cases h1 : b.num ≤ l.length
      · rw [List.getElem?_append_left (by rw [hm.len]; omega)] at e
        obtain ⟨b2, y, h2, h3, _, h4, h5⟩ := hold b h0 h1
        unfold at? at h2
        rw [if_neg h0, e] at h2
        injection h2 with h2
        subst h2
        rw [hin _ h3, h4, ← h5]
        exact hx
      · rw [List.getElem?_append_right (by rw [hm.len]; omega)] at e
        have h2 := idsP_get news _ _ _ e
        have h3 := (List.getElem?_eq_some_iff.1 e).1
        rw [idsP_len] at h3
        rw [hm.len] at h2 h3
        rw [hnew b' (by omega) (by omega), show b'.num - h.n.num + (l.length + 1) = b.num by omega, num_inj (p := paN b.num) (q := b) (num_paN _)]
        exact hx
  have hget' := litFrom_get (news.map (fun p => (p.1, rens (mkR (r ++ idsP news h.n)) p.2))) h
  simp only [List.length_map] at hget'
  -- a new block
  have hnb : ∀ b, h.n.num ≤ b.num → b.num < h.n.num + news.length → ∃ p g q cs ty, news[b.num - h.n.num]? = some p ∧ σ'.blk b = some (g, q) ∧ σ1.blk (paN (b.num - h.n.num + (l.length + 1))) = some (g, q) ∧ N ≤ g ∧ w'.heap[g]? = some (.cells cs ty (0, 0)) ∧ (p.1 = 0 ∨ cs.size = q * p.1) ∧ RowOK σ' (rens (mkR (r ++ idsP news h.n)) p.2).length (laid (rens (mkR (r ++ idsP news h.n)) p.2) 0 .nil) cs ∧
      hget (litFrom (news.map (fun p => (p.1, rens (mkR (r ++ idsP news h.n)) p.2))) h) b = .row p.1 (rens (mkR (r ++ idsP news h.n)) p.2).length (laid (rens (mkR (r ++ idsP news h.n)) p.2) 0 .nil) ∧ w.heap.size ≤ g := fun b h1 h2 => by
    obtain ⟨p, hp⟩ : ∃ p, news[b.num - h.n.num]? = some p := ⟨_, List.getElem?_eq_getElem (by omega)⟩
    have hnum := num_paN (b.num - h.n.num + (l.length + 1))
    have hlp : (l ++ news)[(paN (b.num - h.n.num + (l.length + 1))).num - 1]? = some p := by
      rw [hnum, List.getElem?_append_right (by omega), show b.num - h.n.num + (l.length + 1) - 1 - l.length = b.num - h.n.num by omega]
      exact hp
    obtain ⟨g, q, cs, ty, k1, k2, k3, k4, k5, k6⟩ := hg.hr.lit hC.short (by omega) hlp
    refine ⟨p, g, q, cs, ty, hp, by rw [hnew b h1 h2]; exact k1, k1, k2, k3, k4, ?_, ?_, ?_⟩
    · refine laid_rows (by rw [rens_eq, List.length_map]; exact k5) (fun j a hj => ?_)
      rw [rens_eq, List.getElem?_map] at hj
      cases ha' : p.2[j]? with
      | none => rw [ha'] at hj; cases hj
      | some a0 =>
        rw [ha'] at hj
        have hj : some (ren (mkR (r ++ idsP news h.n)) a0) = some a := hj
        injection hj with hj
        subst hj
        obtain ⟨u, k7, k8⟩ := k6 j a0 ha'
        exact ⟨u, k7, ren_R hρ k8⟩
    · rw [hget' b, if_pos ⟨h1, h2⟩, List.getElem?_map, hp]
      rfl
    · rcases hg.img (paN (b.num - h.n.num + (l.length + 1))) g q (litH_own' (by omega) (by rw [hnum, List.length_append]; omega)) k1 with ⟨b0, q0, k7, k8⟩ | k7
      · exfalso
        obtain ⟨k9, k10⟩ := litH_own k7
        obtain ⟨b2, y, h3, h4, h5, h6, h7⟩ := hold b0 k9 k10
        rw [comp_at h3, h6] at k8
        injection k8 with k8
        subst k8
        have := hg.hr.inj b0 (paN (b.num - h.n.num + (l.length + 1))) g q0 q (litH_own' k9 (by rw [List.length_append]; omega)) (litH_own' (by omega) (by rw [hnum, List.length_append]; omega)) h7 k1
        have := congrArg Pa.num this
        omega
      · exact k7
  have hob : ∀ b, ownB (hget (litFrom (news.map (fun p => (p.1, rens (mkR (r ++ idsP news h.n)) p.2))) h) b) = true → (b.num < h.n.num ∧ ownB (hget h b) = true) ∨ (h.n.num ≤ b.num ∧ b.num < h.n.num + news.length) := fun b hb => by
    by_cases h1 : h.n.num ≤ b.num ∧ b.num < h.n.num + news.length
    · exact .inr h1
    · rw [hget' b, if_neg h1] at hb
      exact .inl ⟨hlt b (fun e => by rw [e] at hb; cases hb), hb⟩
  refine ⟨σ', u, ⟨⟨by rw [hσ'], fun b x hb => ?_⟩, ⟨hg.hr.base, ?_, hr.pos, fun b => ?_, fun b b' g q q' h1 h2 e1 e2 => ?_, fun p hp => ?_⟩, hg.os, hg.tape, hg.output, hg.size, fun g hg1 hn => hg.frame g hg1 (fun b q ho e => ?_), fun b g q ho e => ?_⟩, ren_R hρ hu, rfl⟩
  · rcases Nat.lt_or_ge b.num h.n.num with h1 | h1
    · rw [hin b h1]; exact hb
    · rw [hr.fresh b h1] at hb; cases hb
  · rw [hin .z (by show 0 < _; omega)]; exact hr.glob
  · by_cases h1 : h.n.num ≤ b.num ∧ b.num < h.n.num + news.length
    · obtain ⟨p, g, q, cs, ty, _, k1, _, k2, k3, k4, k5, k6, _⟩ := hnb b h1.1 h1.2
      rw [k6]
      exact ⟨g, q, cs, ty, k1, k2, k3, k4, k5⟩
    · rw [hget' b, if_neg h1]
      by_cases hnone : hget h b = .none
      · rw [hnone]; exact trivial
      · have hbn := hlt b hnone
        have hle : σ.le σ' := ⟨by rw [hσ'], fun b x hb => by
          rcases Nat.lt_or_ge b.num h.n.num with h1 | h1
          · rw [hin b h1]; exact hb
          · rw [hr.fresh b h1] at hb; cases hb⟩
        obtain ⟨g, q, hgb, hgl⟩ := (hr.blk b).lt hnone
        by_cases himg : ∃ b0 q0, ownB (hget (litH l) b0) = true ∧ (comp σ r).blk b0 = some (g, q0)
        · obtain ⟨b0, q0, k1, k2⟩ := himg
          obtain ⟨k3, k4⟩ := litH_own k1
          obtain ⟨b2, p, tr, k5, _, k6, k7, k8⟩ := hm.at k3 k4
          rw [comp_at k5] at k2
          -- b is that block
          have hown : ownB (hget h b) = true := by
            cases hx : hget h b with
            | none => exact absurd hx hnone
            | row _ _ _ => rfl
            | map _ _ => rfl
            | ro len c =>
              have h3 := hr.blk b
              rw [hx] at h3
              obtain ⟨g3, q3, _, _, _, h4, h5, _⟩ := h3
              rw [hgb] at h4; injection h4 with h4; injection h4 with h4 _; subst h4
              have h6 := hr.blk b2
              rw [k7] at h6
              obtain ⟨g4, q4, _, _, h7, h8, _⟩ := h6
              rw [k2] at h7; injection h7 with h7; injection h7 with h7 _; subst h7
              omega
          have hbb : b2 = b := hr.inj b2 b g q0 q (by rw [k7]; rfl) hown k2 hgb
          subst hbb
          rw [k7]
          have hb := hr.blk b2
          rw [k7] at hb
          obtain ⟨g5, q5, cs0, ty0, m1, m2, m3, m4, m5⟩ := hb
          obtain ⟨g6, q6, cs, ty, n1, n2, n3, n4, n5, n6⟩ := hg.hr.lit hC.short k3 (by rw [List.getElem?_append_left (by omega)]; exact k6)
          obtain ⟨b7, y7, p1, _, _, p2, p3⟩ := hold b0 k3 k4
          rw [k5] at p1; injection p1 with p1; subst p1
          rw [n1] at p3; injection p3 with p3; subst p3
          rw [m1] at p2; injection p2 with p2; injection p2 with p4 p5; subst p4; subst p5
          refine ⟨g5, q5, cs, ty, by rw [hin _ hbn]; exact m1, n2, n3, n4, n5, fun i v hi => ?_⟩
          have hil := (m5.get i v hi).1
          refine ⟨hil, ?_⟩
          obtain ⟨a, ha'⟩ : ∃ a, p.2[i]? = some a := ⟨_, List.getElem?_eq_getElem hil⟩
          obtain ⟨v', q1, q2⟩ := k8 i a ha'
          rw [hi] at q1; injection q1 with q1; subst q1
          obtain ⟨u', q3, q4⟩ := n6 i a ha'
          refine ⟨u', q3, ?_⟩
          rw [mV_ren _ _ q2]
          refine ren_R (σ := σ1) (fun c c' o e x hx => ?_) q4
          have e := mkR_ptr e
          refine hρ c c' 0 ?_ x hx
          rw [mkR_get]
          have : at? (r ++ idsP news h.n) c = some c' := by
            unfold at? at e ⊢
            by_cases h0 : c.num = 0
            · rw [if_pos h0] at e ⊢; exact e
            · rw [if_neg h0] at e ⊢
              rw [List.getElem?_append_left (List.getElem?_eq_some_iff.1 e).1]
              exact e
          rw [this]; rfl
        · refine (hr.blk b).keep hle (fun g' q' e => ?_)
          rw [hgb] at e; injection e with e; injection e with e1 e2; subst e1
          exact hg.frame g hgl (fun b0 q0 k1 k2 => himg ⟨b0, q0, k1, k2⟩)
  · rcases hob b h1 with ⟨h3, h4⟩ | ⟨h3, h4⟩ <;> rcases hob b' h2 with ⟨h5, h6⟩ | ⟨h5, h6⟩
    · rw [hin b h3] at e1
      rw [hin b' h5] at e2
      exact hr.inj b b' g q q' h4 h6 e1 e2
    · rw [hin b h3] at e1
      obtain ⟨p, g2, q2, cs, ty, _, k1, _, _, _, _, _, _, k2⟩ := hnb b' h5 h6
      rw [e2] at k1; injection k1 with k1; injection k1 with k1 _; subst k1
      obtain ⟨g3, q3, k3, k4⟩ := (hr.blk b).lt (fun e => by rw [e] at h4; cases h4)
      rw [e1] at k3; injection k3 with k3; injection k3 with k3 _; subst k3
      omega
    · rw [hin b' h5] at e2
      obtain ⟨p, g2, q2, cs, ty, _, k1, _, _, _, _, _, _, k2⟩ := hnb b h3 h4
      rw [e1] at k1; injection k1 with k1; injection k1 with k1 _; subst k1
      obtain ⟨g3, q3, k3, k4⟩ := (hr.blk b').lt (fun e => by rw [e] at h6; cases h6)
      rw [e2] at k3; injection k3 with k3; injection k3 with k3 _; subst k3
      omega
    · rw [hnew b h3 h4] at e1
      rw [hnew b' h5 h6] at e2
      have n1 := num_paN (b.num - h.n.num + (l.length + 1))
      have n2 := num_paN (b'.num - h.n.num + (l.length + 1))
      have := congrArg Pa.num (hg.hr.inj _ _ g q q' (litH_own' (by omega) (by rw [n1, List.length_append]; omega)) (litH_own' (by omega) (by rw [n2, List.length_append]; omega)) e1 e2)
      exact num_inj (by omega)
  · have hp : (litFrom (news.map (fun p => (p.1, rens (mkR (r ++ idsP news h.n)) p.2))) h).n.num ≤ p.num := hp
    rw [litFrom_n, List.length_map] at hp
    rw [hσ']
    show (if _ then _ else _) = _
    rw [if_neg (by omega)]
    exact hr.fresh p (by omega)
  · obtain ⟨k1, k2⟩ := litH_own ho
    obtain ⟨b2, y, h3, h4, h5, h6, h7⟩ := hold b k1 k2
    rw [comp_at h3] at e
    exact hn b2 q h5 e
  · rcases hob b ho with ⟨h3, h4⟩ | ⟨h3, h4⟩
    · rw [hin b h3] at e
      exact .inl ⟨b, q, h4, e⟩
    · obtain ⟨p, g2, q2, cs, ty, _, k1, _, _, _, _, _, _, k2⟩ := hnb b h3 h4
      rw [e] at k1; injection k1 with k1; injection k1 with k1 _; subst k1
      exact .inr k2
end
end Ev
end Go.Proofs.YtlgpacpebjechaaGreatDoor
/-
  Runs that are taken from a list, as one more thing that the evaluator knows.
-/
namespace Go.Proofs.YtlgpacpebjechaaGreatDoor
open Go.RowKit Go.Deep Go.Sort
namespace Ev
noncomputable def lenP (l : List LR) : Nat := List.rec (motive := fun _ => Nat) 0 (fun _ _ ih => Nat.succ ih) l
theorem lenP_eq : ∀ l : List LR, lenP l = l.length
  | [] => rfl
  | _ :: l => by show Nat.succ (lenP l) = _; rw [lenP_eq l]; rfl
/-- a run: the arguments, the memory, where it lies now, what comes back, the new rows -/
abbrev ME := List AV × List LR × List Pa × AV × List LR
noncomputable def memo1 (E : ME) (args : List AV) (h : Hp) (k : K) (nx : Res) : Res :=
  iff (iff (matchAll E.2.2.1 h E.2.1) false (mVs (mkR E.2.2.1) E.1 args)) nx (k (ren (mkR (catP E.2.2.1 (idsP E.2.2.2.2 h.n))) E.2.2.2.1) (litFrom (renR (mkR (catP E.2.2.1 (idsP E.2.2.2.2 h.n))) E.2.2.2.2) h))
noncomputable def iMemo (Es : List ME) : CF → List AV → Hp → K → Res := fun _ args h k => List.rec (motive := fun _ => Res) .no (fun E _ ih => memo1 E args h k ih) Es
theorem iMemo_ok {f : FuncId} : ∀ (Es : List ME), (∀ E ∈ Es, Chunk f E.1 E.2.1 E.2.2.2.1 E.2.2.2.2) → IntrOK Tryz.prog f (iMemo Es)
  | [], _ => fun cf hcf args h k hn => absurd rfl hn
  | E :: Es, hE => by
    intro cf hcf args h k hn
    have he : iMemo (E :: Es) cf args h k = memo1 E args h k (iMemo Es cf args h k) := rfl
    rw [he] at hn ⊢
    unfold memo1 at hn ⊢
    cases hc : iff (matchAll E.2.2.1 h E.2.1) false (mVs (mkR E.2.2.1) E.1 args) with
    | false =>
      rw [hc] at hn
      exact iMemo_ok Es (fun E' hE' => hE E' (List.mem_cons_of_mem _ hE')) cf hcf args h k hn
    | true =>
      rw [iff_and, Bool.and_eq_true] at hc
      have hC := hE E List.mem_cons_self
      refine ⟨hC.ex, fun σ N vs w hr hR => (memo_calls hC (matchAll_spec hc.1) hc.2 hr hR).mono ?_⟩
      rintro e w' ⟨σ', u, hg, hu, rfl⟩
      exact ⟨_, _, σ', u, rfl, hg, hu, rfl⟩
noncomputable def intr2 (f : FuncId) (g : CF → List AV → Hp → K → Res) (old : FuncId → Option (CF → List AV → Hp → K → Res)) : FuncId → Option (CF → List AV → Hp → K → Res) := fun f' => iff (Nat.beq f' f) (old f') (some g)
theorem intr2_ok {f : FuncId} {g : CF → List AV → Hp → K → Res} {old : FuncId → Option (CF → List AV → Hp → K → Res)} (hg : IntrOK Tryz.prog f g) (ho : ∀ f' g', old f' = some g' → IntrOK Tryz.prog f' g') : ∀ f' g', intr2 f g old f' = some g' → IntrOK Tryz.prog f' g' := by
  intro f' g' h
  unfold intr2 at h
  rw [beqN] at h
  by_cases e : f' = f
  · subst e
    rw [decide_eq_true rfl] at h
    have h : some g = some g' := h
    injection h with h
    subst h
    exact hg
  · rw [decide_eq_false e] at h
    exact ho f' g' h
theorem intr_sound : ∀ f g, intr f = some g → IntrOK Tryz.prog f g := intr_ok iWide_ok iSorted_ok
theorem callN_sound {it : FuncId → Option (CF → List AV → Hp → K → Res)} (hi : ∀ f g, it f = some g → IntrOK Tryz.prog f g) (n : Nat) : CFOK Tryz.prog (callN fns it n) :=
  callN_ok idle (fns_ok ok31 ok66 ok70 ok91 ok107) hi n
/-! ### from one given memory to another -/
/-- what is left as it was -/
structure Fr (σ : Sg) (h : Hp) (w : World) (σ' : Sg) (h' : Hp) (w' : World) : Prop where
  os : w'.os = w.os
  tape : w'.tape = w.tape
  output : w'.output = w.output
  size : w.heap.size ≤ w'.heap.size
  frame : ∀ g, g < w.heap.size → (∀ b q, ownB (hget h b) = true → σ.blk b ≠ some (g, q)) → w'.heap[g]? = w.heap[g]?
  img : ∀ b g q, ownB (hget h' b) = true → σ'.blk b = some (g, q) → (∃ b0 q0, ownB (hget h b0) = true ∧ σ.blk b0 = some (g, q0)) ∨ w.heap.size ≤ g
/-- the first m rows stay -/
structure Trans (m : Nat) (f : FuncId) (largs : List AV) (l : List LR) (lv : AV) (l' : List LR) : Prop where
  short : ∀ p ∈ l', p.2.length ≤ 10000
  ex : ∃ fn c, Tryz.prog.funcs[f]? = some fn ∧ (fn.name == "runtime.NumGoroutine") = false ∧ fn.body = some c
  calls : ∀ (σ : Sg) (N : Nat) (vs : List Value) (w : World), HR σ N (litH l) w → Rs σ largs vs → Calls Tryz.prog f vs.toArray w (fun e w' => ∃ σ' u, HR σ' N (litH l') w' ∧ Fr σ (litH l) w σ' (litH l') w' ∧ (∀ b, b.num ≤ m → σ'.blk b = σ.blk b) ∧ R σ' lv u ∧ e = .returned u)
theorem HR.own_ge {σ : Sg} {N : Nat} {h : Hp} {w : World} (hr : HR σ N h w) {b : Pa} {g q : Nat} (ho : ownB (hget h b) = true) (e : σ.blk b = some (g, q)) : N ≤ g ∧ g < w.heap.size := by
  have hb := hr.blk b
  cases hx : hget h b with
  | none => rw [hx] at ho; cases ho
  | ro _ _ => rw [hx] at ho; cases ho
  | row _ _ _ => rw [hx] at hb; obtain ⟨g', _, _, _, h1, h2, h3, _⟩ := hb; rw [e] at h1; injection h1 with h1; injection h1 with h1 _; subst h1; exact ⟨h2, (Array.getElem?_eq_some_iff.1 h3).1⟩
  | map _ _ => rw [hx] at hb; obtain ⟨g', _, _, h1, h2, h3, _⟩ := hb; rw [e] at h1; injection h1 with h1; injection h1 with h1 _; subst h1; exact ⟨h2, (Array.getElem?_eq_some_iff.1 h3).1⟩
theorem Fr.below {σ σ' : Sg} {N : Nat} {h h' : Hp} {w w' : World} (hr : HR σ N h w) (hg : Fr σ h w σ' h' w') : Below N w w' :=
  ⟨hg.os, hg.tape, hg.output, hg.size, fun k hk => hg.frame k (Nat.lt_of_lt_of_le hk hr.base) (fun b q ho e => by have := (hr.own_ge ho e).1; omega)⟩
noncomputable def idsB (m : Nat) : Pa → List Pa → Bool := Nat.rec (motive := fun _ => Pa → List Pa → Bool) (fun _ _ => true) (fun _ ih p r => List.rec (motive := fun _ => Bool) false (fun b r' _ => iff (pbeq p b) false (ih (Pa.succ p) r')) r) m
theorem idsB_spec : ∀ (m : Nat) (p : Pa) (r : List Pa), idsB m p r = true → ∀ i, i < m → ∃ b, r[i]? = some b ∧ b.num = p.num + i
  | 0, _, _, _, i, hi => by omega
  | m + 1, p, [], h, i, hi => by cases h
  | m + 1, p, b :: r, h, i, hi => by
    have h : iff (pbeq p b) false (idsB m (Pa.succ p) r) = true := h
    rw [iff_and, Bool.and_eq_true] at h
    cases i with
    | zero => exact ⟨b, rfl, by rw [pbeq_eq h.1]; rfl⟩
    | succ i =>
      obtain ⟨c, h1, h2⟩ := idsB_spec m _ r h.2 i (by omega)
      exact ⟨c, by rw [List.getElem?_cons_succ]; exact h1, by rw [h2, num_succ]; omega⟩
noncomputable def trK (lv : AV) (l' : List LR) (r : List Pa) : K := fun v h => iff (iff (matchAll r h l') false (mV (mkR r) lv v)) .no (.normal .nil h)
theorem trans_of {cf : CF} (hcf : CFOK Tryz.prog cf) {m : Nat} {f : FuncId} {largs : List AV} {l : List LR} {lv : AV} {l' : List LR} (r : List Pa) (hs : iff (idsB m (.l .z) r) false (iff (Nat.ble m (lenP l)) false (shortB l')) = true) (he : isN (cf f largs (litH l) (trK lv l' r)) = true) : Trans m f largs l lv l' := by
  rw [iff_and, iff_and, Bool.and_eq_true, Bool.and_eq_true, bleN, decide_eq_true_eq, lenP_eq] at hs
  have hne : cf f largs (litH l) (trK lv l' r) ≠ .no := fun e => by rw [e] at he; cases he
  obtain ⟨h1, h2⟩ := hcf f largs (litH l) (trK lv l' r) hne
  refine ⟨shortB_spec hs.2.2, h1, fun σ N vs w hr hR => (h2 σ N vs w hr hR).mono ?_⟩
  rintro e w' ⟨v, hf, σ1, u, e1, hg, hu, rfl⟩
  rw [e1] at hne
  have hc := iff_ne hne
  rw [iff_and, Bool.and_eq_true] at hc
  have hm := matchAll_spec hc.1
  refine ⟨comp σ1 r, u, hg.hr.sub hm, ⟨hg.os, hg.tape, hg.output, hg.size, hg.frame, fun b g q ho e2 => ?_⟩, fun b hb => ?_, mV_R comp_map hu lv hc.2, rfl⟩
  · obtain ⟨h0, h3⟩ := litH_own ho
    obtain ⟨b', p, tr, h4, _, _, h5, _⟩ := hm.at h0 h3
    rw [comp_at h4] at e2
    exact hg.img b' g q (by rw [h5]; rfl) e2
  · by_cases h0 : b.num = 0
    · have : b = .z := num_inj (q := .z) h0
      subst this
      rw [comp_at (at_z r), hr.glob]
      exact hg.hr.glob
    · obtain ⟨c, h3, h4⟩ := idsB_spec m _ r hs.1 (b.num - 1) (by omega)
      have h5 : (Pa.l .z).num = 1 := rfl
      have : c = b := num_inj (by omega)
      subst this
      rw [comp_at (b' := c) (by unfold at?; rw [if_neg h0]; exact h3)]
      have h6 := hr.blk c
      obtain ⟨p, hp⟩ : ∃ p, l[c.num - 1]? = some p := ⟨_, List.getElem?_eq_getElem (by have := hs.2.1; omega)⟩
      rw [litH_row h0 hp] at h6
      obtain ⟨g, q, _, _, h7, _⟩ := h6
      rw [h7]
      exact hg.le.2 _ _ h7
theorem Chunk.trans {f : FuncId} {largs : List AV} {l : List LR} {lv : AV} {news : List LR} (h : Chunk f largs l lv news) : Trans l.length f largs l lv (l ++ news) :=
  ⟨h.short, h.ex, fun σ N vs w hr hR => (h.calls σ N vs w hr hR).mono (by
    rintro e w' ⟨σ', u, hg, hu, rfl⟩
    refine ⟨σ', u, hg.hr, ⟨hg.os, hg.tape, hg.output, hg.size, hg.frame, hg.img⟩, fun b hb => ?_, hu, rfl⟩
    by_cases h0 : b.num = 0
    · have : b = .z := num_inj (q := .z) h0
      subst this
      rw [hr.glob]; exact hg.hr.glob
    · obtain ⟨p, hp⟩ : ∃ p, l[b.num - 1]? = some p := ⟨_, List.getElem?_eq_getElem (by omega)⟩
      have h6 := hr.blk b
      rw [litH_row h0 hp] at h6
      obtain ⟨g, q, _, _, h7, _⟩ := h6
      rw [h7]
      exact hg.le.2 _ _ h7)⟩
/-! ### short names -/
noncomputable def qP (n : Nat) : Pa := paB 20 n
noncomputable def cI (n : Nat) : AV := .int .i64 (.ofNat n)
noncomputable def cN (n : Nat) : AV := .int .i64 (.negSucc n)
noncomputable def cU (n : Nat) : AV := .int .u64 (.ofNat n)
noncomputable def cY (n : Nat) : AV := .int .u8 (.ofNat n)
noncomputable def cT : AV := .bool true
noncomputable def cF : AV := .bool false
noncomputable def cS (b o n k : Nat) : AV := .slice (qP b) o n k
end Ev
end Go.Proofs.YtlgpacpebjechaaGreatDoor
