/-
  Texts joined: The program's follow: the derivation by the chosen hyperedges; The program's Best.
-/
import Derived.Test.YtajbmdjlfniofaaDoorBD
import Derived.Test.YtajbmdjlfniofaaDoorBE
import Derived.Test.YtajbmdjlfniofaaDoorBB
import Derived.Test.YtajbmdjlfniofaaDoorBF
import Derived.Test.YtajbmdjlfniofaaDoorBG
/-
  The program's follow: the derivation by the chosen hyperedges.
-/
namespace Go.Proofs.YtajbmdjlfniofaaDoor
open Go.RowKit Go.Deep PK
attribute [local go_sem] Oper.lit Oper.litS fut_fut fut_drew World.cell?_alloc_some
/-- the tree lies in memory, in blocks of a kind -/
inductive RdP (ok : Nat → Prop) (w : World) : DI → Prop
 | mk {e : Int} {A : Option Addr} {c : Nat} {k : List DI} (hS : RdS w A 2 encD k) (hl : k.length ≤ maxLen) (hb : ∀ b o, A = some ⟨b, o, none⟩ → k ≠ [] → ok b) (hk : ∀ d ∈ k, RdP ok w d) : RdP ok w (.node e A c k)
theorem RdP.parts {ok : Nat → Prop} {w : World} {e : Int} {A : Option Addr} {c : Nat} {k : List DI} (h : RdP ok w (.node e A c k)) : RdS w A 2 encD k ∧ k.length ≤ maxLen ∧ (∀ b o, A = some ⟨b, o, none⟩ → k ≠ [] → ok b) ∧ ∀ d ∈ k, RdP ok w d := by
 cases h with
 | mk hS hl hb hk => exact ⟨hS, hl, hb, hk⟩
theorem RdP.rd {ok : Nat → Prop} {w : World} {d : DI} (h : RdP ok w d) : RdD w d := by
 induction d using DI.ind with
 | h e A c k ih =>
  obtain ⟨h1, h2, _, h3⟩ := h.parts
  exact .mk h1 h2 (fun x hx => ih x hx (h3 x hx))
theorem RdP.keep {ok ok' : Nat → Prop} {w w' : World} {d : DI} (h : RdP ok w d) (hk : ∀ b, ok b → b < w.heap.size → w'.heap[b]? = w.heap[b]? ∧ ok' b) : RdP ok' w' d := by
 induction d using DI.ind with
 | h e A c k ih =>
  obtain ⟨h1, h2, h3, h4⟩ := h.parts
  refine .mk (fun i a hi => ?_) h2 (fun b o hA hne => ?_) (fun x hx => ih x hx (h4 x hx))
  ·
   obtain ⟨b, o, e, hc⟩ := h1 i a hi
   have hne : k ≠ [] := by rintro rfl; simp at hi
   refine ⟨b, o, e, fun j u hj hu => ?_⟩
   have h5 := hc j u hj hu
   have h6 := World.block_lt_of_cell? w _ h5
   exact (World.cell?_of_block (hk b (h3 b o e hne) h6).1).trans h5
  ·
   obtain ⟨x, l, rfl⟩ := List.exists_cons_of_ne_nil hne
   obtain ⟨b', o', e, hc⟩ := h1 0 x rfl
   rw [hA] at e
   obtain ⟨rfl, rfl, _⟩ := (by simpa using e : b = b' ∧ o = o' ∧ True)
   have h6 := World.block_lt_of_cell? w _ (hc 0 _ (by decide) rfl)
   exact (hk b (h3 b o hA (by simp)) h6).2
theorem own_keep {w w' : World} {B sz n : Nat} {E : TypeId} {v : Value} {xs : List Value} (h : w.ownsRow B E sz v n xs) (hf : ∀ g, v.ownBlock = some g → w'.heap[g]? = w.heap[g]?) : w'.ownsRow B E sz v n xs := by
 refine ⟨h.1, ?_⟩
 rcases h.2 with hn | ⟨g, cap, cur, rfl, hb, hg, rest⟩
 ·
  exact .inl hn
 ·
  exact .inr ⟨g, cap, cur, rfl, hb, (hf g rfl).trans hg, rest⟩
/-- what Best answers -/
def BestR (N : Int) (es : List EI) (V : Nat → VV) (root : Int) (d : DI) (e : Int) : Prop :=
 (validB N es = false ∧ e = 1 ∧ d = .node 0 none 0 []) ∨
 (validB N es = true ∧ ¬ (0 ≤ root ∧ root < N) ∧ e = 2 ∧ d = .node 0 none 0 []) ∨
 (validB N es = true ∧ (0 ≤ root ∧ root < N) ∧ INF ≤ (V root.toNat).c ∧ e = 6 ∧ d = .node 0 none 0 []) ∨
 (validB N es = true ∧ (0 ≤ root ∧ root < N) ∧ (V root.toNat).c < INF ∧ e = 0 ∧ Fol V (EEs es) root.toNat (toDT d))
theorem rdP_leaf {ok : Nat → Prop} {w : World} : RdP ok w (.node 0 none 0 []) := .mk RdS.nil (by decide) (fun b o h => by cases h) (fun d h => by simp at h)
theorem smallB_parts {N : Int} {es : List EI} (h : smallB N es = true) : N ≤ 30 ∧ es.length ≤ 60 ∧ (∀ e ∈ es, e.t.length ≤ 4) ∧ validB N es = true := by
 simp only [smallB, Bool.and_eq_true, decide_eq_true_eq, List.all_eq_true] at h
 exact ⟨h.1.1.1, h.1.1.2, h.1.2, h.2⟩
theorem info_dd : (Tryd.prog.info? 35).map (fun i => (i.zero, i.size, i.bytes)) = some (some (.agg #[.int .i64 0, .slice none 0 0]), 2, 32) := by kernel_rfl
theorem encD_len (d : DI) : (encD d).length = 2 := rfl
theorem fol_res : Tryd.f30.results = #[.cell 6 35] := by kernel_rfl
set_option maxHeartbeats 6400000 in
theorem follow_any (N : Nat) (A : Option Addr) (n c : Nat) (es : List EI) (hl : es.length = n) (hn : n ≤ maxLen) (_hN : N ≤ 1048576) (hvd : validB N es = true) (htl : ∀ e ∈ es, e.t.length ≤ 1000000) (V : Nat → VV) (hS : Sol (EEs es) V) (eb : Nat) (M : Nat) : ∀ (v : Nat) w, v < N → (V v).c < INF → (V v).s < INF → (V v).s.toNat < M → RdE w A es → RowI w eb N (chL V (EEs es) 0) →
  Calls Tryd.prog 30 #[hv N A n c, .slice (some ⟨eb, 0, none⟩) N N, .int .i64 v] w fun r w' => (∃ d, r = .returned (dv d) ∧ Fol V (EEs es) v (toDT d) ∧ RdP (fun b => w.heap.size ≤ b) w' d) ∧ Below w.heap.size w w' := by
 have HL := Lib.hid hl
 have HVD := Lib.hid hvd
 have HTL := Lib.hid htl
 have HSO := Lib.hid hS
 have hn63 : n ≤ 9223372036854775807 := hn
 clear hl hvd hn htl hS
 induction M with
 | zero => intro v w _ _ _ h; omega
 | succ M ih =>
  intro v w hvN hvf hvs hvM hR hRI
  obtain ⟨q, E, hch, hqE, hEh, hev, _⟩ := chosen_fin (EEs_ok HVD.out) HSO.out hvf
  have HED := Lib.hid (edge_nat hqE)
  rw [List.getElem?_map] at hqE
  obtain ⟨x, hx, rfl⟩ := Option.map_eq_some_iff.1 hqE
  have hq : q < n := by
   have := (List.getElem?_eq_some_iff.1 hx).1
   rw [HL.out] at this; exact this
  obtain ⟨b, o, rfl, hc⟩ := hR.1 q x hx
  obtain ⟨ht, htl⟩ := hR.2 x (List.mem_of_getElem? hx)
  have hxm := List.mem_of_getElem? hx
  have hxt : x.t.length ≤ 1000000 := HTL.out x hxm
  have hO := okE_parts ((validB_parts HVD.out).2.2 x hxm)
  have HT := Lib.hid ht
  have HR := Lib.hid hR
  have HRI := Lib.hid hRI
  have HCH := Lib.hid hch
  have hcc := hRI.cell hvN
  rw [hch] at hcc
  have HIH := Lib.hid (fun (t : Int) (ht : t ∈ x.t) => (show 0 ≤ t ∧ t < N ∧ t.toNat < N ∧ ∀ w', RdE w' (some ⟨b, o, none⟩) es → RowI w' eb N (chL V (EEs es) 0) → Calls Tryd.prog 30 #[hv N (some ⟨b, o, none⟩) n c, .slice (some ⟨eb, 0, none⟩) N N, .int .i64 t] w' fun r w'' => (∃ d, r = .returned (dv d) ∧ Fol V (EEs es) t.toNat (toDT d) ∧ RdP (fun b => w'.heap.size ≤ b) w'' d) ∧ Below w'.heap.size w' w'' from by
   have h5 := hO.2.2.2.2 t ht
   have hmm : t.toNat ∈ (toEE x).t := List.mem_map.2 ⟨t, ht, rfl⟩
   have hee : toEE x ∈ EEs es := List.mem_map.2 ⟨x, hxm, rfl⟩
   have h6 := tails_fin (EEs_ok HVD.out) HSO.out hee hvf hev hmm
   have h7 := tails_size (EEs_ok HVD.out) HSO.out hee hvf hvs hev hmm
   have h8 := (HSO.out.ok t.toNat).2.2.1
   refine ⟨h5.1, h5.2, by omega, fun w' hR' hI' => ?_⟩
   have := ih t.toNat w' (by omega) h6 (by omega) (by omega) hR' hI'
   rwa [Int.toNat_of_nonneg h5.1] at this))
  obtain ⟨m, hm⟩ : ∃ m, x.t.length = m := ⟨_, rfl⟩
  have hm6 : m ≤ 1000000 := by omega
  have HM := Lib.hid hm
  have c1 := hc 1 _ (by decide) rfl
  obtain ⟨xh, xt, xc, xl0, xl1, xA, xk⟩ := x
  simp only at c1 HT HIH HM hm HED
  rw [hm] at c1
  clear ih hR hRI hx hev hEh hqE hxm htl ht hO hxt hc hm hch hvf hvs hvM
  obtain ⟨wb, hwb⟩ : ∃ wb, wb = (((w.alloc (.cells #[.int .i64 N, .slice (some ⟨b, o, none⟩) n c] 24)).alloc (.cells #[.int .i64 0, .slice none 0 0] 35)).alloc (.cells #[.int .i64 q, .slice none 0 0] 35)) := ⟨_, rfl⟩
  have HF := Lib.hid (show Fut w wb from by rw [hwb]; exact (((Fut.refl w).alloc _).alloc _).alloc _)
  have HSZ := Lib.hid (show wb.heap.size = w.heap.size + 3 from by rw [hwb]; simp only [World.size_alloc])
  have Q0 := Lib.hid (show wb.cell? ⟨w.heap.size, 0, none⟩ = some (.int .i64 N) from by rw [hwb]; (repeat (first | exact (cell_al_new _ _ _ _ _ _ (by first | rfl | (simp only [World.size_alloc]))).trans rfl | refine (cell_al_old _ _ _ (by first | omega | (simp only [World.size_alloc]; omega))).trans ?_)))
  have Q1 := Lib.hid (show wb.cell? ⟨w.heap.size, 1, none⟩ = some (.slice (some ⟨b, o, none⟩) n c) from by rw [hwb]; (repeat (first | exact (cell_al_new _ _ _ _ _ _ (by first | rfl | (simp only [World.size_alloc]))).trans rfl | refine (cell_al_old _ _ _ (by first | omega | (simp only [World.size_alloc]; omega))).trans ?_)))
  have HZ := Lib.hid (show Blk wb (w.heap.size + 1) 35 #[.int .i64 0, .slice none 0 0] from by rw [hwb]; exact Blk.alloc (show Blk _ _ _ _ from heap_new' _ _ _ (by simp only [World.size_alloc])) _)
  have HD := Lib.hid (show Blk wb (w.heap.size + 1 + 1) 35 #[.int .i64 q, .slice none 0 0] from by rw [hwb]; exact heap_new' _ _ _ (by simp only [World.size_alloc]))
  replace c1 := HF.out.cell c1
  rw [hwb] at c1
  go_enter Tryd.func30, Tryd.ntmps30
  go_wp2_with fail
  rw [← hwb]
  clear hwb c1 hcc
  go_loopw [23] (fun i wr => ∃ (j : Nat) (ks : List DI) (XA : Option Addr) (Xc : Nat), j ≤ m ∧ i = .int .i64 j ∧ Hid (ks.length = j) ∧ Hid (∀ (i : Nat) d t, ks[i]? = some d → xt[i]? = some t → Fol V (EEs es) t.toNat (toDT d))
   ∧ Hid (wr.ownsRow wb.heap.size 35 2 (.slice XA j Xc) j (ks.flatMap encD)) ∧ Blk wr (w.heap.size + 1 + 1) 35 #[.int .i64 q, .slice XA j Xc]
   ∧ Hid (∀ d ∈ ks, RdP (fun b => wb.heap.size ≤ b ∧ (Value.slice XA j Xc).ownBlock ≠ some b) wr d) ∧ FutS (fun k => k == w.heap.size + 1 + 1) wb wr) (fun i _ => m - (intOf i).toNat)
  case atStart => exact ⟨0, [], none, 0, Nat.zero_le _, rfl, Lib.hid rfl, Lib.hid (fun i d t h => by simp at h), Lib.hid (World.ownsRow_nil _ _ _ _), HD.out, Lib.hid (fun d h => by simp at h), FutS.refl _⟩
  case round =>
   obtain ⟨j, ks, XA, Xc, hj, rfl, HKL, HFO, HO, hB, HRP, hF⟩ := hrel
   have HF2 := Lib.hid hF
   have HB := Lib.hid hB
   have HFW := Lib.hid (hF.fut HF.out (fun k hk => by
    have := beq_iff_eq.1 hk
    omega))
   have q0 := hF.cell Q0.out (beq_eq_false_iff_ne.2 (by simp only; omega))
   have q1 := hF.cell Q1.out (beq_eq_false_iff_ne.2 (by simp only; omega))
   have qe := hB.cell (i := 0) rfl
   have qk := hB.cell (i := 1) rfl
   by_cases hlt : j < m
   ·
    obtain ⟨t, hty⟩ := get_lt HM.out hlt
    obtain ⟨b2, o2, rfl, hd⟩ := HT.out j t hty
    have d0 := HFW.out.cell hd
    have HTY := Lib.hid hty
    obtain ⟨t1, t2, t3, t4⟩ := HIH.out t (List.mem_of_getElem? hty)
    have HC := Lib.hid (fun w' (hf : Fut wr w') => t4 w' ((HR.out.fut HFW.out).fut hf) ((HRI.out.fut HFW.out).fut hf))
    replace q0 := cell_fut q0
    replace q1 := cell_fut q1
    replace qk := cell_fut qk
    skip
    clear hty hd hF t4 qe hB
    go_wp2_with fail
    refine wp_region_M o_derivation_follow_5 (by kernel_rfl) (by kernel_rfl) (by intro c a d v w h; cases d <;> exact h) ?_; unfold o_derivation_follow_5
    iterate 5 (refine wpF_h rfl rfl (fun K hK => ?_); go_simp; refine hK _ _ ?_; clear hK K)
    refine wpF_o rfl rfl (fun K hK => ?_)
    go_simp
    go_at_call 30
    refine (HC.out _ (Fut.refl wr).drew).mono ?_
    rintro r w1 ⟨⟨d, rfl, hfd, hrd⟩, hb⟩
    have f2 : Fut wr w1 := (Fut.refl wr).drew.trans hb
    have HFD := Lib.hid hfd
    have HRD := Lib.hid hrd
    refine hK _ _ (.inr hb) ?_
    have HB1 := Lib.hid (HB.out.fut f2)
    have HO1 := Lib.hid (World.ownsRow.alloc (own_fut HO.out f2) (.cells #[.int .i64 d.e, .slice d.A d.k.length d.c] 35))
    have HW1 := Lib.hid f2
    clear hb f2 HC hK K hfd hrd
    refine wpF_o rfl rfl (fun K hK => ?_)
    go_simp
    refine hK _ _ (.inr ((Fut.refl _).alloc _)) ?_
    clear hK K
    refine wpF_ol rfl (by kernel_rfl) rfl (fun K hK => ?_)
    refine wp_push 28 35 2 32 _ Tryd.underlying28 info_dd rfl (by decide) (by decide) (.tmp 28) (.tmp 33) rfl wb.heap.size (.slice XA j Xc) j _ rfl HO1.out w1.heap.size [.int .i64 d.e, .slice d.A d.k.length d.c] rfl (heap_new' _ _ _ rfl) rfl (by simp [Value.oneCell']) (by omega) (((HF2.out.then HW1.out).alloc _).size) ?_
    intro g cap w' h1 h2 h3
    refine hK _ _ ?_
    clear hK K
    have hgo : ∀ k, (Value.slice XA j Xc).ownBlock = some k → wb.heap.size ≤ k ∧ k < wr.heap.size := fun k hk => World.ownsRow.lt HO.out k hk
    have hB2 : Blk w' (w.heap.size + 1 + 1) 35 #[.int .i64 q, .slice XA j Xc] := (HB1.out.alloc _).grown h2 (fun e => by
     have := hgo _ e.symm
     have := HSZ.out
     omega)
    have q8 := hB2.cell (i := 1) rfl
    have q9 := hB2.fz 1
    have HB2 := Lib.hid hB2
    have HH1 := Lib.hid h1
    have HH2 := Lib.hid h2
    have HH3 := Lib.hid h3
    have HGO := Lib.hid hgo
    clear hB2 h1 h2 h3 hgo
    (refine wpF_h rfl rfl (fun K hK => ?_); go_simp; refine hK _ _ ?_; clear hK K)
    refine wpF_o rfl rfl (fun K hK => ?_)
    go_simp
    refine hK _ _ (.inl (by kernel_rfl)) ?_
    clear hK K
    refine wpF_nil ?_
    go_wp2_with fail
    have hgb : w.heap.size + 3 ≤ g ∧ g < w'.heap.size := by
     obtain ⟨g', cap', e9, h8, _⟩ := HH1.out.form (by omega)
     injection e9 with e9
     injection e9 with e9
     injection e9 with e9
     subst e9
     have := HSZ.out
     exact ⟨by omega, (World.ownsRow.lt HH1.out g rfl).2⟩
    refine ⟨⟨j + 1, ks ++ [d], some ⟨g, 0, none⟩, cap, by omega, by go_num, Lib.hid (by rw [List.length_append, HKL.out]; rfl), Lib.hid ?_, Lib.hid ?_, ?_, Lib.hid ?_, ?_⟩, by simp [intOf]; omega⟩
    ·
     intro i y u hy hu
     by_cases e9 : i < j
     ·
      rw [List.getElem?_append_left (by rw [HKL.out]; omega)] at hy
      exact HFO.out i y u hy hu
     ·
      rw [List.getElem?_append_right (by rw [HKL.out]; omega), HKL.out] at hy
      have e8 : i = j := by
       have := (List.getElem?_eq_some_iff.1 hy).1
       simp at this; omega
      subst e8
      rw [Nat.sub_self] at hy
      obtain rfl : d = y := by simpa using hy
      rw [HTY.out] at hu
      obtain rfl := Option.some.inj hu
      exact HFD.out
    ·
     rw [List.flatMap_append]
     refine own_keep HH1.out (fun k hk => ?_)
     obtain rfl : g = k := by
      have h9 : (some g : Option Nat) = some k := hk
      exact Option.some.inj h9
     exact blk_setCell_other _ _ _ _ (by simp only; omega)
    ·
     exact HB2.out.set 1 _
    ·
     intro y hy
     have hkeep : ∀ b, b < w1.heap.size → (Value.slice XA j Xc).ownBlock ≠ some b → b ≠ w.heap.size + 1 + 1 → (w'.setCell ⟨w.heap.size + 1 + 1, 1, none⟩ (.slice (some ⟨g, 0, none⟩) (j + 1) cap)).heap[b]? = w1.heap[b]? := fun b h1 h2 h3 =>
      (blk_setCell_other _ _ _ _ h3).trans ((HH2.out.block b (by rw [World.size_alloc]; omega) (fun e => h2 e.symm)).trans (((Fut.refl w1).alloc _).block b h1))
     have hgn : ∀ b, b < w1.heap.size → (Value.slice XA j Xc).ownBlock ≠ some b → (Value.slice (some ⟨g, 0, none⟩) (j + 1) cap).ownBlock ≠ some b := fun b h1 h2 e => by
      have h9 : (some g : Option Nat) = some b := e
      obtain rfl := Option.some.inj h9
      rcases HH3.out with h3 | h3
      ·
       exact h2 h3
      ·
       rw [World.size_alloc] at h3; omega
     rcases List.mem_append.1 hy with hy | hy
     ·
      refine (HRP.out y hy).keep (fun b hb hlt => ?_)
      have hs := HW1.out.size
      refine ⟨(hkeep b (by omega) hb.2 (by have := HSZ.out; omega)).trans (HW1.out.block b hlt), hb.1, hgn b (by omega) hb.2⟩
     ·
      obtain rfl : y = d := by simpa using hy
      refine HRD.out.keep (fun b hb hlt => ?_)
      have hb' : wr.heap.size ≤ b := hb
      have hs := HF2.out.size
      have h2 : (Value.slice XA j Xc).ownBlock ≠ some b := fun e => by
       have := (HGO.out b e).2
       omega
      exact ⟨hkeep b hlt h2 (by have := HSZ.out; omega), by omega, hgn b hlt h2⟩
    ·
     refine (((HF2.out.then HW1.out).alloc _).grown HH2.out (fun k hk => .inr (HGO.out k hk).1)).setCell (.inl (by simp)) _
   ·
    have hjn : j = m := by omega
    obtain rfl := hjn
    have hz := HZ.out.futS hF (beq_eq_false_iff_ne.2 (by omega))
    have g4 := hz.cell (i := 0) rfl
    have g5 := hz.cell (i := 1) rfl
    have g2 := hz.fz 0
    have g3 := hz.fz 1
    have HZ3 := Lib.hid hz
    clear hz hB hF
    go_wp2_with fail
    refine bodyPost_ret (results_cell_row fol_res _ _ (w.heap.size + 1) _ _ _ _ rfl ((HZ3.out.set 0 (.int .i64 q)).set 1 (.slice XA j Xc)) Tryd.underlying35 rfl (by kernel_rfl)) rfl ?_
    have hkeep : ∀ b, b ≠ w.heap.size + 1 → ((wr.setCell ⟨w.heap.size + 1, 0, none⟩ (.int .i64 q)).setCell ⟨w.heap.size + 1, 1, none⟩ (.slice XA j Xc)).heap[b]? = wr.heap[b]? := fun b h => (blk_setCell_other _ _ _ _ h).trans (blk_setCell_other _ _ _ _ h)
    have hKN := HKL.out
    have hsz := HSZ.out
    refine ⟨⟨.node q XA Xc ks, by simp only [dv, DI.e, DI.A, DI.c, DI.k, hKN]; rfl, ?_, ?_⟩, (HFW.out.setCell (p := ⟨w.heap.size + 1, 0, none⟩) (by simp only; omega) _).setCell (p := ⟨w.heap.size + 1, 1, none⟩) (by simp only; omega) _⟩
    ·
     rw [toDT_eq, ← HCH.out]
     refine Fol.mk (by rw [HCH.out]; exact HED.out) (by rw [List.length_map, hKN]; simp only [toEE, List.length_map]; exact HM.out.symm) (fun i d t hd ht => ?_)
     rw [List.getElem?_map] at hd
     obtain ⟨d', hd', rfl⟩ := Option.map_eq_some_iff.1 hd
     simp only [toEE, List.getElem?_map] at ht
     obtain ⟨t', ht', rfl⟩ := Option.map_eq_some_iff.1 ht
     exact HFO.out i d' t' hd' ht'
    ·
     have ho := own_keep (w' := (wr.setCell ⟨w.heap.size + 1, 0, none⟩ (.int .i64 q)).setCell ⟨w.heap.size + 1, 1, none⟩ (.slice XA j Xc)) HO.out (fun k hk => hkeep k (by
      have := (World.ownsRow.lt HO.out k hk).1
      omega))
     refine RdP.mk (RdS.of_own (enc := encD) encD_len (by decide) ho) (by rw [hKN]; unfold maxLen; omega) (fun b o hA hne => ?_) (fun d hd => (HRP.out d hd).keep (fun b hb hlt => ⟨hkeep b (by omega), by omega⟩))
     subst hA
     obtain ⟨g', cap', e9, h8, _⟩ := HO.out.form (by
      have := List.length_pos_iff.2 hne
      omega)
     injection e9 with e9
     injection e9 with e9
     injection e9 with e9
     show w.heap.size ≤ b
     omega
end Go.Proofs.YtajbmdjlfniofaaDoor
/-
  The program's Best.
-/
namespace Go.Proofs.YtajbmdjlfniofaaDoor
open Go.RowKit Go.Deep PK
attribute [local go_sem] Oper.lit Oper.litS fut_fut fut_drew World.cell?_alloc_some
theorem best_res : Tryd.f19.results = #[.cell 4 35, .tmp 5] := by kernel_rfl
set_option maxHeartbeats 6400000 in
theorem best_gen (N : Int) (A : Option Addr) (n c : Nat) (es : List EI) (hl : es.length = n) (hn : n ≤ maxLen) (V : Nat → VV) (root : Int) (hSV : validB N es = true → n ≤ 1000000 ∧ (∀ e ∈ es, e.t.length ≤ 1000000) ∧ Sol (EEs es) V ∧ ((V root.toNat).c < INF → (V root.toNat).s < INF)) (w : World) (hR : RdE w A es) :
  Calls Tryd.prog 19 #[hv N A n c, .int .i64 root] w fun r w' => (∃ d e, r = .returned (.tuple #[dv d, .int .i64 e]) ∧ RdP (fun b => w.heap.size ≤ b) w' d ∧ BestR N es V root d e) ∧ Below w.heap.size w w' := by
 have HL := Lib.hid hl
 have HR := Lib.hid hR
 have HSV := Lib.hid hSV
 have hn63 : n ≤ 9223372036854775807 := hn
 have HN := Lib.hid hn
 clear hl hR hSV hn
 obtain ⟨wb, hwb⟩ : ∃ wb, wb = (w.alloc (.cells #[.int .i64 N, .slice A n c] 24)).alloc (.cells #[.int .i64 0, .slice none 0 0] 35) := ⟨_, rfl⟩
 have HF := Lib.hid (show Fut w wb from by rw [hwb]; exact ((Fut.refl w).alloc _).alloc _)
 have Q0 := Lib.hid (show wb.cell? ⟨w.heap.size, 0, none⟩ = some (.int .i64 N) from by rw [hwb]; (repeat (first | exact (cell_al_new _ _ _ _ _ _ (by first | rfl | (simp only [World.size_alloc]))).trans rfl | refine (cell_al_old _ _ _ (by first | omega | (simp only [World.size_alloc]; omega))).trans ?_)))
 have Q1 := Lib.hid (show wb.cell? ⟨w.heap.size, 1, none⟩ = some (.slice A n c) from by rw [hwb]; (repeat (first | exact (cell_al_new _ _ _ _ _ _ (by first | rfl | (simp only [World.size_alloc]))).trans rfl | refine (cell_al_old _ _ _ (by first | omega | (simp only [World.size_alloc]; omega))).trans ?_)))
 have HZ := Lib.hid (show Blk wb (w.heap.size + 1) 35 #[.int .i64 0, .slice none 0 0] from by rw [hwb]; exact heap_new' _ _ _ (by simp only [World.size_alloc]))
 go_enter Tryd.func19, Tryd.ntmps19
 go_wp2_with fail
 rw [← hwb]
 clear hwb
 refine (valid_any N A n c es _ HL.out HN.out (HR.out.fut HF.out)).mono ?_
 rintro r w1 ⟨rfl, hb⟩
 have f1 : Fut wb w1 := hb
 have HF1 := Lib.hid (HF.out.trans f1)
 have q0 := f1.cell Q0.out
 have q1 := f1.cell Q1.out
 have HZ1 := Lib.hid (HZ.out.fut f1)
 clear hb f1
 generalize hv9 : validB N es = bb
 have HV := Lib.hid hv9
 clear hv9
 cases bb with
 | false =>
  have g0 := HZ1.out.cell (i := 0) rfl
  have g1 := HZ1.out.cell (i := 1) rfl
  have g2 := HZ1.out.fz 0
  have g3 := HZ1.out.fz 1
  go_wp2_with fail
  refine bodyPost_ret (res_cell2 best_res _ _ (w.heap.size + 1) _ _ _ _ rfl ((HZ1.out.set 0 (.int .i64 0)).set 1 (.slice none 0 0)) Tryd.underlying35 rfl (by kernel_rfl)) rfl ?_
  exact ⟨⟨.node 0 none 0 [], 1, rfl, rdP_leaf, by unfold BestR; exact .inl ⟨HV.out, rfl, rfl⟩⟩, (HF1.out.setCell (p := ⟨w.heap.size + 1, 0, none⟩) (by simp only; omega) _).setCell (p := ⟨w.heap.size + 1, 1, none⟩) (by simp only; omega) _⟩
 | true =>
  obtain ⟨hn6, htl, hsol, hsz⟩ := HSV.out HV.out
  obtain ⟨hN1, hN2, _⟩ := validB_parts HV.out
  obtain ⟨M, rfl⟩ : ∃ M : Nat, N = M := ⟨N.toNat, by omega⟩
  have HSO := Lib.hid hsol
  have HSZ := Lib.hid hsz
  have HTL := Lib.hid htl
  have hM : M ≤ 1048576 := by omega
  clear hsol hsz htl hN1 hN2
  by_cases hr0 : root < 0
  ·
   have g0 := HZ1.out.cell (i := 0) rfl
   have g1 := HZ1.out.cell (i := 1) rfl
   have g2 := HZ1.out.fz 0
   have g3 := HZ1.out.fz 1
   go_wp2_with fail
   refine bodyPost_ret (res_cell2 best_res _ _ (w.heap.size + 1) _ _ _ _ rfl ((HZ1.out.set 0 (.int .i64 0)).set 1 (.slice none 0 0)) Tryd.underlying35 rfl (by kernel_rfl)) rfl ?_
   exact ⟨⟨.node 0 none 0 [], 2, rfl, rdP_leaf, by unfold BestR; exact .inr (.inl ⟨HV.out, by omega, rfl, rfl⟩)⟩, (HF1.out.setCell (p := ⟨w.heap.size + 1, 0, none⟩) (by simp only; omega) _).setCell (p := ⟨w.heap.size + 1, 1, none⟩) (by simp only; omega) _⟩
  ·
   by_cases hrN : (M : Int) ≤ root
   ·
    have g0 := HZ1.out.cell (i := 0) rfl
    have g1 := HZ1.out.cell (i := 1) rfl
    have g2 := HZ1.out.fz 0
    have g3 := HZ1.out.fz 1
    go_wp2_with fail
    refine bodyPost_ret (res_cell2 best_res _ _ (w.heap.size + 1) _ _ _ _ rfl ((HZ1.out.set 0 (.int .i64 0)).set 1 (.slice none 0 0)) Tryd.underlying35 rfl (by kernel_rfl)) rfl ?_
    exact ⟨⟨.node 0 none 0 [], 2, rfl, rdP_leaf, by unfold BestR; exact .inr (.inl ⟨HV.out, by omega, rfl, rfl⟩)⟩, (HF1.out.setCell (p := ⟨w.heap.size + 1, 0, none⟩) (by simp only; omega) _).setCell (p := ⟨w.heap.size + 1, 1, none⟩) (by simp only; omega) _⟩
   ·
    go_wp2_with fail
    refine (solve_any M A n c es _ HL.out hn6 HV.out HTL.out (HR.out.fut HF1.out)).mono ?_
    rintro r w2 ⟨⟨V', vb, eb, rfl, hs', hv', hi', _, _⟩, hb⟩
    obtain rfl := hs'.unique HSO.out
    obtain ⟨rt, rfl⟩ : ∃ rt : Nat, root = rt := ⟨root.toNat, by omega⟩
    have hrt : rt < M := by omega
    have f1 : Fut w1 w2 := hb
    have HF2 := Lib.hid (HF1.out.trans f1)
    replace q0 := f1.cell q0
    replace q1 := f1.cell q1
    have HZ2 := Lib.hid (HZ1.out.fut f1)
    have HI := Lib.hid hi'
    have cv := hv'.c hrt
    clear HZ1 hs' hv' hi' hb f1
    by_cases hinf : INF ≤ (V' rt).c
    ·
     have hinf2 : (1099511627776 : Int) ≤ (V' rt).c := hinf
     have HI2 := Lib.hid hinf
     clear hinf
     have g0 := HZ2.out.cell (i := 0) rfl
     have g1 := HZ2.out.cell (i := 1) rfl
     have g2 := HZ2.out.fz 0
     have g3 := HZ2.out.fz 1
     go_wp2_with fail
     refine bodyPost_ret (res_cell2 best_res _ _ (w.heap.size + 1) _ _ _ _ rfl ((HZ2.out.set 0 (.int .i64 0)).set 1 (.slice none 0 0)) Tryd.underlying35 rfl (by kernel_rfl)) rfl ?_
     exact ⟨⟨.node 0 none 0 [], 6, rfl, rdP_leaf, by unfold BestR; exact .inr (.inr (.inl ⟨HV.out, by omega, by rw [Int.toNat_natCast]; exact HI2.out, rfl, rfl⟩))⟩, (HF2.out.setCell (p := ⟨w.heap.size + 1, 0, none⟩) (by simp only; omega) _).setCell (p := ⟨w.heap.size + 1, 1, none⟩) (by simp only; omega) _⟩
    ·
     have hinf2 : ¬ (1099511627776 : Int) ≤ (V' rt).c := hinf
     have HI2 := Lib.hid (show (V' rt).c < INF by omega)
     have hsI : (V' rt).s < INF := by
      have := HSZ.out
      rw [Int.toNat_natCast] at this
      exact this HI2.out
     have HC := Lib.hid (follow_any M A n c es HL.out HN.out hM HV.out HTL.out V' HSO.out eb ((V' rt).s.toNat + 1) rt w2 hrt HI2.out hsI (by omega) (HR.out.fut HF2.out) HI.out)
     clear hinf hsI
     go_wp2_with fail
     refine HC.out.mono ?_
     rintro r w3 ⟨⟨d, rfl, hd, hrd⟩, hb⟩
     have f1 : Fut w2 w3 := hb
     have HF3 := Lib.hid (HF2.out.trans f1)
     have HZ3 := Lib.hid (HZ2.out.fut f1)
     have HD := Lib.hid hd
     have HRD := Lib.hid hrd
     have HW2 := Lib.hid (show w.heap.size + 2 ≤ w2.heap.size from by
      have := HZ2.out.lt
      omega)
     clear hb f1 hd hrd HC
     have g0 := HZ3.out.cell (i := 0) rfl
     have g1 := HZ3.out.cell (i := 1) rfl
     have g2 := HZ3.out.fz 0
     have g3 := HZ3.out.fz 1
     obtain ⟨de, dA, dc, dk⟩ := d
     simp only [dv, DI.e, DI.A, DI.c, DI.k]
     obtain ⟨dn, hdn⟩ : ∃ dn, dk.length = dn := ⟨_, rfl⟩
     rw [hdn]
     have HDN := Lib.hid hdn
     clear hdn
     go_wp2_with fail
     refine bodyPost_ret (res_cell2 best_res _ _ (w.heap.size + 1) _ _ _ _ rfl ((HZ3.out.set 0 (.int .i64 de)).set 1 (.slice dA dn dc)) Tryd.underlying35 rfl (by kernel_rfl)) rfl ?_
     refine ⟨⟨.node de dA dc dk, 0, by simp only [dv, DI.e, DI.A, DI.c, DI.k, HDN.out]; rfl, HRD.out.keep (fun b hb _ => ⟨?_, ?_⟩), by unfold BestR; exact .inr (.inr (.inr ⟨HV.out, by omega, by rw [Int.toNat_natCast]; exact HI2.out, rfl, by rw [Int.toNat_natCast]; exact HD.out⟩))⟩, (HF3.out.setCell (p := ⟨w.heap.size + 1, 0, none⟩) (by simp only; omega) _).setCell (p := ⟨w.heap.size + 1, 1, none⟩) (by simp only; omega) _⟩
     ·
      have hb' : w2.heap.size ≤ b := hb
      have h9 := HW2.out
      exact (blk_setCell_other _ _ _ _ (by simp only; omega)).trans (blk_setCell_other _ _ _ _ (by simp only; omega))
     ·
      have hb' : w2.heap.size ≤ b := hb
      have h9 := HW2.out
      show w.heap.size ≤ b
      omega
end Go.Proofs.YtajbmdjlfniofaaDoor
