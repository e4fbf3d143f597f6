/-
  The edges of each head.
-/
import Derived.Test.YtjoejkfchnooaaaHyp
import Derived.Test.YtjoejkfchnooaaaOwn
namespace Go.Proofs.Ytjoejkfchnooaaa
open Go.RowKit
attribute [local go_sem] Oper.lit Oper.litS fut_fut fut_drew World.cell?_alloc_some
/-- a hyperedge as numbers -/
structure PE where
  h : Nat
  t : List Nat
def pe (e : EI) : PE := ⟨e.h.toNat, e.t.map Int.toNat⟩
def headAt (es : List EI) (i : Nat) : Nat := match es[i]? with | some e => e.h.toNat | none => 0
/-- of the first k edges those with head v -/
def eof (es : List EI) (k v : Nat) : List Nat := (List.range k).filter (fun i => headAt es i == v)
theorem eof_succ (es : List EI) (k v : Nat) : eof es (k + 1) v = if headAt es k = v then eof es k v ++ [k] else eof es k v := by
  unfold eof
  rw [List.range_succ, List.filter_append]
  by_cases h : headAt es k = v <;> simp [h]
theorem eof_upd (es : List EI) (k t : Nat) (ht : headAt es k = t) : eof es (k + 1) = upd (eof es k) t (eof es k t ++ [k]) := by
  funext v
  rw [eof_succ]
  by_cases h : v = t
  · subst h; rw [upd_same, if_pos ht]
  · rw [upd_other _ _ _ _ h, if_neg (by rw [ht]; exact fun e => h e.symm)]
theorem eof_len (es : List EI) (k v : Nat) : (eof es k v).length ≤ k := by
  have := List.length_filter_le (fun i => headAt es i == v) (List.range k)
  simpa [eof] using this
set_option maxHeartbeats 3200000 in
theorem edges_any (N : Nat) (A : Option Addr) (n c : Nat) (es : List EI) (w : World) (hl : es.length = n) (hn : n ≤ 1000) (hN : N ≤ 1048576) (hhd : ∀ e ∈ es, 0 ≤ e.h ∧ e.h < N) (hR : RdE w A es) :
    Calls Try.prog 32 #[hv N A n c] w fun e w' => ∃ u, e = .returned (.slice (some ⟨u, 0, none⟩) N N) ∧ RdL w' (w.heap.size + 1) u N (eof es n) ∧ Below w.heap.size w w' := by
  have HR := Lib.hid hR
  have HL := Lib.hid hl
  have HV := Lib.hid hhd
  clear hR hl hhd
  obtain ⟨i0, hi, hz0, hz1, hz2⟩ := info_parts info_sl
  obtain ⟨i1, ki, kz0, kz1, kz2⟩ := info_parts info_int
  have q0 : ∀ dd os, (fut (w.alloc (.cells #[.int .i64 N, .slice A n c] 24)) dd os).cell? ⟨w.heap.size, 0, none⟩ = some (.int .i64 N) := cell_fut (by (first | (with_reducible assumption) | ((try simp (disch := first | (simp only [World.size_alloc, World.size_drew, World.size_setCell]; done) | (simp only [World.size_alloc, World.size_drew, World.size_setCell]; omega) | omega) only [cell_al_new, cell_al_old, cell_dr]); first | (with_reducible assumption) | rfl | (simp; done))))
  have q1 : ∀ dd os, (fut (w.alloc (.cells #[.int .i64 N, .slice A n c] 24)) dd os).cell? ⟨w.heap.size, 1, none⟩ = some (.slice A n c) := cell_fut (by (first | (with_reducible assumption) | ((try simp (disch := first | (simp only [World.size_alloc, World.size_drew, World.size_setCell]; done) | (simp only [World.size_alloc, World.size_drew, World.size_setCell]; omega) | omega) only [cell_al_new, cell_al_old, cell_dr]); first | (with_reducible assumption) | rfl | (simp; done))))
  go_enter Try.func32, Try.ntmps32
  go_wp2_with (refine wpList_make_row _ rfl _ _ 56 rfl 32 i0 (.slice none 0 0) Try.underlying56 hi hz0 hz1 rfl .i64 .i64 N rfl rfl (by rw [hz2]; omega) (by omega) ?_)
  have HU0 := Lib.hid (show Uses ((w.alloc (.cells #[.int .i64 N, .slice A n c] 24)).alloc (.cells (madeCells #[.slice none 0 0] N) 32)) (w.heap.size + 2) (w.heap.size + 1) N (fun _ => .slice none 0 0) (eof es 0) from
    ⟨by have := World.rowIs_made (w.alloc (.cells #[.int .i64 N, .slice A n c] 24)) (.slice none 0 0) N 32; simpa only [World.size_alloc] using this, by omega, fun i _ => Own.nil _ _, fun i j g _ _ h => by simp [Value.ownBlock] at h⟩)
  have HF0 := Lib.hid (((Fut.refl w).alloc (.cells #[.int .i64 N, .slice A n c] 24)).alloc (.cells (madeCells #[.slice none 0 0] N) 32))
  clear q0 q1
  go_loopw [12] (fun i wr => ∃ (j : Nat) (V : Nat → Value), j ≤ n ∧ i = .int .i64 j ∧ Hid (Uses wr (w.heap.size + 2) (w.heap.size + 1) N V (eof es j)) ∧ w.heap.size + 2 ≤ wr.heap.size ∧ Fut w wr) (fun i _ => n - (intOf i).toNat)
  case atStart => exact ⟨0, _, Nat.zero_le _, rfl, HU0, by simp only [World.size_alloc]; omega, HF0.out⟩
  case round =>
    obtain ⟨j, V, hj, rfl, hU, hsz, hF⟩ := hrel
    by_cases hlt : j < n
    · obtain ⟨x, hx⟩ := get_lt HL.out hlt
      obtain ⟨b, o, rfl, hc⟩ := HR.out.1 j x hx
      have hh := HV.out x (List.mem_of_getElem? hx)
      have hat : headAt es j = x.h.toNat := by unfold headAt; rw [hx]
      obtain ⟨xh, xt, xc, xl0, xl1, xA, xk⟩ := x
      obtain ⟨hd, rfl⟩ : ∃ m : Nat, xh = m := Int.eq_ofNat_of_zero_le hh.1
      have hdN : hd < N := by have := hh.2; simp only at this; omega
      have HAT := Lib.hid (show headAt es j = hd from hat)
      have c0 := hF.cell (hc 0 _ (by decide) rfl)
      have c1 := hF.cell (hc 1 _ (by decide) rfl)
      have c2 := hF.cell (hc 2 _ (by decide) rfl)
      have c3 := hF.cell (hc 3 _ (by decide) rfl)
      have c4 := hF.cell (hc 4 _ (by decide) rfl)
      simp only [Nat.add_zero] at c0
      clear hx hc hat hh
      have HFF := Lib.hid hF
      clear hF
      go_wp2_with fail
      have HU1 := Lib.hid ((hU.out.alloc (.cells #[.int .i64 hd, .slice xA xt.length xk, .int .i64 xc, .int .i64 xl0, .int .i64 xl1] 39)))
      have hsz2 : w.heap.size + 2 ≤ (wr.alloc (.cells #[.int .i64 hd, .slice xA xt.length xk, .int .i64 xc, .int .i64 xl0, .int .i64 xl1] 39)).heap.size := by simp only [World.size_alloc]; omega
      have hW0 : (wr.alloc (.cells #[.int .i64 hd, .slice xA xt.length xk, .int .i64 xc, .int .i64 xl0, .int .i64 xl1] 39)).cell? ⟨wr.heap.size, 0, none⟩ = some (.int .i64 hd) := by (first | (with_reducible assumption) | ((try simp (disch := first | (simp only [World.size_alloc, World.size_drew, World.size_setCell]; done) | (simp only [World.size_alloc, World.size_drew, World.size_setCell]; omega) | omega) only [cell_al_new, cell_al_old, cell_dr]); first | (with_reducible assumption) | rfl | (simp; done)))
      have hwl : wr.heap.size < (wr.alloc (.cells #[.int .i64 hd, .slice xA xt.length xk, .int .i64 xc, .int .i64 xl0, .int .i64 xl1] 39)).heap.size := by simp only [World.size_alloc]; omega
      have hown0 := fun k hk => (hU.out.own hd hdN).lt k hk
      have HFA := Lib.hid (HFF.out.alloc (.cells #[.int .i64 hd, .slice xA xt.length xk, .int .i64 xc, .int .i64 xl0, .int .i64 xl1] 39))
      clear c0 c1 c2 c3 c4 HFF hU
      generalize wr.alloc (.cells #[.int .i64 hd, .slice xA xt.length xk, .int .i64 xc, .int .i64 xl0, .int .i64 xl1] 39) = wi at *
      obtain ⟨S, hS⟩ : ∃ S : Nat → Bool, S = fun k => (V hd).ownBlock == some k := ⟨_, rfl⟩
      have HS := Lib.hid hS
      have s0 : S wr.heap.size = false := by
        rw [hS]; simp only [beq_eq_false_iff_ne]
        intro e
        have := (hown0 _ e).2
        omega
      have s1 : S (w.heap.size + 1) = false := by
        rw [hS]; simp only [beq_eq_false_iff_ne]
        intro e
        have := (hown0 _ e).1
        omega
      clear hS
      have r0 : ∀ f dd os, (futS wi S f dd os).cell? ⟨wr.heap.size, 0, none⟩ = some (.int .i64 hd) := cell_futS hW0 s0
      have r1 : ∀ f dd os, (futS wi S f dd os).cell? ⟨w.heap.size + 1, hd, none⟩ = some (V hd) := cell_futS (HU1.out.row.cell hdN) s1
      clear hW0
      refine wp_region_MG (relS S) o_hypergraph_edges_5 (by kernel_rfl) (by kernel_rfl) (by intro c a d v w h; cases d <;> exact h) ?_; unfold o_hypergraph_edges_5
      iterate 9 (refine wpS_h rfl rfl (fun K hK => ?_); go_simp; refine hK _ _ ?_; clear hK K)
      refine wpG_o rfl rfl (fun K hK => ?_)
      go_simp
      go_at_K
      refine hK _ _ (.inr ((relS S).of_fut ((Fut.refl _).alloc _))) ?_
      clear hK K
      refine wpG_o rfl rfl (fun K hK => ?_)
      refine wp_append_lies _ (.tmp 24) (.tmp 26) 32 rfl (w.heap.size + 2) 3 i1 (.int .i64 0) 1 8 Try.underlying32 ki kz0 kz1 kz2 rfl (by decide) (V hd) (eof es j hd).length ((eof es j hd).map nv) rfl (((HU1.out.own hd hdN).drew).alloc _) ⟨wi.heap.size, 0, none⟩ 1 1 [nv j] rfl rfl ?c1 ?c2 (by decide) ?c3 ?c4 ?c5 (wi.heap.size + 1) ?c6 ?_
      case c1 => exact World.news_of_block (cs := #[nv j]) (heap_alloc_new _ _)
      case c2 => intro u hu; simp only [List.mem_singleton] at hu; subst hu; rfl
      case c3 => have := eof_len es j hd; unfold maxLen; omega
      case c4 => have := eof_len es j hd; omega
      case c5 => show _ ≤ (wi.alloc _).heap.size; rw [World.size_alloc]; omega
      case c6 => show (wi.alloc _).heap.size = _; rw [World.size_alloc]
      intro g cap w2 hown2 hgr hg2 hlt2
      have hUa : Uses (wi.alloc (.cells #[nv j] 3)).drew (w.heap.size + 2) (w.heap.size + 1) N V (eof es j) := (HU1.out.alloc _).drew
      have hfs : FutS S (wi.alloc (.cells #[nv j] 3)).drew w2 := ⟨hgr.os, hgr.tape, hgr.output, hgr.size, fun k hk hs => hgr.block k hk (fun e => by rw [HS.out] at hs; simp [← e] at hs)⟩
      refine hK _ _ (.inr hfs) ?_
      clear hK K
      have hune : (V hd).ownBlock ≠ some (w.heap.size + 1) := fun e => by have := (hown0 _ e).1; omega
      have hrow2 : w2.rowIs (w.heap.size + 1) 32 N V := hUa.row.of_block (hgr.block _ hUa.row.lt (fun e => hune e.symm))
      have hcu : w2.cell? ⟨w.heap.size + 1, hd, none⟩ = some (V hd) := hrow2.cell hdN
      have hfu : w2.frozen? ⟨w.heap.size + 1, hd, none⟩ = false := hrow2.frozen hd
      have HUP := Lib.hid (hUa.push (x := j) (by show _ ≤ (wi.alloc _).heap.size; rw [World.size_alloc]; omega) hdN hown2 hgr (by rcases hg2 with h | h; exact .inl h; right; show _ = (wi.alloc _).heap.size; rw [World.size_alloc]; exact h))
      have hFw2 : Fut w w2 := Below.grown ((HFA.out.alloc (.cells #[nv j] 3)).drew) hgr (by show _ ≤ (wi.alloc _).heap.size; rw [World.size_alloc]; omega) (fun k hk => by have := (hown0 k hk).1; omega)
      have HFW := Lib.hid (hFw2.setCell (p := ⟨w.heap.size + 1, hd, none⟩) (Nat.le_succ _) (.slice (some ⟨g, 0, none⟩) ((eof es j hd).length + 1) cap))
      have hsz3 : w.heap.size + 2 ≤ w2.heap.size := by have h1 : (wi.alloc (.cells #[nv j] 3)).drew.heap.size ≤ w2.heap.size := hgr.size; have e : (wi.alloc (.cells #[nv j] 3)).drew.heap.size = wi.heap.size + 1 := by show (wi.alloc _).heap.size = _; rw [World.size_alloc]
                                                       omega
      clear hown2 hgr hg2 hlt2 hUa hfs hrow2 hFw2 hsz2 hwl
      (refine wpS_h rfl rfl (fun K hK => ?_); go_simp; refine hK _ _ ?_; clear hK K)
      refine wpG_o rfl rfl (fun K hK => ?_)
      go_simp
      refine hK _ _ (.inl (by kernel_rfl)) ?_
      clear hK K
      refine wpG_nil ?_
      go_wp2_with fail
      refine ⟨⟨j + 1, upd V hd (.slice (some ⟨g, 0, none⟩) ((eof es j hd).length + 1) cap), by omega, by go_num, Lib.hid ?_, ?_, HFW.out⟩, by simp [intOf]; omega⟩
      · rw [eof_upd es j hd HAT.out]; exact HUP.out
      · simp only [World.size_setCell]; omega
    · have hjn : j = n := by omega
      subst hjn
      go_wp2_with fail
      go_ret
      exact ⟨_, rfl, hU.out.rd (Nat.le_refl _), hF⟩
end Go.Proofs.Ytjoejkfchnooaaa
