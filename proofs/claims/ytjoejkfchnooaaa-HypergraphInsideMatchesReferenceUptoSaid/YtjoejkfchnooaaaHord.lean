/-
  Order, walked: its first loop.
-/
import Derived.Test.YtjoejkfchnooaaaHop
import Derived.Test.YtjoejkfchnooaaaHder2
namespace Go.Proofs.Ytjoejkfchnooaaa
open Go.RowKit
attribute [local go_sem] Oper.lit Oper.litS fut_fut fut_drew World.cell?_alloc_some
/-- what Order has laid in memory: the blocks from b on -/
structure OH (w : World) (b N : Nat) (A : Option Addr) (n c : Nat) (wr : World) (Mi : Nat → Nat) (V : Nat → Value) (L : Nat → List Nat) : Prop where
  hb : w.heap.size ≤ b
  fut : Fut w wr
  sz : b + 3 ≤ wr.heap.size
  hbox : wr.cell? ⟨b, 0, none⟩ = some (.int .i64 N)
  mis : wr.rowIs (b + 1) 3 N (fun i => nv (Mi i))
  use : Uses wr (b + 3) (b + 2) N V L
section
variable {w wr : World} {b N n : Nat} {A : Option Addr} {c : Nat} {Mi : Nat → Nat} {V : Nat → Value} {L : Nat → List Nat}
theorem OH.drew (h : OH w b N A n c wr Mi V L) : OH w b N A n c wr.drew Mi V L := ⟨h.hb, h.fut.drew, h.sz, h.hbox, h.mis.drew, h.use.drew⟩
theorem OH.alloc (h : OH w b N A n c wr Mi V L) (o : Obj) : OH w b N A n c (wr.alloc o) Mi V L :=
  ⟨h.hb, h.fut.alloc o, by rw [World.size_alloc]; have := h.sz; omega, ((Fut.refl _).alloc o).cell h.hbox, h.mis.alloc o, h.use.alloc o⟩
theorem OH.setMis (h : OH w b N A n c wr Mi V L) (i x : Nat) : OH w b N A n c (wr.setCell ⟨b + 1, i, none⟩ (nv x)) (upd Mi i x) V L :=
  ⟨h.hb, h.fut.setCell (by have := h.hb; simp only; omega) _, by rw [World.size_setCell]; exact h.sz, cell_set h.hbox (by simp), row_upd (f := nv) h.mis, h.use.setOther (by simp only; omega) (by simp) _⟩
theorem OH.pushUse (h : OH w b N A n c wr Mi V L) {w2 : World} {g cp t x : Nat} (ht : t < N) (ho : Own w2 (b + 3) (.slice (some ⟨g, 0, none⟩) ((L t).length + 1) cp) (L t ++ [x])) (hg : wr.grownBy w2 (V t).ownBlock) (hw : (V t).ownBlock = some g ∨ g = wr.heap.size) :
    OH w b N A n c (w2.setCell ⟨b + 2, t, none⟩ (.slice (some ⟨g, 0, none⟩) ((L t).length + 1) cp)) Mi (upd V t (.slice (some ⟨g, 0, none⟩) ((L t).length + 1) cp)) (upd L t (L t ++ [x])) := by
  have hlt := (h.use.own t ht).lt
  have hne : ∀ k, k < b + 3 → some k ≠ (V t).ownBlock := fun k hk e => by have := (hlt k e.symm).1; omega
  have hsz := h.sz
  have hbl : ∀ k, k < b + 3 → w2.heap[k]? = wr.heap[k]? := fun k hk => hg.block k (by omega) (hne k hk)
  have hce : ∀ (p : Addr) (v : Value), p.block < b + 3 → wr.cell? p = some v → w2.cell? p = some v := fun p v hp hc => (World.cell?_of_block (hbl _ hp)).trans hc
  exact ⟨h.hb, (Below.grown h.fut hg (by have := h.hb; omega) (fun k hk => by have := (hlt k hk).1; have := h.hb; omega)).setCell (by have := h.hb; simp only; omega) _, by rw [World.size_setCell]; have := hg.size; omega,
    cell_set (hce _ _ (by simp only; omega) h.hbox) (by simp), (h.mis.of_block (hbl _ (by omega))).setOther (by simp) _,
    h.use.push (by omega) ht (by have := ho; unfold Own at this; simpa using this) hg hw⟩
end
/-- as Order answers -/
def OrdRes (w' : World) (e : Ending) (r : Option (List Nat)) : Prop :=
  match r with
  | some l => ∃ A c, e = .returned (.tuple #[.slice A l.length c, .int .i64 0]) ∧ Rd1 w' A nv l
  | none => e = .returned (.tuple #[.slice none 0 0, .int .i64 9])
set_option maxHeartbeats 12800000 in
theorem order_any (N : Nat) (A : Option Addr) (n c : Nat) (es : List EI) (w : World) (hl : es.length = n) (hn : n ≤ 1000) (hN : N ≤ 1048576) (hhd : ∀ e ∈ es, 0 ≤ e.h ∧ e.h < N) (htl : ∀ e ∈ es, ∀ t ∈ e.t, 0 ≤ t ∧ t < N) (htot : sumT es n ≤ 2000000) (hR : RdE w A es) :
    Calls Try.prog 20 #[hv N A n c] w fun e w' => OrdRes w' e (ordS es N) ∧ Below w.heap.size w w' := by
  have HR := Lib.hid hR
  have HL := Lib.hid hl
  have HV := Lib.hid hhd
  have HT := Lib.hid htl
  have HTOT := Lib.hid htot
  clear hR hl hhd htl htot
  obtain ⟨i0, hi, hz0, hz1, hz2⟩ := info_parts info_bool
  obtain ⟨i1, ki, kz0, kz1, kz2⟩ := info_parts info_int
  obtain ⟨i2, mi, mz0, mz1, mz2⟩ := info_parts info_sl
  go_enter Try.func20, Try.ntmps20
  go_wp2_with (first
    | (refine wpList_make_row _ rfl (.tmp 17) (.tmp 17) 32 rfl 3 i1 (.int .i64 0) Try.underlying32 ki kz0 kz1 rfl .i64 .i64 N rfl rfl (by rw [kz2]; omega) (by omega) ?_)
    | (refine wpList_make_row _ rfl (.tmp 20) (.tmp 20) 56 rfl 32 i2 (.slice none 0 0) Try.underlying56 mi mz0 mz1 rfl .i64 .i64 N rfl rfl (by rw [mz2]; omega) (by omega) ?_))
  simp only [Nat.add_assoc, Nat.reduceAdd]
  have HD0 := Lib.hid (show OH w w.heap.size N A n c (((w.alloc (.cells #[.int .i64 N, .slice A n c] 24)).alloc (.cells (madeCells #[.int .i64 0] N) 3)).alloc (.cells (madeCells #[.slice none 0 0] N) 32))
      (fun _ => 0) (fun _ => .slice none 0 0) (fun _ => []) from by
    have r1 := World.rowIs_made (w.alloc (.cells #[.int .i64 N, .slice A n c] 24)) (.int .i64 0) N 3
    have r2 := World.rowIs_made ((w.alloc (.cells #[.int .i64 N, .slice A n c] 24)).alloc (.cells (madeCells #[.int .i64 0] N) 3)) (.slice none 0 0) N 32
    simp only [World.size_alloc, Nat.add_assoc, Nat.reduceAdd] at r1 r2
    exact ⟨Nat.le_refl _, (((Fut.refl w).alloc _).alloc _).alloc _, by simp only [World.size_alloc]; omega, by (first | (with_reducible assumption) | ((try simp (disch := first | (simp only [World.size_alloc, World.size_drew, World.size_setCell]; done) | (simp only [World.size_alloc, World.size_drew, World.size_setCell]; omega) | omega) only [cell_al_new, cell_al_old, cell_dr]); first | (with_reducible assumption) | rfl | (simp; done))), r1.alloc _, ⟨r2, by omega, fun i _ => Own.nil _ _, fun i j g _ _ h => by simp [Value.ownBlock] at h⟩⟩)
  go_loopw [25] (fun i wr => ∃ (k : Nat) (Mi : Nat → Nat) (V : Nat → Value) (L : Nat → List Nat), k ≤ n ∧ i = .int .i64 k ∧ Hid (OH w w.heap.size N A n c wr Mi V L) ∧ Hid (UseH es k 0 N L) ∧ Hid (∀ v, v < N → Mi v = mis es (fun _ => false) v k) ∧ Hid (∀ v, v < N → (L v).length ≤ sumT es k) ∧ Hid (∀ v, Mi v ≤ sumT es k)) (fun i _ => n - (intOf i).toNat)
  case atStart => exact ⟨0, _, _, _, Nat.zero_le _, rfl, HD0, Lib.hid (UseH.start es N), Lib.hid (fun v _ => rfl), Lib.hid (fun v _ => by simp), Lib.hid (fun v => Nat.zero_le _)⟩
  case round =>
    clear HD0
    obtain ⟨k, Mi, V, L, hk, rfl, hOH, hUO, hMi, hLb, hMb⟩ := hrel
    by_cases hlt : k < n
    · obtain ⟨x, hx⟩ := get_lt HL.out hlt
      obtain ⟨b, o, rfl, hc⟩ := HR.out.1 k x hx
      have hF := hOH.out.fut
      have c0 := hF.cell (hc 0 _ (by decide) rfl)
      have c1 := hF.cell (hc 1 _ (by decide) rfl)
      have c2 := hF.cell (hc 2 _ (by decide) rfl)
      have c3 := hF.cell (hc 3 _ (by decide) rfl)
      have c4 := hF.cell (hc 4 _ (by decide) rfl)
      simp only [Nat.add_zero] at c0
      have HXT := Lib.hid (HR.out.2 x (List.mem_of_getElem? hx)).1
      have hxl : x.t.length ≤ 9223372036854775807 := (HR.out.2 x (List.mem_of_getElem? hx)).2
      have HXV := Lib.hid (HT.out x (List.mem_of_getElem? hx))
      have hxh := HV.out x (List.mem_of_getElem? hx)
      have HTL := Lib.hid (tl_of hx)
      have HHA := Lib.hid (headAt_of hx)
      clear hx hc hF
      obtain ⟨xh, xt, xc, xl0, xl1, xA, xk⟩ := x
      simp only at HXT hxl HXV hxh HTL HHA c0 c1 c2 c3 c4
      obtain ⟨hd, rfl⟩ : ∃ m : Nat, xh = m := Int.eq_ofNat_of_zero_le hxh.1
      have hdN : hd < N := by have := hxh.2; omega
      have HHD := Lib.hid (show headAt es k = hd from HHA.out)
      clear hxh HHA
      have hst : sumT es k + xt.length ≤ 2000000 := by have h2 := sumT_mono es (show k + 1 ≤ n by omega); rw [sumT_succ, HTL.out, List.length_map] at h2; have := HTOT.out; omega
      have hmb := hMb.out hd
      have hwr1 : IntKind.i64.wrap ((Mi hd : Int) + (xt.length : Int)) = (Mi hd : Int) + (xt.length : Int) := IntWalk.i64_in _ ⟨by omega, by omega⟩
      have hwr2 : wrap64 ((Mi hd : Int) + (xt.length : Int)) = (Mi hd : Int) + (xt.length : Int) := IntWalk.wrap64_in _ ⟨by omega, by omega⟩
      have h1 := (hOH.out.alloc (.cells #[.int .i64 hd, .slice xA xt.length xk, .int .i64 xc, .int .i64 xl0, .int .i64 xl1] 39)).setMis hd (Mi hd + xt.length)
      have hszr : w.heap.size + 3 ≤ wr.heap.size := hOH.out.sz
      have hmc := (hOH.out.alloc (.cells #[.int .i64 hd, .slice xA xt.length xk, .int .i64 xc, .int .i64 xl0, .int .i64 xl1] 39)).mis.cell hdN
      have hmf := (hOH.out.alloc (.cells #[.int .i64 hd, .slice xA xt.length xk, .int .i64 xc, .int .i64 xl0, .int .i64 xl1] 39)).mis.frozen hd
      have heb : ((wr.alloc (.cells #[.int .i64 hd, .slice xA xt.length xk, .int .i64 xc, .int .i64 xl0, .int .i64 xl1] 39)).setCell ⟨w.heap.size + 1, hd, none⟩ (nv (Mi hd + xt.length))).heap[wr.heap.size]? = some (.cells #[.int .i64 hd, .slice xA xt.length xk, .int .i64 xc, .int .i64 xl0, .int .i64 xl1] 39) := (Below.heap_setCell _ _ _ _ (by simp only; omega)).trans (heap_alloc_new _ _)
      have H1 := Lib.hid (show OH w w.heap.size N (some ⟨b, o, none⟩) n c (((wr.alloc (.cells #[.int .i64 hd, .slice xA xt.length xk, .int .i64 xc, .int .i64 xl0, .int .i64 xl1] 39)).setCell ⟨w.heap.size + 1, hd, none⟩ (.int .i64 ((Mi hd : Int) + (xt.length : Int)))).drew) (upd Mi hd (Mi hd + xt.length)) V L from h1.drew)
      have HEB := Lib.hid (show (((wr.alloc (.cells #[.int .i64 hd, .slice xA xt.length xk, .int .i64 xc, .int .i64 xl0, .int .i64 xl1] 39)).setCell ⟨w.heap.size + 1, hd, none⟩ (.int .i64 ((Mi hd : Int) + (xt.length : Int)))).drew).heap[wr.heap.size]? = some (.cells #[.int .i64 hd, .slice xA xt.length xk, .int .i64 xc, .int .i64 xl0, .int .i64 xl1] 39) from heb)
      have f0 : ∀ dd os, (fut (wr.alloc (.cells #[.int .i64 hd, .slice xA xt.length xk, .int .i64 xc, .int .i64 xl0, .int .i64 xl1] 39)) dd os).cell? ⟨wr.heap.size, 0, none⟩ = some (.int .i64 hd) := cell_fut (by (first | (with_reducible assumption) | ((try simp (disch := first | (simp only [World.size_alloc, World.size_drew, World.size_setCell]; done) | (simp only [World.size_alloc, World.size_drew, World.size_setCell]; omega) | omega) only [cell_al_new, cell_al_old, cell_dr]); first | (with_reducible assumption) | rfl | (simp; done))))
      have f1 : ∀ dd os, (fut (wr.alloc (.cells #[.int .i64 hd, .slice xA xt.length xk, .int .i64 xc, .int .i64 xl0, .int .i64 xl1] 39)) dd os).cell? ⟨wr.heap.size, 1, none⟩ = some (.slice xA xt.length xk) := cell_fut (by (first | (with_reducible assumption) | ((try simp (disch := first | (simp only [World.size_alloc, World.size_drew, World.size_setCell]; done) | (simp only [World.size_alloc, World.size_drew, World.size_setCell]; omega) | omega) only [cell_al_new, cell_al_old, cell_dr]); first | (with_reducible assumption) | rfl | (simp; done))))
      have f2 : ∀ dd os, (fut (wr.alloc (.cells #[.int .i64 hd, .slice xA xt.length xk, .int .i64 xc, .int .i64 xl0, .int .i64 xl1] 39)) dd os).cell? ⟨w.heap.size + 1, hd, none⟩ = some (.int .i64 (Mi hd)) := cell_fut hmc
      clear h1
      obtain ⟨wo, rfl⟩ : ∃ x, x = wr := ⟨_, rfl⟩
      go_wp2_with fail
      refine wp_region_M o_hypergraph_Order_6 (by kernel_rfl) (by kernel_rfl) (by intro c a d v w h; cases d <;> exact h) ?_; unfold o_hypergraph_Order_6
      iterate 10 (refine wpF_h rfl rfl (fun K hK => ?_); go_simp; refine hK _ _ ?_; clear hK K)
      refine wpF_o rfl rfl (fun K hK => ?_)
      go_simp
      refine hK _ _ (.inl (by kernel_rfl)) ?_
      clear hK K
      refine wpF_nil ?_
      have g1 : (((wo.alloc (.cells #[.int .i64 hd, .slice xA xt.length xk, .int .i64 xc, .int .i64 xl0, .int .i64 xl1] 39)).setCell ⟨w.heap.size + 1, hd, none⟩ (.int .i64 ((Mi hd : Int) + (xt.length : Int)))).drew).cell? ⟨wo.heap.size, 1, none⟩ = some (.slice xA xt.length xk) := cell_of_row _ _ 1 _ _ _ HEB.out
      generalize ((wo.alloc (.cells #[.int .i64 hd, .slice xA xt.length xk, .int .i64 xc, .int .i64 xl0, .int .i64 xl1] 39)).setCell ⟨w.heap.size + 1, hd, none⟩ (.int .i64 ((Mi hd : Int) + (xt.length : Int)))).drew = ws at *
      go_wp2_with fail
      clear c0 c1 c2 c3 c4 hmc hmf hwr1 hwr2 f0 f1 f2 heb g1
      obtain ⟨eb, hebd⟩ : ∃ eb, eb = wo.heap.size := ⟨_, rfl⟩
      have hebge : w.heap.size + 3 ≤ eb := by rw [hebd]; exact hszr
      rw [← hebd] at HEB ⊢
      clear hebd hszr
      go_loopw [42] (fun j wr => ∃ (jj : Nat) (V : Nat → Value) (L : Nat → List Nat), jj ≤ xt.length ∧ j = .int .i64 jj ∧ Hid (OH w w.heap.size N (some ⟨b, o, none⟩) n c wr (upd Mi hd (Mi hd + xt.length)) V L) ∧ Hid (UseH es k jj N L) ∧ Hid (∀ v, v < N → (L v).length ≤ sumT es k + jj) ∧ Hid (wr.heap[eb]? = some (.cells #[.int .i64 hd, .slice xA xt.length xk, .int .i64 xc, .int .i64 xl0, .int .i64 xl1] 39))) (fun j _ => xt.length - (intOf j).toNat)
      case atStart => exact ⟨0, V, L, Nat.zero_le _, rfl, H1, hUO, hLb, HEB⟩
      case round =>
        clear H1 hUO hLb HEB hOH V L
        obtain ⟨jj, V, L, hj, rfl, hOH, hUO, hLb, hEB⟩ := hrel
        by_cases hjt : jj < xt.length
        · obtain ⟨y, hy⟩ := get_lt rfl hjt
          have hyv := HXV.out y (List.mem_of_getElem? hy)
          obtain ⟨t, rfl⟩ : ∃ t : Nat, y = t := Int.eq_ofNat_of_zero_le hyv.1
          have htN : t < N := by have := hyv.2; omega
          obtain ⟨b4, o4, rfl, hcy⟩ := HXT.out jj _ hy
          have hcell := hOH.out.fut.cell hcy
          have HTJ := Lib.hid (show (tl es k)[jj]? = some t from by rw [HTL.out, List.getElem?_map, hy]; rfl)
          have hLt : (L t).length ≤ 2000000 := by have h1 := hLb.out t htN; omega
          have hszi := hOH.out.sz
          have hown0 := fun q hq => (hOH.out.use.own t htN).lt q hq
          have HOWN0 := Lib.hid hown0
          have hebl : eb < wr.heap.size := (Array.getElem?_eq_some_iff.1 hEB.out).1
          clear hy hyv hcy hown0
          obtain ⟨wi, rfl⟩ : ∃ x, x = wr := ⟨_, rfl⟩
          obtain ⟨S, hS⟩ : ∃ S : Nat → Bool, S = fun q => (V t).ownBlock == some q := ⟨_, rfl⟩
          have HS := Lib.hid hS
          have s0 : S eb = false := by
            rw [hS]; simp only [beq_eq_false_iff_ne]
            exact (hOH.out.use.own t htN).ne_block hEB.out (by decide)
          have s1 : S (w.heap.size + 2) = false := by
            rw [hS]; simp only [beq_eq_false_iff_ne]
            intro e
            have := (HOWN0.out _ e).1
            omega
          clear hS
          have r0 : ∀ f dd os, (futS wi S f dd os).cell? ⟨eb, 0, none⟩ = some (.int .i64 hd) := cell_futS (cell_of_row _ _ 0 _ _ _ hEB.out) s0
          have r1 : ∀ f dd os, (futS wi S f dd os).cell? ⟨w.heap.size + 2, t, none⟩ = some (V t) := cell_futS (hOH.out.use.row.cell htN) s1
          go_wp2_with fail
          refine wp_region_MG (relS S) o_hypergraph_Order_10 (by kernel_rfl) (by kernel_rfl) (by intro c a d v w h; cases d <;> exact h) ?_; unfold o_hypergraph_Order_10
          iterate 8 (refine wpS_h rfl rfl (fun K hK => ?_); go_simp; refine hK _ _ ?_; clear hK K)
          refine wpG_o rfl rfl (fun K hK => ?_)
          go_simp
          go_at_K
          refine hK _ _ (.inr ((relS S).of_fut ((Fut.refl _).alloc _))) ?_
          clear hK K
          refine wpG_o rfl rfl (fun K hK => ?_)
          refine wp_append_lies _ (.tmp 51) (.tmp 54) 32 rfl (w.heap.size + 3) 3 i1 (.int .i64 0) 1 8 Try.underlying32 ki kz0 kz1 kz2 rfl (by decide) (V t) (L t).length ((L t).map nv) rfl (((hOH.out.use.own t htN).drew).alloc _) ⟨wi.heap.size, 0, none⟩ 1 1 [nv hd] rfl rfl ?_ ?_ (by decide) ?_ ?_ ?_ (wi.heap.size + 1) ?_ ?_
          · exact World.news_of_block (cs := #[nv hd]) (heap_alloc_new _ _)
          · intro u hu; simp only [List.mem_singleton] at hu; subst hu; rfl
          · unfold maxLen; omega
          · omega
          · show _ ≤ (wi.alloc _).heap.size; rw [World.size_alloc]; omega
          · show (wi.alloc _).heap.size = _; rw [World.size_alloc]
          intro g cap w2 hown2 hgr hg2 hlt2
          have hOa : OH w w.heap.size N (some ⟨b, o, none⟩) n c (wi.alloc (.cells #[nv hd] 3)).drew (upd Mi hd (Mi hd + xt.length)) V L := (hOH.out.alloc _).drew
          have hfs : FutS S (wi.alloc (.cells #[nv hd] 3)).drew w2 := ⟨hgr.os, hgr.tape, hgr.output, hgr.size, fun q hq hs => hgr.block q hq (fun e => by rw [HS.out] at hs; simp [← e] at hs)⟩
          refine hK _ _ (.inr hfs) ?_
          clear hK K
          have hune : (V t).ownBlock ≠ some (w.heap.size + 2) := fun e => by have := (HOWN0.out _ e).1; omega
          have hrow2 : w2.rowIs (w.heap.size + 2) 32 N V := hOa.use.row.of_block (hgr.block _ hOa.use.row.lt (fun e => hune e.symm))
          have hcu : w2.cell? ⟨w.heap.size + 2, t, none⟩ = some (V t) := hrow2.cell htN
          have hfu : w2.frozen? ⟨w.heap.size + 2, t, none⟩ = false := hrow2.frozen t
          have HUP := Lib.hid (hOa.pushUse (x := hd) htN (by unfold Own; simpa using hown2) hgr (by rcases hg2 with h | h; exact .inl h; right; show _ = (wi.alloc _).heap.size; rw [World.size_alloc]; exact h))
          have HEB2 := Lib.hid ((hgr.block eb (by show _ < (wi.alloc _).heap.size; rw [World.size_alloc]; omega) (fun e => (hOH.out.use.own t htN).ne_block hEB.out (by decide) e.symm)).trans ((Below.heap_alloc _ _ _ hebl).trans hEB.out))
          clear hown2 hgr hg2 hlt2 hOa hfs hrow2
          (refine wpS_h rfl rfl (fun K hK => ?_); go_simp; refine hK _ _ ?_; clear hK K)
          refine wpG_o rfl rfl (fun K hK => ?_)
          go_simp
          refine hK _ _ (.inl (by kernel_rfl)) ?_
          clear hK K
          refine wpG_nil ?_
          go_wp2_with fail
          refine ⟨⟨jj + 1, _, _, by omega, by go_num, HUP, Lib.hid (by have := hUO.out.push HTJ.out (by rw [HHD.out]; exact hdN); rwa [HHD.out] at this), Lib.hid ?_, Lib.hid ((Below.heap_setCell _ _ _ _ (by simp only; omega)).trans HEB2.out)⟩, by simp [intOf]; omega⟩
          intro v hv
          have := hLb.out v hv
          by_cases e : v = t
          · subst e; rw [upd_same]; simp; omega
          · rw [upd_other _ _ _ _ e]; omega
        · have hjj : (tl es k).length ≤ jj := by rw [HTL.out, List.length_map]; omega
          have HU2 := Lib.hid (hUO.out.next hjj)
          have HB2 := Lib.hid (show ∀ v, v < N → (L v).length ≤ sumT es (k + 1) from fun v hv => by
            have := hLb.out v hv
            rw [sumT_succ, HTL.out, List.length_map]; omega)
          have HMI2 := Lib.hid (show ∀ v, v < N → upd Mi hd (Mi hd + xt.length) v = mis es (fun _ => false) v (k + 1) from fun v hv => by
            rw [mis_start_succ, HHD.out, HTL.out, List.length_map, ← hMi.out v hv]
            by_cases e : v = hd
            · subst e; rw [upd_same, if_pos rfl]
            · rw [upd_other _ _ _ _ e, if_neg (fun h => e h.symm)]; omega)
          have HMB2 := Lib.hid (show ∀ v, upd Mi hd (Mi hd + xt.length) v ≤ sumT es (k + 1) from fun v => by
            rw [sumT_succ, HTL.out, List.length_map]
            have := hMb.out v
            by_cases e : v = hd
            · subst e; rw [upd_same]; omega
            · rw [upd_other _ _ _ _ e]; omega)
          clear hjj
          go_wp2_with fail
          exact ⟨⟨k + 1, _, V, L, by omega, by go_num, hOH, HU2, HMI2, HB2, HMB2⟩, by simp [intOf]; omega⟩
    · have hkn : k = n := by omega
      subst hkn
      have HUF := Lib.hid (show ∀ t, t < N → ∀ x, (L t).count x = occ es x t k from by
        have h1 := UseH.full (es := es) (N := N) (L := L) (by rw [HL.out]; exact hUO.out)
        rwa [HL.out] at h1)
      have HUN := Lib.hid hUO.out.2
      have HLB := hLb
      clear hlt hk hUO hLb
      obtain ⟨wo, rfl⟩ : ∃ x, x = wr := ⟨_, rfl⟩
      have hb0 := hOH.out.hbox
      obtain ⟨d, hdd⟩ : ∃ d, d = wo.heap.size := ⟨_, rfl⟩
      have HDD := Lib.hid hdd
      have hdge : w.heap.size + 3 ≤ d := by rw [hdd]; exact hOH.out.sz
      have HO1 := Lib.hid (hOH.out.alloc (.cells (madeCells #[.bool false] N) 4))
      have HROW := Lib.hid (show (wo.alloc (.cells (madeCells #[.bool false] N) 4)).rowIs d 4 N (fun _ => .bool false) from by rw [hdd]; exact World.rowIs_made _ _ _ _)
      have hsz1 : (wo.alloc (.cells (madeCells #[.bool false] N) 4)).heap.size = d + 1 := by rw [World.size_alloc, hdd]
      have HULT := Lib.hid (show ∀ t, t < N → ∀ g, (V t).ownBlock = some g → w.heap.size + 3 ≤ g ∧ g < d from fun t ht g hg => by rw [hdd]; exact (hOH.out.use.own t ht).lt g hg)
      go_wp2_with (refine wpList_make_row _ rfl (.tmp 60) (.tmp 60) 28 rfl 4 i0 (.bool false) Try.underlying28 hi hz0 hz1 rfl .i64 .i64 N rfl rfl (by rw [hz2]; omega) (by omega) ?_)
      rw [← HDD.out]
      have hb1 := HO1.out.hbox
      generalize wo.alloc (.cells (madeCells #[.bool false] N) 4) = w1 at *
      clear hb0 hdd hOH
      obtain ⟨S, hS⟩ : ∃ S : Nat → Bool, S = fun q => q == w.heap.size + 1 || q == d := ⟨_, rfl⟩
      have HS1 := Lib.hid (show S (w.heap.size + 1) = true from by rw [hS]; simp)
      have HSd := Lib.hid (show S d = true from by rw [hS]; simp)
      have HSo := Lib.hid (show ∀ q, q ≠ w.heap.size + 1 → q ≠ d → S q = false from fun q h1 h2 => by rw [hS]; simp [h1, h2])
      have HSi := Lib.hid (show ∀ q, S q = true → w.heap.size ≤ q from fun q hq => by
        rw [hS] at hq; simp at hq; omega)
      clear hS
      have HUSE := Lib.hid HO1.out.use
      have HF1 := Lib.hid HO1.out.fut
      have HM0 := Lib.hid HO1.out.mis
      clear HO1
      go_loopw [11] (fun lv wr => ∃ (D : Nat → Bool) (Mi : Nat → Nat) (l : List Nat), Hid (OI es N D l) ∧ Hid (FutS S w1 wr) ∧ Hid (wr.rowIs (w.heap.size + 1) 3 N (fun i => nv (Mi i))) ∧ Hid (wr.rowIs d 4 N (fun i => .bool (D i))) ∧ Hid (Own wr (d + 1) lv l) ∧ Hid (∀ v, v < N → Mi v = mis es D v k) ∧ Hid (∀ v, Mi v ≤ 2000000)) (fun lv _ => N - lenOf lv)
      case atStart => exact ⟨fun _ => false, Mi, [], Lib.hid (OI.start es N), Lib.hid (FutS.refl _), HM0, HROW, Lib.hid (Own.nil _ _), hMi, Lib.hid (fun v => Nat.le_trans (hMb.out v) HTOT.out)⟩
      case round =>
        clear hMi hMb HROW HM0 Mi
        obtain ⟨D, Mi, l, hOI, hFS, hmis, hrow, hown, hMi, hMb⟩ := hrel
        have hbx := hFS.out.cell hb1 (HSo.out _ (by simp only; omega) (by simp only; omega))
        obtain ⟨la, lc, hlv, hla⟩ := hown.out.form
        subst hlv
        by_cases hln : l.length < N
        · obtain ⟨wo2, rfl⟩ : ∃ x, x = wr := ⟨_, rfl⟩
          go_wp2_with fail
          go_loopw [12, 69] (fun nx i wr => ∃ v0 : Nat, v0 ≤ N ∧ i = .int .i64 v0 ∧ nx = .int .i64 (-1) ∧ Hid (∀ u, u < v0 → (!(D u) && readyB es D u) = false) ∧ wr = wo2) (fun _ i _ => N - (intOf i).toNat)
          case atStart => exact ⟨0, Nat.zero_le _, rfl, rfl, Lib.hid (fun u hu => by omega), rfl⟩
          case round =>
            obtain ⟨v0, hv0, rfl, rfl, hpre, rfl⟩ := hrel
            by_cases hv : v0 < N
            · have hcd := hrow.out.cell hv
              have hcm := hmis.out.cell hv
              have hmm := hMi.out v0 hv
              have go_on : (!(D v0) && readyB es D v0) = false → ∀ u, u < v0 + 1 → (!(D u) && readyB es D u) = false := fun hb u hu => by
                by_cases e : u = v0
                · subst e; exact hb
                · exact hpre.out u (by omega)
              have HGO := Lib.hid go_on
              clear go_on
              cases hD : D v0
              · rw [hD] at hcd
                by_cases hz : Mi v0 = 0
                · have hzb : ((Mi v0 : Int) == 0) = true := by simp [hz]
                  have HNX := Lib.hid (nextO_some hv (show (!(D v0) && readyB es D v0) = true from by rw [hD, (ready_iff_mis es D v0).2 (by rw [HL.out, ← hmm]; exact hz)]; rfl) hpre.out)
                  have HDV := Lib.hid hD
                  have hfd := hrow.out.frozen v0
                  obtain ⟨A2, c2, hV2, _⟩ := (HUSE.out.own v0 hv).form
                  have hll : (L v0).length ≤ 2000000 := Nat.le_trans (HLB.out v0 hv) HTOT.out
                  have hcu1 := HUSE.out.row.cell hv
                  have hsw : d + 1 ≤ wr.heap.size := by have := hFS.out.size; rw [hsz1] at this; exact this
                  rw [hV2] at hcu1
                  have hrd1 := HUSE.out.own v0 hv
                  rw [hV2] at hrd1
                  have HRD1 := Lib.hid hrd1.rd.2
                  have HV2 := Lib.hid hV2
                  have HCU1 := Lib.hid hcu1
                  have HOWL := Lib.hid ((hown.out.setOther (a := ⟨d, v0, none⟩) (by simp only; omega) (.bool true)).alloc (.cells #[nv v0] 3))
                  clear hV2 hrd1 hcu1 hz hmm hD
                  have hlb : l.length ≤ 17000000000000 := by omega
                  go_wp2_with (at_builtin; refine wpList_push rfl (.tmp 91) (.tmp 93) rfl (d + 1) _ l rfl HOWL.out wr.heap.size v0 rfl (by rw [← World.size_setCell wr ⟨d, v0, none⟩ (.bool true)]; exact heap_alloc_new _ _) hlb (by rw [World.size_alloc, World.size_setCell]; omega) ?_; intro g2 cp2 w2 hown2 hgr2 _; have hFS2 := ((hFS.out.setCell (a := ⟨d, v0, none⟩) (.inl HSd.out) (.bool true)).alloc (.cells #[nv v0] 3)).grown hgr2 (fun q hq => .inr (by rw [hsz1]; exact (HOWL.out.lt q hq).1)); have hcu2 := hFS2.cell HCU1.out (HSo.out _ (by simp only; omega) (by simp only; omega)); have HFS2 := Lib.hid hFS2; have HOWN2 := Lib.hid hown2; have HGR2 := Lib.hid hgr2; clear hFS2 hown2 hgr2)
                  have hne2 : ∀ q, q < d + 1 → some q ≠ (Value.slice la l.length lc).ownBlock := fun q hq e => by have := (hown.out.lt q e.symm).1; omega
                  have HMIS2 := Lib.hid (((hmis.out.setOther (a := ⟨d, v0, none⟩) (by simp only; omega) (.bool true)).alloc (.cells #[nv v0] 3)).of_block (HGR2.out.block _ (by rw [World.size_alloc, World.size_setCell]; omega) (hne2 _ (by omega))))
                  have HROW2 := Lib.hid (((row_upd (f := Value.bool) (i := v0) (x := true) hrow.out).alloc (.cells #[nv v0] 3)).of_block (HGR2.out.block d (by rw [World.size_alloc, World.size_setCell]; omega) (hne2 _ (by omega))))
                  clear hcu2 hcd hcm hfd hne2 HGR2
                  go_loopw [100] (fun i wr => ∃ (p : Nat) (Mi : Nat → Nat), p ≤ (L v0).length ∧ i = .int .i64 p ∧ Hid (FutS S w1 wr) ∧ Hid (wr.rowIs (w.heap.size + 1) 3 N (fun i => nv (Mi i))) ∧ Hid (wr.rowIs d 4 N (fun i => .bool (upd D v0 true i))) ∧ Hid (Own wr (d + 1) (.slice (some ⟨g2, 0, none⟩) (l.length + 1) cp2) (l ++ [v0])) ∧ Hid (∀ h, h < N → Mi h + ((L v0).take p).count h = mis es D h k) ∧ Hid (∀ v, Mi v ≤ 2000000)) (fun i _ => (L v0).length - (intOf i).toNat)
                  case atStart => exact ⟨0, Mi, Nat.zero_le _, rfl, HFS2, HMIS2, HROW2, HOWN2, Lib.hid (fun h hh => by simpa using hMi.out h hh), hMb⟩
                  case round =>
                    clear HFS2 HMIS2 HROW2 HOWN2 hmis hMi hMb hrow hown HOWL hzb hFS hbx hsw
                    obtain ⟨p, Mi, hp, rfl, hFS, hmis, hrow, hown, hMi, hMb⟩ := hrel
                    by_cases hpl : p < (L v0).length
                    · obtain ⟨h, hh⟩ := get_lt rfl hpl
                      have hhN := HUN.out v0 hv h (List.mem_of_getElem? hh)
                      obtain ⟨b3, o3, rfl, hcell⟩ := HRD1.out p h hh
                      have hlo := HULT.out v0 hv b3 (by rw [HV2.out]; rfl)
                      have hc3 := hFS.out.cell hcell (HSo.out _ (by simp only; omega) (by simp only; omega))
                      have hmc := hmis.out.cell hhN
                      have hmf := hmis.out.frozen h
                      have hct := count_take_succ hh
                      have hge : 1 ≤ Mi h := by
                        have h1 := hMi.out h hhN
                        have h2 := mis_done es D h v0 HDV.out k
                        have h3 := HUF.out v0 hv h
                        have h4 : ((L v0).take (p + 1)).count h ≤ (L v0).count h := List.Sublist.count_le _ (List.take_sublist _ _)
                        have h5 := hct h
                        rw [if_pos rfl] at h5
                        omega
                      obtain ⟨q, hq⟩ : ∃ q, Mi h = q + 1 := ⟨Mi h - 1, by omega⟩
                      have hqb : q ≤ 2000000 := by have := hMb.out h; omega
                      rw [hq] at hmc
                      have hmc2 : wr.cell? ⟨w.heap.size + 1, h, none⟩ = some (.int .i64 ((q : Int) + 1)) := hmc
                      have HMI2 := Lib.hid (show ∀ x, x < N → upd Mi h q x + ((L v0).take (p + 1)).count x = mis es D x k from fun x hx => by
                        have h1 := hMi.out x hx
                        rw [hct x]
                        by_cases e : x = h
                        · subst e; rw [upd_same, if_pos rfl]; omega
                        · rw [upd_other _ _ _ _ e, if_neg e]; omega)
                      have HMB2 := Lib.hid (show ∀ v, upd Mi h q v ≤ 2000000 from fun v => by
                        by_cases e : v = h
                        · subst e; rw [upd_same]; exact hqb
                        · rw [upd_other _ _ _ _ e]; exact hMb.out v)
                      clear hh hcell hmc hct hge hq hlo
                      obtain ⟨wi, rfl⟩ : ∃ x, x = wr := ⟨_, rfl⟩
                      go_wp2_with fail
                      refine ⟨⟨p + 1, _, by omega, by go_num, Lib.hid (hFS.out.setCell (.inl HS1.out) _), Lib.hid (row_upd (f := nv) hmis.out), Lib.hid (hrow.out.setOther (by simp only; omega) _), Lib.hid (hown.out.setOther (by simp only; omega) _), HMI2, HMB2⟩, by simp [intOf]; omega⟩
                    · have HMI3 := Lib.hid (show ∀ x, x < N → Mi x = mis es (upd D v0 true) x k from fun x hx => by
                        have h1 := hMi.out x hx
                        have h2 := mis_done es D x v0 HDV.out k
                        have h3 := HUF.out v0 hv x
                        rw [List.take_of_length_le (by omega)] at h1
                        omega)
                      have HOI := Lib.hid (hOI.out.step hln HNX.out hv)
                      go_wp2_with fail
                      exact ⟨⟨upd D v0 true, Mi, l ++ [v0], HOI, hFS, hmis, hrow, hown, HMI3, hMb⟩, by simp only [lenOf]; omega⟩
                · have hzb : ((Mi v0 : Int) == 0) = false := by simp; omega
                  have HBAD := Lib.hid (HGO.out (by
                    cases hr : readyB es D v0 with
                    | false => simp
                    | true => rw [ready_iff_mis, HL.out, ← hmm] at hr; exact absurd hr hz))
                  clear hD hmm hz
                  go_wp2_with fail
                  exact ⟨⟨v0 + 1, by omega, by go_num, by first | rfl | trivial, HBAD, by first | rfl | trivial⟩, by simp [intOf]; omega⟩
              · rw [hD] at hcd
                have HBAD := Lib.hid (HGO.out (by rw [hD]; rfl))
                clear hD hmm
                go_wp2_with fail
                exact ⟨⟨v0 + 1, by omega, by go_num, by first | rfl | trivial, HBAD, by first | rfl | trivial⟩, by simp [intOf]; omega⟩
            · have hvN : v0 = N := by omega
              have HST := Lib.hid (hOI.out.stuck hln (nextO_none (by rw [← hvN]; exact hpre.out)))
              clear hvN
              go_wp2_with fail
              go_ret2
              refine ⟨?_, hFS.out.fut HF1.out HSi.out⟩
              rw [HST.out]
              rfl
        · have hD := hOI.out.done (by omega)
          have HD := Lib.hid hD
          have HR2 := Lib.hid hown.out.rd
          have hlN : l.length = N := hD.2
          clear hD
          go_wp2_with fail
          go_ret2
          refine ⟨?_, hFS.out.fut HF1.out HSi.out⟩
          rw [HD.out.1]
          exact ⟨la, lc, by rw [HD.out.2]; rfl, HR2.out.2⟩
end Go.Proofs.Ytjoejkfchnooaaa
