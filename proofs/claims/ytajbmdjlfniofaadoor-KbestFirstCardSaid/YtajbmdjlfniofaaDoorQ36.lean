/-
  The reference's First, walked.
-/
import Derived.Test.YtajbmdjlfniofaaDoorQ36a
namespace Go.Proofs.YtajbmdjlfniofaaDoor
open Go.RowKit Go.Deep PK
attribute [local go_sem] Oper.lit Oper.litS fut_fut fut_drew World.cell?_alloc_some
attribute [local go_sem] fut_base_drew
attribute [local go_sem] World.frozen?_setCell
attribute [local go_sem] fld_v
set_option maxHeartbeats 25600000 in
set_option maxRecDepth 8000 in
theorem rfirst_any (N : Nat) (A : Option Addr) (n c : Nat) (es : List EI) (w : World) (hl : es.length = n) (hn : n ≤ 12) (hvd : validB N es = true) (hN8 : N ≤ 8) (htl : ∀ e ∈ es, e.t.length ≤ 3) (hR : RdE w A es) (root : Nat) (hroot : root < N) (k : Nat) (hk : k ≤ 8) (hk1 : 1 ≤ k) (K : Nat → List DT) (hK : ∀ v, v < N → FinL (EEs es) v k (K v)) :
  Calls Tryd.prog 14 #[hv N A n c, .int .i64 (root : Int), .int .i64 (k : Int)] w fun r w' => (∃ oA oc ks, r = .returned (.slice oA (ks : List DI).length oc) ∧ RdS w' oA 2 encD ks ∧ (∀ d ∈ ks, RdD w' d) ∧ ks.map toDT = K root) ∧ Fut w w' := by
 have HL := Lib.hid hl
 have HN12 := Lib.hid hn
 have HVD := Lib.hid hvd
 have HTL := Lib.hid htl
 have HR := Lib.hid hR
 have HN8 := Lib.hid hN8
 have HRT := Lib.hid hroot
 have HK := Lib.hid hK
 have hk8 : k ≤ 8 := hk
 have hn12 : n ≤ 12 := hn
 have hmk := run_make_row' (P := Tryd.prog) 54 28 (.slice none 0 0) 24 Tryd.underlying54 info_ds rfl .i64 .i64 N (by omega) (by omega)
 have hk1' : ¬ (k : Int) < 1 := by omega
 clear hl hn hvd htl hR hN8 hroot hK hk
 go_enter Tryd.func14, Tryd.ntmps14
 go_wp2_with fail
 have HF0 := Lib.hid (show P0 w N A n c es k ((w.alloc (.cells #[.int .i64 (N : Int), .slice A n c] 24)).alloc (.cells (madeCells #[.slice none 0 0] N) 28)) L00 from by
  refine ⟨⟨((Fut.refl w).alloc _).alloc _, by unfold Blk; (repeat (first | exact heap_new' _ _ _ (by first | rfl | (simp only [World.size_alloc])) | refine (blk_alloc_lt _ _ _ (by first | omega | (simp only [World.size_alloc]; omega))).trans ?_)), ?_, fun v _ => ⟨rdP_leaf, LstA.nil⟩⟩, fun v _ => ⟨SF.nil, Nat.zero_le _⟩⟩
  have := World.rowIs_made (w.alloc (.cells #[.int .i64 (N : Int), .slice A n c] 24)) (.slice none 0 0) N 28
  simp only [World.size_alloc] at this
  exact this)
 clear hmk
 generalize (w.alloc (.cells #[.int .i64 (N : Int), .slice A n c] 24)).alloc (.cells (madeCells #[.slice none 0 0] N) 28) = wa at *
 go_loopw [8] (fun m wr => ∃ (Ls : Nat → DI) (mb : Bool), m = .bool mb ∧ Hid (P0 w N A n c es k wr Ls) ∧ Hid (mb = false → ∀ v, v < N → Lp Ls v = K v)) (fun m wr => bN m * (1 + minN (Q0 w N A n c es k K wr)))
 case atStart => exact ⟨L00, true, rfl, HF0, Lib.hid (fun h => by cases h)⟩
 case round =>
  obtain ⟨Ls1, mb, rfl, HP1, HE1⟩ := hrel
  cases mb with
  | false =>
   have g0 := World.rowIs.cell HP1.out.1.row HRT.out
   have g1 : ((0 : Int) ≤ (root : Int)) = True := eq_true (by omega)
   have g2 : ((root : Int) < (N : Int)) = True := eq_true (by have := HRT.out; omega)
   go_wp2_with fail
   go_ret
   obtain ⟨h1, h2⟩ := HP1.out.1.lst root HRT.out
   refine ⟨⟨(Ls1 root).A, (Ls1 root).c, (Ls1 root).k, rfl, ?_, ?_, HE1.out (by first | rfl | trivial) root HRT.out⟩, HP1.out.1.fut⟩
   ·
    obtain ⟨D, hD⟩ : ∃ D, Ls1 root = D := ⟨_, rfl⟩
    rw [hD] at h1 ⊢
    obtain ⟨e, B, d, l⟩ := D
    exact h1.rd.parts.1
   ·
    obtain ⟨D, hD⟩ : ∃ D, Ls1 root = D := ⟨_, rfl⟩
    rw [hD] at h1 ⊢
    obtain ⟨e, B, d, l⟩ := D
    exact h1.rd.parts.2.2
  | true =>
   obtain ⟨Ls0, hP0, hmu⟩ : Q0 w N A n c es k K wr (minN (Q0 w N A n c es k K wr)) := minN_mem ⟨Ls1, HP1.out, rfl⟩
   have HP0 := Lib.hid hP0
   have HMU := Lib.hid hmu
   clear hP0 hmu HP1 HE1 Ls1
   go_wp2_with fail
   obtain ⟨wo, rfl⟩ : ∃ x, x = wr := ⟨_, rfl⟩
   go_loopw [8, 9] (fun m e wr => ∃ (Ls : Nat → DI) (mb : Bool) (j : Nat), m = .bool mb ∧ e = .int .i64 j ∧ j ≤ n ∧ Hid (FM w N A n c (fun b => b ≠ w.heap.size + 1) wr Ls) ∧ Hid (PassI (EEs es) N k K (Lp Ls0) (Lp Ls) mb) ∧ Hid (∀ i, i < j → ∀ E, (EEs es)[i]? = some E → Done K (Lp Ls0) (Lp Ls) i E)) (fun _ e _ => n - (intOf e).toNat)
   case atStart => exact ⟨Ls0, false, 0, rfl, rfl, Nat.zero_le _, Lib.hid HP0.out.1, Lib.hid (pass_start HP0.out.2), Lib.hid (fun i h => by omega)⟩
   case round =>
    obtain ⟨Ls, mb, j, rfl, rfl, hj, HFM, HPI, HDN⟩ := hrel
    have g0 := HFM.out.hyp.cell (i := 0) rfl
    have g1 := HFM.out.hyp.cell (i := 1) rfl
    by_cases hjn : j < n
    ·
     obtain ⟨x, hx⟩ := get_lt HL.out hjn
     obtain ⟨ab, ao, rfl, hce⟩ := HR.out.1 j x hx
     obtain ⟨htr, htl⟩ := HR.out.2 x (List.mem_of_getElem? hx)
     have C0 := Lib.hid (hce 0 _ (by decide) rfl)
     have C1 := Lib.hid (hce 1 _ (by decide) rfl)
     have HX := Lib.hid hx
     have HT := Lib.hid htr
     have hE : (EEs es)[j]? = some (toEE x) := by rw [EEs, List.getElem?_map, hx]; rfl
     have HE := Lib.hid hE
     obtain ⟨o1, o2, o3, o4, o5⟩ := okE_parts ((validB_parts HVD.out).2.2 x (List.mem_of_getElem? hx))
     have HO5 := Lib.hid o5
     have hEN : (toEE x).h < N := by simp only [toEE]; omega
     have HEN := Lib.hid hEN
     have HXH := Lib.hid (And.intro o1 o2)
     obtain ⟨T, hT⟩ : ∃ T, x.t.length = T := ⟨_, rfl⟩
     have HTT := Lib.hid hT
     have hT3 : T ≤ 3 := by rw [← hT]; exact HTL.out x (List.mem_of_getElem? hx)
     have hmk := run_make_row' (P := Tryd.prog) 46 3 (.int .i64 0) 8 Tryd.underlying46 info_int rfl .i64 .i64 T (by omega) (by omega)
     have c1 := HFM.out.fut.cell C1.out
     rw [hT] at c1
     clear hx hce htr htl hE hEN o1 o2 o3 o4 o5 hT
     go_wp2_with fail
     obtain ⟨cb, hcb⟩ : ∃ cb, cb = wr.heap.size := ⟨_, rfl⟩
     have hcl : w.heap.size + 1 < cb := by rw [hcb]; exact HFM.out.row.lt
     have HCL := Lib.hid hcl
     have HFM2 := Lib.hid (show FM w N (some ⟨ab, ao, none⟩) n c (fun b => b ≠ w.heap.size + 1 ∧ b ≠ cb) (wr.alloc (.cells (madeCells #[.int .i64 0] T) 3)) Ls from HFM.out.keep (S := fun _ => false) (FutS.of ((Fut.refl wr).alloc _)) rfl rfl (fun b h => by cases h) (fun b hb hl => ⟨rfl, hb, by omega⟩))
     have HRI := Lib.hid (show RowI (wr.alloc (.cells (madeCells #[.int .i64 0] T) 3)) cb T (chF (List.replicate T 0)) from by
      rw [hcb]
      exact (World.rowIs_made wr (.int .i64 0) T 3).congr (fun i hi => by simp [chF, hi]))
     have HAH := Lib.hid (show Ahead k K (Lp Ls0) (Lp Ls) j (toEE x) (List.replicate T 0) from by
      have h1 := ahead_start (B := k) (EEs_ok HVD.out) HK.out (EEs_tails HVD.out) HPI.out HE.out HEN.out
      have h2 : (toEE x).t.length = T := by simp only [toEE, List.length_map]; exact HTT.out
      rw [h2] at h1
      exact h1)
     rw [← hcb]
     generalize wr.alloc (.cells (madeCells #[.int .i64 0] T) 3) = wc at *
     clear hcb hcl g0 g1 c1 hmk HFM
     go_loopw [8, 12] (fun m dn w2 => ∃ (Ls : Nat → DI) (mb db : Bool) (ch : List Nat), m = .bool mb ∧ dn = .bool db ∧ Hid (FM w N (some ⟨ab, ao, none⟩) n c (fun b => b ≠ w.heap.size + 1 ∧ b ≠ cb) w2 Ls) ∧ Hid (RowI w2 cb T (chF ch)) ∧ Hid (ch.length = T ∧ ∀ a ∈ ch, a < k) ∧ Hid (PassI (EEs es) N k K (Lp Ls0) (Lp Ls) mb) ∧ Hid (∀ i, i < j → ∀ E, (EEs es)[i]? = some E → Done K (Lp Ls0) (Lp Ls) i E) ∧ Hid (db = false → Ahead k K (Lp Ls0) (Lp Ls) j (toEE x) ch) ∧ Hid (db = true → Done K (Lp Ls0) (Lp Ls) j (toEE x))) (fun _ dn w2 => (1 - bN dn) * (1 + minN (Q1 cb T k w2)))
     case atStart => exact ⟨Ls, mb, false, List.replicate T 0, rfl, rfl, HFM2, HRI, Lib.hid ⟨by simp, fun a ha => by rw [(List.mem_replicate.1 ha).2]; omega⟩, HPI, HDN, Lib.hid (fun _ => HAH.out), Lib.hid (fun h => by cases h)⟩
     case round =>
      clear HFM2 HRI HPI HDN HAH
      obtain ⟨Ls, mb, db, ch, rfl, rfl, HFM, HRI, HCH, HPI, HDN, HAH, HDJ⟩ := hrel
      cases db with
      | true =>
       go_wp2_with fail
       refine ⟨⟨Ls, mb, j + 1, rfl, by go_num, by omega, Lib.hid (HFM.out.weak (fun b hb => hb.1)), HPI, Lib.hid (fun i hi E hE => ?_)⟩, by simp [intOf]; omega⟩
       rcases Nat.lt_or_ge i j with h | h
       ·
        exact HDN.out i h E hE
       ·
        obtain rfl : i = j := by omega
        rw [HE.out] at hE
        rw [← Option.some.inj hE]; exact HDJ.out (by first | rfl | trivial)
      | false =>
       obtain ⟨wd, rfl⟩ : ∃ x, x = wr := ⟨_, rfl⟩
       go_wp2_with fail
       obtain ⟨db, hdb⟩ : ∃ db, db = wd.heap.size := ⟨_, rfl⟩
       obtain ⟨w1, hw1⟩ : ∃ w1, w1 = wd.alloc (.cells #[.int .i64 (j : Int), .slice none 0 0] 35) := ⟨_, rfl⟩
       have HF1 := Lib.hid (show Fut wd w1 from by rw [hw1]; exact (Fut.refl wd).alloc _)
       have HBD := Lib.hid (show Blk w1 db 35 #[.int .i64 (j : Int), .slice none 0 0] from by rw [hw1, hdb]; exact Blk.new _ _ _)
       have HDB := Lib.hid (show wd.heap.size ≤ db ∧ db < w1.heap.size from ⟨by omega, by rw [hw1, hdb, World.size_alloc]; omega⟩)
       have HFM1 := Lib.hid (HFM.out.grow HF1.out)
       have HRI1 := Lib.hid (HRI.out.fut HF1.out)
       rw [← hw1, ← hdb]
       clear hw1 hdb
       go_loopw [14, 15, 16] (fun okv kv iv wr => ∃ (i : Nat) (b : Bool) (ks : List DI), okv = .bool b ∧ iv = .int .i64 i ∧ i ≤ T ∧ Hid (wr.ownsRow w1.heap.size 35 2 kv ks.length (ks.flatMap encD)) ∧ Hid (b = true → KidI x Ls ch i ks) ∧ Hid (b = false → KidNo x Ls ch) ∧ Hid (∀ y ∈ ks, RdP (fun b => b ≠ w.heap.size + 1 ∧ b ≠ cb) wd y) ∧ Hid (ks.length ≤ i) ∧ Fut w1 wr) (fun _ _ iv _ => T - (intOf iv).toNat)
       case atStart => exact ⟨0, true, [], rfl, rfl, Nat.zero_le _, Lib.hid (World.ownsRow_nil _ _ _ _), Lib.hid (fun _ => ⟨rfl, fun q t p y h => by omega⟩), Lib.hid (fun h => by cases h), Lib.hid (fun y h => by simp at h), Lib.hid (Nat.le_refl _), Fut.refl _⟩
       case round =>
        obtain ⟨i, b, ks, rfl, rfl, hi, HO, HKI, HKN, HKR, HKL, hF⟩ := hrel
        have HF2 := Lib.hid hF
        obtain ⟨KA, KC, rfl⟩ := own_formK HO.out
        by_cases hbi : b = true ∧ i < T
        ·
         as_aux_lemma =>
          obtain ⟨rfl, hiT⟩ := hbi
          obtain ⟨t, ht⟩ := get_lt HTT.out hiT
          obtain ⟨p, hp⟩ := get_lt HCH.out.1 hiT
          obtain ⟨tb, to, hxA, htc⟩ := HT.out i t ht
          have ht5 := HO5.out t (List.mem_of_getElem? ht)
          obtain ⟨tn, rfl⟩ : ∃ tn : Nat, t = tn := ⟨t.toNat, by omega⟩
          have htn : tn < N := by omega
          have HFMr := Lib.hid (HFM1.out.grow hF)
          have q0 := cell_fut (World.rowIs.cell (HRI1.out.fut hF) hiT)
          have q1 := cell_fut (HFMr.out.fut.cell htc)
          have q2 := cell_fut (World.rowIs.cell HFMr.out.row htn)
          have hch : chF ch i = (p : Int) := by unfold chF; rw [hp]; rfl
          rw [hch] at q0
          have HTI := Lib.hid ht
          have HPI2 := Lib.hid hp
          have HTNN := Lib.hid htn
          obtain ⟨la, hla⟩ : ∃ la, (Ls tn).k.length = la := ⟨_, rfl⟩
          rw [hla] at q2
          have HLA2 := Lib.hid hla
          have s1 : ((0 : Int) ≤ (i : Int)) = True := eq_true (by omega)
          have s2 : ((i : Int) < (T : Int)) = True := eq_true (by omega)
          have s3 : ((0 : Int) ≤ (tn : Int)) = True := eq_true (by omega)
          have s4 : ((tn : Int) < (N : Int)) = True := eq_true (by omega)
          have HXA := Lib.hid hxA
          clear ht hp htc ht5 htn hch hla hF
          rw [hxA]
          clear hxA
          by_cases hpl : p < la
          ·
           have s5 : ((p : Int) < (la : Int)) = True := eq_true (by omega)
           go_wp2_with fail
           refine wp_region_M o_emendateref31_First_20 (by kernel_rfl) (by kernel_rfl) (by intro c a d v w h; cases d <;> exact h) ?_; unfold o_emendateref31_First_20
           iterate 14 (refine wpF_h rfl rfl (fun K hK => ?_); go_simp; refine hK _ _ ?_; clear hK K)
           refine wpF_nil ?_
           go_wp2_with fail
           obtain ⟨we, hwe⟩ : ∃ we, we = wr.drew := ⟨_, rfl⟩
           rw [← hwe]
           have HFE := Lib.hid (show Fut wr we from by rw [hwe]; exact (Fut.refl wr).drew)
           clear hwe q0 q1 q2
           obtain ⟨y, hy⟩ := get_lt HLA2.out hpl
           obtain ⟨g, hgA, hy0, hy1, _⟩ := HFM1.out.el HTNN.out hy
           obtain ⟨_, _, _, _, hyR⟩ := HFM.out.el HTNN.out hy
           have HY := Lib.hid hy
           have HYR := Lib.hid hyR
           obtain ⟨S, hS⟩ : ∃ S : Nat → Bool, S = fun q => decide (w1.heap.size ≤ q) := ⟨_, rfl⟩
           have hlow : ∀ q, q < w1.heap.size → S q = false := fun q hq => by rw [hS]; exact decide_eq_false (by omega)
           have HHI := Lib.hid (show ∀ q, w1.heap.size ≤ q → S q = true from fun q hq => by rw [hS]; exact decide_eq_true hq)
           have HSE := Lib.hid hS
           clear hS
           have hF1e : Fut w1 we := HF2.out.trans HFE.out
           obtain ⟨tb', to', e1, htc⟩ := HT.out i _ HTI.out
           rw [HXA.out] at e1
           injection e1 with e1
           injection e1 with e2 e3
           subst e2 e3
           have hch : chF ch i = (p : Int) := by unfold chF; rw [HPI2.out]; rfl
           have r0 := World.rowIs.cell HRI1.out hiT
           rw [hch] at r0
           have r1 := HFM1.out.fut.cell htc
           have r2 := World.rowIs.cell HFM1.out.row HTNN.out
           rw [HLA2.out, hgA] at r2
           have q0 := cell_futS (hF1e.cell r0) (hlow _ (World.block_lt_of_cell? _ _ r0))
           have q1 := cell_futS (hF1e.cell r1) (hlow _ (World.block_lt_of_cell? _ _ r1))
           have q2 := cell_futS (hF1e.cell r2) (hlow _ (World.block_lt_of_cell? _ _ r2))
           have y0 := cell_futS (hF1e.cell hy0) (hlow _ (World.block_lt_of_cell? _ _ hy0))
           have y1 := cell_futS (hF1e.cell hy1) (hlow _ (World.block_lt_of_cell? _ _ hy1))
           have s6 : ((0 : Int) ≤ (p : Int)) = True := eq_true (by omega)
           have HOe := Lib.hid (own_fut HO.out HFE.out)
           have hsz : w1.heap.size ≤ we.heap.size := hF1e.size
           clear hlow r0 r1 r2 hch htc hy hgA hy0 hy1 hyR hF1e
           refine wp_region_MG (relS S) o_emendateref31_First_22 (by kernel_rfl) (by kernel_rfl) (by intro c a d v w h; cases d <;> exact h) ?_; unfold o_emendateref31_First_22
           iterate 14 (refine wpS_h rfl rfl (fun K hK => ?_); go_simp; refine hK _ _ ?_; clear hK K)
           refine wpG_o rfl rfl (fun K hK => ?_)
           go_simp
           refine hK _ _ (.inr ((relS S).of_fut (fut_of_drew' (((Fut.refl we).alloc _).drew)))) ?_
           clear hK K q0 q1 q2 y0 y1
           obtain ⟨w6, hw6⟩ : ∃ w6, w6 = (we.alloc (.cells #[.int .i64 y.e, .slice y.A y.k.length y.c] 35)).drew := ⟨_, rfl⟩
           have HF6 := Lib.hid (show Fut we w6 from by rw [hw6]; exact ((Fut.refl we).alloc _).drew)
           have HNB := Lib.hid (show w6.heap[we.heap.size]? = some (.cells #[.int .i64 y.e, .slice y.A y.k.length y.c] 35 (0, 0)) from by rw [hw6]; exact heap_new' _ _ _ rfl)
           have HO6 := Lib.hid (own_fut HOe.out HF6.out)
           rw [← hw6]
           clear hw6
           refine wpG_o rfl rfl (fun K hK => ?_)
           refine wp_push 28 35 2 32 _ Tryd.underlying28 info_dr rfl (by decide) (by decide) (.tmp 69) (.tmp 83) rfl w1.heap.size (.slice KA ks.length KC) ks.length _ rfl HO6.out we.heap.size [.int .i64 y.e, .slice y.A y.k.length y.c] rfl HNB.out rfl (by simp [Value.oneCell']) (by have := HKL.out; omega) (Nat.le_trans hsz HF6.out.size) ?_
           intro g2 cap w7 p1 p2 p3
           refine hK _ _ (.inr (FutS.grownS p2 (fun q hq => HHI.out q (World.ownsRow.lt HO6.out q hq).1))) ?_
           clear hK K
           have HF7 := Lib.hid (Below.grown (HF2.out.trans (HFE.out.trans HF6.out)) p2 (Nat.le_trans hsz HF6.out.size) (fun q hq => (World.ownsRow.lt HO6.out q hq).1))
           have HO7 := Lib.hid p1
           have HG7 := Lib.hid p2
           clear p1 p2 p3
           (refine wpS_h rfl rfl (fun K hK => ?_); go_simp; refine hK _ _ ?_; clear hK K)
           refine wpG_nil ?_
           have hkl : ks.length = i := (HKI.out (by first | rfl | trivial)).1
           have HKL2 := Lib.hid hkl
           clear hkl
           go_wp2_with fail
           refine ⟨⟨i + 1, true, ks ++ [y], by first | rfl | trivial, by go_num, by omega, Lib.hid ?_, Lib.hid (fun _ => ⟨by rw [List.length_append, HKL2.out]; rfl, fun q t p' z hq h1 h2 h3 => ?_⟩), Lib.hid (fun h => by cases h), Lib.hid (fun z hz => ?_), Lib.hid (by rw [List.length_append]; have := HKL.out; simp; omega), HF7.out⟩, by simp [intOf]; omega⟩
           ·
            rw [List.length_append, List.flatMap_append]
            simpa [encD] using HO7.out
           ·
            rcases Nat.lt_or_ge q i with h | h
            ·
             rw [List.getElem?_append_left (by rw [HKL2.out]; exact h)] at h3
             exact (HKI.out (by first | rfl | trivial)).2 q t p' z h h1 h2 h3
            ·
             obtain rfl : q = i := by omega
             rw [List.getElem?_append_right (by rw [HKL2.out]; exact Nat.le_refl _), HKL2.out, Nat.sub_self] at h3
             rw [HTI.out] at h1
             rw [HPI2.out] at h2
             rw [← Option.some.inj h1, ← Option.some.inj h2, Int.toNat_natCast, HY.out]
             exact h3
           ·
            rcases List.mem_append.1 hz with h | h
            ·
             exact HKR.out z h
            ·
             rw [List.mem_singleton.1 h]
             exact HYR.out
          ·
           have s5 : ((p : Int) < (la : Int)) = False := eq_false (by omega)
           have HNO := Lib.hid (show KidNo x Ls ch from ⟨i, (tn : Int), p, HTI.out, HPI2.out, by rw [Int.toNat_natCast, HLA2.out]; omega⟩)
           go_wp2_with fail
           refine wp_region_M o_emendateref31_First_20 (by kernel_rfl) (by kernel_rfl) (by intro c a d v w h; cases d <;> exact h) ?_; unfold o_emendateref31_First_20
           iterate 14 (refine wpF_h rfl rfl (fun K hK => ?_); go_simp; refine hK _ _ ?_; clear hK K)
           refine wpF_nil ?_
           go_wp2_with fail
           exact ⟨⟨i + 1, false, ks, by first | rfl | trivial, by go_num, by omega, Lib.hid (own_fut HO.out (Fut.refl wr).drew), Lib.hid (fun h => by cases h), Lib.hid (fun _ => HNO.out), HKR, Lib.hid (by have := HKL.out; omega), HF2.out.drew⟩, by simp [intOf]; omega⟩
        ·
         have hcond : (i : Int) < (T : Int) → b = false := fun h => by
          cases b with
          | false => rfl
          | true => exact absurd ⟨rfl, by omega⟩ hbi
         have hF1r : Fut w1 wr := hF
         have b0 := (HBD.out.fut hF1r).cell (i := 0) rfl
         have b1 := (HBD.out.fut hF1r).cell (i := 1) rfl
         have b2 := (HBD.out.fut hF1r).fz 1
         clear hF1r hF
         have HIT := Lib.hid hcond
         cases b with
         | false =>
          clear hcond hbi
          have HNO := Lib.hid (HKN.out (by first | rfl | trivial))
          have HAZ := Lib.hid (show AheadS k K (Lp Ls0) (Lp Ls) j (toEE x) ch from ahead_offer (EEs_ok HVD.out) HK.out (EEs_tails HVD.out) HE.out HEN.out (by rw [tails_len, HTT.out]; exact HCH.out.1) HCH.out.2 (fun t ht => (HPI.out.good t (EEs_tails HVD.out _ (List.mem_of_getElem? HE.out) t ht)).2) (HAH.out (by first | rfl | trivial)) (fun t _ p y _ h => ⟨p, Nat.le_refl _, h⟩) (fun kids hT ha => (kid_no HNO.out (by rw [tgt_len HK.out HE.out HEN.out hT, tails_len]) ha).elim))
          obtain ⟨wz, hwz⟩ : ∃ wz, wz = wr.setCell ⟨db, 1, none⟩ (.slice KA ks.length KC) := ⟨_, rfl⟩
          have HSZ := Lib.hid (show FutS (fun q => decide (wd.heap.size ≤ q)) wd wz from by rw [hwz]; exact ((FutS.of HF1.out).then HF2.out).setCell (a := ⟨db, 1, none⟩) (.inl (decide_eq_true HDB.out.1)) _)
          have HFZ := Lib.hid (HFM.out.keep (ok' := (fun b => b ≠ w.heap.size + 1 ∧ b ≠ cb)) HSZ.out (decide_eq_false (by have := HFM.out.hyp.lt; omega)) (decide_eq_false (by have := HFM.out.row.lt; omega)) (fun b hb => by have := of_decide_eq_true hb; have := HFM.out.hyp.lt; omega) (fun b hb hl => ⟨decide_eq_false (by omega), hb⟩))
          have HRZ := Lib.hid (show RowI wz cb T (chF ch) from rowIs_futS HRI.out HSZ.out (decide_eq_false (by have := World.rowIs.lt HRI.out; omega)))
          by_cases hiT : (i : Int) < (T : Int)
          ·
           go_wp2_with fail
           rw [← hwz]
           clear hwz b0 b1 b2
           have HPZ := HPI
           have HDZ := HDN
           as_aux_lemma =>
            have HLN := Lib.hid (show (lnL x Ls).length = T from by unfold lnL; rw [List.length_map]; exact HTT.out)
            go_loopw [12, 19] (fun dn iv wr => ∃ (q : Nat) (z : Int) (b : Bool) (cc : List Nat), dn = .bool b ∧ iv = .int .i64 z ∧ z = (q : Int) - 1 ∧ q ≤ T ∧ Hid (FM w N (some ⟨ab, ao, none⟩) n c (fun b => b ≠ w.heap.size + 1 ∧ b ≠ cb) wr Ls) ∧ Hid (RowI wr cb T (chF cc)) ∧ Hid (cc.length = T) ∧ Hid (IncI ch (lnL x Ls) T q b cc)) (fun _ iv _ => (intOf iv + 1).toNat)
            case atStart => exact ⟨T, (T : Int) - 1, true, ch, rfl, rfl, rfl, Nat.le_refl _, HFZ, HRZ, Lib.hid HCH.out.1, Lib.hid (inc_start HCH.out.1 HLN.out)⟩
            case round =>
             obtain ⟨q, z, b, cc, rfl, rfl, hz, hq, HFy, HRy, HCy, HIy⟩ := hrel
             by_cases hgo : b = true ∧ 0 < q
             ·
              obtain ⟨rfl, hq0⟩ := hgo
              obtain ⟨q, rfl⟩ : ∃ p, q = p + 1 := ⟨q - 1, by omega⟩
              obtain rfl : z = (q : Int) := by omega
              have hqT : q < T := by omega
              obtain ⟨t, ht⟩ := get_lt HTT.out hqT
              obtain ⟨p, hp⟩ := get_lt HCH.out.1 hqT
              obtain ⟨tb, to, hxA, htc⟩ := HT.out q t ht
              have ht5 := HO5.out t (List.mem_of_getElem? ht)
              obtain ⟨tn, rfl⟩ : ∃ tn : Nat, t = tn := ⟨t.toNat, by omega⟩
              have htn : tn < N := by omega
              have hpk : p < k := HCH.out.2 p (List.mem_of_getElem? hp)
              have r0 := World.rowIs.cell HRy.out hqT
              rw [show chF cc q = (p : Int) from by unfold chF; rw [inc_cc HIy.out hp]; rfl] at r0
              have r5 := World.rowIs.frozen HRy.out q
              have hwp : IntKind.i64.wrap ((p : Int) + 1) = (p : Int) + 1 := by rw [IntKind.wrap_i64]; omega
              obtain ⟨la, hla⟩ : ∃ la, (Ls tn).k.length = la := ⟨_, rfl⟩
              have HLG := Lib.hid (show (lnL x Ls)[q]? = some la from by rw [lnL_get ht, Int.toNat_natCast, hla])
              have HPG := Lib.hid hp
              have HLA2 := Lib.hid hla
              have HTC := Lib.hid htc
              have HTNN := Lib.hid htn
              have s1 : ((0 : Int) ≤ (q : Int)) = True := eq_true (by omega)
              have s2 : ((q : Int) < (T : Int)) = True := eq_true (by omega)
              have s3 : ((0 : Int) ≤ (tn : Int)) = True := eq_true (by omega)
              have s4 : ((tn : Int) < (N : Int)) = True := eq_true (by omega)
              clear ht hp htc ht5 htn hla hz
              rw [hxA]
              clear hxA
              go_wp2_with fail
              obtain ⟨wy, hwy⟩ : ∃ wy, wy = wr.setCell ⟨cb, q, none⟩ (.int .i64 ((p : Int) + 1)) := ⟨_, rfl⟩
              have HFy2 := Lib.hid (show FM w N (some ⟨ab, ao, none⟩) n c (fun b => b ≠ w.heap.size + 1 ∧ b ≠ cb) wy Ls from by
               rw [hwy]
               exact HFy.out.keep (S := fun b => b == cb) (futS_set _ _ _ (by simp)) (beq_eq_false_iff_ne.2 (by have := HCL.out; omega)) (beq_eq_false_iff_ne.2 (by have := HCL.out; omega)) (fun b hb => by rw [eq_of_beq hb]; have := HCL.out; omega) (fun b hb hl => ⟨beq_eq_false_iff_ne.2 hb.2, hb⟩))
              have HRy2 := Lib.hid (show RowI wy cb T (chF (cc.set q (p + 1))) from by
               rw [hwy]
               exact (HRy.out.set q ((p : Int) + 1)).congr' (fun i _ => by have := chF_set (cc := cc) (q := q) (v := p + 1) (i := i) (by rw [HCy.out]; omega); rw [← this]; push_cast; rfl))
              rw [← hwy]
              clear hwy r0 r5
              have r0 := World.rowIs.cell HRy2.out hqT
              rw [show chF (cc.set q (p + 1)) q = (p : Int) + 1 from by rw [← chF_set (by rw [HCy.out]; omega)]; unfold upd; simp] at r0
              have r2 := World.rowIs.cell HFy2.out.row HTNN.out
              rw [HLA2.out] at r2
              have q0 := cell_fut r0
              have q1 := cell_fut (HFy2.out.fut.cell HTC.out)
              have q2 := cell_fut r2
              clear r2
              by_cases hlt : p + 1 < la
              ·
               have s5 : ((p : Int) + 1 < (la : Int)) = True := eq_true (by omega)
               have HIN := Lib.hid (inc_stop HCH.out.1 HIy.out hqT HPG.out HLG.out hlt)
               refine wp_region_M o_emendateref31_First_33 (by kernel_rfl) (by kernel_rfl) (by intro c a d v w h; cases d <;> exact h) ?_; unfold o_emendateref31_First_33
               iterate 13 (refine wpF_h rfl rfl (fun K hK => ?_); go_simp; refine hK _ _ ?_; clear hK K)
               refine wpF_nil ?_
               go_wp2_with fail
               exact ⟨⟨q, (q : Int) - 1, false, cc.set q (p + 1), by first | rfl | trivial, by go_num, rfl, by omega, Lib.hid (HFy2.out.grow (Fut.refl wy).drew), Lib.hid (HRy2.out.fut (Fut.refl wy).drew), Lib.hid (by rw [List.length_set]; exact HCy.out), HIN⟩, by first | (simp [intOf]; done) | (simp [intOf]; omega)⟩
              ·
               have s5 : ((p : Int) + 1 < (la : Int)) = False := eq_false (by omega)
               have HIN := Lib.hid (inc_go HCH.out.1 HIy.out hqT HPG.out HLG.out hlt)
               have r6 : wy.drew.cell? ⟨cb, q, none⟩ = some (.int .i64 ((p : Int) + 1)) := (Fut.refl wy).drew.cell r0
               have r5 : wy.drew.frozen? ⟨cb, q, none⟩ = false := World.rowIs.frozen (HRy2.out.fut (Fut.refl wy).drew) q
               refine wp_region_M o_emendateref31_First_33 (by kernel_rfl) (by kernel_rfl) (by intro c a d v w h; cases d <;> exact h) ?_; unfold o_emendateref31_First_33
               iterate 13 (refine wpF_h rfl rfl (fun K hK => ?_); go_simp; refine hK _ _ ?_; clear hK K)
               refine wpF_nil ?_
               go_wp2_with fail
               refine ⟨⟨q, (q : Int) - 1, true, cc.set q 0, by first | rfl | trivial, by go_num, rfl, by omega, Lib.hid ?_, Lib.hid ?_, Lib.hid (by rw [List.length_set]; exact HCy.out), HIN⟩, by first | (simp [intOf]; done) | (simp [intOf]; omega)⟩
               ·
                exact (HFy2.out.grow (Fut.refl wy).drew).keep (S := fun b => b == cb) (futS_set _ _ _ (by simp)) (beq_eq_false_iff_ne.2 (by have := HCL.out; omega)) (beq_eq_false_iff_ne.2 (by have := HCL.out; omega)) (fun b hb => by rw [eq_of_beq hb]; have := HCL.out; omega) (fun b hb hl => ⟨beq_eq_false_iff_ne.2 hb.2, hb⟩)
               ·
                exact ((HRy2.out.fut (Fut.refl wy).drew).set q 0).congr' (fun i _ => by have := chF_set (cc := cc.set q (p + 1)) (q := q) (v := 0) (i := i) (by rw [List.length_set, HCy.out]; omega); rw [List.set_set] at this; rw [← this]; rfl)
             ·
              cases b with
              | false =>
               have hend := inc_end HIy.out (.inr rfl)
               obtain ⟨e1, e2, e3⟩ := inc_round HK.out HE.out HEN.out HTT.out HCH.out.1 HCH.out.2 hk1 (fun v hv => (HPZ.out.good v hv).2) (EEs_tails HVD.out _ (List.mem_of_getElem? HE.out)) HAZ.out hend
               have HE1 := Lib.hid e1
               have HE2 := Lib.hid e2
               have HE3 := Lib.hid e3
               clear hend e1 e2 e3
               by_cases hz0 : (0 : Int) ≤ z
               ·
                go_wp2_with fail
                refine ⟨⟨Ls, mb, false, cc, by first | rfl | trivial, by first | rfl | trivial, HFy, HRy, Lib.hid ⟨HCy.out, HE3.out⟩, HPZ, HDZ, Lib.hid (fun h => (HE2.out h).1), HE1⟩, ?_⟩
                rw [Q1_min HRI.out HCH.out.1, Q1_min HRy.out HCy.out]
                obtain ⟨_, h1, h2⟩ := HE2.out rfl
                exact meas_lt h1 h2
               ·
                go_wp2_with fail
                refine ⟨⟨Ls, mb, false, cc, by first | rfl | trivial, by first | rfl | trivial, HFy, HRy, Lib.hid ⟨HCy.out, HE3.out⟩, HPZ, HDZ, Lib.hid (fun h => (HE2.out h).1), HE1⟩, ?_⟩
                rw [Q1_min HRI.out HCH.out.1, Q1_min HRy.out HCy.out]
                obtain ⟨_, h1, h2⟩ := HE2.out rfl
                exact meas_lt h1 h2
              | true =>
               have hq0 : q = 0 := Classical.byContradiction fun h => hgo ⟨rfl, by omega⟩
               subst hq0
               have hz1 : z = -1 := by omega
               clear hz
               subst hz1
               have hend := inc_end HIy.out (.inl rfl)
               obtain ⟨e1, e2, e3⟩ := inc_round HK.out HE.out HEN.out HTT.out HCH.out.1 HCH.out.2 hk1 (fun v hv => (HPZ.out.good v hv).2) (EEs_tails HVD.out _ (List.mem_of_getElem? HE.out)) HAZ.out hend
               have HE1 := Lib.hid e1
               have HE2 := Lib.hid e2
               have HE3 := Lib.hid e3
               clear hend e1 e2 e3
               go_wp2_with fail
               refine ⟨⟨Ls, mb, true, cc, by first | rfl | trivial, by first | rfl | trivial, HFy, HRy, Lib.hid ⟨HCy.out, HE3.out⟩, HPZ, HDZ, Lib.hid (fun h => (HE2.out h).1), HE1⟩, ?_⟩
               exact meas_lt0
          ·
           go_wp2_with fail
           rw [← hwz]
           clear hwz b0 b1 b2
           have HPZ := HPI
           have HDZ := HDN
           as_aux_lemma =>
            have HLN := Lib.hid (show (lnL x Ls).length = T from by unfold lnL; rw [List.length_map]; exact HTT.out)
            go_loopw [12, 19] (fun dn iv wr => ∃ (q : Nat) (z : Int) (b : Bool) (cc : List Nat), dn = .bool b ∧ iv = .int .i64 z ∧ z = (q : Int) - 1 ∧ q ≤ T ∧ Hid (FM w N (some ⟨ab, ao, none⟩) n c (fun b => b ≠ w.heap.size + 1 ∧ b ≠ cb) wr Ls) ∧ Hid (RowI wr cb T (chF cc)) ∧ Hid (cc.length = T) ∧ Hid (IncI ch (lnL x Ls) T q b cc)) (fun _ iv _ => (intOf iv + 1).toNat)
            case atStart => exact ⟨T, (T : Int) - 1, true, ch, rfl, rfl, rfl, Nat.le_refl _, HFZ, HRZ, Lib.hid HCH.out.1, Lib.hid (inc_start HCH.out.1 HLN.out)⟩
            case round =>
             obtain ⟨q, z, b, cc, rfl, rfl, hz, hq, HFy, HRy, HCy, HIy⟩ := hrel
             by_cases hgo : b = true ∧ 0 < q
             ·
              obtain ⟨rfl, hq0⟩ := hgo
              obtain ⟨q, rfl⟩ : ∃ p, q = p + 1 := ⟨q - 1, by omega⟩
              obtain rfl : z = (q : Int) := by omega
              have hqT : q < T := by omega
              obtain ⟨t, ht⟩ := get_lt HTT.out hqT
              obtain ⟨p, hp⟩ := get_lt HCH.out.1 hqT
              obtain ⟨tb, to, hxA, htc⟩ := HT.out q t ht
              have ht5 := HO5.out t (List.mem_of_getElem? ht)
              obtain ⟨tn, rfl⟩ : ∃ tn : Nat, t = tn := ⟨t.toNat, by omega⟩
              have htn : tn < N := by omega
              have hpk : p < k := HCH.out.2 p (List.mem_of_getElem? hp)
              have r0 := World.rowIs.cell HRy.out hqT
              rw [show chF cc q = (p : Int) from by unfold chF; rw [inc_cc HIy.out hp]; rfl] at r0
              have r5 := World.rowIs.frozen HRy.out q
              have hwp : IntKind.i64.wrap ((p : Int) + 1) = (p : Int) + 1 := by rw [IntKind.wrap_i64]; omega
              obtain ⟨la, hla⟩ : ∃ la, (Ls tn).k.length = la := ⟨_, rfl⟩
              have HLG := Lib.hid (show (lnL x Ls)[q]? = some la from by rw [lnL_get ht, Int.toNat_natCast, hla])
              have HPG := Lib.hid hp
              have HLA2 := Lib.hid hla
              have HTC := Lib.hid htc
              have HTNN := Lib.hid htn
              have s1 : ((0 : Int) ≤ (q : Int)) = True := eq_true (by omega)
              have s2 : ((q : Int) < (T : Int)) = True := eq_true (by omega)
              have s3 : ((0 : Int) ≤ (tn : Int)) = True := eq_true (by omega)
              have s4 : ((tn : Int) < (N : Int)) = True := eq_true (by omega)
              clear ht hp htc ht5 htn hla hz
              rw [hxA]
              clear hxA
              go_wp2_with fail
              obtain ⟨wy, hwy⟩ : ∃ wy, wy = wr.setCell ⟨cb, q, none⟩ (.int .i64 ((p : Int) + 1)) := ⟨_, rfl⟩
              have HFy2 := Lib.hid (show FM w N (some ⟨ab, ao, none⟩) n c (fun b => b ≠ w.heap.size + 1 ∧ b ≠ cb) wy Ls from by
               rw [hwy]
               exact HFy.out.keep (S := fun b => b == cb) (futS_set _ _ _ (by simp)) (beq_eq_false_iff_ne.2 (by have := HCL.out; omega)) (beq_eq_false_iff_ne.2 (by have := HCL.out; omega)) (fun b hb => by rw [eq_of_beq hb]; have := HCL.out; omega) (fun b hb hl => ⟨beq_eq_false_iff_ne.2 hb.2, hb⟩))
              have HRy2 := Lib.hid (show RowI wy cb T (chF (cc.set q (p + 1))) from by
               rw [hwy]
               exact (HRy.out.set q ((p : Int) + 1)).congr' (fun i _ => by have := chF_set (cc := cc) (q := q) (v := p + 1) (i := i) (by rw [HCy.out]; omega); rw [← this]; push_cast; rfl))
              rw [← hwy]
              clear hwy r0 r5
              have r0 := World.rowIs.cell HRy2.out hqT
              rw [show chF (cc.set q (p + 1)) q = (p : Int) + 1 from by rw [← chF_set (by rw [HCy.out]; omega)]; unfold upd; simp] at r0
              have r2 := World.rowIs.cell HFy2.out.row HTNN.out
              rw [HLA2.out] at r2
              have q0 := cell_fut r0
              have q1 := cell_fut (HFy2.out.fut.cell HTC.out)
              have q2 := cell_fut r2
              clear r2
              by_cases hlt : p + 1 < la
              ·
               have s5 : ((p : Int) + 1 < (la : Int)) = True := eq_true (by omega)
               have HIN := Lib.hid (inc_stop HCH.out.1 HIy.out hqT HPG.out HLG.out hlt)
               refine wp_region_M o_emendateref31_First_33 (by kernel_rfl) (by kernel_rfl) (by intro c a d v w h; cases d <;> exact h) ?_; unfold o_emendateref31_First_33
               iterate 13 (refine wpF_h rfl rfl (fun K hK => ?_); go_simp; refine hK _ _ ?_; clear hK K)
               refine wpF_nil ?_
               go_wp2_with fail
               exact ⟨⟨q, (q : Int) - 1, false, cc.set q (p + 1), by first | rfl | trivial, by go_num, rfl, by omega, Lib.hid (HFy2.out.grow (Fut.refl wy).drew), Lib.hid (HRy2.out.fut (Fut.refl wy).drew), Lib.hid (by rw [List.length_set]; exact HCy.out), HIN⟩, by first | (simp [intOf]; done) | (simp [intOf]; omega)⟩
              ·
               have s5 : ((p : Int) + 1 < (la : Int)) = False := eq_false (by omega)
               have HIN := Lib.hid (inc_go HCH.out.1 HIy.out hqT HPG.out HLG.out hlt)
               have r6 : wy.drew.cell? ⟨cb, q, none⟩ = some (.int .i64 ((p : Int) + 1)) := (Fut.refl wy).drew.cell r0
               have r5 : wy.drew.frozen? ⟨cb, q, none⟩ = false := World.rowIs.frozen (HRy2.out.fut (Fut.refl wy).drew) q
               refine wp_region_M o_emendateref31_First_33 (by kernel_rfl) (by kernel_rfl) (by intro c a d v w h; cases d <;> exact h) ?_; unfold o_emendateref31_First_33
               iterate 13 (refine wpF_h rfl rfl (fun K hK => ?_); go_simp; refine hK _ _ ?_; clear hK K)
               refine wpF_nil ?_
               go_wp2_with fail
               refine ⟨⟨q, (q : Int) - 1, true, cc.set q 0, by first | rfl | trivial, by go_num, rfl, by omega, Lib.hid ?_, Lib.hid ?_, Lib.hid (by rw [List.length_set]; exact HCy.out), HIN⟩, by first | (simp [intOf]; done) | (simp [intOf]; omega)⟩
               ·
                exact (HFy2.out.grow (Fut.refl wy).drew).keep (S := fun b => b == cb) (futS_set _ _ _ (by simp)) (beq_eq_false_iff_ne.2 (by have := HCL.out; omega)) (beq_eq_false_iff_ne.2 (by have := HCL.out; omega)) (fun b hb => by rw [eq_of_beq hb]; have := HCL.out; omega) (fun b hb hl => ⟨beq_eq_false_iff_ne.2 hb.2, hb⟩)
               ·
                exact ((HRy2.out.fut (Fut.refl wy).drew).set q 0).congr' (fun i _ => by have := chF_set (cc := cc.set q (p + 1)) (q := q) (v := 0) (i := i) (by rw [List.length_set, HCy.out]; omega); rw [List.set_set] at this; rw [← this]; rfl)
             ·
              cases b with
              | false =>
               have hend := inc_end HIy.out (.inr rfl)
               obtain ⟨e1, e2, e3⟩ := inc_round HK.out HE.out HEN.out HTT.out HCH.out.1 HCH.out.2 hk1 (fun v hv => (HPZ.out.good v hv).2) (EEs_tails HVD.out _ (List.mem_of_getElem? HE.out)) HAZ.out hend
               have HE1 := Lib.hid e1
               have HE2 := Lib.hid e2
               have HE3 := Lib.hid e3
               clear hend e1 e2 e3
               by_cases hz0 : (0 : Int) ≤ z
               ·
                go_wp2_with fail
                refine ⟨⟨Ls, mb, false, cc, by first | rfl | trivial, by first | rfl | trivial, HFy, HRy, Lib.hid ⟨HCy.out, HE3.out⟩, HPZ, HDZ, Lib.hid (fun h => (HE2.out h).1), HE1⟩, ?_⟩
                rw [Q1_min HRI.out HCH.out.1, Q1_min HRy.out HCy.out]
                obtain ⟨_, h1, h2⟩ := HE2.out rfl
                exact meas_lt h1 h2
               ·
                go_wp2_with fail
                refine ⟨⟨Ls, mb, false, cc, by first | rfl | trivial, by first | rfl | trivial, HFy, HRy, Lib.hid ⟨HCy.out, HE3.out⟩, HPZ, HDZ, Lib.hid (fun h => (HE2.out h).1), HE1⟩, ?_⟩
                rw [Q1_min HRI.out HCH.out.1, Q1_min HRy.out HCy.out]
                obtain ⟨_, h1, h2⟩ := HE2.out rfl
                exact meas_lt h1 h2
              | true =>
               have hq0 : q = 0 := Classical.byContradiction fun h => hgo ⟨rfl, by omega⟩
               subst hq0
               have hz1 : z = -1 := by omega
               clear hz
               subst hz1
               have hend := inc_end HIy.out (.inl rfl)
               obtain ⟨e1, e2, e3⟩ := inc_round HK.out HE.out HEN.out HTT.out HCH.out.1 HCH.out.2 hk1 (fun v hv => (HPZ.out.good v hv).2) (EEs_tails HVD.out _ (List.mem_of_getElem? HE.out)) HAZ.out hend
               have HE1 := Lib.hid e1
               have HE2 := Lib.hid e2
               have HE3 := Lib.hid e3
               clear hend e1 e2 e3
               go_wp2_with fail
               refine ⟨⟨Ls, mb, true, cc, by first | rfl | trivial, by first | rfl | trivial, HFy, HRy, Lib.hid ⟨HCy.out, HE3.out⟩, HPZ, HDZ, Lib.hid (fun h => (HE2.out h).1), HE1⟩, ?_⟩
               exact meas_lt0
         | true =>
          have hiT : ¬ (i : Int) < (T : Int) := fun h => by cases hcond h
          have hiT' : T = i := by omega
          subst hiT'
          clear hcond hbi
          have HKI2 := Lib.hid (show KidI x Ls ch x.t.length ks from by rw [HTT.out]; exact HKI.out (by first | rfl | trivial))
          obtain ⟨wz, hwz⟩ : ∃ wz, wz = wr.setCell ⟨db, 1, none⟩ (.slice KA ks.length KC) := ⟨_, rfl⟩
          have HSZ := Lib.hid (show FutS (fun q => decide (wd.heap.size ≤ q)) wd wz from by rw [hwz]; exact ((FutS.of HF1.out).then HF2.out).setCell (a := ⟨db, 1, none⟩) (.inl (decide_eq_true HDB.out.1)) _)
          have HFZ := Lib.hid (HFM.out.keep (ok' := (fun b => b ≠ w.heap.size + 1 ∧ b ≠ cb)) HSZ.out (decide_eq_false (by have := HFM.out.hyp.lt; omega)) (decide_eq_false (by have := HFM.out.row.lt; omega)) (fun b hb => by have := of_decide_eq_true hb; have := HFM.out.hyp.lt; omega) (fun b hb hl => ⟨decide_eq_false (by omega), hb⟩))
          have HRZ := Lib.hid (show RowI wz cb T (chF ch) from rowIs_futS HRI.out HSZ.out (decide_eq_false (by have := World.rowIs.lt HRI.out; omega)))
          have HBZ := Lib.hid (show Blk wz db 35 #[.int .i64 (j : Int), .slice KA ks.length KC] from by rw [hwz]; exact (HBD.out.fut HF2.out).set 1 (.slice KA ks.length KC))
          have HOZ := Lib.hid (show World.ownsRow wz w1.heap.size 35 2 (.slice KA ks.length KC) ks.length (ks.flatMap encD) from by
           rw [hwz]
           exact World.ownsRow.kept HO.out (grown_set _ ⟨db, 1, none⟩ _) (.inr (fun e => by have := (World.ownsRow.lt HO.out db e).1; have := HDB.out.2; omega)))
          have HDZR := Lib.hid (show RdP (fun b => b ≠ w.heap.size + 1 ∧ b ≠ cb) wz (.node (j : Int) KA KC ks) from .mk (RdS.of_own (enc := encD) (fun _ => rfl) (by decide) HOZ.out) (by have := HKL.out; unfold maxLen; omega) (fun b o hA hne => by
           have h1 := World.ownsRow.lt HOZ.out b (by rw [hA]; rfl)
           have h2 := HDB.out
           have h3 := World.rowIs.lt HRI.out
           have h4 := HFM.out.row.lt
           exact ⟨by omega, by omega⟩) (fun y hy => (HKR.out y hy).keep (fun b hb hl => ⟨HSZ.out.block b hl (decide_eq_false (by omega)), hb⟩)))
          have e0 : (wr.setCell ⟨db, 1, none⟩ (.slice KA ks.length KC)).cell? ⟨w.heap.size, 0, none⟩ = some (.int .i64 (N : Int)) := by rw [← hwz]; exact HFZ.out.hyp.cell (i := 0) rfl
          have e1 : (wr.setCell ⟨db, 1, none⟩ (.slice KA ks.length KC)).cell? ⟨w.heap.size, 1, none⟩ = some (.slice (some ⟨ab, ao, none⟩) n c) := by rw [← hwz]; exact HFZ.out.hyp.cell (i := 1) rfl
          have e2 : (wr.setCell ⟨db, 1, none⟩ (.slice KA ks.length KC)).cell? ⟨db, 0, none⟩ = some (.int .i64 (j : Int)) := by rw [← hwz]; exact HBZ.out.cell (i := 0) rfl
          have e3 : (wr.setCell ⟨db, 1, none⟩ (.slice KA ks.length KC)).cell? ⟨db, 1, none⟩ = some (.slice KA ks.length KC) := by rw [← hwz]; exact HBZ.out.cell (i := 1) rfl
          have HVL := Lib.hid (show PK.validD (EEs es) (toDT (.node (j : Int) KA KC ks)) x.h = true from kid_valid HX.out HXH.out.1 HO5.out (by rw [HTT.out]; exact HCH.out.1) (fun v hv => (HPI.out.good v hv).1.fin) HKI2.out)
          go_wp2_with fail
          rw [← hwz]
          clear hwz b0 b1 b2 e0 e1 e2 e3
          refine (rdvalue_any (N : Int) (some ⟨ab, ao, none⟩) n c es HL.out (by unfold maxLen; omega) HVD.out (fun e he => by have := HTL.out e he; omega) (.node (j : Int) KA KC ks) x.h wz HVL.out (HR.out.fut HFZ.out.fut) HDZR.out.rd).mono ?_
          rintro r w4 ⟨rfl, hb⟩
          have hb' : Fut wz w4 := hb
          obtain ⟨vl, hvl⟩ : ∃ vl, val (EEs es) (toDT (.node (j : Int) KA KC ks)) = vl := ⟨_, rfl⟩
          rw [hvl]
          have HVV := Lib.hid hvl
          obtain ⟨vc, vs⟩ := vl
          have fv := fld_v vc vs
          have HFZ4 := Lib.hid (HFZ.out.grow hb')
          have HRZ4 := Lib.hid (HRZ.out.fut hb')
          have HBZ4 := Lib.hid (HBZ.out.fut hb')
          have HDZ4 := Lib.hid (HDZR.out.keep (ok' := fun b => b ≠ w.heap.size + 1 ∧ b ≠ cb) (w' := w4) (fun b hb hl => ⟨hb'.block b hl, hb⟩))
          clear hb hb' hvl
          by_cases hfin : vc < (1099511627776 : Int)
          ·
           as_aux_lemma =>
            have HFD := Lib.hid (show FinD (EEs es) (toEE x).h (toDT (.node (j : Int) KA KC ks)) from ⟨by have h1 := HVL.out; simp only [toEE]; rwa [Int.toNat_of_nonneg HXH.out.1], by rw [HVV.out]; exact hfin⟩)
            go_wp2_with fail
            obtain ⟨hd, hhd⟩ : ∃ hd : Nat, x.h = hd := ⟨x.h.toNat, by have := HXH.out.1; omega⟩
            have hdN : hd < N := by have := HXH.out.2; omega
            have hEh : (toEE x).h = hd := by simp only [toEE, hhd, Int.toNat_natCast]
            have HEH := Lib.hid hEh
            have HHD := Lib.hid hhd
            have HDN2 := Lib.hid hdN
            have hgd := HPI.out.good hd hdN
            have HGD := Lib.hid hgd
            have hrow := rdP_row (HFZ4.out.lst hd hdN).1
            have HIN := Lib.hid (fun w' (hf : Fut w4 w') => insert_any (N : Int) (some ⟨ab, ao, none⟩) n c es w' HL.out (by unfold maxLen; omega) HVD.out (fun e he => by have := HTL.out e he; omega) (HR.out.fut (HFZ4.out.fut.trans hf)) (Ls hd).A (Ls hd).c (Ls hd).k (HFZ4.out.lst hd hdN).2 (by rw [← lp_len]; have := hgd.2; omega) (hrow.1.fut hf) (fun y hy => (hrow.2 y hy).rd.fut hf) (.node (j : Int) KA KC ks) (HDZ4.out.rd.fut hf) (hd : Int) (fun y hy => (hgd.1.fin (toDT y) (List.mem_map.2 ⟨y, hy, rfl⟩)).1) (by rw [← hhd]; exact HVL.out) k (by omega))
            have c0 := HFZ4.out.fut.cell C0.out
            rw [hhd] at c0
            simp only [Nat.add_zero] at c0
            obtain ⟨la, hla⟩ : ∃ la, (Ls hd).k.length = la := ⟨_, rfl⟩
            have HLA3 := Lib.hid hla
            have r2 := World.rowIs.cell HFZ4.out.row hdN
            rw [hla] at r2 HIN
            have h0 := cell_fut (HFZ4.out.hyp.cell (i := 0) rfl)
            have h1 := cell_fut (HFZ4.out.hyp.cell (i := 1) rfl)
            have d0 := cell_fut (HBZ4.out.cell (i := 0) rfl)
            have d1 := cell_fut (HBZ4.out.cell (i := 1) rfl)
            have g0 := cell_fut c0
            have g2 := cell_fut r2
            have s3 : ((0 : Int) ≤ (hd : Int)) = True := eq_true (by omega)
            have s4 : ((hd : Int) < (N : Int)) = True := eq_true (by omega)
            have s1 : ((0 : Int) ≤ (j : Int)) = True := eq_true (by omega)
            have s2 : ((j : Int) < (n : Int)) = True := eq_true (by omega)
            have C00 := Lib.hid c0
            clear hhd hEh hgd hrow c0 hla r2
            have f0 : Fut w4 w4.drew := (Fut.refl w4).drew
            refine wp_region_M o_emendateref31_First_25 (by kernel_rfl) (by kernel_rfl) (by intro c a d v w h; cases d <;> exact h) ?_; unfold o_emendateref31_First_25
            iterate 12 (refine wpF_h rfl rfl (fun K hK => ?_); go_simp; refine hK _ _ ?_; clear hK K)
            refine wpF_o rfl rfl (fun K hK => ?_)
            go_simp
            go_at_call 25
            refine (HIN.out _ f0).mono ?_
            rintro r w5 ⟨⟨A', c', l', b, rfl, i1, i2, i3, i4, i5⟩, hb⟩
            have f5 : Fut w4 w5 := f0.trans hb
            refine hK _ _ (.inr hb) ?_
            clear hK K h0 h1 d0 d1 g0 g2
            iterate 5 (refine wpF_h rfl rfl (fun K hK => ?_); go_simp; refine hK _ _ ?_; clear hK K)
            refine wpF_nil ?_
            have HI1 := Lib.hid i1
            have HFM5 := Lib.hid (HFZ4.out.grow f5)
            have HDZ5 := Lib.hid (HDZ4.out.keep (ok' := (fun b => b ≠ w.heap.size + 1 ∧ b ≠ cb)) (w' := w5) (fun b hb hl => ⟨f5.block b hl, hb⟩))
            have HNEW := Lib.hid (show RdP (fun b => b ≠ w.heap.size + 1 ∧ b ≠ cb) w5 (.node 0 A' c' l') from .mk i2 (by
              rcases i3 with ⟨_, h, _⟩ | ⟨_, _, h1, h2⟩
              ·
               rw [h]; exact Nat.zero_le _
              ·
               omega) (fun b o hA hne => by
              rcases i5 with ⟨h1, _, h3⟩ | ⟨g, h1, h2⟩
              ·
               exact rdP_ok (HFM5.out.lst hd HDN2.out).1 (by rw [← h1]; exact hA) (by rw [← h3]; exact hne)
              ·
               rw [hA] at h1
               injection h1 with h1
               injection h1 with h3 h4
               subst h3
               have h5 := World.rowIs.lt HRZ4.out
               have h6 := HFZ4.out.row.lt
               have h7 := f0.size
               exact ⟨by omega, by omega⟩) (fun y hy => by
              rcases i4 y hy with h | h
              ·
               exact (rdP_row (HFM5.out.lst hd HDN2.out).1).2 y h
              ·
               rw [h]; exact HDZ5.out))
            obtain ⟨Lz, hLz⟩ : ∃ Lz, Lz = updL Ls hd (.node 0 A' c' l') := ⟨_, rfl⟩
            have HLZ := Lib.hid hLz
            have HLP := Lib.hid (show Lp Lz = fun u => if u = hd then l'.map toDT else Lp Ls u from by rw [hLz]; exact Lp_upd _ _ _)
            obtain ⟨wv, hwv⟩ : ∃ wv, wv = w5.setCell ⟨w.heap.size + 1, hd, none⟩ (.slice A' l'.length c') := ⟨_, rfl⟩
            have HFZ := Lib.hid (show FM w N (some ⟨ab, ao, none⟩) n c (fun b => b ≠ w.heap.size + 1 ∧ b ≠ cb) wv Lz from by
             rw [hwv, hLz]
             exact HFM5.out.set (fun b hb => hb.1) HNEW.out i3)
            have HRZ := Lib.hid (show RowI wv cb T (chF ch) from by
             rw [hwv]
             exact World.rowIs.setOther (RowI.fut HRZ4.out f5) (by have := HCL.out; simp only; omega) _)
            have HFD2 := Lib.hid (show FinD (EEs es) hd (toDT (.node (j : Int) KA KC ks)) from by have := HFD.out; rwa [HEH.out] at this)
            have HKP := Lib.hid (show ∀ t, t < N → ∀ (p : Nat) (y : DT), y ∈ K t → (Lp Ls t)[p]? = some y → ∃ p', p ≤ p' ∧ (Lp Lz t)[p']? = some y from by
             rw [HLP.out]
             exact offer_keep HK.out HFD2.out HDN2.out HGD.out.1 HI1.out)
            have HPZ0 := Lib.hid (show PassI (EEs es) N k K (Lp Ls0) (Lp Lz) (mb || b) from by
             rw [HLP.out]
             exact pass_offer HK.out HPI.out HFD2.out HDN2.out HI1.out)
            have HDZ := Lib.hid (show ∀ i, i < j → ∀ E, (EEs es)[i]? = some E → Done K (Lp Ls0) (Lp Lz) i E from fun i hi E hE => done_keep HKP.out (EEs_heads HVD.out E (List.mem_of_getElem? hE)) (HDN.out i hi E hE))
            have HAZ := Lib.hid (show AheadS k K (Lp Ls0) (Lp Lz) j (toEE x) ch from ahead_offer (EEs_ok HVD.out) HK.out (EEs_tails HVD.out) HE.out HEN.out (by rw [tails_len, HTT.out]; exact HCH.out.1) HCH.out.2 (fun t ht => (HPI.out.good t (EEs_tails HVD.out _ (List.mem_of_getElem? HE.out) t ht)).2) (HAH.out (by first | rfl | trivial)) HKP.out (fun kids hT ha => by
             have h1 := kid_eq HKI2.out (by rw [HTT.out]; exact HCH.out.1) (by rw [tgt_len HK.out HE.out HEN.out hT, tails_len]) ha
             have h2 := hT.1
             rw [HEH.out] at h2 ⊢
             rw [h1, ← toDT_eq (j : Int) KA KC ks] at h2 ⊢
             rw [HLP.out]
             simp only [if_pos]
             exact ins_new HGD.out.1 (HK.out hd HDN2.out) HFD2.out HI1.out h2))
            have h1 := HFM5.out.hyp.cell (i := 1) rfl
            have g0 := f5.cell C00.out
            have g2 := World.rowIs.cell HFM5.out.row HDN2.out
            rw [HLA3.out] at g2
            have g3 := World.rowIs.frozen HFM5.out.row hd
            clear i1 i2 i3 i4 i5 hb f5 f0 hLz HNEW HFD HFD2 HKP HIN
            cases mb with
            | true =>
             have HPZ := Lib.hid (show PassI (EEs es) N k K (Lp Ls0) (Lp Lz) true from HPZ0.out)
             go_wp2_with fail
             rw [← hwv]
             clear hwv h1 g0 g2 g3
             as_aux_lemma =>
              have HLN := Lib.hid (show (lnL x Lz).length = T from by unfold lnL; rw [List.length_map]; exact HTT.out)
              go_loopw [12, 19] (fun dn iv wr => ∃ (q : Nat) (z : Int) (b : Bool) (cc : List Nat), dn = .bool b ∧ iv = .int .i64 z ∧ z = (q : Int) - 1 ∧ q ≤ T ∧ Hid (FM w N (some ⟨ab, ao, none⟩) n c (fun b => b ≠ w.heap.size + 1 ∧ b ≠ cb) wr Lz) ∧ Hid (RowI wr cb T (chF cc)) ∧ Hid (cc.length = T) ∧ Hid (IncI ch (lnL x Lz) T q b cc)) (fun _ iv _ => (intOf iv + 1).toNat)
              case atStart => exact ⟨T, (T : Int) - 1, true, ch, rfl, rfl, rfl, Nat.le_refl _, HFZ, HRZ, Lib.hid HCH.out.1, Lib.hid (inc_start HCH.out.1 HLN.out)⟩
              case round =>
               obtain ⟨q, z, b, cc, rfl, rfl, hz, hq, HFy, HRy, HCy, HIy⟩ := hrel
               by_cases hgo : b = true ∧ 0 < q
               ·
                obtain ⟨rfl, hq0⟩ := hgo
                obtain ⟨q, rfl⟩ : ∃ p, q = p + 1 := ⟨q - 1, by omega⟩
                obtain rfl : z = (q : Int) := by omega
                have hqT : q < T := by omega
                obtain ⟨t, ht⟩ := get_lt HTT.out hqT
                obtain ⟨p, hp⟩ := get_lt HCH.out.1 hqT
                obtain ⟨tb, to, hxA, htc⟩ := HT.out q t ht
                have ht5 := HO5.out t (List.mem_of_getElem? ht)
                obtain ⟨tn, rfl⟩ : ∃ tn : Nat, t = tn := ⟨t.toNat, by omega⟩
                have htn : tn < N := by omega
                have hpk : p < k := HCH.out.2 p (List.mem_of_getElem? hp)
                have r0 := World.rowIs.cell HRy.out hqT
                rw [show chF cc q = (p : Int) from by unfold chF; rw [inc_cc HIy.out hp]; rfl] at r0
                have r5 := World.rowIs.frozen HRy.out q
                have hwp : IntKind.i64.wrap ((p : Int) + 1) = (p : Int) + 1 := by rw [IntKind.wrap_i64]; omega
                obtain ⟨la, hla⟩ : ∃ la, (Lz tn).k.length = la := ⟨_, rfl⟩
                have HLG := Lib.hid (show (lnL x Lz)[q]? = some la from by rw [lnL_get ht, Int.toNat_natCast, hla])
                have HPG := Lib.hid hp
                have HLA2 := Lib.hid hla
                have HTC := Lib.hid htc
                have HTNN := Lib.hid htn
                have s1 : ((0 : Int) ≤ (q : Int)) = True := eq_true (by omega)
                have s2 : ((q : Int) < (T : Int)) = True := eq_true (by omega)
                have s3 : ((0 : Int) ≤ (tn : Int)) = True := eq_true (by omega)
                have s4 : ((tn : Int) < (N : Int)) = True := eq_true (by omega)
                clear ht hp htc ht5 htn hla hz
                rw [hxA]
                clear hxA
                go_wp2_with fail
                obtain ⟨wy, hwy⟩ : ∃ wy, wy = wr.setCell ⟨cb, q, none⟩ (.int .i64 ((p : Int) + 1)) := ⟨_, rfl⟩
                have HFy2 := Lib.hid (show FM w N (some ⟨ab, ao, none⟩) n c (fun b => b ≠ w.heap.size + 1 ∧ b ≠ cb) wy Lz from by
                 rw [hwy]
                 exact HFy.out.keep (S := fun b => b == cb) (futS_set _ _ _ (by simp)) (beq_eq_false_iff_ne.2 (by have := HCL.out; omega)) (beq_eq_false_iff_ne.2 (by have := HCL.out; omega)) (fun b hb => by rw [eq_of_beq hb]; have := HCL.out; omega) (fun b hb hl => ⟨beq_eq_false_iff_ne.2 hb.2, hb⟩))
                have HRy2 := Lib.hid (show RowI wy cb T (chF (cc.set q (p + 1))) from by
                 rw [hwy]
                 exact (HRy.out.set q ((p : Int) + 1)).congr' (fun i _ => by have := chF_set (cc := cc) (q := q) (v := p + 1) (i := i) (by rw [HCy.out]; omega); rw [← this]; push_cast; rfl))
                rw [← hwy]
                clear hwy r0 r5
                have r0 := World.rowIs.cell HRy2.out hqT
                rw [show chF (cc.set q (p + 1)) q = (p : Int) + 1 from by rw [← chF_set (by rw [HCy.out]; omega)]; unfold upd; simp] at r0
                have r2 := World.rowIs.cell HFy2.out.row HTNN.out
                rw [HLA2.out] at r2
                have q0 := cell_fut r0
                have q1 := cell_fut (HFy2.out.fut.cell HTC.out)
                have q2 := cell_fut r2
                clear r2
                by_cases hlt : p + 1 < la
                ·
                 have s5 : ((p : Int) + 1 < (la : Int)) = True := eq_true (by omega)
                 have HIN := Lib.hid (inc_stop HCH.out.1 HIy.out hqT HPG.out HLG.out hlt)
                 refine wp_region_M o_emendateref31_First_33 (by kernel_rfl) (by kernel_rfl) (by intro c a d v w h; cases d <;> exact h) ?_; unfold o_emendateref31_First_33
                 iterate 13 (refine wpF_h rfl rfl (fun K hK => ?_); go_simp; refine hK _ _ ?_; clear hK K)
                 refine wpF_nil ?_
                 go_wp2_with fail
                 exact ⟨⟨q, (q : Int) - 1, false, cc.set q (p + 1), by first | rfl | trivial, by go_num, rfl, by omega, Lib.hid (HFy2.out.grow (Fut.refl wy).drew), Lib.hid (HRy2.out.fut (Fut.refl wy).drew), Lib.hid (by rw [List.length_set]; exact HCy.out), HIN⟩, by first | (simp [intOf]; done) | (simp [intOf]; omega)⟩
                ·
                 have s5 : ((p : Int) + 1 < (la : Int)) = False := eq_false (by omega)
                 have HIN := Lib.hid (inc_go HCH.out.1 HIy.out hqT HPG.out HLG.out hlt)
                 have r6 : wy.drew.cell? ⟨cb, q, none⟩ = some (.int .i64 ((p : Int) + 1)) := (Fut.refl wy).drew.cell r0
                 have r5 : wy.drew.frozen? ⟨cb, q, none⟩ = false := World.rowIs.frozen (HRy2.out.fut (Fut.refl wy).drew) q
                 refine wp_region_M o_emendateref31_First_33 (by kernel_rfl) (by kernel_rfl) (by intro c a d v w h; cases d <;> exact h) ?_; unfold o_emendateref31_First_33
                 iterate 13 (refine wpF_h rfl rfl (fun K hK => ?_); go_simp; refine hK _ _ ?_; clear hK K)
                 refine wpF_nil ?_
                 go_wp2_with fail
                 refine ⟨⟨q, (q : Int) - 1, true, cc.set q 0, by first | rfl | trivial, by go_num, rfl, by omega, Lib.hid ?_, Lib.hid ?_, Lib.hid (by rw [List.length_set]; exact HCy.out), HIN⟩, by first | (simp [intOf]; done) | (simp [intOf]; omega)⟩
                 ·
                  exact (HFy2.out.grow (Fut.refl wy).drew).keep (S := fun b => b == cb) (futS_set _ _ _ (by simp)) (beq_eq_false_iff_ne.2 (by have := HCL.out; omega)) (beq_eq_false_iff_ne.2 (by have := HCL.out; omega)) (fun b hb => by rw [eq_of_beq hb]; have := HCL.out; omega) (fun b hb hl => ⟨beq_eq_false_iff_ne.2 hb.2, hb⟩)
                 ·
                  exact ((HRy2.out.fut (Fut.refl wy).drew).set q 0).congr' (fun i _ => by have := chF_set (cc := cc.set q (p + 1)) (q := q) (v := 0) (i := i) (by rw [List.length_set, HCy.out]; omega); rw [List.set_set] at this; rw [← this]; rfl)
               ·
                cases b with
                | false =>
                 have hend := inc_end HIy.out (.inr rfl)
                 obtain ⟨e1, e2, e3⟩ := inc_round HK.out HE.out HEN.out HTT.out HCH.out.1 HCH.out.2 hk1 (fun v hv => (HPZ.out.good v hv).2) (EEs_tails HVD.out _ (List.mem_of_getElem? HE.out)) HAZ.out hend
                 have HE1 := Lib.hid e1
                 have HE2 := Lib.hid e2
                 have HE3 := Lib.hid e3
                 clear hend e1 e2 e3
                 by_cases hz0 : (0 : Int) ≤ z
                 ·
                  go_wp2_with fail
                  refine ⟨⟨Lz, true, false, cc, by first | rfl | trivial, by first | rfl | trivial, HFy, HRy, Lib.hid ⟨HCy.out, HE3.out⟩, HPZ, HDZ, Lib.hid (fun h => (HE2.out h).1), HE1⟩, ?_⟩
                  rw [Q1_min HRI.out HCH.out.1, Q1_min HRy.out HCy.out]
                  obtain ⟨_, h1, h2⟩ := HE2.out rfl
                  exact meas_lt h1 h2
                 ·
                  go_wp2_with fail
                  refine ⟨⟨Lz, true, false, cc, by first | rfl | trivial, by first | rfl | trivial, HFy, HRy, Lib.hid ⟨HCy.out, HE3.out⟩, HPZ, HDZ, Lib.hid (fun h => (HE2.out h).1), HE1⟩, ?_⟩
                  rw [Q1_min HRI.out HCH.out.1, Q1_min HRy.out HCy.out]
                  obtain ⟨_, h1, h2⟩ := HE2.out rfl
                  exact meas_lt h1 h2
                | true =>
                 have hq0 : q = 0 := Classical.byContradiction fun h => hgo ⟨rfl, by omega⟩
                 subst hq0
                 have hz1 : z = -1 := by omega
                 clear hz
                 subst hz1
                 have hend := inc_end HIy.out (.inl rfl)
                 obtain ⟨e1, e2, e3⟩ := inc_round HK.out HE.out HEN.out HTT.out HCH.out.1 HCH.out.2 hk1 (fun v hv => (HPZ.out.good v hv).2) (EEs_tails HVD.out _ (List.mem_of_getElem? HE.out)) HAZ.out hend
                 have HE1 := Lib.hid e1
                 have HE2 := Lib.hid e2
                 have HE3 := Lib.hid e3
                 clear hend e1 e2 e3
                 go_wp2_with fail
                 refine ⟨⟨Lz, true, true, cc, by first | rfl | trivial, by first | rfl | trivial, HFy, HRy, Lib.hid ⟨HCy.out, HE3.out⟩, HPZ, HDZ, Lib.hid (fun h => (HE2.out h).1), HE1⟩, ?_⟩
                 exact meas_lt0
            | false =>
             have HPZ := Lib.hid (show PassI (EEs es) N k K (Lp Ls0) (Lp Lz) b from HPZ0.out)
             go_wp2_with fail
             rw [← hwv]
             clear hwv h1 g0 g2 g3
             as_aux_lemma =>
              have HLN := Lib.hid (show (lnL x Lz).length = T from by unfold lnL; rw [List.length_map]; exact HTT.out)
              go_loopw [12, 19] (fun dn iv wr => ∃ (q : Nat) (z : Int) (b : Bool) (cc : List Nat), dn = .bool b ∧ iv = .int .i64 z ∧ z = (q : Int) - 1 ∧ q ≤ T ∧ Hid (FM w N (some ⟨ab, ao, none⟩) n c (fun b => b ≠ w.heap.size + 1 ∧ b ≠ cb) wr Lz) ∧ Hid (RowI wr cb T (chF cc)) ∧ Hid (cc.length = T) ∧ Hid (IncI ch (lnL x Lz) T q b cc)) (fun _ iv _ => (intOf iv + 1).toNat)
              case atStart => exact ⟨T, (T : Int) - 1, true, ch, rfl, rfl, rfl, Nat.le_refl _, HFZ, HRZ, Lib.hid HCH.out.1, Lib.hid (inc_start HCH.out.1 HLN.out)⟩
              case round =>
               obtain ⟨q, z, b, cc, rfl, rfl, hz, hq, HFy, HRy, HCy, HIy⟩ := hrel
               by_cases hgo : b = true ∧ 0 < q
               ·
                obtain ⟨rfl, hq0⟩ := hgo
                obtain ⟨q, rfl⟩ : ∃ p, q = p + 1 := ⟨q - 1, by omega⟩
                obtain rfl : z = (q : Int) := by omega
                have hqT : q < T := by omega
                obtain ⟨t, ht⟩ := get_lt HTT.out hqT
                obtain ⟨p, hp⟩ := get_lt HCH.out.1 hqT
                obtain ⟨tb, to, hxA, htc⟩ := HT.out q t ht
                have ht5 := HO5.out t (List.mem_of_getElem? ht)
                obtain ⟨tn, rfl⟩ : ∃ tn : Nat, t = tn := ⟨t.toNat, by omega⟩
                have htn : tn < N := by omega
                have hpk : p < k := HCH.out.2 p (List.mem_of_getElem? hp)
                have r0 := World.rowIs.cell HRy.out hqT
                rw [show chF cc q = (p : Int) from by unfold chF; rw [inc_cc HIy.out hp]; rfl] at r0
                have r5 := World.rowIs.frozen HRy.out q
                have hwp : IntKind.i64.wrap ((p : Int) + 1) = (p : Int) + 1 := by rw [IntKind.wrap_i64]; omega
                obtain ⟨la, hla⟩ : ∃ la, (Lz tn).k.length = la := ⟨_, rfl⟩
                have HLG := Lib.hid (show (lnL x Lz)[q]? = some la from by rw [lnL_get ht, Int.toNat_natCast, hla])
                have HPG := Lib.hid hp
                have HLA2 := Lib.hid hla
                have HTC := Lib.hid htc
                have HTNN := Lib.hid htn
                have s1 : ((0 : Int) ≤ (q : Int)) = True := eq_true (by omega)
                have s2 : ((q : Int) < (T : Int)) = True := eq_true (by omega)
                have s3 : ((0 : Int) ≤ (tn : Int)) = True := eq_true (by omega)
                have s4 : ((tn : Int) < (N : Int)) = True := eq_true (by omega)
                clear ht hp htc ht5 htn hla hz
                rw [hxA]
                clear hxA
                go_wp2_with fail
                obtain ⟨wy, hwy⟩ : ∃ wy, wy = wr.setCell ⟨cb, q, none⟩ (.int .i64 ((p : Int) + 1)) := ⟨_, rfl⟩
                have HFy2 := Lib.hid (show FM w N (some ⟨ab, ao, none⟩) n c (fun b => b ≠ w.heap.size + 1 ∧ b ≠ cb) wy Lz from by
                 rw [hwy]
                 exact HFy.out.keep (S := fun b => b == cb) (futS_set _ _ _ (by simp)) (beq_eq_false_iff_ne.2 (by have := HCL.out; omega)) (beq_eq_false_iff_ne.2 (by have := HCL.out; omega)) (fun b hb => by rw [eq_of_beq hb]; have := HCL.out; omega) (fun b hb hl => ⟨beq_eq_false_iff_ne.2 hb.2, hb⟩))
                have HRy2 := Lib.hid (show RowI wy cb T (chF (cc.set q (p + 1))) from by
                 rw [hwy]
                 exact (HRy.out.set q ((p : Int) + 1)).congr' (fun i _ => by have := chF_set (cc := cc) (q := q) (v := p + 1) (i := i) (by rw [HCy.out]; omega); rw [← this]; push_cast; rfl))
                rw [← hwy]
                clear hwy r0 r5
                have r0 := World.rowIs.cell HRy2.out hqT
                rw [show chF (cc.set q (p + 1)) q = (p : Int) + 1 from by rw [← chF_set (by rw [HCy.out]; omega)]; unfold upd; simp] at r0
                have r2 := World.rowIs.cell HFy2.out.row HTNN.out
                rw [HLA2.out] at r2
                have q0 := cell_fut r0
                have q1 := cell_fut (HFy2.out.fut.cell HTC.out)
                have q2 := cell_fut r2
                clear r2
                by_cases hlt : p + 1 < la
                ·
                 have s5 : ((p : Int) + 1 < (la : Int)) = True := eq_true (by omega)
                 have HIN := Lib.hid (inc_stop HCH.out.1 HIy.out hqT HPG.out HLG.out hlt)
                 refine wp_region_M o_emendateref31_First_33 (by kernel_rfl) (by kernel_rfl) (by intro c a d v w h; cases d <;> exact h) ?_; unfold o_emendateref31_First_33
                 iterate 13 (refine wpF_h rfl rfl (fun K hK => ?_); go_simp; refine hK _ _ ?_; clear hK K)
                 refine wpF_nil ?_
                 go_wp2_with fail
                 exact ⟨⟨q, (q : Int) - 1, false, cc.set q (p + 1), by first | rfl | trivial, by go_num, rfl, by omega, Lib.hid (HFy2.out.grow (Fut.refl wy).drew), Lib.hid (HRy2.out.fut (Fut.refl wy).drew), Lib.hid (by rw [List.length_set]; exact HCy.out), HIN⟩, by first | (simp [intOf]; done) | (simp [intOf]; omega)⟩
                ·
                 have s5 : ((p : Int) + 1 < (la : Int)) = False := eq_false (by omega)
                 have HIN := Lib.hid (inc_go HCH.out.1 HIy.out hqT HPG.out HLG.out hlt)
                 have r6 : wy.drew.cell? ⟨cb, q, none⟩ = some (.int .i64 ((p : Int) + 1)) := (Fut.refl wy).drew.cell r0
                 have r5 : wy.drew.frozen? ⟨cb, q, none⟩ = false := World.rowIs.frozen (HRy2.out.fut (Fut.refl wy).drew) q
                 refine wp_region_M o_emendateref31_First_33 (by kernel_rfl) (by kernel_rfl) (by intro c a d v w h; cases d <;> exact h) ?_; unfold o_emendateref31_First_33
                 iterate 13 (refine wpF_h rfl rfl (fun K hK => ?_); go_simp; refine hK _ _ ?_; clear hK K)
                 refine wpF_nil ?_
                 go_wp2_with fail
                 refine ⟨⟨q, (q : Int) - 1, true, cc.set q 0, by first | rfl | trivial, by go_num, rfl, by omega, Lib.hid ?_, Lib.hid ?_, Lib.hid (by rw [List.length_set]; exact HCy.out), HIN⟩, by first | (simp [intOf]; done) | (simp [intOf]; omega)⟩
                 ·
                  exact (HFy2.out.grow (Fut.refl wy).drew).keep (S := fun b => b == cb) (futS_set _ _ _ (by simp)) (beq_eq_false_iff_ne.2 (by have := HCL.out; omega)) (beq_eq_false_iff_ne.2 (by have := HCL.out; omega)) (fun b hb => by rw [eq_of_beq hb]; have := HCL.out; omega) (fun b hb hl => ⟨beq_eq_false_iff_ne.2 hb.2, hb⟩)
                 ·
                  exact ((HRy2.out.fut (Fut.refl wy).drew).set q 0).congr' (fun i _ => by have := chF_set (cc := cc.set q (p + 1)) (q := q) (v := 0) (i := i) (by rw [List.length_set, HCy.out]; omega); rw [List.set_set] at this; rw [← this]; rfl)
               ·
                cases b with
                | false =>
                 have hend := inc_end HIy.out (.inr rfl)
                 obtain ⟨e1, e2, e3⟩ := inc_round HK.out HE.out HEN.out HTT.out HCH.out.1 HCH.out.2 hk1 (fun v hv => (HPZ.out.good v hv).2) (EEs_tails HVD.out _ (List.mem_of_getElem? HE.out)) HAZ.out hend
                 have HE1 := Lib.hid e1
                 have HE2 := Lib.hid e2
                 have HE3 := Lib.hid e3
                 clear hend e1 e2 e3
                 by_cases hz0 : (0 : Int) ≤ z
                 ·
                  go_wp2_with fail
                  refine ⟨⟨Lz, b, false, cc, by first | rfl | trivial, by first | rfl | trivial, HFy, HRy, Lib.hid ⟨HCy.out, HE3.out⟩, HPZ, HDZ, Lib.hid (fun h => (HE2.out h).1), HE1⟩, ?_⟩
                  rw [Q1_min HRI.out HCH.out.1, Q1_min HRy.out HCy.out]
                  obtain ⟨_, h1, h2⟩ := HE2.out rfl
                  exact meas_lt h1 h2
                 ·
                  go_wp2_with fail
                  refine ⟨⟨Lz, b, false, cc, by first | rfl | trivial, by first | rfl | trivial, HFy, HRy, Lib.hid ⟨HCy.out, HE3.out⟩, HPZ, HDZ, Lib.hid (fun h => (HE2.out h).1), HE1⟩, ?_⟩
                  rw [Q1_min HRI.out HCH.out.1, Q1_min HRy.out HCy.out]
                  obtain ⟨_, h1, h2⟩ := HE2.out rfl
                  exact meas_lt h1 h2
                | true =>
                 have hq0 : q = 0 := Classical.byContradiction fun h => hgo ⟨rfl, by omega⟩
                 subst hq0
                 have hz1 : z = -1 := by omega
                 clear hz
                 subst hz1
                 have hend := inc_end HIy.out (.inl rfl)
                 obtain ⟨e1, e2, e3⟩ := inc_round HK.out HE.out HEN.out HTT.out HCH.out.1 HCH.out.2 hk1 (fun v hv => (HPZ.out.good v hv).2) (EEs_tails HVD.out _ (List.mem_of_getElem? HE.out)) HAZ.out hend
                 have HE1 := Lib.hid e1
                 have HE2 := Lib.hid e2
                 have HE3 := Lib.hid e3
                 clear hend e1 e2 e3
                 go_wp2_with fail
                 refine ⟨⟨Lz, b, true, cc, by first | rfl | trivial, by first | rfl | trivial, HFy, HRy, Lib.hid ⟨HCy.out, HE3.out⟩, HPZ, HDZ, Lib.hid (fun h => (HE2.out h).1), HE1⟩, ?_⟩
                 exact meas_lt0
          ·
           have HAZ := Lib.hid (show AheadS k K (Lp Ls0) (Lp Ls) j (toEE x) ch from ahead_offer (EEs_ok HVD.out) HK.out (EEs_tails HVD.out) HE.out HEN.out (by rw [tails_len, HTT.out]; exact HCH.out.1) HCH.out.2 (fun t ht => (HPI.out.good t (EEs_tails HVD.out _ (List.mem_of_getElem? HE.out) t ht)).2) (HAH.out (by first | rfl | trivial)) (fun t _ p y _ h => ⟨p, Nat.le_refl _, h⟩) (fun kids hT ha => by
            exfalso
            have h1 := kid_eq HKI2.out (by rw [HTT.out]; exact HCH.out.1) (by rw [tgt_len HK.out HE.out HEN.out hT, tails_len]) ha
            have h2 := ((HK.out _ HEN.out).pre.fin _ hT.1).2
            rw [h1, ← toDT_eq (j : Int) KA KC ks, HVV.out] at h2
            exact hfin h2))
           have HFZ := HFZ4
           have HRZ := HRZ4
           go_wp2_with fail
           have HPZ := HPI
           have HDZ := HDN
           as_aux_lemma =>
            have HLN := Lib.hid (show (lnL x Ls).length = T from by unfold lnL; rw [List.length_map]; exact HTT.out)
            go_loopw [12, 19] (fun dn iv wr => ∃ (q : Nat) (z : Int) (b : Bool) (cc : List Nat), dn = .bool b ∧ iv = .int .i64 z ∧ z = (q : Int) - 1 ∧ q ≤ T ∧ Hid (FM w N (some ⟨ab, ao, none⟩) n c (fun b => b ≠ w.heap.size + 1 ∧ b ≠ cb) wr Ls) ∧ Hid (RowI wr cb T (chF cc)) ∧ Hid (cc.length = T) ∧ Hid (IncI ch (lnL x Ls) T q b cc)) (fun _ iv _ => (intOf iv + 1).toNat)
            case atStart => exact ⟨T, (T : Int) - 1, true, ch, rfl, rfl, rfl, Nat.le_refl _, HFZ, HRZ, Lib.hid HCH.out.1, Lib.hid (inc_start HCH.out.1 HLN.out)⟩
            case round =>
             obtain ⟨q, z, b, cc, rfl, rfl, hz, hq, HFy, HRy, HCy, HIy⟩ := hrel
             by_cases hgo : b = true ∧ 0 < q
             ·
              obtain ⟨rfl, hq0⟩ := hgo
              obtain ⟨q, rfl⟩ : ∃ p, q = p + 1 := ⟨q - 1, by omega⟩
              obtain rfl : z = (q : Int) := by omega
              have hqT : q < T := by omega
              obtain ⟨t, ht⟩ := get_lt HTT.out hqT
              obtain ⟨p, hp⟩ := get_lt HCH.out.1 hqT
              obtain ⟨tb, to, hxA, htc⟩ := HT.out q t ht
              have ht5 := HO5.out t (List.mem_of_getElem? ht)
              obtain ⟨tn, rfl⟩ : ∃ tn : Nat, t = tn := ⟨t.toNat, by omega⟩
              have htn : tn < N := by omega
              have hpk : p < k := HCH.out.2 p (List.mem_of_getElem? hp)
              have r0 := World.rowIs.cell HRy.out hqT
              rw [show chF cc q = (p : Int) from by unfold chF; rw [inc_cc HIy.out hp]; rfl] at r0
              have r5 := World.rowIs.frozen HRy.out q
              have hwp : IntKind.i64.wrap ((p : Int) + 1) = (p : Int) + 1 := by rw [IntKind.wrap_i64]; omega
              obtain ⟨la, hla⟩ : ∃ la, (Ls tn).k.length = la := ⟨_, rfl⟩
              have HLG := Lib.hid (show (lnL x Ls)[q]? = some la from by rw [lnL_get ht, Int.toNat_natCast, hla])
              have HPG := Lib.hid hp
              have HLA2 := Lib.hid hla
              have HTC := Lib.hid htc
              have HTNN := Lib.hid htn
              have s1 : ((0 : Int) ≤ (q : Int)) = True := eq_true (by omega)
              have s2 : ((q : Int) < (T : Int)) = True := eq_true (by omega)
              have s3 : ((0 : Int) ≤ (tn : Int)) = True := eq_true (by omega)
              have s4 : ((tn : Int) < (N : Int)) = True := eq_true (by omega)
              clear ht hp htc ht5 htn hla hz
              rw [hxA]
              clear hxA
              go_wp2_with fail
              obtain ⟨wy, hwy⟩ : ∃ wy, wy = wr.setCell ⟨cb, q, none⟩ (.int .i64 ((p : Int) + 1)) := ⟨_, rfl⟩
              have HFy2 := Lib.hid (show FM w N (some ⟨ab, ao, none⟩) n c (fun b => b ≠ w.heap.size + 1 ∧ b ≠ cb) wy Ls from by
               rw [hwy]
               exact HFy.out.keep (S := fun b => b == cb) (futS_set _ _ _ (by simp)) (beq_eq_false_iff_ne.2 (by have := HCL.out; omega)) (beq_eq_false_iff_ne.2 (by have := HCL.out; omega)) (fun b hb => by rw [eq_of_beq hb]; have := HCL.out; omega) (fun b hb hl => ⟨beq_eq_false_iff_ne.2 hb.2, hb⟩))
              have HRy2 := Lib.hid (show RowI wy cb T (chF (cc.set q (p + 1))) from by
               rw [hwy]
               exact (HRy.out.set q ((p : Int) + 1)).congr' (fun i _ => by have := chF_set (cc := cc) (q := q) (v := p + 1) (i := i) (by rw [HCy.out]; omega); rw [← this]; push_cast; rfl))
              rw [← hwy]
              clear hwy r0 r5
              have r0 := World.rowIs.cell HRy2.out hqT
              rw [show chF (cc.set q (p + 1)) q = (p : Int) + 1 from by rw [← chF_set (by rw [HCy.out]; omega)]; unfold upd; simp] at r0
              have r2 := World.rowIs.cell HFy2.out.row HTNN.out
              rw [HLA2.out] at r2
              have q0 := cell_fut r0
              have q1 := cell_fut (HFy2.out.fut.cell HTC.out)
              have q2 := cell_fut r2
              clear r2
              by_cases hlt : p + 1 < la
              ·
               have s5 : ((p : Int) + 1 < (la : Int)) = True := eq_true (by omega)
               have HIN := Lib.hid (inc_stop HCH.out.1 HIy.out hqT HPG.out HLG.out hlt)
               refine wp_region_M o_emendateref31_First_33 (by kernel_rfl) (by kernel_rfl) (by intro c a d v w h; cases d <;> exact h) ?_; unfold o_emendateref31_First_33
               iterate 13 (refine wpF_h rfl rfl (fun K hK => ?_); go_simp; refine hK _ _ ?_; clear hK K)
               refine wpF_nil ?_
               go_wp2_with fail
               exact ⟨⟨q, (q : Int) - 1, false, cc.set q (p + 1), by first | rfl | trivial, by go_num, rfl, by omega, Lib.hid (HFy2.out.grow (Fut.refl wy).drew), Lib.hid (HRy2.out.fut (Fut.refl wy).drew), Lib.hid (by rw [List.length_set]; exact HCy.out), HIN⟩, by first | (simp [intOf]; done) | (simp [intOf]; omega)⟩
              ·
               have s5 : ((p : Int) + 1 < (la : Int)) = False := eq_false (by omega)
               have HIN := Lib.hid (inc_go HCH.out.1 HIy.out hqT HPG.out HLG.out hlt)
               have r6 : wy.drew.cell? ⟨cb, q, none⟩ = some (.int .i64 ((p : Int) + 1)) := (Fut.refl wy).drew.cell r0
               have r5 : wy.drew.frozen? ⟨cb, q, none⟩ = false := World.rowIs.frozen (HRy2.out.fut (Fut.refl wy).drew) q
               refine wp_region_M o_emendateref31_First_33 (by kernel_rfl) (by kernel_rfl) (by intro c a d v w h; cases d <;> exact h) ?_; unfold o_emendateref31_First_33
               iterate 13 (refine wpF_h rfl rfl (fun K hK => ?_); go_simp; refine hK _ _ ?_; clear hK K)
               refine wpF_nil ?_
               go_wp2_with fail
               refine ⟨⟨q, (q : Int) - 1, true, cc.set q 0, by first | rfl | trivial, by go_num, rfl, by omega, Lib.hid ?_, Lib.hid ?_, Lib.hid (by rw [List.length_set]; exact HCy.out), HIN⟩, by first | (simp [intOf]; done) | (simp [intOf]; omega)⟩
               ·
                exact (HFy2.out.grow (Fut.refl wy).drew).keep (S := fun b => b == cb) (futS_set _ _ _ (by simp)) (beq_eq_false_iff_ne.2 (by have := HCL.out; omega)) (beq_eq_false_iff_ne.2 (by have := HCL.out; omega)) (fun b hb => by rw [eq_of_beq hb]; have := HCL.out; omega) (fun b hb hl => ⟨beq_eq_false_iff_ne.2 hb.2, hb⟩)
               ·
                exact ((HRy2.out.fut (Fut.refl wy).drew).set q 0).congr' (fun i _ => by have := chF_set (cc := cc.set q (p + 1)) (q := q) (v := 0) (i := i) (by rw [List.length_set, HCy.out]; omega); rw [List.set_set] at this; rw [← this]; rfl)
             ·
              cases b with
              | false =>
               have hend := inc_end HIy.out (.inr rfl)
               obtain ⟨e1, e2, e3⟩ := inc_round HK.out HE.out HEN.out HTT.out HCH.out.1 HCH.out.2 hk1 (fun v hv => (HPZ.out.good v hv).2) (EEs_tails HVD.out _ (List.mem_of_getElem? HE.out)) HAZ.out hend
               have HE1 := Lib.hid e1
               have HE2 := Lib.hid e2
               have HE3 := Lib.hid e3
               clear hend e1 e2 e3
               by_cases hz0 : (0 : Int) ≤ z
               ·
                go_wp2_with fail
                refine ⟨⟨Ls, mb, false, cc, by first | rfl | trivial, by first | rfl | trivial, HFy, HRy, Lib.hid ⟨HCy.out, HE3.out⟩, HPZ, HDZ, Lib.hid (fun h => (HE2.out h).1), HE1⟩, ?_⟩
                rw [Q1_min HRI.out HCH.out.1, Q1_min HRy.out HCy.out]
                obtain ⟨_, h1, h2⟩ := HE2.out rfl
                exact meas_lt h1 h2
               ·
                go_wp2_with fail
                refine ⟨⟨Ls, mb, false, cc, by first | rfl | trivial, by first | rfl | trivial, HFy, HRy, Lib.hid ⟨HCy.out, HE3.out⟩, HPZ, HDZ, Lib.hid (fun h => (HE2.out h).1), HE1⟩, ?_⟩
                rw [Q1_min HRI.out HCH.out.1, Q1_min HRy.out HCy.out]
                obtain ⟨_, h1, h2⟩ := HE2.out rfl
                exact meas_lt h1 h2
              | true =>
               have hq0 : q = 0 := Classical.byContradiction fun h => hgo ⟨rfl, by omega⟩
               subst hq0
               have hz1 : z = -1 := by omega
               clear hz
               subst hz1
               have hend := inc_end HIy.out (.inl rfl)
               obtain ⟨e1, e2, e3⟩ := inc_round HK.out HE.out HEN.out HTT.out HCH.out.1 HCH.out.2 hk1 (fun v hv => (HPZ.out.good v hv).2) (EEs_tails HVD.out _ (List.mem_of_getElem? HE.out)) HAZ.out hend
               have HE1 := Lib.hid e1
               have HE2 := Lib.hid e2
               have HE3 := Lib.hid e3
               clear hend e1 e2 e3
               go_wp2_with fail
               refine ⟨⟨Ls, mb, true, cc, by first | rfl | trivial, by first | rfl | trivial, HFy, HRy, Lib.hid ⟨HCy.out, HE3.out⟩, HPZ, HDZ, Lib.hid (fun h => (HE2.out h).1), HE1⟩, ?_⟩
               exact meas_lt0
    ·
     as_aux_lemma =>
      have hjn' : j = n := by omega
      have hes := EEs_ok HVD.out
      have htN := EEs_tails HVD.out
      have HD := Lib.hid (show ∀ e E, (EEs es)[e]? = some E → Done K (Lp Ls0) (Lp Ls) e E from fun e E hE => HDN.out e (by have := (List.getElem?_eq_some_iff.1 hE).1; rw [EEs, List.length_map] at this; have := HL.out; omega) E hE)
      have HPX := Lib.hid (show P0 w N A n c es k wr Ls from ⟨HFM.out, HPI.out.good⟩)
      have HES := Lib.hid hes
      have HTN := Lib.hid htN
      clear hes htN
      cases mb with
      | false =>
       have HFN := Lib.hid (pass_final HES.out HK.out HTN.out HPI.out HD.out)
       go_wp2_with fail
       exact ⟨⟨Ls, false, rfl, HPX, Lib.hid (fun _ => HFN.out)⟩, by simp [bN]; omega⟩
      | true =>
       have HFN := Lib.hid (pass_less HES.out HK.out HTN.out HPI.out HD.out)
       go_wp2_with fail
       refine ⟨⟨Ls, true, rfl, HPX, Lib.hid (fun h => by cases h)⟩, ?_⟩
       have h1 : minN (Q0 w N A n c es k K wr) ≤ mu N K (Lp Ls) := minN_le ⟨Ls, HPX.out, rfl⟩
       have h2 := HFN.out
       have h3 := HMU.out
       simp [bN]
       omega
end Go.Proofs.YtajbmdjlfniofaaDoor
