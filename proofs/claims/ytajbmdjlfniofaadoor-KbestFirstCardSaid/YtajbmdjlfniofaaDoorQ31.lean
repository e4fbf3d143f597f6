/-
  The reference's First: insert.
-/
import Derived.Test.YtajbmdjlfniofaaDoorBL
import Derived.Test.YtajbmdjlfniofaaDoorBD
import Derived.Test.YtajbmdjlfniofaaDoorBB
namespace Go.Proofs.YtajbmdjlfniofaaDoor
open Go.RowKit Go.Deep PK
attribute [local go_sem] Oper.lit Oper.litS fut_fut fut_drew World.cell?_alloc_some
attribute [local go_sem] fut_base_drew
/-- a list as the reference keeps it: none, or a row of its own -/
def LstA (A : Option Addr) (c : Nat) (l : List DI) : Prop := (A = none ∧ l = [] ∧ c = 0) ∨ ∃ g, A = some ⟨g, 0, none⟩ ∧ l.length ≤ c ∧ c ≤ maxLen
def InsQ (es : List EI) (k : Int) (lA : Option Addr) (lc : Nat) (ls : List DI) (d : DI) (w : World) (r : Ending) (w' : World) : Prop :=
 ∃ A c l b, r = .returned (.tuple #[.slice A (l : List DI).length c, .bool b]) ∧ InsR (EEs es) k (ls.map toDT) (toDT d) (l.map toDT) b ∧ RdS w' A 2 encD l ∧ LstA A c l ∧ (∀ x ∈ l, x ∈ ls ∨ x = d) ∧ ((A = lA ∧ c = lc ∧ l = ls) ∨ ∃ g, A = some ⟨g, 0, none⟩ ∧ w.heap.size ≤ g)
set_option maxRecDepth 4000 in
theorem wpo_app {w : World} {o : Oper} {a : Act} {K : Act → World → Prop} {Q : Exit → Act → World → Prop} (s x : Operand) (ho : o.op = .call { callee := .builtin .append, args := #[s, x], argTypes := #[28, 28] })
  (base : Nat) (v : Value) (n : Nat) (xs : List Value) (hs : a.eval s = v) (hown : w.ownsRow base 35 2 v n xs) (A : Option Addr) (m c : Nat) (l : List DI) (hx : a.eval x = .slice A m c) (hA : A = none → c = 0) (hl : l.length = m) (hm : n + m ≤ 1000)
  (hR : RdS w A 2 encD l) (hbase : base ≤ w.heap.size)
  (h : ∀ v' w', w'.ownsRow base 35 2 v' (n + m) (xs ++ l.flatMap encD) → w.grownBy w' v.ownBlock → (v'.ownBlock = v.ownBlock ∨ v'.ownBlock = some w.heap.size) → K (a.put o.dst v') w') : o.wp Tryd.prog a w K Q := by
 obtain ⟨i, hi, hzz⟩ := Option.map_eq_some_iff.1 info_dr
 simp only [Prod.mk.injEq] at hzz
 obtain ⟨hz, hs1, hb1⟩ := hzz
 cases A with
 | none =>
  obtain rfl : l = [] := by
   cases l with
   | nil => rfl
   | cons y l => obtain ⟨_, _, e, _⟩ := hR 0 y rfl; cases e
  obtain rfl : m = 0 := hl.symm
  obtain rfl := hA rfl
  have hr := run_append_owned_none (P := Tryd.prog) w base 28 o.type 35 i 2 Tryd.underlying28 hi v n xs hown
  unfold Oper.wp execOp
  simp only [ho, resolve, invoke, builtin, Sem.run_bind, Sem.run_pure, Result.andThen_ok, List.map_toArray, List.map_cons, List.map_nil, hs, hx, hr]
  exact h v w (by simpa using hown) ⟨rfl, rfl, rfl, Nat.le_refl _, fun _ _ _ => rfl⟩ (.inl rfl)
 | some ad =>
  obtain ⟨v', w', hr, h2, h3, _, h5⟩ := run_append_own_at (P := Tryd.prog) w base 28 o.type 35 i _ 2 32 Tryd.underlying28 hi hz hs1 hb1 rfl (by decide) v n xs hown ad m c (l.flatMap encD) (by rw [flatD_len, hl])
   (fun j u hu => by
    obtain ⟨i, j2, e, rfl, hj2, hi, hu2⟩ := flat_inv encD 2 (fun _ => rfl) l j u hu
    obtain ⟨b', o2, hA, hc⟩ := hR i e hi
    injection hA with hA
    subst hA
    have e3 : (⟨b', o2, none⟩ : Addr).add (i * 2 + j2) = ⟨b', o2 + i * 2 + j2, none⟩ := by unfold Addr.add; split <;> simp_all [Nat.add_assoc]
    rw [e3]
    exact hc j2 u hj2 hu2)
   (fun u hu => by
    obtain ⟨e, _, he⟩ := List.mem_flatMap.1 hu
    simp only [encD, List.mem_cons, List.not_mem_nil, or_false] at he
    rcases he with rfl | rfl <;> rfl) (by unfold maxLen; omega) (by omega) hbase
  unfold Oper.wp execOp
  simp only [ho, resolve, invoke, builtin, Sem.run_bind, Sem.run_pure, Result.andThen_ok, List.map_toArray, List.map_cons, List.map_nil, hs, hx, hr]
  exact h v' w' h2 h3 h5
theorem fut_of_drew' {a b : World} (h : Fut a b) : Fut a.drew b := ⟨h.os, h.tape, h.output, h.size, h.block⟩
theorem futS_own' {S : Nat → Bool} {w w' : World} {g : Nat} (hg : w.grownBy w' (some g)) (hS : S g = true) : FutS S w w' := FutS.grownS hg (fun k hk => by rw [← Option.some.inj hk]; exact hS)
theorem fut_own' {w0 w w' : World} {g : Nat} (h : Fut w0 w) (hg : w.grownBy w' (some g)) (hge : w0.heap.size ≤ g) : Fut w0 w' := Below.grown h hg h.size (fun k hk => by rw [← Option.some.inj hk]; exact hge)
theorem rdS_drop {α : Type} {w : World} {b o sz : Nat} {enc : α → List Value} {l : List α} {j : Nat} (h : RdS w (some ⟨b, o, none⟩) sz enc l) : RdS w (some ⟨b, o + j * sz, none⟩) sz enc (l.drop j) := by
 intro i a hi
 rw [List.getElem?_drop] at hi
 obtain ⟨b', o', e, hc⟩ := h (j + i) a hi
 injection e with e
 injection e with e1 e2
 subst e1 e2
 refine ⟨b, o + j * sz, rfl, fun q u hq hu => ?_⟩
 have := hc q u hq hu
 rwa [Nat.add_mul, ← Nat.add_assoc o] at this
theorem rdS_grown {w w' : World} {b g : Nat} {d : DI} (h : RdS w (some ⟨b, 0, none⟩) 2 encD [d]) (hg : w.grownBy w' (some g)) (hne : b ≠ g) : RdS w' (some ⟨b, 0, none⟩) 2 encD [d] := by
 intro i a hi
 obtain ⟨b', o', e, hc⟩ := h i a hi
 injection e with e
 injection e with e1 e2
 subst e1 e2
 exact ⟨b, 0, rfl, fun q u hq hu => (World.cell?_of_block (hg.block b (World.block_lt_of_cell? _ _ (hc q u hq hu)) (fun e => hne (Option.some.inj e)))).trans (hc q u hq hu)⟩
theorem own_capM {w : World} {B sz n c : Nat} {E : TypeId} {A : Option Addr} {xs : List Value} (h : w.ownsRow B E sz (.slice A n c) n xs) : c ≤ maxLen := by
 rcases h.2 with ⟨h', _⟩ | ⟨g, cap, cur, h', _, _, _, hcm, _⟩
 ·
  injection h' with _ _ e
  rw [e]; exact Nat.zero_le _
 ·
  injection h' with _ _ e
  omega
theorem ins_len {ls : List DI} {d : DI} {m j k : Nat} (hm : ls.length = m) (hj : j ≤ m) : ((ls.take j ++ d :: ls.drop j).take k).length = min k (m + 1) := by
 rw [List.length_take, List.length_append, List.length_take, List.length_cons, List.length_drop, hm]
 omega
theorem ins_sub {ls : List DI} {d x : DI} {j : Nat} (h : x ∈ ls.take j ++ d :: ls.drop j) : x ∈ ls ∨ x = d := by
 rcases List.mem_append.1 h with h | h
 ·
  exact .inl (List.mem_of_mem_take h)
 ·
  rcases List.mem_cons.1 h with h | h
  ·
   exact .inr h
  ·
   exact .inl (List.mem_of_mem_drop h)
theorem ins_row {w : World} {B n c : Nat} {A : Option Addr} {a b : List DI} {d : DI} (h : w.ownsRow B 35 2 (.slice A n c) n ((([] ++ a.flatMap encD) ++ [d].flatMap encD) ++ b.flatMap encD)) : RdS w A 2 encD (a ++ d :: b) := by
 have e : (([] ++ a.flatMap encD) ++ [d].flatMap encD) ++ b.flatMap encD = (a ++ d :: b).flatMap encD := by simp
 rw [e] at h
 exact RdS.of_own (enc := encD) (fun _ => rfl) (by decide) h
set_option maxHeartbeats 6400000 in
set_option maxRecDepth 4000 in
theorem insert_any (N : Int) (A : Option Addr) (n c : Nat) (es : List EI) (w : World) (hl : es.length = n) (hn : n ≤ maxLen) (hvd : validB N es = true) (htl : ∀ e ∈ es, e.t.length ≤ 1000000) (hR : RdE w A es)
  (lA : Option Addr) (lc : Nat) (ls : List DI) (hla : LstA lA lc ls) (hls : ls.length ≤ 10) (hLR : RdS w lA 2 encD ls) (hLD : ∀ x ∈ ls, RdD w x) (d : DI) (hD : RdD w d) (v : Int) (hLv : ∀ x ∈ ls, PK.validD (EEs es) (toDT x) v = true) (hdv : PK.validD (EEs es) (toDT d) v = true) (k : Nat) (hk : k ≤ 10) :
  Calls Tryd.prog 25 #[hv N A n c, .slice lA ls.length lc, dv d, .int .i64 (k : Int)] w fun r w' => InsQ es k lA lc ls d w r w' ∧ Fut w w' := by
 obtain ⟨m, hm⟩ : ∃ m, ls.length = m := ⟨_, rfl⟩
 have HM := Lib.hid hm
 obtain ⟨wb, hwb⟩ : ∃ wb, wb = (w.alloc (.cells #[.int .i64 N, .slice A n c] 24)).alloc (.cells #[.int .i64 d.e, .slice d.A d.k.length d.c] 35) := ⟨_, rfl⟩
 have HF := Lib.hid (show Fut w wb from by rw [hwb]; exact ((Fut.refl w).alloc _).alloc _)
 have HBH := Lib.hid (show Blk wb w.heap.size 24 #[.int .i64 N, .slice A n c] from by rw [hwb]; unfold Blk; (repeat (first | exact heap_new' _ _ _ (by first | rfl | (simp only [World.size_alloc])) | refine (blk_alloc_lt _ _ _ (by first | omega | (simp only [World.size_alloc]; omega))).trans ?_)))
 have HBD := Lib.hid (show Blk wb (w.heap.size + 1) 35 #[.int .i64 d.e, .slice d.A d.k.length d.c] from by rw [hwb]; unfold Blk; (repeat (first | exact heap_new' _ _ _ (by first | rfl | (simp only [World.size_alloc])) | refine (blk_alloc_lt _ _ _ (by first | omega | (simp only [World.size_alloc]; omega))).trans ?_)))
 have HC := Lib.hid (fun x (hx : x ∈ ls) w' (hf : Fut w w') => rdcmp_any N A n c es hl hn hvd htl x d v w' (hLv x hx) hdv (hR.fut hf) ((hLD x hx).fut hf) (hD.fut hf))
 have HLA := Lib.hid hla
 have HLR := Lib.hid hLR
 have HLS := Lib.hid hls
 rw [hm] at hls ⊢
 clear hl hn hvd htl hR hla hLR hLD hLv hdv hm
 simp only [dv] at HC ⊢
 have h0 : ∀ i, i < 0 → ∀ x, ls[i]? = some x → cmpD (EEs es) (toDT x) (toDT d) < 0 := fun i h => by omega
 go_enter Tryd.func25, Tryd.ntmps25
 go_wp2_with fail
 rw [← hwb]
 clear hwb
 go_loopw [10, 11] (fun i x wr => ∃ j : Nat, j ≤ m ∧ i = .int .i64 j ∧ Hid (∀ i, i < j → ∀ x, ls[i]? = some x → cmpD (EEs es) (toDT x) (toDT d) < 0) ∧ Fut wb wr) (fun i _ _ => m - (intOf i).toNat)
 case atStart => exact ⟨0, Nat.zero_le _, rfl, Lib.hid h0, Fut.refl _⟩
 case round =>
  obtain ⟨j, hj, rfl, hall, hF⟩ := hrel
  have HF2 := Lib.hid hF
  by_cases hlt : j < m
  ·
   obtain ⟨x, hx⟩ := get_lt HM.out hlt
   obtain ⟨b, o, hlA, hc⟩ := HLR.out j x hx
   subst hlA
   have HX := Lib.hid hx
   have h0 := cell_fut ((HBH.out.fut hF).cell (i := 0) rfl)
   have h1 := cell_fut ((HBH.out.fut hF).cell (i := 1) rfl)
   have d0 := cell_fut ((HBD.out.fut hF).cell (i := 0) rfl)
   have d1 := cell_fut ((HBD.out.fut hF).cell (i := 1) rfl)
   have c0 := cell_fut (hF.cell (HF.out.cell (hc 0 _ (by decide) rfl)))
   have c1 := cell_fut (hF.cell (HF.out.cell (hc 1 _ (by decide) rfl)))
   simp only [Nat.add_zero] at c0
   have HCX := Lib.hid (HC.out x (List.mem_of_getElem? hx))
   obtain ⟨cc, hcc⟩ : ∃ cc, cmpD (EEs es) (toDT x) (toDT d) = cc := ⟨_, rfl⟩
   rw [hcc] at HCX
   have HCC := Lib.hid hcc
   clear hx hc hF hcc
   go_wp2_with fail
   have f0 : Fut wr wr.drew := (Fut.refl wr).drew
   refine wp_region_M o_emendateref31_insert_3 (by kernel_rfl) (by kernel_rfl) (by intro c a d v w h; cases d <;> exact h) ?_; unfold o_emendateref31_insert_3
   iterate 6 (refine wpF_h rfl rfl (fun K hK => ?_); go_simp; refine hK _ _ ?_; clear hK K)
   refine wpF_o rfl rfl (fun K hK => ?_)
   go_simp
   go_at_call 18
   refine (HCX.out _ (HF.out.trans (HF2.out.trans f0))).mono ?_
   rintro r w5 ⟨rfl, hb⟩
   have f5 : Fut wr w5 := f0.trans hb
   refine hK _ _ (.inr hb) ?_
   clear hK K hb
   (refine wpF_h rfl rfl (fun K hK => ?_); go_simp; refine hK _ _ ?_; clear hK K)
   refine wpF_nil ?_
   by_cases hc0 : cc = 0
   ·
    subst hc0
    go_wp2_with fail
    go_returns
    refine ⟨⟨_, _, ls, false, by rw [HM.out]; rfl, ⟨j, by rw [List.length_map, HM.out]; exact hj, fun i y hi hy => ?_, .inl ⟨?_, rfl, rfl⟩⟩, HLR.out.fut (HF.out.trans (HF2.out.trans f5)), HLA.out, fun x hx => .inl hx, .inl ⟨rfl, rfl, rfl⟩⟩, HF.out.trans (HF2.out.trans f5)⟩
    ·
     rw [List.getElem?_map] at hy
     obtain ⟨z, hz, rfl⟩ := Option.map_eq_some_iff.1 hy
     exact hall.out i hi z hz
    ·
     rw [List.getElem?_map, HX.out, ← cmpD_zero _ _ _ HCC.out]; rfl
   ·
    obtain ⟨z1, z2, z3⟩ := cmpF_no hc0
    by_cases hcp : 0 < cc
    ·
     have HG := Lib.hid (show ∀ y, ls[j]? = some y → 0 < cmpD (EEs es) (toDT y) (toDT d) from fun y hy => by
      rw [HX.out] at hy
      rw [← Option.some.inj hy, HCC.out]; exact hcp)
     have HFW := Lib.hid (HF2.out.trans f5)
     clear c0 c1 HCX f0 HX HCC
     by_cases hkp : (k : Int) ≤ (j : Int)
     ·
      go_wp2_with fail
      go_returns
      refine ⟨⟨_, _, ls, false, by rw [HM.out]; rfl, ⟨j, by rw [List.length_map, HM.out]; exact hj, fun i y hi hy => ?_, .inr ⟨fun y hy => ?_, .inl ⟨hkp, rfl, rfl⟩⟩⟩, HLR.out.fut (HF.out.trans HFW.out), HLA.out, fun x hx => .inl hx, .inl ⟨rfl, rfl, rfl⟩⟩, HF.out.trans HFW.out⟩
      ·
       rw [List.getElem?_map] at hy
       obtain ⟨z, hz, rfl⟩ := Option.map_eq_some_iff.1 hy
       exact hall.out i hi z hz
      ·
       rw [List.getElem?_map] at hy
       obtain ⟨z, hz, rfl⟩ := Option.map_eq_some_iff.1 hy
       exact HG.out z hz
     ·
      obtain ⟨hnil, _⟩ | ⟨g, hg, hlc, hcm⟩ := HLA.out
      ·
       cases hnil
      ·
       simp only [Option.some.injEq, Addr.mk.injEq, and_true] at hg
       obtain ⟨rfl, rfl⟩ := hg
       obtain ⟨W0, hW0⟩ : ∃ W0, W0 = w5 := ⟨_, rfl⟩
       rw [← hW0] at HFW ⊢
       clear hW0
       have HX1 := Lib.hid ((HLR.out.fut (HF.out.trans HFW.out)).take j)
       have HX2' := Lib.hid (rdS_drop (j := j) (HLR.out.fut (HF.out.trans HFW.out)))
       have HTL := Lib.hid (show (ls.take j).length = j from by rw [List.length_take, HM.out]; omega)
       have HDL := Lib.hid (show (ls.drop j).length = m - j from by rw [List.length_drop, HM.out])
       obtain ⟨B0, hB0⟩ : ∃ B0, B0 = W0.heap.size := ⟨_, rfl⟩
       have HB0 := Lib.hid hB0
       obtain ⟨S, hS⟩ : ∃ S : Nat → Bool, S = fun k => decide (B0 ≤ k) := ⟨_, rfl⟩
       have hlow : ∀ q, q < W0.heap.size → S q = false := fun q hq => by rw [hS]; exact decide_eq_false (by omega)
       have HHI := Lib.hid (show ∀ q, B0 ≤ q → S q = true from fun q hq => by rw [hS]; exact decide_eq_true hq)
       clear hS hB0
       have QD := HBD.out.fut HFW.out
       have e0 := cell_futS (QD.cell (i := 0) rfl) (hlow _ (World.block_lt_of_cell? _ _ (QD.cell (i := 0) rfl)))
       have e1 := cell_futS (QD.cell (i := 1) rfl) (hlow _ (World.block_lt_of_cell? _ _ (QD.cell (i := 1) rfl)))
       have s1 : ((0 : Int) ≤ (j : Int)) = True := eq_true (by omega)
       have s2 : ((j : Int) ≤ (lc : Int)) = True := eq_true (by have := HM.out; omega)
       have s3 : ((j : Int) ≤ (m : Int)) = True := eq_true (by omega)
       have s4 : ((m : Int) ≤ (lc : Int)) = True := eq_true (by have := HM.out; omega)
       clear hlow QD d0 d1 h0 h1
       go_wp2_with fail
       refine wp_region_MG (relS S) o_emendateref31_insert_10 (by kernel_rfl) (by kernel_rfl) (by intro c a d v w h; cases d <;> exact h) ?_; unfold o_emendateref31_insert_10
       iterate 7 (refine wpS_h rfl rfl (fun K hK => ?_); go_simp; refine hK _ _ ?_; clear hK K)
       obtain ⟨A2, hA2⟩ : ∃ A2, (if lc = j then (some ⟨b, 0, none⟩ : Option Addr) else some ⟨b, j * 2, none⟩) = A2 := ⟨_, rfl⟩
       have HX2 := Lib.hid (show RdS W0 A2 2 encD (ls.drop j) from by
        rw [← hA2]
        split
        ·
         rw [List.drop_eq_nil_of_le (by rw [HM.out]; have := HM.out; omega)]; exact RdS.nil
        ·
         have := HX2'.out; rwa [Nat.zero_add] at this)
       have HA2 := Lib.hid (show A2 = none → lc - j = 0 from fun h => by rw [← hA2] at h; split at h <;> cases h)
       rw [hA2]
       clear hA2 HX2'
       refine wpG_two' rfl rfl (fun K hK => ?_) (fun K hK => ?_)
       ·
        go_simp
        refine hK _ _ (.inr ((relS S).of_fut (by first | exact (Fut.refl _).alloc _ | exact fut_of_drew' (((Fut.refl _).alloc _).drew)))) ?_
        clear hK K
        have HO1 := Lib.hid (show World.ownsRow ((W0.alloc (.cells #[] 35)).drew) B0 35 2 (.slice (some ⟨W0.heap.size, 0, none⟩) 0 0) 0 [] from ⟨rfl, .inr ⟨W0.heap.size, 0, #[], rfl, Nat.le_of_eq HB0.out, heap_new' _ _ _ rfl, Nat.le_refl _, by decide, rfl, rfl⟩⟩)
        have HF1 := Lib.hid (show Fut W0 ((W0.alloc (.cells #[] 35)).drew) from ((Fut.refl W0).alloc _).drew)
        obtain ⟨z0, hz0⟩ : ∃ z, z = W0.heap.size := ⟨_, rfl⟩
        have HZ := Lib.hid (show B0 ≤ z0 ∧ z0 ≤ z0 from ⟨by rw [hz0]; exact Nat.le_of_eq HB0.out, Nat.le_refl _⟩)
        rw [← hz0] at HO1 ⊢
        generalize (W0.alloc (.cells #[] 35)).drew = p1 at *
        clear hz0
        refine wpG_two' rfl rfl (fun K hK => ?_) (fun K hK => ?_)
        ·
         refine wpo_app (.tmp 35) (.tmp 38) rfl B0 (.slice (some ⟨z0, 0, none⟩) 0 0) 0 [] rfl HO1.out (some ⟨b, 0, none⟩) j lc (ls.take j) rfl (fun h => by cases h) HTL.out (by omega) (HX1.out.fut HF1.out) (by rw [HB0.out]; exact HF1.out.size) ?_
         intro v1 p2 g1 g2 g3
         refine hK _ _ (.inr (futS_own' g2 (HHI.out _ HZ.out.1))) ?_
         clear hK K
         have HF2 := Lib.hid (fut_own' HF1.out g2 (by rw [← HB0.out]; exact HZ.out.1))
         have HO2 := Lib.hid g1
         clear g1 g2 g3
         refine wpG_o rfl rfl (fun K hK => ?_)

         go_simp
         refine hK _ _ (.inr ((relS S).of_fut (by first | exact (Fut.refl _).alloc _ | exact fut_of_drew' (((Fut.refl _).alloc _).drew)))) ?_
         clear hK K
         have HF3 := Lib.hid (show Fut W0 (p2.alloc (.cells #[.int .i64 d.e, .slice d.A d.k.length d.c] 35)) from HF2.out.alloc _)
         have HD3 := Lib.hid (show RdS (p2.alloc (.cells #[.int .i64 d.e, .slice d.A d.k.length d.c] 35)) (some ⟨p2.heap.size, 0, none⟩) 2 encD [d] from rdS_block (sz := 2) (f := encD) (t := 35) (fr := (0, 0)) (fun _ => rfl) (heap_new' _ _ _ rfl) _ rfl)
         have HO3 := Lib.hid (World.ownsRow.alloc HO2.out (.cells #[.int .i64 d.e, .slice d.A d.k.length d.c] 35))
         generalize p2.alloc (.cells #[.int .i64 d.e, .slice d.A d.k.length d.c] 35) = p3 at *
         obtain ⟨db, hdb⟩ : ∃ db, db = p2.heap.size := ⟨_, rfl⟩
         rw [← hdb] at HD3 ⊢
         clear hdb

         refine wpG_o rfl rfl (fun K hK => ?_)
         refine wpo_app (.tmp 39) (.tmp 41) rfl B0 v1 (0 + j) _ rfl HO3.out (some ⟨db, 0, none⟩) 1 1 [d] rfl (fun h => by cases h) rfl (by omega) HD3.out (by rw [HB0.out]; exact HF3.out.size) ?_
         intro v2 p4 g1 g2 g3
         refine hK _ _ (.inr (FutS.grownS g2 (fun q hq => HHI.out q (World.ownsRow.lt HO3.out q hq).1))) ?_
         clear hK K
         have HF4 := Lib.hid (Below.grown HF3.out g2 HF3.out.size (fun q hq => by rw [← HB0.out]; exact (World.ownsRow.lt HO3.out q hq).1))
         have HO4 := Lib.hid g1
         clear g1 g2 g3
         refine wpG_o rfl rfl (fun K hK => ?_)
         refine wpo_app (.tmp 42) (.tmp 45) rfl B0 v2 (0 + j + 1) _ rfl HO4.out A2 (m - j) (lc - j) (ls.drop j) rfl HA2.out HDL.out (by omega) (HX2.out.fut HF4.out) (by rw [HB0.out]; exact HF4.out.size) ?_
         intro v3 p5 g1 g2 g3
         refine hK _ _ (.inr (FutS.grownS g2 (fun q hq => HHI.out q (World.ownsRow.lt HO4.out q hq).1))) ?_
         clear hK K
         have HF5 := Lib.hid (Below.grown HF4.out g2 HF4.out.size (fun q hq => by rw [← HB0.out]; exact (World.ownsRow.lt HO4.out q hq).1))
         have HO5 := Lib.hid g1
         clear g1 g2 g3
         (refine wpS_h rfl rfl (fun K hK => ?_); go_simp; refine hK _ _ ?_; clear hK K)
         refine wpG_nil ?_
         obtain ⟨gb, XC, rfl, hgb, _⟩ := World.ownsRow.form HO5.out (by omega)
         have HR5 := Lib.hid (ins_row HO5.out)
         have HGB := Lib.hid hgb
         have HCAP := Lib.hid (own_cap HO5.out)
         clear hgb HO3 HO4 HF3 HF4
         obtain ⟨tn, htn⟩ : ∃ tn, tn = 0 + j + 1 + (m - j) := ⟨_, rfl⟩
         have htm : tn = m + 1 := by omega
         have HTN := Lib.hid htm
         have hcap : tn ≤ XC := by rw [htn]; exact HCAP.out
         rw [← htn]
         clear htn
         by_cases htk : (k : Int) < (tn : Int)
         ·
          have t1 : ((0 : Int) ≤ (k : Int)) = True := eq_true (by omega)
          have t2 : ((k : Int) ≤ (XC : Int)) = True := eq_true (by omega)
          go_wp2_with fail
          go_returns
          refine ⟨⟨some ⟨gb, 0, none⟩, XC, (ls.take j ++ d :: ls.drop j).take k, true, ?_, ⟨j, by rw [List.length_map, HM.out]; exact hj, fun i y hi hy => ?_, .inr ⟨fun y hy => ?_, .inr ⟨by omega, ?_, rfl⟩⟩⟩, HR5.out.take k, .inr ⟨gb, rfl, ?_, ?_⟩, fun x hx => ?_, .inr ⟨gb, rfl, Nat.le_trans (Nat.le_trans HF.out.size HFW.out.size) (by rw [← HB0.out]; exact HGB.out)⟩⟩, HF.out.trans (HFW.out.trans HF5.out)⟩
          ·
           rw [ins_len HM.out hj]; rw [Nat.min_eq_left (by have := HTN.out; omega)]; rfl
          ·
           rw [List.getElem?_map] at hy
           obtain ⟨z, hz, rfl⟩ := Option.map_eq_some_iff.1 hy
           exact hall.out i hi z hz
          ·
           rw [List.getElem?_map] at hy
           obtain ⟨z, hz, rfl⟩ := Option.map_eq_some_iff.1 hy
           exact HG.out z hz
          ·
           simp only [List.map_take, List.map_append, List.map_cons, List.map_drop, Int.toNat_natCast]
          ·
           rw [ins_len HM.out hj]; have := HTN.out; omega
          ·
           exact own_capM HO5.out
          ·
           exact ins_sub (List.mem_of_mem_take hx)
         ·
          go_wp2_with fail
          go_returns
          refine ⟨⟨some ⟨gb, 0, none⟩, XC, (ls.take j ++ d :: ls.drop j).take k, true, ?_, ⟨j, by rw [List.length_map, HM.out]; exact hj, fun i y hi hy => ?_, .inr ⟨fun y hy => ?_, .inr ⟨by omega, ?_, rfl⟩⟩⟩, HR5.out.take k, .inr ⟨gb, rfl, ?_, ?_⟩, fun x hx => ?_, .inr ⟨gb, rfl, Nat.le_trans (Nat.le_trans HF.out.size HFW.out.size) (by rw [← HB0.out]; exact HGB.out)⟩⟩, HF.out.trans (HFW.out.trans HF5.out)⟩
          ·
           rw [ins_len HM.out hj]; rw [Nat.min_eq_right (by have := HTN.out; omega), ← HTN.out]; rfl
          ·
           rw [List.getElem?_map] at hy
           obtain ⟨z, hz, rfl⟩ := Option.map_eq_some_iff.1 hy
           exact hall.out i hi z hz
          ·
           rw [List.getElem?_map] at hy
           obtain ⟨z, hz, rfl⟩ := Option.map_eq_some_iff.1 hy
           exact HG.out z hz
          ·
           simp only [List.map_take, List.map_append, List.map_cons, List.map_drop, Int.toNat_natCast]
          ·
           rw [ins_len HM.out hj]; have := HTN.out; omega
          ·
           exact own_capM HO5.out
          ·
           exact ins_sub (List.mem_of_mem_take hx)
        ·
         go_simp
         refine hK _ _ (.inr ((relS S).of_fut (by first | exact (Fut.refl _).alloc _ | exact fut_of_drew' (((Fut.refl _).alloc _).drew)))) ?_
         clear hK K
         have HF2 := Lib.hid (show Fut W0 (p1.alloc (.cells #[.int .i64 d.e, .slice d.A d.k.length d.c] 35)) from HF1.out.alloc _)
         have HD2 := Lib.hid (show RdS (p1.alloc (.cells #[.int .i64 d.e, .slice d.A d.k.length d.c] 35)) (some ⟨p1.heap.size, 0, none⟩) 2 encD [d] from rdS_block (sz := 2) (f := encD) (t := 35) (fr := (0, 0)) (fun _ => rfl) (heap_new' _ _ _ rfl) _ rfl)
         have HO2 := Lib.hid (World.ownsRow.alloc HO1.out (.cells #[.int .i64 d.e, .slice d.A d.k.length d.c] 35))
         have HNE := Lib.hid (show p1.heap.size ≠ z0 from fun e => by have := (World.ownsRow.lt HO1.out z0 rfl).2; omega)
         generalize p1.alloc (.cells #[.int .i64 d.e, .slice d.A d.k.length d.c] 35) = p2 at *
         obtain ⟨db, hdb⟩ : ∃ db, db = p1.heap.size := ⟨_, rfl⟩
         rw [← hdb] at HD2 HNE ⊢
         clear hdb
         refine wpG_o rfl rfl (fun K hK => ?_)

         refine wpo_app (.tmp 35) (.tmp 38) rfl B0 (.slice (some ⟨z0, 0, none⟩) 0 0) 0 [] rfl HO2.out (some ⟨b, 0, none⟩) j lc (ls.take j) rfl (fun h => by cases h) HTL.out (by omega) (HX1.out.fut HF2.out) (by rw [HB0.out]; exact HF2.out.size) ?_
         intro v1 p3 g1 g2 g3
         refine hK _ _ (.inr (futS_own' g2 (HHI.out _ HZ.out.1))) ?_
         clear hK K
         have HF3 := Lib.hid (fut_own' HF2.out g2 (by rw [← HB0.out]; exact HZ.out.1))
         have HO3 := Lib.hid g1
         have HD3 := Lib.hid (rdS_grown HD2.out g2 HNE.out)
         clear g1 g2 g3

         refine wpG_o rfl rfl (fun K hK => ?_)
         refine wpo_app (.tmp 39) (.tmp 41) rfl B0 v1 (0 + j) _ rfl HO3.out (some ⟨db, 0, none⟩) 1 1 [d] rfl (fun h => by cases h) rfl (by omega) HD3.out (by rw [HB0.out]; exact HF3.out.size) ?_
         intro v2 p4 g1 g2 g3
         refine hK _ _ (.inr (FutS.grownS g2 (fun q hq => HHI.out q (World.ownsRow.lt HO3.out q hq).1))) ?_
         clear hK K
         have HF4 := Lib.hid (Below.grown HF3.out g2 HF3.out.size (fun q hq => by rw [← HB0.out]; exact (World.ownsRow.lt HO3.out q hq).1))
         have HO4 := Lib.hid g1
         clear g1 g2 g3
         refine wpG_o rfl rfl (fun K hK => ?_)
         refine wpo_app (.tmp 42) (.tmp 45) rfl B0 v2 (0 + j + 1) _ rfl HO4.out A2 (m - j) (lc - j) (ls.drop j) rfl HA2.out HDL.out (by omega) (HX2.out.fut HF4.out) (by rw [HB0.out]; exact HF4.out.size) ?_
         intro v3 p5 g1 g2 g3
         refine hK _ _ (.inr (FutS.grownS g2 (fun q hq => HHI.out q (World.ownsRow.lt HO4.out q hq).1))) ?_
         clear hK K
         have HF5 := Lib.hid (Below.grown HF4.out g2 HF4.out.size (fun q hq => by rw [← HB0.out]; exact (World.ownsRow.lt HO4.out q hq).1))
         have HO5 := Lib.hid g1
         clear g1 g2 g3
         (refine wpS_h rfl rfl (fun K hK => ?_); go_simp; refine hK _ _ ?_; clear hK K)
         refine wpG_nil ?_
         obtain ⟨gb, XC, rfl, hgb, _⟩ := World.ownsRow.form HO5.out (by omega)
         have HR5 := Lib.hid (ins_row HO5.out)
         have HGB := Lib.hid hgb
         have HCAP := Lib.hid (own_cap HO5.out)
         clear hgb HO3 HO4 HF3 HF4
         obtain ⟨tn, htn⟩ : ∃ tn, tn = 0 + j + 1 + (m - j) := ⟨_, rfl⟩
         have htm : tn = m + 1 := by omega
         have HTN := Lib.hid htm
         have hcap : tn ≤ XC := by rw [htn]; exact HCAP.out
         rw [← htn]
         clear htn
         by_cases htk : (k : Int) < (tn : Int)
         ·
          have t1 : ((0 : Int) ≤ (k : Int)) = True := eq_true (by omega)
          have t2 : ((k : Int) ≤ (XC : Int)) = True := eq_true (by omega)
          go_wp2_with fail
          go_returns
          refine ⟨⟨some ⟨gb, 0, none⟩, XC, (ls.take j ++ d :: ls.drop j).take k, true, ?_, ⟨j, by rw [List.length_map, HM.out]; exact hj, fun i y hi hy => ?_, .inr ⟨fun y hy => ?_, .inr ⟨by omega, ?_, rfl⟩⟩⟩, HR5.out.take k, .inr ⟨gb, rfl, ?_, ?_⟩, fun x hx => ?_, .inr ⟨gb, rfl, Nat.le_trans (Nat.le_trans HF.out.size HFW.out.size) (by rw [← HB0.out]; exact HGB.out)⟩⟩, HF.out.trans (HFW.out.trans HF5.out)⟩
          ·
           rw [ins_len HM.out hj]; rw [Nat.min_eq_left (by have := HTN.out; omega)]; rfl
          ·
           rw [List.getElem?_map] at hy
           obtain ⟨z, hz, rfl⟩ := Option.map_eq_some_iff.1 hy
           exact hall.out i hi z hz
          ·
           rw [List.getElem?_map] at hy
           obtain ⟨z, hz, rfl⟩ := Option.map_eq_some_iff.1 hy
           exact HG.out z hz
          ·
           simp only [List.map_take, List.map_append, List.map_cons, List.map_drop, Int.toNat_natCast]
          ·
           rw [ins_len HM.out hj]; have := HTN.out; omega
          ·
           exact own_capM HO5.out
          ·
           exact ins_sub (List.mem_of_mem_take hx)
         ·
          go_wp2_with fail
          go_returns
          refine ⟨⟨some ⟨gb, 0, none⟩, XC, (ls.take j ++ d :: ls.drop j).take k, true, ?_, ⟨j, by rw [List.length_map, HM.out]; exact hj, fun i y hi hy => ?_, .inr ⟨fun y hy => ?_, .inr ⟨by omega, ?_, rfl⟩⟩⟩, HR5.out.take k, .inr ⟨gb, rfl, ?_, ?_⟩, fun x hx => ?_, .inr ⟨gb, rfl, Nat.le_trans (Nat.le_trans HF.out.size HFW.out.size) (by rw [← HB0.out]; exact HGB.out)⟩⟩, HF.out.trans (HFW.out.trans HF5.out)⟩
          ·
           rw [ins_len HM.out hj]; rw [Nat.min_eq_right (by have := HTN.out; omega), ← HTN.out]; rfl
          ·
           rw [List.getElem?_map] at hy
           obtain ⟨z, hz, rfl⟩ := Option.map_eq_some_iff.1 hy
           exact hall.out i hi z hz
          ·
           rw [List.getElem?_map] at hy
           obtain ⟨z, hz, rfl⟩ := Option.map_eq_some_iff.1 hy
           exact HG.out z hz
          ·
           simp only [List.map_take, List.map_append, List.map_cons, List.map_drop, Int.toNat_natCast]
          ·
           rw [ins_len HM.out hj]; have := HTN.out; omega
          ·
           exact own_capM HO5.out
          ·
           exact ins_sub (List.mem_of_mem_take hx)
       ·
        go_simp
        refine hK _ _ (.inr ((relS S).of_fut (by first | exact (Fut.refl _).alloc _ | exact fut_of_drew' (((Fut.refl _).alloc _).drew)))) ?_
        clear hK K
        have HF1 := Lib.hid (show Fut W0 ((W0.alloc (.cells #[.int .i64 d.e, .slice d.A d.k.length d.c] 35)).drew) from ((Fut.refl W0).alloc _).drew)
        have HD1 := Lib.hid (show RdS ((W0.alloc (.cells #[.int .i64 d.e, .slice d.A d.k.length d.c] 35)).drew) (some ⟨W0.heap.size, 0, none⟩) 2 encD [d] from rdS_block (sz := 2) (f := encD) (t := 35) (fr := (0, 0)) (fun _ => rfl) (heap_new' _ _ _ rfl) _ rfl)
        have HNE := Lib.hid (show W0.heap.size < ((W0.alloc (.cells #[.int .i64 d.e, .slice d.A d.k.length d.c] 35)).drew).heap.size from by rw [World.size_drew, World.size_alloc]; omega)
        generalize (W0.alloc (.cells #[.int .i64 d.e, .slice d.A d.k.length d.c] 35)).drew = p1 at *
        obtain ⟨db, hdb⟩ : ∃ db, db = W0.heap.size := ⟨_, rfl⟩
        rw [← hdb] at HD1 ⊢
        have HNE := Lib.hid (show db < p1.heap.size from by rw [hdb]; exact HNE.out)
        clear hdb
        refine wpG_o rfl rfl (fun K hK => ?_)

        go_simp
        refine hK _ _ (.inr ((relS S).of_fut (by first | exact (Fut.refl _).alloc _ | exact fut_of_drew' (((Fut.refl _).alloc _).drew)))) ?_
        clear hK K
        have HO2 := Lib.hid (show World.ownsRow (p1.alloc (.cells #[] 35)) B0 35 2 (.slice (some ⟨p1.heap.size, 0, none⟩) 0 0) 0 [] from ⟨rfl, .inr ⟨p1.heap.size, 0, #[], rfl, (by rw [HB0.out]; exact HF1.out.size), heap_new' _ _ _ rfl, Nat.le_refl _, by decide, rfl, rfl⟩⟩)
        have HF2 := Lib.hid (show Fut W0 (p1.alloc (.cells #[] 35)) from HF1.out.alloc _)
        have HD2 := Lib.hid (HD1.out.fut (show Fut p1 (p1.alloc (.cells #[] 35)) from (Fut.refl _).alloc _))
        obtain ⟨z0, hz0⟩ : ∃ z, z = p1.heap.size := ⟨_, rfl⟩
        have HZ := Lib.hid (show B0 ≤ z0 ∧ db < z0 from ⟨by rw [hz0]; exact (by rw [HB0.out]; exact HF1.out.size), by rw [hz0]; exact HNE.out⟩)
        rw [← hz0] at HO2 ⊢
        generalize p1.alloc (.cells #[] 35) = p2 at *
        clear hz0
        refine wpG_o rfl rfl (fun K hK => ?_)

        refine wpo_app (.tmp 35) (.tmp 38) rfl B0 (.slice (some ⟨z0, 0, none⟩) 0 0) 0 [] rfl HO2.out (some ⟨b, 0, none⟩) j lc (ls.take j) rfl (fun h => by cases h) HTL.out (by omega) (HX1.out.fut HF2.out) (by rw [HB0.out]; exact HF2.out.size) ?_
        intro v1 p3 g1 g2 g3
        refine hK _ _ (.inr (futS_own' g2 (HHI.out _ HZ.out.1))) ?_
        clear hK K
        have HF3 := Lib.hid (fut_own' HF2.out g2 (by rw [← HB0.out]; exact HZ.out.1))
        have HO3 := Lib.hid g1
        have HD3 := Lib.hid (rdS_grown HD2.out g2 (Nat.ne_of_lt HZ.out.2))
        clear g1 g2 g3

        refine wpG_o rfl rfl (fun K hK => ?_)
        refine wpo_app (.tmp 39) (.tmp 41) rfl B0 v1 (0 + j) _ rfl HO3.out (some ⟨db, 0, none⟩) 1 1 [d] rfl (fun h => by cases h) rfl (by omega) HD3.out (by rw [HB0.out]; exact HF3.out.size) ?_
        intro v2 p4 g1 g2 g3
        refine hK _ _ (.inr (FutS.grownS g2 (fun q hq => HHI.out q (World.ownsRow.lt HO3.out q hq).1))) ?_
        clear hK K
        have HF4 := Lib.hid (Below.grown HF3.out g2 HF3.out.size (fun q hq => by rw [← HB0.out]; exact (World.ownsRow.lt HO3.out q hq).1))
        have HO4 := Lib.hid g1
        clear g1 g2 g3
        refine wpG_o rfl rfl (fun K hK => ?_)
        refine wpo_app (.tmp 42) (.tmp 45) rfl B0 v2 (0 + j + 1) _ rfl HO4.out A2 (m - j) (lc - j) (ls.drop j) rfl HA2.out HDL.out (by omega) (HX2.out.fut HF4.out) (by rw [HB0.out]; exact HF4.out.size) ?_
        intro v3 p5 g1 g2 g3
        refine hK _ _ (.inr (FutS.grownS g2 (fun q hq => HHI.out q (World.ownsRow.lt HO4.out q hq).1))) ?_
        clear hK K
        have HF5 := Lib.hid (Below.grown HF4.out g2 HF4.out.size (fun q hq => by rw [← HB0.out]; exact (World.ownsRow.lt HO4.out q hq).1))
        have HO5 := Lib.hid g1
        clear g1 g2 g3
        (refine wpS_h rfl rfl (fun K hK => ?_); go_simp; refine hK _ _ ?_; clear hK K)
        refine wpG_nil ?_
        obtain ⟨gb, XC, rfl, hgb, _⟩ := World.ownsRow.form HO5.out (by omega)
        have HR5 := Lib.hid (ins_row HO5.out)
        have HGB := Lib.hid hgb
        have HCAP := Lib.hid (own_cap HO5.out)
        clear hgb HO3 HO4 HF3 HF4
        obtain ⟨tn, htn⟩ : ∃ tn, tn = 0 + j + 1 + (m - j) := ⟨_, rfl⟩
        have htm : tn = m + 1 := by omega
        have HTN := Lib.hid htm
        have hcap : tn ≤ XC := by rw [htn]; exact HCAP.out
        rw [← htn]
        clear htn
        by_cases htk : (k : Int) < (tn : Int)
        ·
         have t1 : ((0 : Int) ≤ (k : Int)) = True := eq_true (by omega)
         have t2 : ((k : Int) ≤ (XC : Int)) = True := eq_true (by omega)
         go_wp2_with fail
         go_returns
         refine ⟨⟨some ⟨gb, 0, none⟩, XC, (ls.take j ++ d :: ls.drop j).take k, true, ?_, ⟨j, by rw [List.length_map, HM.out]; exact hj, fun i y hi hy => ?_, .inr ⟨fun y hy => ?_, .inr ⟨by omega, ?_, rfl⟩⟩⟩, HR5.out.take k, .inr ⟨gb, rfl, ?_, ?_⟩, fun x hx => ?_, .inr ⟨gb, rfl, Nat.le_trans (Nat.le_trans HF.out.size HFW.out.size) (by rw [← HB0.out]; exact HGB.out)⟩⟩, HF.out.trans (HFW.out.trans HF5.out)⟩
         ·
          rw [ins_len HM.out hj]; rw [Nat.min_eq_left (by have := HTN.out; omega)]; rfl
         ·
          rw [List.getElem?_map] at hy
          obtain ⟨z, hz, rfl⟩ := Option.map_eq_some_iff.1 hy
          exact hall.out i hi z hz
         ·
          rw [List.getElem?_map] at hy
          obtain ⟨z, hz, rfl⟩ := Option.map_eq_some_iff.1 hy
          exact HG.out z hz
         ·
          simp only [List.map_take, List.map_append, List.map_cons, List.map_drop, Int.toNat_natCast]
         ·
          rw [ins_len HM.out hj]; have := HTN.out; omega
         ·
          exact own_capM HO5.out
         ·
          exact ins_sub (List.mem_of_mem_take hx)
        ·
         go_wp2_with fail
         go_returns
         refine ⟨⟨some ⟨gb, 0, none⟩, XC, (ls.take j ++ d :: ls.drop j).take k, true, ?_, ⟨j, by rw [List.length_map, HM.out]; exact hj, fun i y hi hy => ?_, .inr ⟨fun y hy => ?_, .inr ⟨by omega, ?_, rfl⟩⟩⟩, HR5.out.take k, .inr ⟨gb, rfl, ?_, ?_⟩, fun x hx => ?_, .inr ⟨gb, rfl, Nat.le_trans (Nat.le_trans HF.out.size HFW.out.size) (by rw [← HB0.out]; exact HGB.out)⟩⟩, HF.out.trans (HFW.out.trans HF5.out)⟩
         ·
          rw [ins_len HM.out hj]; rw [Nat.min_eq_right (by have := HTN.out; omega), ← HTN.out]; rfl
         ·
          rw [List.getElem?_map] at hy
          obtain ⟨z, hz, rfl⟩ := Option.map_eq_some_iff.1 hy
          exact hall.out i hi z hz
         ·
          rw [List.getElem?_map] at hy
          obtain ⟨z, hz, rfl⟩ := Option.map_eq_some_iff.1 hy
          exact HG.out z hz
         ·
          simp only [List.map_take, List.map_append, List.map_cons, List.map_drop, Int.toNat_natCast]
         ·
          rw [ins_len HM.out hj]; have := HTN.out; omega
         ·
          exact own_capM HO5.out
         ·
          exact ins_sub (List.mem_of_mem_take hx)
    ·
     have HA := Lib.hid (show ∀ i, i < j + 1 → ∀ y, ls[i]? = some y → cmpD (EEs es) (toDT y) (toDT d) < 0 from fun i hi y hy => by
      rcases Nat.lt_or_ge i j with h | h
      ·
       exact hall.out i h y hy
      ·
       obtain rfl : i = j := by omega
       rw [HX.out] at hy
       rw [← Option.some.inj hy, HCC.out]; omega)
     go_wp2_with fail
     exact ⟨⟨j + 1, by omega, by go_num, HA, HF2.out.trans f5⟩, by simp [intOf]; omega⟩
  ·
   have HG := Lib.hid (show ∀ y, ls[j]? = some y → 0 < cmpD (EEs es) (toDT y) (toDT d) from fun y hy => by
    have := (List.getElem?_eq_some_iff.1 hy).1
    have := HM.out
    omega)
   have HFW := HF2
   have d0 := trivial
   have d1 := trivial
   have h0 := trivial
   have h1 := trivial
   clear hF
   by_cases hkp : (k : Int) ≤ (j : Int)
   ·
    go_wp2_with fail
    go_returns
    refine ⟨⟨_, _, ls, false, by rw [HM.out]; rfl, ⟨j, by rw [List.length_map, HM.out]; exact hj, fun i y hi hy => ?_, .inr ⟨fun y hy => ?_, .inl ⟨hkp, rfl, rfl⟩⟩⟩, HLR.out.fut (HF.out.trans HFW.out), HLA.out, fun x hx => .inl hx, .inl ⟨rfl, rfl, rfl⟩⟩, HF.out.trans HFW.out⟩
    ·
     rw [List.getElem?_map] at hy
     obtain ⟨z, hz, rfl⟩ := Option.map_eq_some_iff.1 hy
     exact hall.out i hi z hz
    ·
     rw [List.getElem?_map] at hy
     obtain ⟨z, hz, rfl⟩ := Option.map_eq_some_iff.1 hy
     exact HG.out z hz
   ·
    obtain ⟨rfl, hnil, rfl⟩ | ⟨b, rfl, hlc, hcm⟩ := HLA.out
    ·
     have hm0 : m = 0 := by rw [← HM.out, hnil]; rfl
     subst hm0
     have HNL := Lib.hid hnil
     clear hnil
     have hj0 : j = 0 := by omega
     subst hj0
     obtain ⟨W0, hW0⟩ : ∃ W0, W0 = wr := ⟨_, rfl⟩
     rw [← hW0] at HFW ⊢
     clear hW0
     have HX1 := Lib.hid ((HLR.out.fut (HF.out.trans HFW.out)).take 0)
     have HTL := Lib.hid (show (ls.take 0).length = 0 from by rw [List.length_take, HM.out]; omega)
     have HDL := Lib.hid (show (ls.drop 0).length = 0 - 0 from by rw [List.length_drop, HM.out])
     obtain ⟨B0, hB0⟩ : ∃ B0, B0 = W0.heap.size := ⟨_, rfl⟩
     have HB0 := Lib.hid hB0
     obtain ⟨S, hS⟩ : ∃ S : Nat → Bool, S = fun k => decide (B0 ≤ k) := ⟨_, rfl⟩
     have hlow : ∀ q, q < W0.heap.size → S q = false := fun q hq => by rw [hS]; exact decide_eq_false (by omega)
     have HHI := Lib.hid (show ∀ q, B0 ≤ q → S q = true from fun q hq => by rw [hS]; exact decide_eq_true hq)
     clear hS hB0
     have QD := HBD.out.fut HFW.out
     have e0 := cell_futS (QD.cell (i := 0) rfl) (hlow _ (World.block_lt_of_cell? _ _ (QD.cell (i := 0) rfl)))
     have e1 := cell_futS (QD.cell (i := 1) rfl) (hlow _ (World.block_lt_of_cell? _ _ (QD.cell (i := 1) rfl)))
     have s1 : ((0 : Int) ≤ (0 : Int)) = True := eq_true (by omega)
     have s2 : ((0 : Int) ≤ (0 : Int)) = True := eq_true (by have := HM.out; omega)
     have s3 : ((0 : Int) ≤ (0 : Int)) = True := eq_true (by omega)
     have s4 : ((0 : Int) ≤ (0 : Int)) = True := eq_true (by have := HM.out; omega)
     clear hlow QD d0 d1 h0 h1
     go_wp2_with fail
     refine wp_region_MG (relS S) o_emendateref31_insert_10 (by kernel_rfl) (by kernel_rfl) (by intro c a d v w h; cases d <;> exact h) ?_; unfold o_emendateref31_insert_10
     iterate 7 (refine wpS_h rfl rfl (fun K hK => ?_); go_simp; refine hK _ _ ?_; clear hK K)
     obtain ⟨A2, hA2⟩ : ∃ A2 : Option Addr, A2 = none := ⟨_, rfl⟩
     have HX2 := Lib.hid (show RdS W0 A2 2 encD (ls.drop 0) from by rw [HNL.out]; exact RdS.nil)
     have HA2 := Lib.hid (show A2 = none → 0 - 0 = 0 from fun _ => rfl)
     subst hA2
     refine wpG_two' rfl rfl (fun K hK => ?_) (fun K hK => ?_)
     ·
      go_simp
      refine hK _ _ (.inr ((relS S).of_fut (by first | exact (Fut.refl _).alloc _ | exact fut_of_drew' (((Fut.refl _).alloc _).drew)))) ?_
      clear hK K
      have HO1 := Lib.hid (show World.ownsRow ((W0.alloc (.cells #[] 35)).drew) B0 35 2 (.slice (some ⟨W0.heap.size, 0, none⟩) 0 0) 0 [] from ⟨rfl, .inr ⟨W0.heap.size, 0, #[], rfl, Nat.le_of_eq HB0.out, heap_new' _ _ _ rfl, Nat.le_refl _, by decide, rfl, rfl⟩⟩)
      have HF1 := Lib.hid (show Fut W0 ((W0.alloc (.cells #[] 35)).drew) from ((Fut.refl W0).alloc _).drew)
      obtain ⟨z0, hz0⟩ : ∃ z, z = W0.heap.size := ⟨_, rfl⟩
      have HZ := Lib.hid (show B0 ≤ z0 ∧ z0 ≤ z0 from ⟨by rw [hz0]; exact Nat.le_of_eq HB0.out, Nat.le_refl _⟩)
      rw [← hz0] at HO1 ⊢
      generalize (W0.alloc (.cells #[] 35)).drew = p1 at *
      clear hz0
      refine wpG_two' rfl rfl (fun K hK => ?_) (fun K hK => ?_)
      ·
       refine wpo_app (.tmp 35) (.tmp 38) rfl B0 (.slice (some ⟨z0, 0, none⟩) 0 0) 0 [] rfl HO1.out none 0 0 (ls.take 0) rfl (fun _ => rfl) HTL.out (by omega) (HX1.out.fut HF1.out) (by rw [HB0.out]; exact HF1.out.size) ?_
       intro v1 p2 g1 g2 g3
       refine hK _ _ (.inr (futS_own' g2 (HHI.out _ HZ.out.1))) ?_
       clear hK K
       have HF2 := Lib.hid (fut_own' HF1.out g2 (by rw [← HB0.out]; exact HZ.out.1))
       have HO2 := Lib.hid g1
       clear g1 g2 g3
       refine wpG_o rfl rfl (fun K hK => ?_)

       go_simp
       refine hK _ _ (.inr ((relS S).of_fut (by first | exact (Fut.refl _).alloc _ | exact fut_of_drew' (((Fut.refl _).alloc _).drew)))) ?_
       clear hK K
       have HF3 := Lib.hid (show Fut W0 (p2.alloc (.cells #[.int .i64 d.e, .slice d.A d.k.length d.c] 35)) from HF2.out.alloc _)
       have HD3 := Lib.hid (show RdS (p2.alloc (.cells #[.int .i64 d.e, .slice d.A d.k.length d.c] 35)) (some ⟨p2.heap.size, 0, none⟩) 2 encD [d] from rdS_block (sz := 2) (f := encD) (t := 35) (fr := (0, 0)) (fun _ => rfl) (heap_new' _ _ _ rfl) _ rfl)
       have HO3 := Lib.hid (World.ownsRow.alloc HO2.out (.cells #[.int .i64 d.e, .slice d.A d.k.length d.c] 35))
       generalize p2.alloc (.cells #[.int .i64 d.e, .slice d.A d.k.length d.c] 35) = p3 at *
       obtain ⟨db, hdb⟩ : ∃ db, db = p2.heap.size := ⟨_, rfl⟩
       rw [← hdb] at HD3 ⊢
       clear hdb

       refine wpG_o rfl rfl (fun K hK => ?_)
       refine wpo_app (.tmp 39) (.tmp 41) rfl B0 v1 (0 + 0) _ rfl HO3.out (some ⟨db, 0, none⟩) 1 1 [d] rfl (fun h => by cases h) rfl (by omega) HD3.out (by rw [HB0.out]; exact HF3.out.size) ?_
       intro v2 p4 g1 g2 g3
       refine hK _ _ (.inr (FutS.grownS g2 (fun q hq => HHI.out q (World.ownsRow.lt HO3.out q hq).1))) ?_
       clear hK K
       have HF4 := Lib.hid (Below.grown HF3.out g2 HF3.out.size (fun q hq => by rw [← HB0.out]; exact (World.ownsRow.lt HO3.out q hq).1))
       have HO4 := Lib.hid g1
       clear g1 g2 g3
       refine wpG_o rfl rfl (fun K hK => ?_)
       refine wpo_app (.tmp 42) (.tmp 45) rfl B0 v2 (0 + 0 + 1) _ rfl HO4.out none (0 - 0) (0 - 0) (ls.drop 0) rfl HA2.out HDL.out (by omega) (HX2.out.fut HF4.out) (by rw [HB0.out]; exact HF4.out.size) ?_
       intro v3 p5 g1 g2 g3
       refine hK _ _ (.inr (FutS.grownS g2 (fun q hq => HHI.out q (World.ownsRow.lt HO4.out q hq).1))) ?_
       clear hK K
       have HF5 := Lib.hid (Below.grown HF4.out g2 HF4.out.size (fun q hq => by rw [← HB0.out]; exact (World.ownsRow.lt HO4.out q hq).1))
       have HO5 := Lib.hid g1
       clear g1 g2 g3
       (refine wpS_h rfl rfl (fun K hK => ?_); go_simp; refine hK _ _ ?_; clear hK K)
       refine wpG_nil ?_
       obtain ⟨gb, XC, rfl, hgb, _⟩ := World.ownsRow.form HO5.out (by omega)
       have HR5 := Lib.hid (ins_row HO5.out)
       have HGB := Lib.hid hgb
       have HCAP := Lib.hid (own_cap HO5.out)
       clear hgb HO3 HO4 HF3 HF4
       obtain ⟨tn, htn⟩ : ∃ tn, tn = 0 + 0 + 1 + (0 - 0) := ⟨_, rfl⟩
       have htm : tn = 0 + 1 := by omega
       have HTN := Lib.hid htm
       have hcap : tn ≤ XC := by rw [htn]; exact HCAP.out
       rw [← htn]
       clear htn
       by_cases htk : (k : Int) < (tn : Int)
       ·
        exfalso
        have := HTN.out
        omega
       ·
        go_wp2_with fail
        go_returns
        refine ⟨⟨some ⟨gb, 0, none⟩, XC, (ls.take 0 ++ d :: ls.drop 0).take k, true, ?_, ⟨0, by rw [List.length_map, HM.out]; exact hj, fun i y hi hy => ?_, .inr ⟨fun y hy => ?_, .inr ⟨by omega, ?_, rfl⟩⟩⟩, HR5.out.take k, .inr ⟨gb, rfl, ?_, ?_⟩, fun x hx => ?_, .inr ⟨gb, rfl, Nat.le_trans (Nat.le_trans HF.out.size HFW.out.size) (by rw [← HB0.out]; exact HGB.out)⟩⟩, HF.out.trans (HFW.out.trans HF5.out)⟩
        ·
         rw [ins_len HM.out hj]; rw [Nat.min_eq_right (by have := HTN.out; omega)]; rfl
        ·
         rw [List.getElem?_map] at hy
         obtain ⟨z, hz, rfl⟩ := Option.map_eq_some_iff.1 hy
         exact hall.out i hi z hz
        ·
         rw [List.getElem?_map] at hy
         obtain ⟨z, hz, rfl⟩ := Option.map_eq_some_iff.1 hy
         exact HG.out z hz
        ·
         simp only [List.map_take, List.map_append, List.map_cons, List.map_drop, Int.toNat_natCast]
        ·
         rw [ins_len HM.out hj]; have := HTN.out; omega
        ·
         exact own_capM HO5.out
        ·
         exact ins_sub (List.mem_of_mem_take hx)
      ·
       go_simp
       refine hK _ _ (.inr ((relS S).of_fut (by first | exact (Fut.refl _).alloc _ | exact fut_of_drew' (((Fut.refl _).alloc _).drew)))) ?_
       clear hK K
       have HF2 := Lib.hid (show Fut W0 (p1.alloc (.cells #[.int .i64 d.e, .slice d.A d.k.length d.c] 35)) from HF1.out.alloc _)
       have HD2 := Lib.hid (show RdS (p1.alloc (.cells #[.int .i64 d.e, .slice d.A d.k.length d.c] 35)) (some ⟨p1.heap.size, 0, none⟩) 2 encD [d] from rdS_block (sz := 2) (f := encD) (t := 35) (fr := (0, 0)) (fun _ => rfl) (heap_new' _ _ _ rfl) _ rfl)
       have HO2 := Lib.hid (World.ownsRow.alloc HO1.out (.cells #[.int .i64 d.e, .slice d.A d.k.length d.c] 35))
       have HNE := Lib.hid (show p1.heap.size ≠ z0 from fun e => by have := (World.ownsRow.lt HO1.out z0 rfl).2; omega)
       generalize p1.alloc (.cells #[.int .i64 d.e, .slice d.A d.k.length d.c] 35) = p2 at *
       obtain ⟨db, hdb⟩ : ∃ db, db = p1.heap.size := ⟨_, rfl⟩
       rw [← hdb] at HD2 HNE ⊢
       clear hdb
       refine wpG_o rfl rfl (fun K hK => ?_)

       refine wpo_app (.tmp 35) (.tmp 38) rfl B0 (.slice (some ⟨z0, 0, none⟩) 0 0) 0 [] rfl HO2.out none 0 0 (ls.take 0) rfl (fun _ => rfl) HTL.out (by omega) (HX1.out.fut HF2.out) (by rw [HB0.out]; exact HF2.out.size) ?_
       intro v1 p3 g1 g2 g3
       refine hK _ _ (.inr (futS_own' g2 (HHI.out _ HZ.out.1))) ?_
       clear hK K
       have HF3 := Lib.hid (fut_own' HF2.out g2 (by rw [← HB0.out]; exact HZ.out.1))
       have HO3 := Lib.hid g1
       have HD3 := Lib.hid (rdS_grown HD2.out g2 HNE.out)
       clear g1 g2 g3

       refine wpG_o rfl rfl (fun K hK => ?_)
       refine wpo_app (.tmp 39) (.tmp 41) rfl B0 v1 (0 + 0) _ rfl HO3.out (some ⟨db, 0, none⟩) 1 1 [d] rfl (fun h => by cases h) rfl (by omega) HD3.out (by rw [HB0.out]; exact HF3.out.size) ?_
       intro v2 p4 g1 g2 g3
       refine hK _ _ (.inr (FutS.grownS g2 (fun q hq => HHI.out q (World.ownsRow.lt HO3.out q hq).1))) ?_
       clear hK K
       have HF4 := Lib.hid (Below.grown HF3.out g2 HF3.out.size (fun q hq => by rw [← HB0.out]; exact (World.ownsRow.lt HO3.out q hq).1))
       have HO4 := Lib.hid g1
       clear g1 g2 g3
       refine wpG_o rfl rfl (fun K hK => ?_)
       refine wpo_app (.tmp 42) (.tmp 45) rfl B0 v2 (0 + 0 + 1) _ rfl HO4.out none (0 - 0) (0 - 0) (ls.drop 0) rfl HA2.out HDL.out (by omega) (HX2.out.fut HF4.out) (by rw [HB0.out]; exact HF4.out.size) ?_
       intro v3 p5 g1 g2 g3
       refine hK _ _ (.inr (FutS.grownS g2 (fun q hq => HHI.out q (World.ownsRow.lt HO4.out q hq).1))) ?_
       clear hK K
       have HF5 := Lib.hid (Below.grown HF4.out g2 HF4.out.size (fun q hq => by rw [← HB0.out]; exact (World.ownsRow.lt HO4.out q hq).1))
       have HO5 := Lib.hid g1
       clear g1 g2 g3
       (refine wpS_h rfl rfl (fun K hK => ?_); go_simp; refine hK _ _ ?_; clear hK K)
       refine wpG_nil ?_
       obtain ⟨gb, XC, rfl, hgb, _⟩ := World.ownsRow.form HO5.out (by omega)
       have HR5 := Lib.hid (ins_row HO5.out)
       have HGB := Lib.hid hgb
       have HCAP := Lib.hid (own_cap HO5.out)
       clear hgb HO3 HO4 HF3 HF4
       obtain ⟨tn, htn⟩ : ∃ tn, tn = 0 + 0 + 1 + (0 - 0) := ⟨_, rfl⟩
       have htm : tn = 0 + 1 := by omega
       have HTN := Lib.hid htm
       have hcap : tn ≤ XC := by rw [htn]; exact HCAP.out
       rw [← htn]
       clear htn
       by_cases htk : (k : Int) < (tn : Int)
       ·
        exfalso
        have := HTN.out
        omega
       ·
        go_wp2_with fail
        go_returns
        refine ⟨⟨some ⟨gb, 0, none⟩, XC, (ls.take 0 ++ d :: ls.drop 0).take k, true, ?_, ⟨0, by rw [List.length_map, HM.out]; exact hj, fun i y hi hy => ?_, .inr ⟨fun y hy => ?_, .inr ⟨by omega, ?_, rfl⟩⟩⟩, HR5.out.take k, .inr ⟨gb, rfl, ?_, ?_⟩, fun x hx => ?_, .inr ⟨gb, rfl, Nat.le_trans (Nat.le_trans HF.out.size HFW.out.size) (by rw [← HB0.out]; exact HGB.out)⟩⟩, HF.out.trans (HFW.out.trans HF5.out)⟩
        ·
         rw [ins_len HM.out hj]; rw [Nat.min_eq_right (by have := HTN.out; omega)]; rfl
        ·
         rw [List.getElem?_map] at hy
         obtain ⟨z, hz, rfl⟩ := Option.map_eq_some_iff.1 hy
         exact hall.out i hi z hz
        ·
         rw [List.getElem?_map] at hy
         obtain ⟨z, hz, rfl⟩ := Option.map_eq_some_iff.1 hy
         exact HG.out z hz
        ·
         simp only [List.map_take, List.map_append, List.map_cons, List.map_drop, Int.toNat_natCast]
        ·
         rw [ins_len HM.out hj]; have := HTN.out; omega
        ·
         exact own_capM HO5.out
        ·
         exact ins_sub (List.mem_of_mem_take hx)
     ·
      go_simp
      refine hK _ _ (.inr ((relS S).of_fut (by first | exact (Fut.refl _).alloc _ | exact fut_of_drew' (((Fut.refl _).alloc _).drew)))) ?_
      clear hK K
      have HF1 := Lib.hid (show Fut W0 ((W0.alloc (.cells #[.int .i64 d.e, .slice d.A d.k.length d.c] 35)).drew) from ((Fut.refl W0).alloc _).drew)
      have HD1 := Lib.hid (show RdS ((W0.alloc (.cells #[.int .i64 d.e, .slice d.A d.k.length d.c] 35)).drew) (some ⟨W0.heap.size, 0, none⟩) 2 encD [d] from rdS_block (sz := 2) (f := encD) (t := 35) (fr := (0, 0)) (fun _ => rfl) (heap_new' _ _ _ rfl) _ rfl)
      have HNE := Lib.hid (show W0.heap.size < ((W0.alloc (.cells #[.int .i64 d.e, .slice d.A d.k.length d.c] 35)).drew).heap.size from by rw [World.size_drew, World.size_alloc]; omega)
      generalize (W0.alloc (.cells #[.int .i64 d.e, .slice d.A d.k.length d.c] 35)).drew = p1 at *
      obtain ⟨db, hdb⟩ : ∃ db, db = W0.heap.size := ⟨_, rfl⟩
      rw [← hdb] at HD1 ⊢
      have HNE := Lib.hid (show db < p1.heap.size from by rw [hdb]; exact HNE.out)
      clear hdb
      refine wpG_o rfl rfl (fun K hK => ?_)

      go_simp
      refine hK _ _ (.inr ((relS S).of_fut (by first | exact (Fut.refl _).alloc _ | exact fut_of_drew' (((Fut.refl _).alloc _).drew)))) ?_
      clear hK K
      have HO2 := Lib.hid (show World.ownsRow (p1.alloc (.cells #[] 35)) B0 35 2 (.slice (some ⟨p1.heap.size, 0, none⟩) 0 0) 0 [] from ⟨rfl, .inr ⟨p1.heap.size, 0, #[], rfl, (by rw [HB0.out]; exact HF1.out.size), heap_new' _ _ _ rfl, Nat.le_refl _, by decide, rfl, rfl⟩⟩)
      have HF2 := Lib.hid (show Fut W0 (p1.alloc (.cells #[] 35)) from HF1.out.alloc _)
      have HD2 := Lib.hid (HD1.out.fut (show Fut p1 (p1.alloc (.cells #[] 35)) from (Fut.refl _).alloc _))
      obtain ⟨z0, hz0⟩ : ∃ z, z = p1.heap.size := ⟨_, rfl⟩
      have HZ := Lib.hid (show B0 ≤ z0 ∧ db < z0 from ⟨by rw [hz0]; exact (by rw [HB0.out]; exact HF1.out.size), by rw [hz0]; exact HNE.out⟩)
      rw [← hz0] at HO2 ⊢
      generalize p1.alloc (.cells #[] 35) = p2 at *
      clear hz0
      refine wpG_o rfl rfl (fun K hK => ?_)

      refine wpo_app (.tmp 35) (.tmp 38) rfl B0 (.slice (some ⟨z0, 0, none⟩) 0 0) 0 [] rfl HO2.out none 0 0 (ls.take 0) rfl (fun _ => rfl) HTL.out (by omega) (HX1.out.fut HF2.out) (by rw [HB0.out]; exact HF2.out.size) ?_
      intro v1 p3 g1 g2 g3
      refine hK _ _ (.inr (futS_own' g2 (HHI.out _ HZ.out.1))) ?_
      clear hK K
      have HF3 := Lib.hid (fut_own' HF2.out g2 (by rw [← HB0.out]; exact HZ.out.1))
      have HO3 := Lib.hid g1
      have HD3 := Lib.hid (rdS_grown HD2.out g2 (Nat.ne_of_lt HZ.out.2))
      clear g1 g2 g3

      refine wpG_o rfl rfl (fun K hK => ?_)
      refine wpo_app (.tmp 39) (.tmp 41) rfl B0 v1 (0 + 0) _ rfl HO3.out (some ⟨db, 0, none⟩) 1 1 [d] rfl (fun h => by cases h) rfl (by omega) HD3.out (by rw [HB0.out]; exact HF3.out.size) ?_
      intro v2 p4 g1 g2 g3
      refine hK _ _ (.inr (FutS.grownS g2 (fun q hq => HHI.out q (World.ownsRow.lt HO3.out q hq).1))) ?_
      clear hK K
      have HF4 := Lib.hid (Below.grown HF3.out g2 HF3.out.size (fun q hq => by rw [← HB0.out]; exact (World.ownsRow.lt HO3.out q hq).1))
      have HO4 := Lib.hid g1
      clear g1 g2 g3
      refine wpG_o rfl rfl (fun K hK => ?_)
      refine wpo_app (.tmp 42) (.tmp 45) rfl B0 v2 (0 + 0 + 1) _ rfl HO4.out none (0 - 0) (0 - 0) (ls.drop 0) rfl HA2.out HDL.out (by omega) (HX2.out.fut HF4.out) (by rw [HB0.out]; exact HF4.out.size) ?_
      intro v3 p5 g1 g2 g3
      refine hK _ _ (.inr (FutS.grownS g2 (fun q hq => HHI.out q (World.ownsRow.lt HO4.out q hq).1))) ?_
      clear hK K
      have HF5 := Lib.hid (Below.grown HF4.out g2 HF4.out.size (fun q hq => by rw [← HB0.out]; exact (World.ownsRow.lt HO4.out q hq).1))
      have HO5 := Lib.hid g1
      clear g1 g2 g3
      (refine wpS_h rfl rfl (fun K hK => ?_); go_simp; refine hK _ _ ?_; clear hK K)
      refine wpG_nil ?_
      obtain ⟨gb, XC, rfl, hgb, _⟩ := World.ownsRow.form HO5.out (by omega)
      have HR5 := Lib.hid (ins_row HO5.out)
      have HGB := Lib.hid hgb
      have HCAP := Lib.hid (own_cap HO5.out)
      clear hgb HO3 HO4 HF3 HF4
      obtain ⟨tn, htn⟩ : ∃ tn, tn = 0 + 0 + 1 + (0 - 0) := ⟨_, rfl⟩
      have htm : tn = 0 + 1 := by omega
      have HTN := Lib.hid htm
      have hcap : tn ≤ XC := by rw [htn]; exact HCAP.out
      rw [← htn]
      clear htn
      by_cases htk : (k : Int) < (tn : Int)
      ·
       exfalso
       have := HTN.out
       omega
      ·
       go_wp2_with fail
       go_returns
       refine ⟨⟨some ⟨gb, 0, none⟩, XC, (ls.take 0 ++ d :: ls.drop 0).take k, true, ?_, ⟨0, by rw [List.length_map, HM.out]; exact hj, fun i y hi hy => ?_, .inr ⟨fun y hy => ?_, .inr ⟨by omega, ?_, rfl⟩⟩⟩, HR5.out.take k, .inr ⟨gb, rfl, ?_, ?_⟩, fun x hx => ?_, .inr ⟨gb, rfl, Nat.le_trans (Nat.le_trans HF.out.size HFW.out.size) (by rw [← HB0.out]; exact HGB.out)⟩⟩, HF.out.trans (HFW.out.trans HF5.out)⟩
       ·
        rw [ins_len HM.out hj]; rw [Nat.min_eq_right (by have := HTN.out; omega)]; rfl
       ·
        rw [List.getElem?_map] at hy
        obtain ⟨z, hz, rfl⟩ := Option.map_eq_some_iff.1 hy
        exact hall.out i hi z hz
       ·
        rw [List.getElem?_map] at hy
        obtain ⟨z, hz, rfl⟩ := Option.map_eq_some_iff.1 hy
        exact HG.out z hz
       ·
        simp only [List.map_take, List.map_append, List.map_cons, List.map_drop, Int.toNat_natCast]
       ·
        rw [ins_len HM.out hj]; have := HTN.out; omega
       ·
        exact own_capM HO5.out
       ·
        exact ins_sub (List.mem_of_mem_take hx)
    ·
     skip
     obtain ⟨W0, hW0⟩ : ∃ W0, W0 = wr := ⟨_, rfl⟩
     rw [← hW0] at HFW ⊢
     clear hW0
     have HX1 := Lib.hid ((HLR.out.fut (HF.out.trans HFW.out)).take j)
     have HX2' := Lib.hid (rdS_drop (j := j) (HLR.out.fut (HF.out.trans HFW.out)))
     have HTL := Lib.hid (show (ls.take j).length = j from by rw [List.length_take, HM.out]; omega)
     have HDL := Lib.hid (show (ls.drop j).length = m - j from by rw [List.length_drop, HM.out])
     obtain ⟨B0, hB0⟩ : ∃ B0, B0 = W0.heap.size := ⟨_, rfl⟩
     have HB0 := Lib.hid hB0
     obtain ⟨S, hS⟩ : ∃ S : Nat → Bool, S = fun k => decide (B0 ≤ k) := ⟨_, rfl⟩
     have hlow : ∀ q, q < W0.heap.size → S q = false := fun q hq => by rw [hS]; exact decide_eq_false (by omega)
     have HHI := Lib.hid (show ∀ q, B0 ≤ q → S q = true from fun q hq => by rw [hS]; exact decide_eq_true hq)
     clear hS hB0
     have QD := HBD.out.fut HFW.out
     have e0 := cell_futS (QD.cell (i := 0) rfl) (hlow _ (World.block_lt_of_cell? _ _ (QD.cell (i := 0) rfl)))
     have e1 := cell_futS (QD.cell (i := 1) rfl) (hlow _ (World.block_lt_of_cell? _ _ (QD.cell (i := 1) rfl)))
     have s1 : ((0 : Int) ≤ (j : Int)) = True := eq_true (by omega)
     have s2 : ((j : Int) ≤ (lc : Int)) = True := eq_true (by have := HM.out; omega)
     have s3 : ((j : Int) ≤ (m : Int)) = True := eq_true (by omega)
     have s4 : ((m : Int) ≤ (lc : Int)) = True := eq_true (by have := HM.out; omega)
     clear hlow QD d0 d1 h0 h1
     go_wp2_with fail
     refine wp_region_MG (relS S) o_emendateref31_insert_10 (by kernel_rfl) (by kernel_rfl) (by intro c a d v w h; cases d <;> exact h) ?_; unfold o_emendateref31_insert_10
     iterate 7 (refine wpS_h rfl rfl (fun K hK => ?_); go_simp; refine hK _ _ ?_; clear hK K)
     obtain ⟨A2, hA2⟩ : ∃ A2, (if lc = j then (some ⟨b, 0, none⟩ : Option Addr) else some ⟨b, j * 2, none⟩) = A2 := ⟨_, rfl⟩
     have HX2 := Lib.hid (show RdS W0 A2 2 encD (ls.drop j) from by
      rw [← hA2]
      split
      ·
       rw [List.drop_eq_nil_of_le (by rw [HM.out]; have := HM.out; omega)]; exact RdS.nil
      ·
       have := HX2'.out; rwa [Nat.zero_add] at this)
     have HA2 := Lib.hid (show A2 = none → lc - j = 0 from fun h => by rw [← hA2] at h; split at h <;> cases h)
     rw [hA2]
     clear hA2 HX2'
     refine wpG_two' rfl rfl (fun K hK => ?_) (fun K hK => ?_)
     ·
      go_simp
      refine hK _ _ (.inr ((relS S).of_fut (by first | exact (Fut.refl _).alloc _ | exact fut_of_drew' (((Fut.refl _).alloc _).drew)))) ?_
      clear hK K
      have HO1 := Lib.hid (show World.ownsRow ((W0.alloc (.cells #[] 35)).drew) B0 35 2 (.slice (some ⟨W0.heap.size, 0, none⟩) 0 0) 0 [] from ⟨rfl, .inr ⟨W0.heap.size, 0, #[], rfl, Nat.le_of_eq HB0.out, heap_new' _ _ _ rfl, Nat.le_refl _, by decide, rfl, rfl⟩⟩)
      have HF1 := Lib.hid (show Fut W0 ((W0.alloc (.cells #[] 35)).drew) from ((Fut.refl W0).alloc _).drew)
      obtain ⟨z0, hz0⟩ : ∃ z, z = W0.heap.size := ⟨_, rfl⟩
      have HZ := Lib.hid (show B0 ≤ z0 ∧ z0 ≤ z0 from ⟨by rw [hz0]; exact Nat.le_of_eq HB0.out, Nat.le_refl _⟩)
      rw [← hz0] at HO1 ⊢
      generalize (W0.alloc (.cells #[] 35)).drew = p1 at *
      clear hz0
      refine wpG_two' rfl rfl (fun K hK => ?_) (fun K hK => ?_)
      ·
       refine wpo_app (.tmp 35) (.tmp 38) rfl B0 (.slice (some ⟨z0, 0, none⟩) 0 0) 0 [] rfl HO1.out (some ⟨b, 0, none⟩) j lc (ls.take j) rfl (fun h => by cases h) HTL.out (by omega) (HX1.out.fut HF1.out) (by rw [HB0.out]; exact HF1.out.size) ?_
       intro v1 p2 g1 g2 g3
       refine hK _ _ (.inr (futS_own' g2 (HHI.out _ HZ.out.1))) ?_
       clear hK K
       have HF2 := Lib.hid (fut_own' HF1.out g2 (by rw [← HB0.out]; exact HZ.out.1))
       have HO2 := Lib.hid g1
       clear g1 g2 g3
       refine wpG_o rfl rfl (fun K hK => ?_)

       go_simp
       refine hK _ _ (.inr ((relS S).of_fut (by first | exact (Fut.refl _).alloc _ | exact fut_of_drew' (((Fut.refl _).alloc _).drew)))) ?_
       clear hK K
       have HF3 := Lib.hid (show Fut W0 (p2.alloc (.cells #[.int .i64 d.e, .slice d.A d.k.length d.c] 35)) from HF2.out.alloc _)
       have HD3 := Lib.hid (show RdS (p2.alloc (.cells #[.int .i64 d.e, .slice d.A d.k.length d.c] 35)) (some ⟨p2.heap.size, 0, none⟩) 2 encD [d] from rdS_block (sz := 2) (f := encD) (t := 35) (fr := (0, 0)) (fun _ => rfl) (heap_new' _ _ _ rfl) _ rfl)
       have HO3 := Lib.hid (World.ownsRow.alloc HO2.out (.cells #[.int .i64 d.e, .slice d.A d.k.length d.c] 35))
       generalize p2.alloc (.cells #[.int .i64 d.e, .slice d.A d.k.length d.c] 35) = p3 at *
       obtain ⟨db, hdb⟩ : ∃ db, db = p2.heap.size := ⟨_, rfl⟩
       rw [← hdb] at HD3 ⊢
       clear hdb

       refine wpG_o rfl rfl (fun K hK => ?_)
       refine wpo_app (.tmp 39) (.tmp 41) rfl B0 v1 (0 + j) _ rfl HO3.out (some ⟨db, 0, none⟩) 1 1 [d] rfl (fun h => by cases h) rfl (by omega) HD3.out (by rw [HB0.out]; exact HF3.out.size) ?_
       intro v2 p4 g1 g2 g3
       refine hK _ _ (.inr (FutS.grownS g2 (fun q hq => HHI.out q (World.ownsRow.lt HO3.out q hq).1))) ?_
       clear hK K
       have HF4 := Lib.hid (Below.grown HF3.out g2 HF3.out.size (fun q hq => by rw [← HB0.out]; exact (World.ownsRow.lt HO3.out q hq).1))
       have HO4 := Lib.hid g1
       clear g1 g2 g3
       refine wpG_o rfl rfl (fun K hK => ?_)
       refine wpo_app (.tmp 42) (.tmp 45) rfl B0 v2 (0 + j + 1) _ rfl HO4.out A2 (m - j) (lc - j) (ls.drop j) rfl HA2.out HDL.out (by omega) (HX2.out.fut HF4.out) (by rw [HB0.out]; exact HF4.out.size) ?_
       intro v3 p5 g1 g2 g3
       refine hK _ _ (.inr (FutS.grownS g2 (fun q hq => HHI.out q (World.ownsRow.lt HO4.out q hq).1))) ?_
       clear hK K
       have HF5 := Lib.hid (Below.grown HF4.out g2 HF4.out.size (fun q hq => by rw [← HB0.out]; exact (World.ownsRow.lt HO4.out q hq).1))
       have HO5 := Lib.hid g1
       clear g1 g2 g3
       (refine wpS_h rfl rfl (fun K hK => ?_); go_simp; refine hK _ _ ?_; clear hK K)
       refine wpG_nil ?_
       obtain ⟨gb, XC, rfl, hgb, _⟩ := World.ownsRow.form HO5.out (by omega)
       have HR5 := Lib.hid (ins_row HO5.out)
       have HGB := Lib.hid hgb
       have HCAP := Lib.hid (own_cap HO5.out)
       clear hgb HO3 HO4 HF3 HF4
       obtain ⟨tn, htn⟩ : ∃ tn, tn = 0 + j + 1 + (m - j) := ⟨_, rfl⟩
       have htm : tn = m + 1 := by omega
       have HTN := Lib.hid htm
       have hcap : tn ≤ XC := by rw [htn]; exact HCAP.out
       rw [← htn]
       clear htn
       by_cases htk : (k : Int) < (tn : Int)
       ·
        exfalso
        have := HTN.out
        omega
       ·
        go_wp2_with fail
        go_returns
        refine ⟨⟨some ⟨gb, 0, none⟩, XC, (ls.take j ++ d :: ls.drop j).take k, true, ?_, ⟨j, by rw [List.length_map, HM.out]; exact hj, fun i y hi hy => ?_, .inr ⟨fun y hy => ?_, .inr ⟨by omega, ?_, rfl⟩⟩⟩, HR5.out.take k, .inr ⟨gb, rfl, ?_, ?_⟩, fun x hx => ?_, .inr ⟨gb, rfl, Nat.le_trans (Nat.le_trans HF.out.size HFW.out.size) (by rw [← HB0.out]; exact HGB.out)⟩⟩, HF.out.trans (HFW.out.trans HF5.out)⟩
        ·
         rw [ins_len HM.out hj]; rw [Nat.min_eq_right (by have := HTN.out; omega), ← HTN.out]; rfl
        ·
         rw [List.getElem?_map] at hy
         obtain ⟨z, hz, rfl⟩ := Option.map_eq_some_iff.1 hy
         exact hall.out i hi z hz
        ·
         rw [List.getElem?_map] at hy
         obtain ⟨z, hz, rfl⟩ := Option.map_eq_some_iff.1 hy
         exact HG.out z hz
        ·
         simp only [List.map_take, List.map_append, List.map_cons, List.map_drop, Int.toNat_natCast]
        ·
         rw [ins_len HM.out hj]; have := HTN.out; omega
        ·
         exact own_capM HO5.out
        ·
         exact ins_sub (List.mem_of_mem_take hx)
      ·
       go_simp
       refine hK _ _ (.inr ((relS S).of_fut (by first | exact (Fut.refl _).alloc _ | exact fut_of_drew' (((Fut.refl _).alloc _).drew)))) ?_
       clear hK K
       have HF2 := Lib.hid (show Fut W0 (p1.alloc (.cells #[.int .i64 d.e, .slice d.A d.k.length d.c] 35)) from HF1.out.alloc _)
       have HD2 := Lib.hid (show RdS (p1.alloc (.cells #[.int .i64 d.e, .slice d.A d.k.length d.c] 35)) (some ⟨p1.heap.size, 0, none⟩) 2 encD [d] from rdS_block (sz := 2) (f := encD) (t := 35) (fr := (0, 0)) (fun _ => rfl) (heap_new' _ _ _ rfl) _ rfl)
       have HO2 := Lib.hid (World.ownsRow.alloc HO1.out (.cells #[.int .i64 d.e, .slice d.A d.k.length d.c] 35))
       have HNE := Lib.hid (show p1.heap.size ≠ z0 from fun e => by have := (World.ownsRow.lt HO1.out z0 rfl).2; omega)
       generalize p1.alloc (.cells #[.int .i64 d.e, .slice d.A d.k.length d.c] 35) = p2 at *
       obtain ⟨db, hdb⟩ : ∃ db, db = p1.heap.size := ⟨_, rfl⟩
       rw [← hdb] at HD2 HNE ⊢
       clear hdb
       refine wpG_o rfl rfl (fun K hK => ?_)

       refine wpo_app (.tmp 35) (.tmp 38) rfl B0 (.slice (some ⟨z0, 0, none⟩) 0 0) 0 [] rfl HO2.out (some ⟨b, 0, none⟩) j lc (ls.take j) rfl (fun h => by cases h) HTL.out (by omega) (HX1.out.fut HF2.out) (by rw [HB0.out]; exact HF2.out.size) ?_
       intro v1 p3 g1 g2 g3
       refine hK _ _ (.inr (futS_own' g2 (HHI.out _ HZ.out.1))) ?_
       clear hK K
       have HF3 := Lib.hid (fut_own' HF2.out g2 (by rw [← HB0.out]; exact HZ.out.1))
       have HO3 := Lib.hid g1
       have HD3 := Lib.hid (rdS_grown HD2.out g2 HNE.out)
       clear g1 g2 g3

       refine wpG_o rfl rfl (fun K hK => ?_)
       refine wpo_app (.tmp 39) (.tmp 41) rfl B0 v1 (0 + j) _ rfl HO3.out (some ⟨db, 0, none⟩) 1 1 [d] rfl (fun h => by cases h) rfl (by omega) HD3.out (by rw [HB0.out]; exact HF3.out.size) ?_
       intro v2 p4 g1 g2 g3
       refine hK _ _ (.inr (FutS.grownS g2 (fun q hq => HHI.out q (World.ownsRow.lt HO3.out q hq).1))) ?_
       clear hK K
       have HF4 := Lib.hid (Below.grown HF3.out g2 HF3.out.size (fun q hq => by rw [← HB0.out]; exact (World.ownsRow.lt HO3.out q hq).1))
       have HO4 := Lib.hid g1
       clear g1 g2 g3
       refine wpG_o rfl rfl (fun K hK => ?_)
       refine wpo_app (.tmp 42) (.tmp 45) rfl B0 v2 (0 + j + 1) _ rfl HO4.out A2 (m - j) (lc - j) (ls.drop j) rfl HA2.out HDL.out (by omega) (HX2.out.fut HF4.out) (by rw [HB0.out]; exact HF4.out.size) ?_
       intro v3 p5 g1 g2 g3
       refine hK _ _ (.inr (FutS.grownS g2 (fun q hq => HHI.out q (World.ownsRow.lt HO4.out q hq).1))) ?_
       clear hK K
       have HF5 := Lib.hid (Below.grown HF4.out g2 HF4.out.size (fun q hq => by rw [← HB0.out]; exact (World.ownsRow.lt HO4.out q hq).1))
       have HO5 := Lib.hid g1
       clear g1 g2 g3
       (refine wpS_h rfl rfl (fun K hK => ?_); go_simp; refine hK _ _ ?_; clear hK K)
       refine wpG_nil ?_
       obtain ⟨gb, XC, rfl, hgb, _⟩ := World.ownsRow.form HO5.out (by omega)
       have HR5 := Lib.hid (ins_row HO5.out)
       have HGB := Lib.hid hgb
       have HCAP := Lib.hid (own_cap HO5.out)
       clear hgb HO3 HO4 HF3 HF4
       obtain ⟨tn, htn⟩ : ∃ tn, tn = 0 + j + 1 + (m - j) := ⟨_, rfl⟩
       have htm : tn = m + 1 := by omega
       have HTN := Lib.hid htm
       have hcap : tn ≤ XC := by rw [htn]; exact HCAP.out
       rw [← htn]
       clear htn
       by_cases htk : (k : Int) < (tn : Int)
       ·
        exfalso
        have := HTN.out
        omega
       ·
        go_wp2_with fail
        go_returns
        refine ⟨⟨some ⟨gb, 0, none⟩, XC, (ls.take j ++ d :: ls.drop j).take k, true, ?_, ⟨j, by rw [List.length_map, HM.out]; exact hj, fun i y hi hy => ?_, .inr ⟨fun y hy => ?_, .inr ⟨by omega, ?_, rfl⟩⟩⟩, HR5.out.take k, .inr ⟨gb, rfl, ?_, ?_⟩, fun x hx => ?_, .inr ⟨gb, rfl, Nat.le_trans (Nat.le_trans HF.out.size HFW.out.size) (by rw [← HB0.out]; exact HGB.out)⟩⟩, HF.out.trans (HFW.out.trans HF5.out)⟩
        ·
         rw [ins_len HM.out hj]; rw [Nat.min_eq_right (by have := HTN.out; omega), ← HTN.out]; rfl
        ·
         rw [List.getElem?_map] at hy
         obtain ⟨z, hz, rfl⟩ := Option.map_eq_some_iff.1 hy
         exact hall.out i hi z hz
        ·
         rw [List.getElem?_map] at hy
         obtain ⟨z, hz, rfl⟩ := Option.map_eq_some_iff.1 hy
         exact HG.out z hz
        ·
         simp only [List.map_take, List.map_append, List.map_cons, List.map_drop, Int.toNat_natCast]
        ·
         rw [ins_len HM.out hj]; have := HTN.out; omega
        ·
         exact own_capM HO5.out
        ·
         exact ins_sub (List.mem_of_mem_take hx)
     ·
      go_simp
      refine hK _ _ (.inr ((relS S).of_fut (by first | exact (Fut.refl _).alloc _ | exact fut_of_drew' (((Fut.refl _).alloc _).drew)))) ?_
      clear hK K
      have HF1 := Lib.hid (show Fut W0 ((W0.alloc (.cells #[.int .i64 d.e, .slice d.A d.k.length d.c] 35)).drew) from ((Fut.refl W0).alloc _).drew)
      have HD1 := Lib.hid (show RdS ((W0.alloc (.cells #[.int .i64 d.e, .slice d.A d.k.length d.c] 35)).drew) (some ⟨W0.heap.size, 0, none⟩) 2 encD [d] from rdS_block (sz := 2) (f := encD) (t := 35) (fr := (0, 0)) (fun _ => rfl) (heap_new' _ _ _ rfl) _ rfl)
      have HNE := Lib.hid (show W0.heap.size < ((W0.alloc (.cells #[.int .i64 d.e, .slice d.A d.k.length d.c] 35)).drew).heap.size from by rw [World.size_drew, World.size_alloc]; omega)
      generalize (W0.alloc (.cells #[.int .i64 d.e, .slice d.A d.k.length d.c] 35)).drew = p1 at *
      obtain ⟨db, hdb⟩ : ∃ db, db = W0.heap.size := ⟨_, rfl⟩
      rw [← hdb] at HD1 ⊢
      have HNE := Lib.hid (show db < p1.heap.size from by rw [hdb]; exact HNE.out)
      clear hdb
      refine wpG_o rfl rfl (fun K hK => ?_)

      go_simp
      refine hK _ _ (.inr ((relS S).of_fut (by first | exact (Fut.refl _).alloc _ | exact fut_of_drew' (((Fut.refl _).alloc _).drew)))) ?_
      clear hK K
      have HO2 := Lib.hid (show World.ownsRow (p1.alloc (.cells #[] 35)) B0 35 2 (.slice (some ⟨p1.heap.size, 0, none⟩) 0 0) 0 [] from ⟨rfl, .inr ⟨p1.heap.size, 0, #[], rfl, (by rw [HB0.out]; exact HF1.out.size), heap_new' _ _ _ rfl, Nat.le_refl _, by decide, rfl, rfl⟩⟩)
      have HF2 := Lib.hid (show Fut W0 (p1.alloc (.cells #[] 35)) from HF1.out.alloc _)
      have HD2 := Lib.hid (HD1.out.fut (show Fut p1 (p1.alloc (.cells #[] 35)) from (Fut.refl _).alloc _))
      obtain ⟨z0, hz0⟩ : ∃ z, z = p1.heap.size := ⟨_, rfl⟩
      have HZ := Lib.hid (show B0 ≤ z0 ∧ db < z0 from ⟨by rw [hz0]; exact (by rw [HB0.out]; exact HF1.out.size), by rw [hz0]; exact HNE.out⟩)
      rw [← hz0] at HO2 ⊢
      generalize p1.alloc (.cells #[] 35) = p2 at *
      clear hz0
      refine wpG_o rfl rfl (fun K hK => ?_)

      refine wpo_app (.tmp 35) (.tmp 38) rfl B0 (.slice (some ⟨z0, 0, none⟩) 0 0) 0 [] rfl HO2.out (some ⟨b, 0, none⟩) j lc (ls.take j) rfl (fun h => by cases h) HTL.out (by omega) (HX1.out.fut HF2.out) (by rw [HB0.out]; exact HF2.out.size) ?_
      intro v1 p3 g1 g2 g3
      refine hK _ _ (.inr (futS_own' g2 (HHI.out _ HZ.out.1))) ?_
      clear hK K
      have HF3 := Lib.hid (fut_own' HF2.out g2 (by rw [← HB0.out]; exact HZ.out.1))
      have HO3 := Lib.hid g1
      have HD3 := Lib.hid (rdS_grown HD2.out g2 (Nat.ne_of_lt HZ.out.2))
      clear g1 g2 g3

      refine wpG_o rfl rfl (fun K hK => ?_)
      refine wpo_app (.tmp 39) (.tmp 41) rfl B0 v1 (0 + j) _ rfl HO3.out (some ⟨db, 0, none⟩) 1 1 [d] rfl (fun h => by cases h) rfl (by omega) HD3.out (by rw [HB0.out]; exact HF3.out.size) ?_
      intro v2 p4 g1 g2 g3
      refine hK _ _ (.inr (FutS.grownS g2 (fun q hq => HHI.out q (World.ownsRow.lt HO3.out q hq).1))) ?_
      clear hK K
      have HF4 := Lib.hid (Below.grown HF3.out g2 HF3.out.size (fun q hq => by rw [← HB0.out]; exact (World.ownsRow.lt HO3.out q hq).1))
      have HO4 := Lib.hid g1
      clear g1 g2 g3
      refine wpG_o rfl rfl (fun K hK => ?_)
      refine wpo_app (.tmp 42) (.tmp 45) rfl B0 v2 (0 + j + 1) _ rfl HO4.out A2 (m - j) (lc - j) (ls.drop j) rfl HA2.out HDL.out (by omega) (HX2.out.fut HF4.out) (by rw [HB0.out]; exact HF4.out.size) ?_
      intro v3 p5 g1 g2 g3
      refine hK _ _ (.inr (FutS.grownS g2 (fun q hq => HHI.out q (World.ownsRow.lt HO4.out q hq).1))) ?_
      clear hK K
      have HF5 := Lib.hid (Below.grown HF4.out g2 HF4.out.size (fun q hq => by rw [← HB0.out]; exact (World.ownsRow.lt HO4.out q hq).1))
      have HO5 := Lib.hid g1
      clear g1 g2 g3
      (refine wpS_h rfl rfl (fun K hK => ?_); go_simp; refine hK _ _ ?_; clear hK K)
      refine wpG_nil ?_
      obtain ⟨gb, XC, rfl, hgb, _⟩ := World.ownsRow.form HO5.out (by omega)
      have HR5 := Lib.hid (ins_row HO5.out)
      have HGB := Lib.hid hgb
      have HCAP := Lib.hid (own_cap HO5.out)
      clear hgb HO3 HO4 HF3 HF4
      obtain ⟨tn, htn⟩ : ∃ tn, tn = 0 + j + 1 + (m - j) := ⟨_, rfl⟩
      have htm : tn = m + 1 := by omega
      have HTN := Lib.hid htm
      have hcap : tn ≤ XC := by rw [htn]; exact HCAP.out
      rw [← htn]
      clear htn
      by_cases htk : (k : Int) < (tn : Int)
      ·
       exfalso
       have := HTN.out
       omega
      ·
       go_wp2_with fail
       go_returns
       refine ⟨⟨some ⟨gb, 0, none⟩, XC, (ls.take j ++ d :: ls.drop j).take k, true, ?_, ⟨j, by rw [List.length_map, HM.out]; exact hj, fun i y hi hy => ?_, .inr ⟨fun y hy => ?_, .inr ⟨by omega, ?_, rfl⟩⟩⟩, HR5.out.take k, .inr ⟨gb, rfl, ?_, ?_⟩, fun x hx => ?_, .inr ⟨gb, rfl, Nat.le_trans (Nat.le_trans HF.out.size HFW.out.size) (by rw [← HB0.out]; exact HGB.out)⟩⟩, HF.out.trans (HFW.out.trans HF5.out)⟩
       ·
        rw [ins_len HM.out hj]; rw [Nat.min_eq_right (by have := HTN.out; omega), ← HTN.out]; rfl
       ·
        rw [List.getElem?_map] at hy
        obtain ⟨z, hz, rfl⟩ := Option.map_eq_some_iff.1 hy
        exact hall.out i hi z hz
       ·
        rw [List.getElem?_map] at hy
        obtain ⟨z, hz, rfl⟩ := Option.map_eq_some_iff.1 hy
        exact HG.out z hz
       ·
        simp only [List.map_take, List.map_append, List.map_cons, List.map_drop, Int.toNat_natCast]
       ·
        rw [ins_len HM.out hj]; have := HTN.out; omega
       ·
        exact own_capM HO5.out
       ·
        exact ins_sub (List.mem_of_mem_take hx)
end Go.Proofs.YtajbmdjlfniofaaDoor
