/-
  Texts joined: Derivations: how a tree lies in memory; its validity and value, opened; Valid of derivations, as the reference has it; Value of derivations, as the program has it; Compare of derivations, as the program has it; Value of derivations, as the reference has it; Compare of derivations, as the reference has it.
-/
import Derived.Test.YtajbmdjlfniofaaDoorBC
import Derived.Test.YtajbmdjlfniofaaDoorBB
import Derived.WalkMore
/-
  Derivations: how a tree lies in memory; its validity and value, opened.
-/
namespace Go.Proofs.YtajbmdjlfniofaaDoor
open Go.RowKit
/-- a tree, and where the kids of each node lie -/
inductive DI where
 | node (e : Int) (A : Option Addr) (c : Nat) (k : List DI)
def DI.e : DI → Int
 | .node e _ _ _ => e
def DI.A : DI → Option Addr
 | .node _ A _ _ => A
def DI.c : DI → Nat
 | .node _ _ c _ => c
def DI.k : DI → List DI
 | .node _ _ _ k => k
theorem DI.ind {P : DI → Prop} (h : ∀ e A c k, (∀ d ∈ k, P d) → P (.node e A c k)) : ∀ d, P d
 | .node e A c k => h e A c k (fun d _hd => DI.ind h d)
termination_by d => SizeOf.sizeOf d
decreasing_by
 have := List.sizeOf_lt_of_mem _hd
 simp
 omega
def encD (d : DI) : List Value := [.int .i64 d.e, .slice d.A d.k.length d.c]
abbrev dv (d : DI) : Value := .agg #[.int .i64 d.e, .slice d.A d.k.length d.c]
mutual
def toDT : DI → PK.DT
 | .node e _ _ k => .node e (toDTs k)
def toDTs : List DI → List PK.DT
 | [] => []
 | d :: k => toDT d :: toDTs k
end
theorem toDTs_map : ∀ k, toDTs k = k.map toDT
 | [] => by rw [toDTs]; rfl
 | d :: k => by rw [toDTs, toDTs_map k]; rfl
theorem toDT_eq (e : Int) (A : Option Addr) (c : Nat) (k : List DI) : toDT (.node e A c k) = .node e (k.map toDT) := by rw [toDT, toDTs_map]
/-- the tree lies in memory -/
inductive RdD (w : World) : DI → Prop
 | mk {e : Int} {A : Option Addr} {c : Nat} {k : List DI} (hS : RdS w A 2 encD k) (hl : k.length ≤ maxLen) (hk : ∀ d ∈ k, RdD w d) : RdD w (.node e A c k)
theorem RdD.parts {w : World} {e : Int} {A : Option Addr} {c : Nat} {k : List DI} (h : RdD w (.node e A c k)) : RdS w A 2 encD k ∧ k.length ≤ maxLen ∧ ∀ d ∈ k, RdD w d := by
 cases h with
 | mk hS hl hk => exact ⟨hS, hl, hk⟩
theorem RdD.fut {w w' : World} {d : DI} (h : RdD w d) (hf : Fut w w') : RdD w' d := by
 induction d using DI.ind with
 | h e A c k ih =>
  obtain ⟨h1, h2, h3⟩ := h.parts
  exact .mk (h1.fut hf) h2 (fun x hx => ih x hx (h3 x hx))
theorem cmpF_no {a b : Int} (h : ¬ a = b) : ((a = b) = False) ∧ (a == b) = false ∧ (a != b) = true := by simp [h]
theorem map_take {α β : Type} {f : α → β} {k l : List α} {j : Nat} {x y : α} (h : (k.take j).map f = (l.take j).map f) (hx : k[j]? = some x) (hy : l[j]? = some y) (hxy : f x = f y) : (k.take (j + 1)).map f = (l.take (j + 1)).map f := by
 rw [List.take_add_one, List.take_add_one, hx, hy, List.map_append, List.map_append, h]; simp [hxy]
theorem edge_at {es : List EI} {j : Nat} {x : EI} (hx : es[j]? = some x) : PK.edge (EEs es) (j : Int) = some (toEE x) := by
 unfold PK.edge
 rw [if_pos (by omega), Int.toNat_natCast, List.getElem?_map, hx]; rfl
theorem validD_good {N : Int} {es : List EI} (hvd : validB N es = true) {j : Nat} {x : EI} {r : Int} {k : List DI} (hx : es[j]? = some x) (hl : x.t.length = k.length) : PK.validD (EEs es) (.node (j : Int) (k.map toDT)) r = true ↔ x.h = r ∧ ∀ (i : Nat) d t, k[i]? = some d → x.t[i]? = some t → PK.validD (EEs es) (toDT d) t = true := by
 obtain ⟨h1, _, _, _, h5⟩ := okE_parts ((validB_parts hvd).2.2 x (List.mem_of_getElem? hx))
 rw [PK.validD_iff]
 constructor
 ·
  rintro ⟨E, e1, e2, e3, e4⟩
  rw [edge_at hx] at e1
  obtain rfl := Option.some.inj e1
  refine ⟨by rw [← e2]; unfold toEE; simp only; omega, fun i d t hd ht => ?_⟩
  have := e4 i (toDT d) t.toNat (by rw [List.getElem?_map, hd]; rfl) (by unfold toEE; simp only; rw [List.getElem?_map, ht]; rfl)
  rwa [Int.toNat_of_nonneg (h5 t (List.mem_of_getElem? ht)).1] at this
 ·
  rintro ⟨e1, e2⟩
  refine ⟨toEE x, edge_at hx, by unfold toEE; simp only; omega, by unfold toEE; simp [hl], fun i d t hd ht => ?_⟩
  rw [List.getElem?_map] at hd
  obtain ⟨d', hd', rfl⟩ := Option.map_eq_some_iff.1 hd
  unfold toEE at ht
  simp only [List.getElem?_map] at ht
  obtain ⟨t', ht', rfl⟩ := Option.map_eq_some_iff.1 ht
  rw [Int.toNat_of_nonneg (h5 t' (List.mem_of_getElem? ht')).1]
  exact e2 i d' t' hd' ht'
open PK
theorem own_fut {w w' : World} {B sz n : Nat} {E : TypeId} {v : Value} {xs : List Value} (h : w.ownsRow B E sz v n xs) (hf : Fut w w') : w'.ownsRow B E sz v n xs := by
 refine ⟨h.1, ?_⟩
 rcases h.2 with hn | ⟨g, cap, cur, rfl, hb, hg, rest⟩
 ·
  exact .inl hn
 ·
  exact .inr ⟨g, cap, cur, rfl, hb, (hf.block g (Array.getElem?_eq_some_iff.1 hg).1).trans hg, rest⟩
theorem val_ok {es : List EE} (hes : ∀ e ∈ es, PK.okE e) (d : DT) : okV (val es d) := by
 induction d using DT.ind with
 | h e k ih =>
  rw [val]
  cases h : PK.edge es e with
  | none => exact okV_top
  | some E =>
   have hE : E ∈ es := by
    unfold PK.edge at h
    split at h
    ·
     exact List.mem_of_getElem? h
    ·
     cases h
   refine comb_ok (hes E hE) (fun v hv => ?_)
   rw [valL_map] at hv
   obtain ⟨d, hd, rfl⟩ := List.mem_map.1 hv
   exact ih d hd
theorem val_node {es : List EI} {j : Nat} {x : EI} {k : List DT} (hx : es[j]? = some x) : val (EEs es) (.node (j : Int) k) = comb x.c (k.map (val (EEs es))) := by
 rw [val, edge_at hx, valL_map]; rfl
/-- a valid tree, opened: its hyperedge and its kids -/
theorem validD_parts {N : Int} {es : List EI} (hvd : validB N es = true) {e r : Int} {k : List DI} (h : PK.validD (EEs es) (.node e (k.map toDT)) r = true) : ∃ (q : Nat) (x : EI), e = q ∧ es[q]? = some x ∧ x.h = r ∧ x.t.length = k.length ∧ ∀ (i : Nat) d t, k[i]? = some d → x.t[i]? = some t → PK.validD (EEs es) (toDT d) t = true := by
 obtain ⟨E, e1, e2, e3, e4⟩ := (PK.validD_iff _ _ _ _).1 h
 unfold PK.edge at e1
 split at e1
 ·
  rename_i he
  rw [List.getElem?_map] at e1
  obtain ⟨x, hx, rfl⟩ := Option.map_eq_some_iff.1 e1
  have hl : x.t.length = k.length := by
   unfold toEE at e3
   simpa using e3
  obtain ⟨q, rfl⟩ : ∃ q : Nat, e = q := ⟨e.toNat, by omega⟩
  rw [Int.toNat_natCast] at hx
  obtain ⟨h1, h2⟩ := (validD_good hvd hx hl).1 h
  exact ⟨q, x, rfl, hx, h1, hl, h2⟩
 ·
  cases e1
end Go.Proofs.YtajbmdjlfniofaaDoor
/-
  Valid of derivations, as the reference has it.
-/
namespace Go.Proofs.YtajbmdjlfniofaaDoor
open Go.RowKit
attribute [local go_sem] Oper.lit Oper.litS fut_fut fut_drew World.cell?_alloc_some
end Go.Proofs.YtajbmdjlfniofaaDoor
/-
  Value of derivations, as the program has it.
-/
namespace Go.Proofs.YtajbmdjlfniofaaDoor
open Go.RowKit Go.Deep PK
attribute [local go_sem] Oper.lit Oper.litS fut_fut fut_drew World.cell?_alloc_some
theorem dval_res : Tryd.f61.results = #[.cell 4 37] := by kernel_rfl
set_option maxHeartbeats 6400000 in
theorem dvalue_any (N : Int) (A : Option Addr) (n c : Nat) (es : List EI) (hl : es.length = n) (hn : n ≤ maxLen) (hvd : validB N es = true) (htl : ∀ e ∈ es, e.t.length ≤ 1000000) (d : DI) : ∀ (r : Int) w, PK.validD (EEs es) (toDT d) r = true → RdE w A es → RdD w d →
  Calls Tryd.prog 61 #[hv N A n c, dv d] w fun q w' => q = .returned (vv (val (EEs es) (toDT d))) ∧ Below w.heap.size w w' := by
 have HL := Lib.hid hl
 have HVD := Lib.hid hvd
 have HTL := Lib.hid htl
 have hn63 : n ≤ 9223372036854775807 := hn
 clear hl hvd hn htl
 induction d using DI.ind with
 | h e B d k ih =>
  intro r w hval hR hRD
  obtain ⟨hS, hkl, hK⟩ := hRD.parts
  rw [toDT_eq] at hval
  obtain ⟨q, x, rfl, hx, hxr, hxl, hkv⟩ := validD_parts HVD.out hval
  obtain ⟨b, o, rfl, hc⟩ := hR.1 q x hx
  have hq : q < n := by
   have := (List.getElem?_eq_some_iff.1 hx).1
   rw [HL.out] at this; exact this
  have HVN := Lib.hid (val_node (k := k.map toDT) hx)
  have HR := Lib.hid hR
  have HS := Lib.hid hS
  have HK := Lib.hid hK
  have HI := Lib.hid ih
  have HKV := Lib.hid hkv
  have hxt : x.t.length ≤ 1000000 := HTL.out x (List.mem_of_getElem? hx)
  obtain ⟨m, hm⟩ : ∃ m, k.length = m := ⟨_, rfl⟩
  have hm6 : m ≤ 1000000 := by omega
  have HM := Lib.hid hm
  have HXL := Lib.hid (hxl.trans hm)
  simp only [dv, DI.e, DI.A, DI.c, DI.k, hm]
  rw [toDT_eq]
  have hO := okE_parts ((validB_parts HVD.out).2.2 x (List.mem_of_getElem? hx))
  have HCC := Lib.hid (show 0 ≤ x.c ∧ x.c ≤ INF from ⟨hO.2.2.1, hO.2.2.2.1⟩)
  have c2 := hc 2 _ (by decide) rfl
  obtain ⟨xh, xt, xc, xl0, xl1, xA, xk⟩ := x
  simp only at c2 HCC HVN HXL HKV
  have C2 := Lib.hid c2
  clear hS hK hR ih hkl hm hRD hval hx hxr hxl hkv hc hxt hO c2
  go_enter Tryd.func61, Tryd.ntmps61
  go_wp2_with fail
  obtain ⟨wb, hwb⟩ : ∃ wb, wb = (((w.alloc (.cells #[.int .i64 N, .slice (some ⟨b, o, none⟩) n c] 24)).alloc (.cells #[.int .i64 q, .slice B m d] 35)).alloc (.cells #[.int .i64 0, .int .i64 0] 37)) := ⟨_, rfl⟩
  have HF := Lib.hid (show Fut w wb from by rw [hwb]; exact (((Fut.refl w).alloc _).alloc _).alloc _)
  have Q0 := Lib.hid (show wb.cell? ⟨w.heap.size, 0, none⟩ = some (.int .i64 N) from by rw [hwb]; (repeat (first | exact (cell_al_new _ _ _ _ _ _ (by first | rfl | (simp only [World.size_alloc]))).trans rfl | refine (cell_al_old _ _ _ (by first | omega | (simp only [World.size_alloc]; omega))).trans ?_)))
  have Q1 := Lib.hid (show wb.cell? ⟨w.heap.size, 1, none⟩ = some (.slice (some ⟨b, o, none⟩) n c) from by rw [hwb]; (repeat (first | exact (cell_al_new _ _ _ _ _ _ (by first | rfl | (simp only [World.size_alloc]))).trans rfl | refine (cell_al_old _ _ _ (by first | omega | (simp only [World.size_alloc]; omega))).trans ?_)))
  have Q2 := Lib.hid (show wb.cell? ⟨w.heap.size + 1, 0, none⟩ = some (.int .i64 q) from by rw [hwb]; (repeat (first | exact (cell_al_new _ _ _ _ _ _ (by first | rfl | (simp only [World.size_alloc]))).trans rfl | refine (cell_al_old _ _ _ (by first | omega | (simp only [World.size_alloc]; omega))).trans ?_)))
  have HZ := Lib.hid (show Blk wb (w.heap.size + 1 + 1) 37 #[.int .i64 0, .int .i64 0] from by rw [hwb]; exact heap_new' _ _ _ (by simp only [World.size_alloc]))
  rw [← hwb]
  clear hwb
  go_loopw [5, 11] (fun x i wr => ∃ j : Nat, j ≤ m ∧ i = .int .i64 j ∧ Hid (wr.ownsRow wb.heap.size 37 2 x j (((k.take j).map (fun d => val (EEs es) (toDT d))).flatMap encV)) ∧ Fut wb wr) (fun _ i _ => m - (intOf i).toNat)
  case atStart => exact ⟨0, Nat.zero_le _, rfl, Lib.hid (World.ownsRow_nil _ _ _ _), Fut.refl _⟩
  case round =>
   obtain ⟨j, hj, rfl, HO, hF⟩ := hrel
   have HF2 := Lib.hid hF
   obtain ⟨XA, Xc, rfl, _⟩ := own_form HO.out
   have q0 := hF.cell Q0.out
   have q1 := hF.cell Q1.out
   have q2 := hF.cell Q2.out
   by_cases hlt : j < m
   ·
    obtain ⟨y, hy⟩ := get_lt HM.out hlt
    obtain ⟨t, hty⟩ := get_lt HXL.out hlt
    obtain ⟨b1, o1, rfl, hd⟩ := HS.out j y hy
    have d0 := hF.cell (HF.out.cell (hd 0 _ (by decide) rfl))
    have d1 := hF.cell (HF.out.cell (hd 1 _ (by decide) rfl))
    simp only [Nat.add_zero] at d0
    have HY := Lib.hid hy
    have HC := Lib.hid (fun w' (hf : Fut wr w') => HI.out y (List.mem_of_getElem? hy) t w' (HKV.out j y t hy hty) (((HR.out.fut HF.out).fut hF).fut hf) ((((HK.out y (List.mem_of_getElem? hy)).fut HF.out).fut hF).fut hf))
    obtain ⟨z, hz⟩ : ∃ z, val (EEs es) (toDT y) = z := ⟨_, rfl⟩
    have HZV := Lib.hid hz
    rw [hz] at HC
    clear hy hty hd hF hz q2
    obtain ⟨ye, yA, yc, yk⟩ := y
    obtain ⟨zc, zs⟩ := z
    simp only [DI.e, DI.A, DI.c, DI.k] at d0 d1
    have f1 := (Fut.refl wr).alloc (.cells #[.int .i64 ye, .slice yA yk.length yc] 35)
    have HOW := Lib.hid (World.ownsRow.alloc HO.out (.cells #[.int .i64 ye, .slice yA yk.length yc] 35))
    have HF3 := Lib.hid f1
    clear f1
    go_wp2_with fail
    refine (HC.out _ HF3.out).mono ?_
    rintro r w1 ⟨rfl, hb⟩
    have f2 : Fut _ w1 := hb
    have HO1 := Lib.hid (World.ownsRow.alloc (own_fut HOW.out f2) (.cells #[.int .i64 zc, .int .i64 zs] 37))
    have HF4 := Lib.hid (show Fut wb (w1.alloc (.cells #[.int .i64 zc, .int .i64 zs] 37)) from (HF2.out.trans (HF3.out.trans f2)).alloc _)
    clear hb f2 HOW HC
    go_wp2_with (at_builtin; refine wpList_push rfl 56 37 2 16 _ Tryd.underlying56 info_vv rfl (by decide) (by decide) (.tmp 15) (.tmp 19) rfl wb.heap.size (.slice XA j Xc) j _ rfl HO1.out w1.heap.size [.int .i64 zc, .int .i64 zs] rfl (heap_new' _ _ _ rfl) rfl (by simp [Value.oneCell']) (by omega) HF4.out.size ?_; intro g cap w' h1 h2 h3)
    refine ⟨⟨j + 1, by omega, by go_num, Lib.hid ?_, Below.grown HF4.out h2 HF4.out.size (fun q hq => (World.ownsRow.lt HO1.out q hq).1)⟩, by simp [intOf]; omega⟩
    rw [List.take_add_one, HY.out, List.map_append, List.flatMap_append]
    simp only [Option.toList_some, List.map_cons, List.map_nil, HZV.out]
    exact h1
   ·
    have hjn : j = m := by omega
    obtain rfl := hjn
    have hl9 : k.take j = k := List.take_of_length_le (by rw [HM.out]; omega)
    have h9 := HO.out
    rw [hl9] at h9
    have h8 := RdS.of_own (enc := encV) encV_len (by decide) h9
    have c2 := hF.cell (HF.out.cell C2.out)
    have HCO := Lib.hid (combine_any xc XA j Xc (k.map (fun d => val (EEs es) (toDT d))) wr (by rw [List.length_map, HM.out]) (by unfold maxLen; omega) HCC.out (fun v hv => by
     obtain ⟨d, _, rfl⟩ := List.mem_map.1 hv
     exact val_ok (EEs_ok HVD.out) _) h8)
    generalize hcv : comb xc (k.map (fun d => val (EEs es) (toDT d))) = z at HCO
    have HCV := Lib.hid hcv
    obtain ⟨zc, zs⟩ := z
    clear hl9 h9 h8 hF hcv
    go_wp2_with fail
    refine HCO.out.mono ?_
    rintro r w1 ⟨rfl, hb⟩
    have f1 : Fut wr w1 := hb
    have hz1 := (HZ.out.fut HF2.out).fut f1
    have g4 := hz1.cell (i := 0) rfl
    have g5 := hz1.cell (i := 1) rfl
    have g2 := hz1.fz 0
    have g3 := hz1.fz 1
    have HZ3 := Lib.hid hz1
    have HF3 := Lib.hid (HF.out.trans (HF2.out.trans f1))
    clear hb f1 hz1
    go_wp2_with fail
    refine bodyPost_ret (results_cell_row dval_res _ _ (w.heap.size + 1 + 1) _ _ _ _ rfl ((HZ3.out.set 0 (.int .i64 zc)).set 1 (.int .i64 zs)) Tryd.underlying37 rfl (by kernel_rfl)) rfl ?_
    exact ⟨by rw [HVN.out, List.map_map, show (val (EEs es) ∘ toDT) = (fun d => val (EEs es) (toDT d)) from rfl, HCV.out]; rfl, (HF3.out.setCell (p := ⟨w.heap.size + 1 + 1, 0, none⟩) (by simp only; omega) _).setCell (p := ⟨w.heap.size + 1 + 1, 1, none⟩) (by simp only; omega) _⟩
end Go.Proofs.YtajbmdjlfniofaaDoor
/-
  Compare of derivations, as the program has it.
-/
namespace Go.Proofs.YtajbmdjlfniofaaDoor
open Go.RowKit Go.Deep PK
attribute [local go_sem] Oper.lit Oper.litS fut_fut fut_drew World.cell?_alloc_some
theorem values_any (a b : VV) (w : World) : Calls Tryd.prog 60 #[vv a, vv b] w fun q w' => q = .returned (.int .i64 (cmpV a b)) ∧ Below w.heap.size w w' := by
 have HV := Lib.hid (show cmpV a b = if ltV a b = true then -1 else if ltV b a = true then 1 else 0 from rfl)
 have HL := Lib.hid (fun w' => less_any a b w')
 have HM := Lib.hid (fun w' => less_any b a w')
 generalize cmpV a b = z at HV ⊢
 generalize ltV a b = x at HV HL
 generalize ltV b a = y at HV HM
 obtain ⟨ac, a2⟩ := a
 obtain ⟨bc, b2⟩ := b
 go_enter Tryd.func60, Tryd.ntmps60
 go_wp2_with fail
 have HF := Lib.hid (show Fut w ((w.alloc (.cells #[.int .i64 ac, .int .i64 a2] 37)).alloc (.cells #[.int .i64 bc, .int .i64 b2] 37)) from ((Fut.refl w).alloc _).alloc _)
 have Q0 := Lib.hid (show ((w.alloc (.cells #[.int .i64 ac, .int .i64 a2] 37)).alloc (.cells #[.int .i64 bc, .int .i64 b2] 37)).cell? ⟨w.heap.size, 0, none⟩ = some (.int .i64 ac) from by (repeat (first | exact (cell_al_new _ _ _ _ _ _ (by first | rfl | (simp only [World.size_alloc]))).trans rfl | refine (cell_al_old _ _ _ (by first | omega | (simp only [World.size_alloc]; omega))).trans ?_)))
 have Q1 := Lib.hid (show ((w.alloc (.cells #[.int .i64 ac, .int .i64 a2] 37)).alloc (.cells #[.int .i64 bc, .int .i64 b2] 37)).cell? ⟨w.heap.size, 1, none⟩ = some (.int .i64 a2) from by (repeat (first | exact (cell_al_new _ _ _ _ _ _ (by first | rfl | (simp only [World.size_alloc]))).trans rfl | refine (cell_al_old _ _ _ (by first | omega | (simp only [World.size_alloc]; omega))).trans ?_)))
 have Q2 := Lib.hid (show ((w.alloc (.cells #[.int .i64 ac, .int .i64 a2] 37)).alloc (.cells #[.int .i64 bc, .int .i64 b2] 37)).cell? ⟨w.heap.size + 1, 0, none⟩ = some (.int .i64 bc) from by (repeat (first | exact (cell_al_new _ _ _ _ _ _ (by first | rfl | (simp only [World.size_alloc]))).trans rfl | refine (cell_al_old _ _ _ (by first | omega | (simp only [World.size_alloc]; omega))).trans ?_)))
 have Q3 := Lib.hid (show ((w.alloc (.cells #[.int .i64 ac, .int .i64 a2] 37)).alloc (.cells #[.int .i64 bc, .int .i64 b2] 37)).cell? ⟨w.heap.size + 1, 1, none⟩ = some (.int .i64 b2) from by (repeat (first | exact (cell_al_new _ _ _ _ _ _ (by first | rfl | (simp only [World.size_alloc]))).trans rfl | refine (cell_al_old _ _ _ (by first | omega | (simp only [World.size_alloc]; omega))).trans ?_)))
 generalize (w.alloc (.cells #[.int .i64 ac, .int .i64 a2] 37)).alloc (.cells #[.int .i64 bc, .int .i64 b2] 37) = wb at *
 refine (HL.out _).mono ?_
 rintro r w1 ⟨rfl, hb⟩
 have f1 : Fut wb w1 := hb
 have q0 := f1.cell Q0.out
 have q1 := f1.cell Q1.out
 have q2 := f1.cell Q2.out
 have q3 := f1.cell Q3.out
 have HF1 := Lib.hid f1
 clear hb f1
 cases x with
 | true =>
  go_wp2_with fail
  go_ret
  exact ⟨by rw [HV.out]; rfl, HF.out.trans HF1.out⟩
 | false =>
  go_wp2_with fail
  refine (HM.out _).mono ?_
  rintro r w2 ⟨rfl, hb⟩
  have f2 : Fut w1 w2 := hb
  have HF2 := Lib.hid f2
  clear hb f2
  cases y with
  | true =>
   go_wp2_with fail
   go_ret
   exact ⟨by rw [HV.out]; rfl, HF.out.trans (HF1.out.trans HF2.out)⟩
  | false =>
   go_wp2_with fail
   go_ret
   exact ⟨by rw [HV.out]; rfl, HF.out.trans (HF1.out.trans HF2.out)⟩
theorem cmpL_at (es : List EE) : ∀ (k l : List DT) (j : Nat) (x y : DT), k[j]? = some x → l[j]? = some y → cmpL es (k.drop j) (l.drop j) = if cmpD es x y ≠ 0 then cmpD es x y else cmpL es (k.drop (j + 1)) (l.drop (j + 1)) := by
 intro k l j x y hx hy
 obtain ⟨h1, h2⟩ := List.getElem?_eq_some_iff.1 hx
 obtain ⟨h3, h4⟩ := List.getElem?_eq_some_iff.1 hy
 rw [List.drop_eq_getElem_cons h1, List.drop_eq_getElem_cons h3, cmpL, h2, h4]
/-- both of the same node: their kids belong together -/
theorem kids_both {N : Int} {es : List EI} (hvd : validB N es = true) {e f r : Int} {k l : List DI} (h1 : PK.validD (EEs es) (.node e (k.map toDT)) r = true) (h2 : PK.validD (EEs es) (.node f (l.map toDT)) r = true) (hef : e = f) : k.length = l.length ∧ ∀ (i : Nat) x y, k[i]? = some x → l[i]? = some y → ∃ t, PK.validD (EEs es) (toDT x) t = true ∧ PK.validD (EEs es) (toDT y) t = true := by
 subst hef
 obtain ⟨q, x, e1, e2, e3, e4, e5⟩ := validD_parts hvd h1
 obtain ⟨q', x', f1, f2, f3, f4, f5⟩ := validD_parts hvd h2
 obtain rfl : q = q' := by omega
 rw [e2] at f2
 obtain rfl := Option.some.inj f2
 refine ⟨by omega, fun i a b ha hb => ?_⟩
 have hlt := (List.getElem?_eq_some_iff.1 ha).1
 obtain ⟨t, ht⟩ : ∃ t, x.t[i]? = some t := ⟨_, List.getElem?_eq_getElem (by omega)⟩
 exact ⟨t, e5 i a t ha ht, f5 i b t hb ht⟩
set_option maxHeartbeats 12800000 in
theorem dcmp_any (N : Int) (A : Option Addr) (n c : Nat) (es : List EI) (hl : es.length = n) (hn : n ≤ maxLen) (hvd : validB N es = true) (htl : ∀ e ∈ es, e.t.length ≤ 1000000) (a : DI) : ∀ (b : DI) (r : Int) w, PK.validD (EEs es) (toDT a) r = true → PK.validD (EEs es) (toDT b) r = true → RdE w A es → RdD w a → RdD w b →
  Calls Tryd.prog 54 #[hv N A n c, dv a, dv b] w fun q w' => q = .returned (.int .i64 (cmpD (EEs es) (toDT a) (toDT b))) ∧ Below w.heap.size w w' := by
 have HVA := Lib.hid (fun (d : DI) r w => dvalue_any N A n c es hl hn hvd htl d r w)
 have HVD := Lib.hid hvd
 clear hl hvd hn htl
 induction a using DI.ind with
 | h e B d k ih =>
  rintro ⟨f, C, g, l⟩ r w hv1 hv2 hR hRD hRD2
  have HVA1 := Lib.hid (fun w' (hf : Fut w w') => HVA.out (.node e B d k) r w' hv1 (hR.fut hf) (hRD.fut hf))
  have HVA2 := Lib.hid (fun w' (hf : Fut w w') => HVA.out (.node f C g l) r w' hv2 (hR.fut hf) (hRD2.fut hf))
  obtain ⟨hS, hkl, hK⟩ := hRD.parts
  obtain ⟨hS2, hll, hK2⟩ := hRD2.parts
  rw [toDT_eq] at hv1 hv2
  have HKB := Lib.hid (kids_both HVD.out hv1 hv2)
  have HR := Lib.hid hR
  have HS := Lib.hid hS
  have HK := Lib.hid hK
  have HS2 := Lib.hid hS2
  have HK2 := Lib.hid hK2
  have HI := Lib.hid ih
  obtain ⟨m, hm⟩ : ∃ m, k.length = m := ⟨_, rfl⟩
  obtain ⟨p, hp⟩ : ∃ p, l.length = p := ⟨_, rfl⟩
  have hm63 : m ≤ 9223372036854775807 := hm ▸ hkl
  have hp63 : p ≤ 9223372036854775807 := hp ▸ hll
  have HM := Lib.hid hm
  have HP := Lib.hid hp
  have HCD := Lib.hid (show cmpD (EEs es) (toDT (.node e B d k)) (toDT (.node f C g l)) = if cmpV (val (EEs es) (toDT (.node e B d k))) (val (EEs es) (toDT (.node f C g l))) ≠ 0 then cmpV (val (EEs es) (toDT (.node e B d k))) (val (EEs es) (toDT (.node f C g l))) else if cmpI e f ≠ 0 then cmpI e f else cmpL (EEs es) (k.map toDT) (l.map toDT) from by rw [toDT_eq, toDT_eq, cmpD])
  have HVS := Lib.hid (fun w' => values_any (val (EEs es) (toDT (.node e B d k))) (val (EEs es) (toDT (.node f C g l))) w')
  generalize cmpD (EEs es) (toDT (.node e B d k)) (toDT (.node f C g l)) = res at HCD ⊢
  generalize cmpV (val (EEs es) (toDT (.node e B d k))) (val (EEs es) (toDT (.node f C g l))) = z at HCD HVS
  generalize val (EEs es) (toDT (.node e B d k)) = v1 at HVA1 HVS
  generalize val (EEs es) (toDT (.node f C g l)) = v2 at HVA2 HVS
  obtain ⟨v1c, v1s⟩ := v1
  obtain ⟨v2c, v2s⟩ := v2
  have HVA1' := Lib.hid (show ∀ w', Fut w w' → Calls Tryd.prog 61 #[hv N A n c, .agg #[.int .i64 e, .slice B m d]] w' fun q w2 => q = .returned (vv ⟨v1c, v1s⟩) ∧ Below w'.heap.size w' w2 from fun w' hf => by rw [← HM.out]; exact HVA1.out w' hf)
  have HVA2' := Lib.hid (show ∀ w', Fut w w' → Calls Tryd.prog 61 #[hv N A n c, .agg #[.int .i64 f, .slice C p g]] w' fun q w2 => q = .returned (vv ⟨v2c, v2s⟩) ∧ Below w'.heap.size w' w2 from fun w' hf => by rw [← HP.out]; exact HVA2.out w' hf)
  simp only [dv, DI.e, DI.A, DI.c, DI.k, hm, hp]
  clear hS hK hS2 hK2 hR ih hkl hll hm hp hRD hRD2 hv1 hv2 HVA1 HVA2
  have HF := Lib.hid (show Fut w (((w.alloc (.cells #[.int .i64 N, .slice A n c] 24)).alloc (.cells #[.int .i64 e, .slice B m d] 35)).alloc (.cells #[.int .i64 f, .slice C p g] 35)) from (((Fut.refl w).alloc _).alloc _).alloc _)
  have Q0 := Lib.hid (show (((w.alloc (.cells #[.int .i64 N, .slice A n c] 24)).alloc (.cells #[.int .i64 e, .slice B m d] 35)).alloc (.cells #[.int .i64 f, .slice C p g] 35)).cell? ⟨w.heap.size, 0, none⟩ = some (.int .i64 N) from by (repeat (first | exact (cell_al_new _ _ _ _ _ _ (by first | rfl | (simp only [World.size_alloc]))).trans rfl | refine (cell_al_old _ _ _ (by first | omega | (simp only [World.size_alloc]; omega))).trans ?_)))
  have Q1 := Lib.hid (show (((w.alloc (.cells #[.int .i64 N, .slice A n c] 24)).alloc (.cells #[.int .i64 e, .slice B m d] 35)).alloc (.cells #[.int .i64 f, .slice C p g] 35)).cell? ⟨w.heap.size, 1, none⟩ = some (.slice A n c) from by (repeat (first | exact (cell_al_new _ _ _ _ _ _ (by first | rfl | (simp only [World.size_alloc]))).trans rfl | refine (cell_al_old _ _ _ (by first | omega | (simp only [World.size_alloc]; omega))).trans ?_)))
  have Q2 := Lib.hid (show (((w.alloc (.cells #[.int .i64 N, .slice A n c] 24)).alloc (.cells #[.int .i64 e, .slice B m d] 35)).alloc (.cells #[.int .i64 f, .slice C p g] 35)).cell? ⟨w.heap.size + 1, 0, none⟩ = some (.int .i64 e) from by (repeat (first | exact (cell_al_new _ _ _ _ _ _ (by first | rfl | (simp only [World.size_alloc]))).trans rfl | refine (cell_al_old _ _ _ (by first | omega | (simp only [World.size_alloc]; omega))).trans ?_)))
  have Q3 := Lib.hid (show (((w.alloc (.cells #[.int .i64 N, .slice A n c] 24)).alloc (.cells #[.int .i64 e, .slice B m d] 35)).alloc (.cells #[.int .i64 f, .slice C p g] 35)).cell? ⟨w.heap.size + 1, 1, none⟩ = some (.slice B m d) from by (repeat (first | exact (cell_al_new _ _ _ _ _ _ (by first | rfl | (simp only [World.size_alloc]))).trans rfl | refine (cell_al_old _ _ _ (by first | omega | (simp only [World.size_alloc]; omega))).trans ?_)))
  have Q4 := Lib.hid (show (((w.alloc (.cells #[.int .i64 N, .slice A n c] 24)).alloc (.cells #[.int .i64 e, .slice B m d] 35)).alloc (.cells #[.int .i64 f, .slice C p g] 35)).cell? ⟨w.heap.size + 1 + 1, 0, none⟩ = some (.int .i64 f) from by (repeat (first | exact (cell_al_new _ _ _ _ _ _ (by first | rfl | (simp only [World.size_alloc]))).trans rfl | refine (cell_al_old _ _ _ (by first | omega | (simp only [World.size_alloc]; omega))).trans ?_)))
  have Q5 := Lib.hid (show (((w.alloc (.cells #[.int .i64 N, .slice A n c] 24)).alloc (.cells #[.int .i64 e, .slice B m d] 35)).alloc (.cells #[.int .i64 f, .slice C p g] 35)).cell? ⟨w.heap.size + 1 + 1, 1, none⟩ = some (.slice C p g) from by (repeat (first | exact (cell_al_new _ _ _ _ _ _ (by first | rfl | (simp only [World.size_alloc]))).trans rfl | refine (cell_al_old _ _ _ (by first | omega | (simp only [World.size_alloc]; omega))).trans ?_)))
  go_enter Tryd.func54, Tryd.ntmps54
  go_wp2_with fail
  generalize ((w.alloc (.cells #[.int .i64 N, .slice A n c] 24)).alloc (.cells #[.int .i64 e, .slice B m d] 35)).alloc (.cells #[.int .i64 f, .slice C p g] 35) = wb at *
  have q0 := cell_fut Q0.out
  have q1 := cell_fut Q1.out
  have q2 := cell_fut Q2.out
  have q3 := cell_fut Q3.out
  have q4 := cell_fut Q4.out
  have q5 := cell_fut Q5.out
  go_step3
  go_wp2_with fail
  refine wp_region_M o_derivation_Compare_1 (by kernel_rfl) (by kernel_rfl) (by intro c a d v w h; cases d <;> exact h) ?_; unfold o_derivation_Compare_1
  iterate 4 (refine wpF_h rfl rfl (fun K hK => ?_); go_simp; refine hK _ _ ?_; clear hK K)
  refine wpF_o rfl rfl (fun K hK => ?_)
  go_simp
  go_at_call 61
  refine (HVA1'.out _ (HF.out.trans (by show Fut _ _; repeat (first | (with_reducible assumption) | exact Fut.refl _ | exact Fut.fut _ _ _ | refine Fut.drew ?_ | refine Fut.alloc ?_ _ | refine Fut.trans ?_ (Fut.fut _ _ _) | refine Fut.trans ?_ (by assumption))))).mono ?_
  rintro r1 w1 ⟨rfl, hb⟩
  have f1 : Fut _ w1 := hb
  refine hK _ _ (.inr f1) ?_
  have HF1 := Lib.hid (show Fut wb w1 from (Fut.refl wb).drew.trans f1)
  clear hb f1 hK K
  refine wpF_o rfl rfl (fun K hK => ?_)
  go_simp
  go_at_call 61
  refine (HVA2'.out _ (HF.out.trans HF1.out)).mono ?_
  rintro r1 w2 ⟨rfl, hb⟩
  have f1 : Fut _ w2 := hb
  refine hK _ _ (.inr f1) ?_
  have HF2 := Lib.hid (HF1.out.trans f1)
  clear hb f1 hK K HF1
  refine wpF_o rfl rfl (fun K hK => ?_)
  go_simp
  go_at_call 60
  refine (HVS.out _).mono ?_
  rintro r1 w3 ⟨rfl, hb⟩
  have f1 : Fut _ w3 := hb
  refine hK _ _ (.inr f1) ?_
  have HF3 := Lib.hid (HF2.out.trans f1)
  clear hb f1 hK K HF2 q0 q1 q2 q3 q4 q5
  (refine wpF_h rfl rfl (fun K hK => ?_); go_simp; refine hK _ _ ?_; clear hK K)
  refine wpF_nil ?_
  have p2 := HF3.out.cell Q2.out
  have p3 := HF3.out.cell Q3.out
  have p4 := HF3.out.cell Q4.out
  by_cases hz : z = 0
  ·
   subst hz
   by_cases hef : e = f
   ·
    obtain ⟨hmp, hkb⟩ := HKB.out hef
    have HKB2 := Lib.hid hkb
    rw [HM.out, HP.out] at hmp
    subst hef
    subst hmp
    have HC2 := Lib.hid (show res = cmpL (EEs es) (k.map toDT) (l.map toDT) from by rw [HCD.out]; simp [(cmpI_zero (a := e) (b := e)).2 rfl])
    clear hkb HKB
    go_wp2_with fail
    go_step3
    go_wp2_with fail
    clear p2 p3 p4
    go_loopw [8, 35] (fun x i wr => ∃ j : Nat, j ≤ m ∧ i = .int .i64 j ∧ x = .int .i64 0 ∧ Hid (cmpL (EEs es) (k.map toDT) (l.map toDT) = cmpL (EEs es) ((k.map toDT).drop j) ((l.map toDT).drop j)) ∧ Fut wb wr) (fun _ i _ => m - (intOf i).toNat)
    case atStart => exact ⟨0, Nat.zero_le _, rfl, rfl, Lib.hid rfl, HF3.out⟩
    case round =>
     obtain ⟨j, hj, rfl, rfl, hall, hF⟩ := hrel
     have HFR := Lib.hid hF
     by_cases hlt : j < m
     ·
      obtain ⟨x, hx⟩ := get_lt HM.out hlt
      obtain ⟨y, hy⟩ := get_lt HP.out hlt
      obtain ⟨b1, o1, rfl, hd⟩ := HS.out j x hx
      obtain ⟨b2, o2, rfl, he⟩ := HS2.out j y hy
      have d0 := hF.cell (HF.out.cell (hd 0 _ (by decide) rfl))
      have d1 := hF.cell (HF.out.cell (hd 1 _ (by decide) rfl))
      have e0 := hF.cell (HF.out.cell (he 0 _ (by decide) rfl))
      have e1 := hF.cell (HF.out.cell (he 1 _ (by decide) rfl))
      simp only [Nat.add_zero] at d0 e0
      obtain ⟨t, ht1, ht2⟩ := HKB2.out j x y hx hy
      have HC := Lib.hid (fun w' (hf : Fut wr w') => HI.out x (List.mem_of_getElem? hx) y t w' ht1 ht2 (((HR.out.fut HF.out).fut hF).fut hf) ((((HK.out x (List.mem_of_getElem? hx)).fut HF.out).fut hF).fut hf) ((((HK2.out y (List.mem_of_getElem? hy)).fut HF.out).fut hF).fut hf))
      have HAT := Lib.hid (cmpL_at (EEs es) (k.map toDT) (l.map toDT) j (toDT x) (toDT y) (by rw [List.getElem?_map, hx]; rfl) (by rw [List.getElem?_map, hy]; rfl))
      generalize cmpD (EEs es) (toDT x) (toDT y) = zz at HC HAT
      have q0 := hF.cell Q0.out
      have q1 := hF.cell Q1.out
      have q5 := hF.cell Q5.out
      clear hx hy hd he hF ht1 ht2
      obtain ⟨xe, xA, xc, xk⟩ := x
      obtain ⟨ye, yA, yc, yk⟩ := y
      simp only [DI.e, DI.A, DI.c, DI.k] at d0 d1 e0 e1
      go_wp2_with fail
      have f1 := (Fut.refl wr).alloc (.cells #[.int .i64 xe, .slice xA xk.length xc] 35)
      have k0 : (wr.alloc (.cells #[.int .i64 xe, .slice xA xk.length xc] 35)).cell? ⟨wr.heap.size, 0, none⟩ = some (.int .i64 xe) := by (repeat (first | exact (cell_al_new _ _ _ _ _ _ (by first | rfl | (simp only [World.size_alloc]))).trans rfl | refine (cell_al_old _ _ _ (by first | omega | (simp only [World.size_alloc]; omega))).trans ?_))
      have k1 : (wr.alloc (.cells #[.int .i64 xe, .slice xA xk.length xc] 35)).cell? ⟨wr.heap.size, 1, none⟩ = some (.slice xA xk.length xc) := by (repeat (first | exact (cell_al_new _ _ _ _ _ _ (by first | rfl | (simp only [World.size_alloc]))).trans rfl | refine (cell_al_old _ _ _ (by first | omega | (simp only [World.size_alloc]; omega))).trans ?_))
      replace e0 := cell_fut (f1.cell e0)
      replace e1 := cell_fut (f1.cell e1)
      replace q0 := cell_fut (f1.cell q0)
      replace q1 := cell_fut (f1.cell q1)
      replace q5 := cell_fut (f1.cell q5)
      replace k0 := cell_fut k0
      replace k1 := cell_fut k1
      have HF4 := Lib.hid f1
      generalize wr.alloc (.cells #[.int .i64 xe, .slice xA xk.length xc] 35) = wi at *
      clear f1 d0 d1
      refine wp_region_M o_derivation_Compare_12 (by kernel_rfl) (by kernel_rfl) (by intro c a d v w h; cases d <;> exact h) ?_; unfold o_derivation_Compare_12
      iterate 7 (refine wpF_h rfl rfl (fun K hK => ?_); go_simp; refine hK _ _ ?_; clear hK K)
      (refine wpF_o rfl rfl (fun K hK => ?_); go_simp; first | (go_at_call 54; refine (HC.out _ (HF4.out.trans (by show Fut _ _; repeat (first | (with_reducible assumption) | exact Fut.refl _ | exact Fut.fut _ _ _ | refine Fut.drew ?_ | refine Fut.alloc ?_ _ | refine Fut.trans ?_ (Fut.fut _ _ _) | refine Fut.trans ?_ (by assumption))))).mono ?_; rintro e w1 ⟨rfl, hb1⟩; have hf1 : Fut _ w1 := hb1; refine hK _ _ (.inr hf1) ?_; clear hK K hb1))
      (refine wpF_h rfl rfl (fun K hK => ?_); go_simp; refine hK _ _ ?_; clear hK K)
      refine wpF_nil ?_
      by_cases hzz : zz = 0
      ·
       subst hzz
       have HA := Lib.hid (show cmpL (EEs es) (k.map toDT) (l.map toDT) = cmpL (EEs es) ((k.map toDT).drop (j + 1)) ((l.map toDT).drop (j + 1)) from by rw [hall.out, HAT.out]; simp)
       go_wp2_with fail
       exact ⟨⟨j + 1, by omega, by go_num, by first | rfl | trivial, HA, HFR.out.trans (HF4.out.trans (by show Fut _ _; repeat (first | (with_reducible assumption) | exact Fut.refl _ | exact Fut.fut _ _ _ | refine Fut.drew ?_ | refine Fut.alloc ?_ _ | refine Fut.trans ?_ (Fut.fut _ _ _) | refine Fut.trans ?_ (by assumption))))⟩, by simp [intOf]; omega⟩
      ·
       have HA := Lib.hid (show res = zz from by rw [HC2.out, hall.out, HAT.out]; simp [hzz])
       obtain ⟨x1, x2, x3⟩ := cmpF_no hzz
       clear hzz
       go_wp2_with fail
       (try rw [Exit.noGoto_ret])
       go_ret
       exact ⟨by rw [HA.out]; rfl, HF.out.trans (HFR.out.trans (HF4.out.trans (by show Fut _ _; repeat (first | (with_reducible assumption) | exact Fut.refl _ | exact Fut.fut _ _ _ | refine Fut.drew ?_ | refine Fut.alloc ?_ _ | refine Fut.trans ?_ (Fut.fut _ _ _) | refine Fut.trans ?_ (by assumption)))))⟩
     ·
      have HA := Lib.hid (show res = 0 from by
       rw [HC2.out, hall.out, List.drop_of_length_le (by rw [List.length_map, HM.out]; omega), List.drop_of_length_le (by rw [List.length_map, HP.out]; omega), cmpL])
      clear hF
      go_wp2_with fail
      (try rw [Exit.noGoto_ret])
      go_ret
      exact ⟨by rw [HA.out]; rfl, HF.out.trans HFR.out⟩
   ·
    obtain ⟨x1, x2, x3⟩ := cmpF_no hef
    rcases Int.lt_or_gt_of_ne hef with hlt | hlt
    ·
     have HA := Lib.hid (show res = -1 from by rw [HCD.out]; simp [cmpI, hlt])
     clear hef
     go_wp2_with fail
     (try rw [Exit.noGoto_ret])
     go_ret
     exact ⟨by rw [HA.out]; rfl, HF.out.trans HF3.out⟩
    ·
     have HA := Lib.hid (show res = 1 from by rw [HCD.out]; simp [cmpI, hlt, show ¬ e < f by omega])
     have hlt2 : (e < f) = False := eq_false (by omega)
     clear hef hlt
     go_wp2_with fail
     (try rw [Exit.noGoto_ret])
     go_ret
     exact ⟨by rw [HA.out]; rfl, HF.out.trans HF3.out⟩
  ·
   have HA := Lib.hid (show res = z from by rw [HCD.out]; simp [hz])
   obtain ⟨x1, x2, x3⟩ := cmpF_no hz
   clear hz p2 p3 p4
   go_wp2_with fail
   (try rw [Exit.noGoto_ret])
   go_ret
   exact ⟨by rw [HA.out]; rfl, HF.out.trans HF3.out⟩
end Go.Proofs.YtajbmdjlfniofaaDoor
/-
  Value of derivations, as the reference has it.
-/
namespace Go.Proofs.YtajbmdjlfniofaaDoor
open Go.RowKit Go.Deep PK
attribute [local go_sem] Oper.lit Oper.litS fut_fut fut_drew World.cell?_alloc_some
theorem rdval_res : Tryd.f17.results = #[.cell 4 37] := by kernel_rfl
set_option maxHeartbeats 6400000 in
theorem rdvalue_any (N : Int) (A : Option Addr) (n c : Nat) (es : List EI) (hl : es.length = n) (hn : n ≤ maxLen) (hvd : validB N es = true) (htl : ∀ e ∈ es, e.t.length ≤ 1000000) (d : DI) : ∀ (r : Int) w, PK.validD (EEs es) (toDT d) r = true → RdE w A es → RdD w d →
  Calls Tryd.prog 17 #[hv N A n c, dv d] w fun q w' => q = .returned (vv (val (EEs es) (toDT d))) ∧ Below w.heap.size w w' := by
 have HL := Lib.hid hl
 have HVD := Lib.hid hvd
 have HTL := Lib.hid htl
 have hn63 : n ≤ 9223372036854775807 := hn
 clear hl hvd hn htl
 induction d using DI.ind with
 | h e B d k ih =>
  intro r w hval hR hRD
  obtain ⟨hS, hkl, hK⟩ := hRD.parts
  rw [toDT_eq] at hval
  obtain ⟨q, x, rfl, hx, hxr, hxl, hkv⟩ := validD_parts HVD.out hval
  obtain ⟨b, o, rfl, hc⟩ := hR.1 q x hx
  have hq : q < n := by
   have := (List.getElem?_eq_some_iff.1 hx).1
   rw [HL.out] at this; exact this
  have HVN := Lib.hid (val_node (k := k.map toDT) hx)
  have HR := Lib.hid hR
  have HS := Lib.hid hS
  have HK := Lib.hid hK
  have HI := Lib.hid ih
  have HKV := Lib.hid hkv
  have hxt : x.t.length ≤ 1000000 := HTL.out x (List.mem_of_getElem? hx)
  obtain ⟨m, hm⟩ : ∃ m, k.length = m := ⟨_, rfl⟩
  have hm6 : m ≤ 1000000 := by omega
  have HM := Lib.hid hm
  have HXL := Lib.hid (hxl.trans hm)
  simp only [dv, DI.e, DI.A, DI.c, DI.k, hm]
  rw [toDT_eq]
  have hO := okE_parts ((validB_parts HVD.out).2.2 x (List.mem_of_getElem? hx))
  have HCC := Lib.hid (show 0 ≤ x.c ∧ x.c ≤ INF from ⟨hO.2.2.1, hO.2.2.2.1⟩)
  have c2 := hc 2 _ (by decide) rfl
  obtain ⟨xh, xt, xc, xl0, xl1, xA, xk⟩ := x
  simp only at c2 HCC HVN HXL HKV
  have C2 := Lib.hid c2
  clear hS hK hR ih hkl hm hRD hval hx hxr hxl hkv hc hxt hO c2
  go_enter Tryd.func17, Tryd.ntmps17
  go_wp2_with fail
  obtain ⟨wb, hwb⟩ : ∃ wb, wb = (((w.alloc (.cells #[.int .i64 N, .slice (some ⟨b, o, none⟩) n c] 24)).alloc (.cells #[.int .i64 q, .slice B m d] 35)).alloc (.cells #[.int .i64 0, .int .i64 0] 37)) := ⟨_, rfl⟩
  have HF := Lib.hid (show Fut w wb from by rw [hwb]; exact (((Fut.refl w).alloc _).alloc _).alloc _)
  have Q0 := Lib.hid (show wb.cell? ⟨w.heap.size, 0, none⟩ = some (.int .i64 N) from by rw [hwb]; (repeat (first | exact (cell_al_new _ _ _ _ _ _ (by first | rfl | (simp only [World.size_alloc]))).trans rfl | refine (cell_al_old _ _ _ (by first | omega | (simp only [World.size_alloc]; omega))).trans ?_)))
  have Q1 := Lib.hid (show wb.cell? ⟨w.heap.size, 1, none⟩ = some (.slice (some ⟨b, o, none⟩) n c) from by rw [hwb]; (repeat (first | exact (cell_al_new _ _ _ _ _ _ (by first | rfl | (simp only [World.size_alloc]))).trans rfl | refine (cell_al_old _ _ _ (by first | omega | (simp only [World.size_alloc]; omega))).trans ?_)))
  have Q2 := Lib.hid (show wb.cell? ⟨w.heap.size + 1, 0, none⟩ = some (.int .i64 q) from by rw [hwb]; (repeat (first | exact (cell_al_new _ _ _ _ _ _ (by first | rfl | (simp only [World.size_alloc]))).trans rfl | refine (cell_al_old _ _ _ (by first | omega | (simp only [World.size_alloc]; omega))).trans ?_)))
  have Q3 := Lib.hid (show wb.cell? ⟨w.heap.size + 1, 1, none⟩ = some (.slice B m d) from by rw [hwb]; (repeat (first | exact (cell_al_new _ _ _ _ _ _ (by first | rfl | (simp only [World.size_alloc]))).trans rfl | refine (cell_al_old _ _ _ (by first | omega | (simp only [World.size_alloc]; omega))).trans ?_)))
  have HZ := Lib.hid (show Blk wb (w.heap.size + 1 + 1) 37 #[.int .i64 0, .int .i64 0] from by rw [hwb]; exact heap_new' _ _ _ (by simp only [World.size_alloc]))
  rw [← hwb]
  clear hwb
  go_loopw [5, 6] (fun x i wr => ∃ j : Nat, j ≤ m ∧ i = .int .i64 j ∧ Hid (wr.ownsRow wb.heap.size 37 2 x j (((k.take j).map (fun d => val (EEs es) (toDT d))).flatMap encV)) ∧ Fut wb wr) (fun _ i _ => m - (intOf i).toNat)
  case atStart => exact ⟨0, Nat.zero_le _, rfl, Lib.hid (World.ownsRow_nil _ _ _ _), Fut.refl _⟩
  case round =>
   obtain ⟨j, hj, rfl, HO, hF⟩ := hrel
   have HF2 := Lib.hid hF
   obtain ⟨XA, Xc, rfl, _⟩ := own_form HO.out
   have q0 := hF.cell Q0.out
   have q1 := hF.cell Q1.out
   have q2 := hF.cell Q2.out
   have q3 := hF.cell Q3.out
   by_cases hlt : j < m
   ·
    obtain ⟨y, hy⟩ := get_lt HM.out hlt
    obtain ⟨t, hty⟩ := get_lt HXL.out hlt
    obtain ⟨b1, o1, rfl, hd⟩ := HS.out j y hy
    have d0 := cell_fut (hF.cell (HF.out.cell (hd 0 _ (by decide) rfl)))
    have d1 := cell_fut (hF.cell (HF.out.cell (hd 1 _ (by decide) rfl)))
    simp only [Nat.add_zero] at d0
    have q3' := cell_fut q3
    replace q0 := cell_fut q0
    replace q1 := cell_fut q1
    have HY := Lib.hid hy
    have HC := Lib.hid (fun w' (hf : Fut wr w') => HI.out y (List.mem_of_getElem? hy) t w' (HKV.out j y t hy hty) (((HR.out.fut HF.out).fut hF).fut hf) ((((HK.out y (List.mem_of_getElem? hy)).fut HF.out).fut hF).fut hf))
    obtain ⟨z, hz⟩ : ∃ z, val (EEs es) (toDT y) = z := ⟨_, rfl⟩
    have HZV := Lib.hid hz
    rw [hz] at HC
    clear hy hty hd hF hz q2
    obtain ⟨ye, yA, yc, yk⟩ := y
    obtain ⟨zc, zs⟩ := z
    simp only [DI.e, DI.A, DI.c, DI.k] at d0 d1
    go_wp2_with fail
    refine wp_region_M o_emendateref30_Value_5 (by kernel_rfl) (by kernel_rfl) (by intro c a d v w h; cases d <;> exact h) ?_; unfold o_emendateref30_Value_5
    iterate 7 (refine wpF_h rfl rfl (fun K hK => ?_); go_simp; refine hK _ _ ?_; clear hK K)
    refine wpF_o rfl rfl (fun K hK => ?_)
    go_simp
    go_at_call 17
    refine (HC.out _ (Fut.refl wr).drew).mono ?_
    rintro r w1 ⟨rfl, hb⟩
    have f2 : Fut _ w1 := hb
    refine hK _ _ (.inr f2) ?_
    have HO1 := Lib.hid (World.ownsRow.alloc (own_fut (World.ownsRow.drew HO.out) f2) (.cells #[.int .i64 zc, .int .i64 zs] 37))
    have HF4 := Lib.hid (show Fut wb (w1.alloc (.cells #[.int .i64 zc, .int .i64 zs] 37)) from (HF2.out.trans ((Fut.refl wr).drew.trans f2)).alloc _)
    clear hb f2 HC hK K
    refine wpF_o rfl rfl (fun K hK => ?_)
    go_simp
    refine hK _ _ (.inr ((Fut.refl _).alloc _)) ?_
    clear hK K
    refine wpF_ol rfl (by kernel_rfl) rfl (fun K hK => ?_)
    refine wp_push 56 37 2 16 _ Tryd.underlying56 info_vv rfl (by decide) (by decide) (.tmp 14) (.tmp 22) rfl wb.heap.size (.slice XA j Xc) j _ rfl HO1.out w1.heap.size [.int .i64 zc, .int .i64 zs] rfl (heap_new' _ _ _ rfl) rfl (by simp [Value.oneCell']) (by omega) HF4.out.size ?_
    intro g cap w' h1 h2 h3
    refine hK _ _ ?_
    clear hK K
    (refine wpF_h rfl rfl (fun K hK => ?_); go_simp; refine hK _ _ ?_; clear hK K)
    refine wpF_nil ?_
    go_wp2_with fail
    refine ⟨⟨j + 1, by omega, by go_num, Lib.hid ?_, Below.grown HF4.out h2 HF4.out.size (fun q hq => (World.ownsRow.lt HO1.out q hq).1)⟩, by simp [intOf]; omega⟩
    rw [List.take_add_one, HY.out, List.map_append, List.flatMap_append]
    simp only [Option.toList_some, List.map_cons, List.map_nil, HZV.out]
    exact h1
   ·
    have hjn : j = m := by omega
    obtain rfl := hjn
    have hl9 : k.take j = k := List.take_of_length_le (by rw [HM.out]; omega)
    have h9 := HO.out
    rw [hl9] at h9
    have h8 := RdS.of_own (enc := encV) encV_len (by decide) h9
    have c2 := hF.cell (HF.out.cell C2.out)
    have HCO := Lib.hid (rcombine_any xc XA j Xc (k.map (fun d => val (EEs es) (toDT d))) wr (by rw [List.length_map, HM.out]) (by unfold maxLen; omega) HCC.out (fun v hv => by
     obtain ⟨d, _, rfl⟩ := List.mem_map.1 hv
     exact val_ok (EEs_ok HVD.out) _) h8)
    generalize hcv : comb xc (k.map (fun d => val (EEs es) (toDT d))) = z at HCO
    have HCV := Lib.hid hcv
    obtain ⟨zc, zs⟩ := z
    clear hl9 h9 h8 hF hcv
    go_wp2_with fail
    refine HCO.out.mono ?_
    rintro r w1 ⟨rfl, hb⟩
    have f1 : Fut wr w1 := hb
    have hz1 := (HZ.out.fut HF2.out).fut f1
    have g4 := hz1.cell (i := 0) rfl
    have g5 := hz1.cell (i := 1) rfl
    have g2 := hz1.fz 0
    have g3 := hz1.fz 1
    have HZ3 := Lib.hid hz1
    have HF3 := Lib.hid (HF.out.trans (HF2.out.trans f1))
    clear hb f1 hz1
    go_wp2_with fail
    refine bodyPost_ret (results_cell_row rdval_res _ _ (w.heap.size + 1 + 1) _ _ _ _ rfl ((HZ3.out.set 0 (.int .i64 zc)).set 1 (.int .i64 zs)) Tryd.underlying37 rfl (by kernel_rfl)) rfl ?_
    exact ⟨by rw [HVN.out, List.map_map, show (val (EEs es) ∘ toDT) = (fun d => val (EEs es) (toDT d)) from rfl, HCV.out]; rfl, (HF3.out.setCell (p := ⟨w.heap.size + 1 + 1, 0, none⟩) (by simp only; omega) _).setCell (p := ⟨w.heap.size + 1 + 1, 1, none⟩) (by simp only; omega) _⟩
end Go.Proofs.YtajbmdjlfniofaaDoor
/-
  Compare of derivations, as the reference has it.
-/
namespace Go.Proofs.YtajbmdjlfniofaaDoor
open Go.RowKit Go.Deep PK
attribute [local go_sem] Oper.lit Oper.litS fut_fut fut_drew World.cell?_alloc_some
attribute [local go_sem] World.frozen?_setCell
set_option maxHeartbeats 12800000 in
set_option maxRecDepth 4000 in
theorem rdcmp_any (N : Int) (A : Option Addr) (n c : Nat) (es : List EI) (hl : es.length = n) (hn : n ≤ maxLen) (hvd : validB N es = true) (htl : ∀ e ∈ es, e.t.length ≤ 1000000) (a : DI) : ∀ (b : DI) (r : Int) w, PK.validD (EEs es) (toDT a) r = true → PK.validD (EEs es) (toDT b) r = true → RdE w A es → RdD w a → RdD w b →
  Calls Tryd.prog 18 #[hv N A n c, dv a, dv b] w fun q w' => q = .returned (.int .i64 (cmpD (EEs es) (toDT a) (toDT b))) ∧ Below w.heap.size w w' := by
 have HVA := Lib.hid (fun (d : DI) r w => rdvalue_any N A n c es hl hn hvd htl d r w)
 have HVD := Lib.hid hvd
 clear hl hvd hn htl
 induction a using DI.ind with
 | h e B d k ih =>
  rintro ⟨f, C, g, l⟩ r w hv1 hv2 hR hRD hRD2
  have HVA1 := Lib.hid (fun w' (hf : Fut w w') => HVA.out (.node e B d k) r w' hv1 (hR.fut hf) (hRD.fut hf))
  have HVA2 := Lib.hid (fun w' (hf : Fut w w') => HVA.out (.node f C g l) r w' hv2 (hR.fut hf) (hRD2.fut hf))
  obtain ⟨hS, hkl, hK⟩ := hRD.parts
  obtain ⟨hS2, hll, hK2⟩ := hRD2.parts
  rw [toDT_eq] at hv1 hv2
  have HKB := Lib.hid (kids_both HVD.out hv1 hv2)
  have HR := Lib.hid hR
  have HS := Lib.hid hS
  have HK := Lib.hid hK
  have HS2 := Lib.hid hS2
  have HK2 := Lib.hid hK2
  have HI := Lib.hid ih
  obtain ⟨m, hm⟩ : ∃ m, k.length = m := ⟨_, rfl⟩
  obtain ⟨p, hp⟩ : ∃ p, l.length = p := ⟨_, rfl⟩
  have hm63 : m ≤ 9223372036854775807 := hm ▸ hkl
  have hp63 : p ≤ 9223372036854775807 := hp ▸ hll
  have HM := Lib.hid hm
  have HP := Lib.hid hp
  have HCD := Lib.hid (show cmpD (EEs es) (toDT (.node e B d k)) (toDT (.node f C g l)) = if cmpV (val (EEs es) (toDT (.node e B d k))) (val (EEs es) (toDT (.node f C g l))) ≠ 0 then cmpV (val (EEs es) (toDT (.node e B d k))) (val (EEs es) (toDT (.node f C g l))) else if cmpI e f ≠ 0 then cmpI e f else cmpL (EEs es) (k.map toDT) (l.map toDT) from by rw [toDT_eq, toDT_eq, cmpD])
  have HZ := Lib.hid (show cmpV (val (EEs es) (toDT (.node e B d k))) (val (EEs es) (toDT (.node f C g l))) = if ltV (val (EEs es) (toDT (.node e B d k))) (val (EEs es) (toDT (.node f C g l))) = true then -1 else if ltV (val (EEs es) (toDT (.node f C g l))) (val (EEs es) (toDT (.node e B d k))) = true then 1 else 0 from rfl)
  have HLT := Lib.hid (fun w' => rless_any (val (EEs es) (toDT (.node e B d k))) (val (EEs es) (toDT (.node f C g l))) w')
  have HGT := Lib.hid (fun w' => rless_any (val (EEs es) (toDT (.node f C g l))) (val (EEs es) (toDT (.node e B d k))) w')
  generalize ltV (val (EEs es) (toDT (.node e B d k))) (val (EEs es) (toDT (.node f C g l))) = lt at HZ HLT
  generalize ltV (val (EEs es) (toDT (.node f C g l))) (val (EEs es) (toDT (.node e B d k))) = gt at HZ HGT
  generalize cmpD (EEs es) (toDT (.node e B d k)) (toDT (.node f C g l)) = res at HCD ⊢
  generalize cmpV (val (EEs es) (toDT (.node e B d k))) (val (EEs es) (toDT (.node f C g l))) = z at HCD HZ
  generalize val (EEs es) (toDT (.node e B d k)) = v1 at HVA1 HLT HGT
  generalize val (EEs es) (toDT (.node f C g l)) = v2 at HVA2 HLT HGT
  obtain ⟨v1c, v1s⟩ := v1
  obtain ⟨v2c, v2s⟩ := v2
  have HVA1' := Lib.hid (show ∀ w', Fut w w' → Calls Tryd.prog 17 #[hv N A n c, .agg #[.int .i64 e, .slice B m d]] w' fun q w2 => q = .returned (vv ⟨v1c, v1s⟩) ∧ Below w'.heap.size w' w2 from fun w' hf => by rw [← HM.out]; exact HVA1.out w' hf)
  have HVA2' := Lib.hid (show ∀ w', Fut w w' → Calls Tryd.prog 17 #[hv N A n c, .agg #[.int .i64 f, .slice C p g]] w' fun q w2 => q = .returned (vv ⟨v2c, v2s⟩) ∧ Below w'.heap.size w' w2 from fun w' hf => by rw [← HP.out]; exact HVA2.out w' hf)
  simp only [dv, DI.e, DI.A, DI.c, DI.k, hm, hp]
  clear hS hK hS2 hK2 hR ih hkl hll hm hp hRD hRD2 hv1 hv2 HVA1 HVA2
  have HF := Lib.hid (show Fut w (((w.alloc (.cells #[.int .i64 N, .slice A n c] 24)).alloc (.cells #[.int .i64 e, .slice B m d] 35)).alloc (.cells #[.int .i64 f, .slice C p g] 35)) from (((Fut.refl w).alloc _).alloc _).alloc _)
  have Q0 := Lib.hid (show (((w.alloc (.cells #[.int .i64 N, .slice A n c] 24)).alloc (.cells #[.int .i64 e, .slice B m d] 35)).alloc (.cells #[.int .i64 f, .slice C p g] 35)).cell? ⟨w.heap.size, 0, none⟩ = some (.int .i64 N) from by (repeat (first | exact (cell_al_new _ _ _ _ _ _ (by first | rfl | (simp only [World.size_alloc]))).trans rfl | refine (cell_al_old _ _ _ (by first | omega | (simp only [World.size_alloc]; omega))).trans ?_)))
  have Q1 := Lib.hid (show (((w.alloc (.cells #[.int .i64 N, .slice A n c] 24)).alloc (.cells #[.int .i64 e, .slice B m d] 35)).alloc (.cells #[.int .i64 f, .slice C p g] 35)).cell? ⟨w.heap.size, 1, none⟩ = some (.slice A n c) from by (repeat (first | exact (cell_al_new _ _ _ _ _ _ (by first | rfl | (simp only [World.size_alloc]))).trans rfl | refine (cell_al_old _ _ _ (by first | omega | (simp only [World.size_alloc]; omega))).trans ?_)))
  have Q2 := Lib.hid (show (((w.alloc (.cells #[.int .i64 N, .slice A n c] 24)).alloc (.cells #[.int .i64 e, .slice B m d] 35)).alloc (.cells #[.int .i64 f, .slice C p g] 35)).cell? ⟨w.heap.size + 1, 0, none⟩ = some (.int .i64 e) from by (repeat (first | exact (cell_al_new _ _ _ _ _ _ (by first | rfl | (simp only [World.size_alloc]))).trans rfl | refine (cell_al_old _ _ _ (by first | omega | (simp only [World.size_alloc]; omega))).trans ?_)))
  have Q3 := Lib.hid (show (((w.alloc (.cells #[.int .i64 N, .slice A n c] 24)).alloc (.cells #[.int .i64 e, .slice B m d] 35)).alloc (.cells #[.int .i64 f, .slice C p g] 35)).cell? ⟨w.heap.size + 1, 1, none⟩ = some (.slice B m d) from by (repeat (first | exact (cell_al_new _ _ _ _ _ _ (by first | rfl | (simp only [World.size_alloc]))).trans rfl | refine (cell_al_old _ _ _ (by first | omega | (simp only [World.size_alloc]; omega))).trans ?_)))
  have Q4 := Lib.hid (show (((w.alloc (.cells #[.int .i64 N, .slice A n c] 24)).alloc (.cells #[.int .i64 e, .slice B m d] 35)).alloc (.cells #[.int .i64 f, .slice C p g] 35)).cell? ⟨w.heap.size + 1 + 1, 0, none⟩ = some (.int .i64 f) from by (repeat (first | exact (cell_al_new _ _ _ _ _ _ (by first | rfl | (simp only [World.size_alloc]))).trans rfl | refine (cell_al_old _ _ _ (by first | omega | (simp only [World.size_alloc]; omega))).trans ?_)))
  have Q5 := Lib.hid (show (((w.alloc (.cells #[.int .i64 N, .slice A n c] 24)).alloc (.cells #[.int .i64 e, .slice B m d] 35)).alloc (.cells #[.int .i64 f, .slice C p g] 35)).cell? ⟨w.heap.size + 1 + 1, 1, none⟩ = some (.slice C p g) from by (repeat (first | exact (cell_al_new _ _ _ _ _ _ (by first | rfl | (simp only [World.size_alloc]))).trans rfl | refine (cell_al_old _ _ _ (by first | omega | (simp only [World.size_alloc]; omega))).trans ?_)))
  go_enter Tryd.func18, Tryd.ntmps18
  go_wp2_with fail
  generalize ((w.alloc (.cells #[.int .i64 N, .slice A n c] 24)).alloc (.cells #[.int .i64 e, .slice B m d] 35)).alloc (.cells #[.int .i64 f, .slice C p g] 35) = wb at *
  have q0 := cell_fut Q0.out
  have q1 := cell_fut Q1.out
  have q2 := cell_fut Q2.out
  have q3 := cell_fut Q3.out
  have q4 := cell_fut Q4.out
  have q5 := cell_fut Q5.out
  rename_i Q' K hcont
  have cont : ∀ (xb yb : Nat) (w1 : World), Hid (Fut wb w1 ∧ Blk w1 xb 37 #[.int .i64 v1c, .int .i64 v1s] ∧ Blk w1 yb 37 #[.int .i64 v2c, .int .i64 v2s]) → K { tmps := #[hv N A n c, .agg #[.int .i64 e, .slice B m d], .agg #[.int .i64 f, .slice C p g], .pointer (some ⟨w.heap.size, 0, none⟩), .pointer (some ⟨w.heap.size + 1, 0, none⟩), .pointer (some ⟨w.heap.size + 1 + 1, 0, none⟩), .int .i64 0, .pointer (some ⟨xb, 0, none⟩), .pointer (some ⟨yb, 0, none⟩), undef, undef, hv N A n c, .agg #[.int .i64 e, .slice B m d], vv ⟨v1c, v1s⟩, hv N A n c, .agg #[.int .i64 f, .slice C p g], vv ⟨v2c, v2s⟩, undef, undef, undef, undef, undef, undef, undef, undef, undef, undef, undef, undef, undef, undef, undef, undef, undef, undef, undef, undef, undef, undef, undef, undef, undef, undef, undef, undef, undef, undef, undef, undef, undef, undef, undef, undef, undef, undef], defers := [] } w1 := by
   as_aux_lemma =>
    intro xb yb w1 HW1
    refine hcont _ _ ?_
    clear hcont
    obtain ⟨hf3, hbx, hby⟩ := HW1.out
    have HF3 := Lib.hid hf3
    have HBX := Lib.hid hbx
    have HBY := Lib.hid hby
    clear hf3 hbx hby HW1
    have x0 := HBX.out.cell (i := 0) rfl
    have x1 := HBX.out.cell (i := 1) rfl
    have y0 := HBY.out.cell (i := 0) rfl
    have y1 := HBY.out.cell (i := 1) rfl
    go_wp2_with fail
    refine (HLT.out _).mono ?_
    rintro r1 w2 ⟨rfl, hb⟩
    have f1 : Fut w1 w2 := hb
    have HF4 := Lib.hid (HF3.out.trans f1)
    replace x0 := (HBX.out.fut f1).cell (i := 0) rfl
    replace x1 := (HBX.out.fut f1).cell (i := 1) rfl
    replace y0 := (HBY.out.fut f1).cell (i := 0) rfl
    replace y1 := (HBY.out.fut f1).cell (i := 1) rfl
    clear hb f1
    cases lt with
    | true =>
     have HA := Lib.hid (show res = -1 from by rw [HCD.out, HZ.out]; simp)
     go_wp2_with fail
     go_ret
     exact ⟨by rw [HA.out]; rfl, HF.out.trans HF4.out⟩
    | false =>
     go_wp2_with fail
     refine (HGT.out _).mono ?_
     rintro r1 w3 ⟨rfl, hb⟩
     have f1 : Fut w2 w3 := hb
     have HF5 := Lib.hid (HF4.out.trans f1)
     clear hb f1 x0 x1 y0 y1
     cases gt with
     | true =>
      have HA := Lib.hid (show res = 1 from by rw [HCD.out, HZ.out]; simp)
      go_wp2_with fail
      go_ret
      exact ⟨by rw [HA.out]; rfl, HF.out.trans HF5.out⟩
     | false =>
      have hz0 : z = 0 := by rw [HZ.out]; simp
      subst hz0
      have p2 := HF5.out.cell Q2.out
      have p3 := HF5.out.cell Q3.out
      have p4 := HF5.out.cell Q4.out
      by_cases hef : e = f
      ·
       obtain ⟨hmp, hkb⟩ := HKB.out hef
       have HKB2 := Lib.hid hkb
       rw [HM.out, HP.out] at hmp
       subst hef
       subst hmp
       have HC2 := Lib.hid (show res = cmpL (EEs es) (k.map toDT) (l.map toDT) from by rw [HCD.out]; simp [(cmpI_zero (a := e) (b := e)).2 rfl])
       clear hkb HKB
       go_wp2_with fail
       clear p2 p3 p4
       go_loopw [9] (fun i wr => ∃ j : Nat, j ≤ m ∧ i = .int .i64 j ∧ Hid (cmpL (EEs es) (k.map toDT) (l.map toDT) = cmpL (EEs es) ((k.map toDT).drop j) ((l.map toDT).drop j)) ∧ Fut wb wr) (fun i _ => m - (intOf i).toNat)
       case atStart => exact ⟨0, Nat.zero_le _, rfl, Lib.hid rfl, HF5.out⟩
       case round =>
        obtain ⟨j, hj, rfl, hall, hF⟩ := hrel
        have HFR := Lib.hid hF
        have q3 := hF.cell Q3.out
        by_cases hlt : j < m
        ·
         obtain ⟨x, hx⟩ := get_lt HM.out hlt
         obtain ⟨y, hy⟩ := get_lt HP.out hlt
         obtain ⟨b1, o1, rfl, hd⟩ := HS.out j x hx
         obtain ⟨b2, o2, rfl, he⟩ := HS2.out j y hy
         have d0 := cell_fut (hF.cell (HF.out.cell (hd 0 _ (by decide) rfl)))
         have d1 := cell_fut (hF.cell (HF.out.cell (hd 1 _ (by decide) rfl)))
         have e0 := cell_fut (hF.cell (HF.out.cell (he 0 _ (by decide) rfl)))
         have e1 := cell_fut (hF.cell (HF.out.cell (he 1 _ (by decide) rfl)))
         simp only [Nat.add_zero] at d0 e0
         obtain ⟨t, ht1, ht2⟩ := HKB2.out j x y hx hy
         have HC := Lib.hid (fun w' (hf : Fut wr w') => HI.out x (List.mem_of_getElem? hx) y t w' ht1 ht2 (((HR.out.fut HF.out).fut hF).fut hf) ((((HK.out x (List.mem_of_getElem? hx)).fut HF.out).fut hF).fut hf) ((((HK2.out y (List.mem_of_getElem? hy)).fut HF.out).fut hF).fut hf))
         have HAT := Lib.hid (cmpL_at (EEs es) (k.map toDT) (l.map toDT) j (toDT x) (toDT y) (by rw [List.getElem?_map, hx]; rfl) (by rw [List.getElem?_map, hy]; rfl))
         generalize cmpD (EEs es) (toDT x) (toDT y) = zz at HC HAT
         have q0 := cell_fut (hF.cell Q0.out)
         have q1 := cell_fut (hF.cell Q1.out)
         have q3' := cell_fut q3
         have q5 := cell_fut (hF.cell Q5.out)
         clear hx hy hd he hF ht1 ht2
         obtain ⟨xe, xA, xc, xk⟩ := x
         obtain ⟨ye, yA, yc, yk⟩ := y
         simp only [DI.e, DI.A, DI.c, DI.k] at d0 d1 e0 e1
         go_wp2_with fail
         refine wp_region_M o_emendateref30_Compare_13 (by kernel_rfl) (by kernel_rfl) (by intro c a d v w h; cases d <;> exact h) ?_; unfold o_emendateref30_Compare_13
         iterate 11 (refine wpF_h rfl rfl (fun K hK => ?_); go_simp; refine hK _ _ ?_; clear hK K)
         (refine wpF_o rfl rfl (fun K hK => ?_); go_simp; first | (go_at_call 18; refine (HC.out _ (by show Fut _ _; repeat (first | (with_reducible assumption) | exact Fut.refl _ | exact Fut.fut _ _ _ | refine Fut.drew ?_ | refine Fut.alloc ?_ _ | refine Fut.trans ?_ (Fut.fut _ _ _) | refine Fut.trans ?_ (by assumption)))).mono ?_; rintro e w1 ⟨rfl, hb1⟩; have hf1 : Fut _ w1 := hb1; refine hK _ _ (.inr hf1) ?_; clear hK K hb1))
         (refine wpF_h rfl rfl (fun K hK => ?_); go_simp; refine hK _ _ ?_; clear hK K)
         refine wpF_nil ?_
         by_cases hzz : zz = 0
         ·
          subst hzz
          have HA := Lib.hid (show cmpL (EEs es) (k.map toDT) (l.map toDT) = cmpL (EEs es) ((k.map toDT).drop (j + 1)) ((l.map toDT).drop (j + 1)) from by rw [hall.out, HAT.out]; simp)
          go_wp2_with fail
          exact ⟨⟨j + 1, by omega, by go_num, HA, HFR.out.trans (by show Fut _ _; repeat (first | (with_reducible assumption) | exact Fut.refl _ | exact Fut.fut _ _ _ | refine Fut.drew ?_ | refine Fut.alloc ?_ _ | refine Fut.trans ?_ (Fut.fut _ _ _) | refine Fut.trans ?_ (by assumption)))⟩, by simp [intOf]; omega⟩
         ·
          have HA := Lib.hid (show res = zz from by rw [HC2.out, hall.out, HAT.out]; simp [hzz])
          obtain ⟨x1, x2, x3⟩ := cmpF_no hzz
          clear hzz
          go_wp2_with fail
          go_ret
          exact ⟨by rw [HA.out]; rfl, HF.out.trans (HFR.out.trans (by show Fut _ _; repeat (first | (with_reducible assumption) | exact Fut.refl _ | exact Fut.fut _ _ _ | refine Fut.drew ?_ | refine Fut.alloc ?_ _ | refine Fut.trans ?_ (Fut.fut _ _ _) | refine Fut.trans ?_ (by assumption))))⟩
        ·
         have HA := Lib.hid (show res = 0 from by
          rw [HC2.out, hall.out, List.drop_of_length_le (by rw [List.length_map, HM.out]; omega), List.drop_of_length_le (by rw [List.length_map, HP.out]; omega), cmpL])
         clear hF
         go_wp2_with fail
         go_ret
         exact ⟨by rw [HA.out]; rfl, HF.out.trans HFR.out⟩
      ·
       rcases Int.lt_or_gt_of_ne hef with hlt | hlt
       ·
        have HA := Lib.hid (show res = -1 from by rw [HCD.out]; simp [cmpI, hlt])
        have hlt1 : (e < f) = True := eq_true hlt
        clear hef hlt
        go_wp2_with fail
        go_ret
        exact ⟨by rw [HA.out]; rfl, HF.out.trans HF5.out⟩
       ·
        have HA := Lib.hid (show res = 1 from by rw [HCD.out]; simp [cmpI, hlt, show ¬ e < f by omega])
        have hlt1 : (e < f) = False := eq_false (by omega)
        have hlt2 : (f < e) = True := eq_true hlt
        clear hef hlt
        go_wp2_with fail
        go_ret
        exact ⟨by rw [HA.out]; rfl, HF.out.trans HF5.out⟩
  clear hcont
  have q0 := cell_fut Q0.out
  have q1 := cell_fut Q1.out
  have q2 := cell_fut Q2.out
  have q3 := cell_fut Q3.out
  have q4 := cell_fut Q4.out
  have q5 := cell_fut Q5.out
  refine wp_region_M o_emendateref30_Compare_1 (by kernel_rfl) (by kernel_rfl) (by intro c a d v w h; cases d <;> exact h) ?_; unfold o_emendateref30_Compare_1
  iterate 4 (refine wpF_h rfl rfl (fun K hK => ?_); go_simp; refine hK _ _ ?_; clear hK K)
  clear q0 q1 q2 q3 q4 q5
  have FW := Lib.hid (show Fut wb wb.drew from (Fut.refl wb).drew)
  generalize wb.drew = wc at FW ⊢
  show wpG Fut _ _ _ _ _ _ _
  refine wpG_many (List.forall_mem_cons.2 ⟨⟨_, _, rfl, if_pos rfl, fun K hK => ?_⟩, List.forall_mem_cons.2 ⟨⟨_, _, rfl, (if_neg (by decide)).trans (if_pos rfl), fun K hK => ?_⟩, List.forall_mem_cons.2 ⟨⟨_, _, rfl, (if_neg (by decide)).trans ((if_neg (by decide)).trans (if_pos rfl)), fun K hK => ?_⟩, fun _ h9 => absurd h9 (by simp)⟩⟩⟩)
  ·
   go_simp
   go_at_call 17
   refine (HVA1'.out _ (HF.out.trans FW.out)).mono ?_
   rintro r1 w1q ⟨rfl, hb⟩
   have f1 : Fut wc w1q := hb
   refine hK _ _ (.inr f1) ?_
   have F1 := Lib.hid (FW.out.trans f1)
   clear hb f1 hK K
   show wpG Fut _ _ _ _ _ _ _
   refine wpG_many (List.forall_mem_cons.2 ⟨⟨_, _, rfl, if_pos rfl, fun K hK => ?_⟩, List.forall_mem_cons.2 ⟨⟨_, _, rfl, (if_neg (by decide)).trans (if_pos rfl), fun K hK => ?_⟩, List.forall_mem_cons.2 ⟨⟨_, _, rfl, (if_neg (by decide)).trans ((if_neg (by decide)).trans (if_pos rfl)), fun K hK => ?_⟩, fun _ h9 => absurd h9 (by simp)⟩⟩⟩)
   ·
    go_simp
    go_at_call 17
    refine (HVA2'.out _ (HF.out.trans F1.out)).mono ?_
    rintro r1 w2q ⟨rfl, hb⟩
    have f1 : Fut w1q w2q := hb
    refine hK _ _ (.inr f1) ?_
    have F2 := Lib.hid (F1.out.trans f1)
    clear hb f1 hK K
    refine wpF_two rfl rfl (fun K hK => ?_) (fun K hK => ?_)
    ·
     go_simp
     refine hK _ _ (.inr ((Fut.refl _).alloc _)) ?_
     clear hK K
     obtain ⟨w3q, hwq⟩ : ∃ q, q = w2q.alloc (.cells #[.int .i64 0, .int .i64 0] 37) := ⟨_, rfl⟩
     obtain ⟨xb, hvb⟩ : ∃ q, q = w2q.heap.size := ⟨_, rfl⟩
     rw [← hwq, ← hvb]
     have Lx := Lib.hid (show wb.heap.size ≤ xb from by rw [hvb]; exact F2.out.size)
     have F3 := Lib.hid (show Fut wb w3q from by rw [hwq]; exact F2.out.alloc _)
     have Bx3 := Lib.hid (show Blk w3q xb 37 #[.int .i64 0, .int .i64 0] from by rw [hwq, hvb]; exact Blk.new _ _ _)
     clear hwq hvb
     refine wpF_o rfl rfl (fun K hK => ?_)
     go_simp
     refine hK _ _ (.inr ((Fut.refl _).alloc _)) ?_
     clear hK K
     obtain ⟨w4q, hwq⟩ : ∃ q, q = w3q.alloc (.cells #[.int .i64 0, .int .i64 0] 37) := ⟨_, rfl⟩
     obtain ⟨yb, hvb⟩ : ∃ q, q = w3q.heap.size := ⟨_, rfl⟩
     rw [← hwq, ← hvb]
     have Ly := Lib.hid (show wb.heap.size ≤ yb from by rw [hvb]; exact F3.out.size)
     have F4 := Lib.hid (show Fut wb w4q from by rw [hwq]; exact F3.out.alloc _)
     have By4 := Lib.hid (show Blk w4q yb 37 #[.int .i64 0, .int .i64 0] from by rw [hwq, hvb]; exact Blk.new _ _ _)
     have NE := Lib.hid (show xb < yb from by rw [hvb]; exact Bx3.out.lt)
     have Bx4 := Lib.hid (show Blk w4q xb 37 #[.int .i64 0, .int .i64 0] from by rw [hwq]; exact Bx3.out.alloc _)
     clear hwq hvb
     have x2 := Bx4.out.cell (i := 0) rfl
     have x3 := Bx4.out.cell (i := 1) rfl
     have x0 := Bx4.out.fz 0
     have x1 := Bx4.out.fz 1
     refine wpF_ol rfl (by kernel_rfl) rfl (fun K hK => ?_)
     go_simp
     refine hK _ _ ?_
     clear hK K x0 x1 x2 x3
     have lx := Lx.out
     have ly := Ly.out
     have ne : xb ≠ yb := by have := NE.out; omega
     have bx : Blk ((w4q.setCell ⟨xb, 0, none⟩ (.int .i64 v1c)).setCell ⟨xb, 1, none⟩ (.int .i64 v1s)) xb 37 #[.int .i64 v1c, .int .i64 v1s] := (Bx4.out.set 0 (.int .i64 v1c)).set 1 (.int .i64 v1s)
     have bY : Blk ((w4q.setCell ⟨xb, 0, none⟩ (.int .i64 v1c)).setCell ⟨xb, 1, none⟩ (.int .i64 v1s)) yb 37 #[.int .i64 0, .int .i64 0] := (By4.out.setOther (a := ⟨xb, 0, none⟩) ne.symm _).setOther (a := ⟨xb, 1, none⟩) ne.symm _
     have fs : Fut wb ((w4q.setCell ⟨xb, 0, none⟩ (.int .i64 v1c)).setCell ⟨xb, 1, none⟩ (.int .i64 v1s)) := (F4.out.setCell (p := ⟨xb, 0, none⟩) lx _).setCell (p := ⟨xb, 1, none⟩) lx _
     generalize ((w4q.setCell ⟨xb, 0, none⟩ (.int .i64 v1c)).setCell ⟨xb, 1, none⟩ (.int .i64 v1s)) = ws at bx bY fs ⊢
     have x2 := bY.cell (i := 0) rfl
     have x3 := bY.cell (i := 1) rfl
     have x0 := bY.fz 0
     have x1 := bY.fz 1
     refine wpF_ol rfl (by kernel_rfl) rfl (fun K hK => ?_)
     go_simp
     refine hK _ _ ?_
     clear hK K x0 x1 x2 x3
     refine wpF_nil ?_
     exact cont xb yb _ (Lib.hid ⟨((fs.setCell (p := ⟨yb, 0, none⟩) ly _).setCell (p := ⟨yb, 1, none⟩) ly _), (bx.setOther (a := ⟨yb, 0, none⟩) ne _).setOther (a := ⟨yb, 1, none⟩) ne _, (bY.set 0 (.int .i64 v2c)).set 1 (.int .i64 v2s)⟩)
    ·
     go_simp
     refine hK _ _ (.inr ((Fut.refl _).alloc _)) ?_
     clear hK K
     obtain ⟨w3q, hwq⟩ : ∃ q, q = w2q.alloc (.cells #[.int .i64 0, .int .i64 0] 37) := ⟨_, rfl⟩
     obtain ⟨yb, hvb⟩ : ∃ q, q = w2q.heap.size := ⟨_, rfl⟩
     rw [← hwq, ← hvb]
     have Ly := Lib.hid (show wb.heap.size ≤ yb from by rw [hvb]; exact F2.out.size)
     have F3 := Lib.hid (show Fut wb w3q from by rw [hwq]; exact F2.out.alloc _)
     have By3 := Lib.hid (show Blk w3q yb 37 #[.int .i64 0, .int .i64 0] from by rw [hwq, hvb]; exact Blk.new _ _ _)
     clear hwq hvb
     refine wpF_o rfl rfl (fun K hK => ?_)
     go_simp
     refine hK _ _ (.inr ((Fut.refl _).alloc _)) ?_
     clear hK K
     obtain ⟨w4q, hwq⟩ : ∃ q, q = w3q.alloc (.cells #[.int .i64 0, .int .i64 0] 37) := ⟨_, rfl⟩
     obtain ⟨xb, hvb⟩ : ∃ q, q = w3q.heap.size := ⟨_, rfl⟩
     rw [← hwq, ← hvb]
     have Lx := Lib.hid (show wb.heap.size ≤ xb from by rw [hvb]; exact F3.out.size)
     have F4 := Lib.hid (show Fut wb w4q from by rw [hwq]; exact F3.out.alloc _)
     have Bx4 := Lib.hid (show Blk w4q xb 37 #[.int .i64 0, .int .i64 0] from by rw [hwq, hvb]; exact Blk.new _ _ _)
     have NE := Lib.hid (show yb < xb from by rw [hvb]; exact By3.out.lt)
     have By4 := Lib.hid (show Blk w4q yb 37 #[.int .i64 0, .int .i64 0] from by rw [hwq]; exact By3.out.alloc _)
     clear hwq hvb
     have x2 := Bx4.out.cell (i := 0) rfl
     have x3 := Bx4.out.cell (i := 1) rfl
     have x0 := Bx4.out.fz 0
     have x1 := Bx4.out.fz 1
     refine wpF_ol rfl (by kernel_rfl) rfl (fun K hK => ?_)
     go_simp
     refine hK _ _ ?_
     clear hK K x0 x1 x2 x3
     have lx := Lx.out
     have ly := Ly.out
     have ne : xb ≠ yb := by have := NE.out; omega
     have bx : Blk ((w4q.setCell ⟨xb, 0, none⟩ (.int .i64 v1c)).setCell ⟨xb, 1, none⟩ (.int .i64 v1s)) xb 37 #[.int .i64 v1c, .int .i64 v1s] := (Bx4.out.set 0 (.int .i64 v1c)).set 1 (.int .i64 v1s)
     have bY : Blk ((w4q.setCell ⟨xb, 0, none⟩ (.int .i64 v1c)).setCell ⟨xb, 1, none⟩ (.int .i64 v1s)) yb 37 #[.int .i64 0, .int .i64 0] := (By4.out.setOther (a := ⟨xb, 0, none⟩) ne.symm _).setOther (a := ⟨xb, 1, none⟩) ne.symm _
     have fs : Fut wb ((w4q.setCell ⟨xb, 0, none⟩ (.int .i64 v1c)).setCell ⟨xb, 1, none⟩ (.int .i64 v1s)) := (F4.out.setCell (p := ⟨xb, 0, none⟩) lx _).setCell (p := ⟨xb, 1, none⟩) lx _
     generalize ((w4q.setCell ⟨xb, 0, none⟩ (.int .i64 v1c)).setCell ⟨xb, 1, none⟩ (.int .i64 v1s)) = ws at bx bY fs ⊢
     have x2 := bY.cell (i := 0) rfl
     have x3 := bY.cell (i := 1) rfl
     have x0 := bY.fz 0
     have x1 := bY.fz 1
     refine wpF_ol rfl (by kernel_rfl) rfl (fun K hK => ?_)
     go_simp
     refine hK _ _ ?_
     clear hK K x0 x1 x2 x3
     refine wpF_nil ?_
     exact cont xb yb _ (Lib.hid ⟨((fs.setCell (p := ⟨yb, 0, none⟩) ly _).setCell (p := ⟨yb, 1, none⟩) ly _), (bx.setOther (a := ⟨yb, 0, none⟩) ne _).setOther (a := ⟨yb, 1, none⟩) ne _, (bY.set 0 (.int .i64 v2c)).set 1 (.int .i64 v2s)⟩)
   ·
    go_simp
    refine hK _ _ (.inr ((Fut.refl _).alloc _)) ?_
    clear hK K
    obtain ⟨w2q, hwq⟩ : ∃ q, q = w1q.alloc (.cells #[.int .i64 0, .int .i64 0] 37) := ⟨_, rfl⟩
    obtain ⟨xb, hvb⟩ : ∃ q, q = w1q.heap.size := ⟨_, rfl⟩
    rw [← hwq, ← hvb]
    have Lx := Lib.hid (show wb.heap.size ≤ xb from by rw [hvb]; exact F1.out.size)
    have F2 := Lib.hid (show Fut wb w2q from by rw [hwq]; exact F1.out.alloc _)
    have Bx2 := Lib.hid (show Blk w2q xb 37 #[.int .i64 0, .int .i64 0] from by rw [hwq, hvb]; exact Blk.new _ _ _)
    clear hwq hvb
    refine wpF_two rfl rfl (fun K hK => ?_) (fun K hK => ?_)
    ·
     go_simp
     go_at_call 17
     refine (HVA2'.out _ (HF.out.trans F2.out)).mono ?_
     rintro r1 w3q ⟨rfl, hb⟩
     have f1 : Fut w2q w3q := hb
     refine hK _ _ (.inr f1) ?_
     have F3 := Lib.hid (F2.out.trans f1)
     have Bx3 := Lib.hid (Bx2.out.fut f1)
     clear hb f1 hK K
     refine wpF_o rfl rfl (fun K hK => ?_)
     go_simp
     refine hK _ _ (.inr ((Fut.refl _).alloc _)) ?_
     clear hK K
     obtain ⟨w4q, hwq⟩ : ∃ q, q = w3q.alloc (.cells #[.int .i64 0, .int .i64 0] 37) := ⟨_, rfl⟩
     obtain ⟨yb, hvb⟩ : ∃ q, q = w3q.heap.size := ⟨_, rfl⟩
     rw [← hwq, ← hvb]
     have Ly := Lib.hid (show wb.heap.size ≤ yb from by rw [hvb]; exact F3.out.size)
     have F4 := Lib.hid (show Fut wb w4q from by rw [hwq]; exact F3.out.alloc _)
     have By4 := Lib.hid (show Blk w4q yb 37 #[.int .i64 0, .int .i64 0] from by rw [hwq, hvb]; exact Blk.new _ _ _)
     have NE := Lib.hid (show xb < yb from by rw [hvb]; exact Bx3.out.lt)
     have Bx4 := Lib.hid (show Blk w4q xb 37 #[.int .i64 0, .int .i64 0] from by rw [hwq]; exact Bx3.out.alloc _)
     clear hwq hvb
     have x2 := Bx4.out.cell (i := 0) rfl
     have x3 := Bx4.out.cell (i := 1) rfl
     have x0 := Bx4.out.fz 0
     have x1 := Bx4.out.fz 1
     refine wpF_ol rfl (by kernel_rfl) rfl (fun K hK => ?_)
     go_simp
     refine hK _ _ ?_
     clear hK K x0 x1 x2 x3
     have lx := Lx.out
     have ly := Ly.out
     have ne : xb ≠ yb := by have := NE.out; omega
     have bx : Blk ((w4q.setCell ⟨xb, 0, none⟩ (.int .i64 v1c)).setCell ⟨xb, 1, none⟩ (.int .i64 v1s)) xb 37 #[.int .i64 v1c, .int .i64 v1s] := (Bx4.out.set 0 (.int .i64 v1c)).set 1 (.int .i64 v1s)
     have bY : Blk ((w4q.setCell ⟨xb, 0, none⟩ (.int .i64 v1c)).setCell ⟨xb, 1, none⟩ (.int .i64 v1s)) yb 37 #[.int .i64 0, .int .i64 0] := (By4.out.setOther (a := ⟨xb, 0, none⟩) ne.symm _).setOther (a := ⟨xb, 1, none⟩) ne.symm _
     have fs : Fut wb ((w4q.setCell ⟨xb, 0, none⟩ (.int .i64 v1c)).setCell ⟨xb, 1, none⟩ (.int .i64 v1s)) := (F4.out.setCell (p := ⟨xb, 0, none⟩) lx _).setCell (p := ⟨xb, 1, none⟩) lx _
     generalize ((w4q.setCell ⟨xb, 0, none⟩ (.int .i64 v1c)).setCell ⟨xb, 1, none⟩ (.int .i64 v1s)) = ws at bx bY fs ⊢
     have x2 := bY.cell (i := 0) rfl
     have x3 := bY.cell (i := 1) rfl
     have x0 := bY.fz 0
     have x1 := bY.fz 1
     refine wpF_ol rfl (by kernel_rfl) rfl (fun K hK => ?_)
     go_simp
     refine hK _ _ ?_
     clear hK K x0 x1 x2 x3
     refine wpF_nil ?_
     exact cont xb yb _ (Lib.hid ⟨((fs.setCell (p := ⟨yb, 0, none⟩) ly _).setCell (p := ⟨yb, 1, none⟩) ly _), (bx.setOther (a := ⟨yb, 0, none⟩) ne _).setOther (a := ⟨yb, 1, none⟩) ne _, (bY.set 0 (.int .i64 v2c)).set 1 (.int .i64 v2s)⟩)
    ·
     go_simp
     refine hK _ _ (.inr ((Fut.refl _).alloc _)) ?_
     clear hK K
     obtain ⟨w3q, hwq⟩ : ∃ q, q = w2q.alloc (.cells #[.int .i64 0, .int .i64 0] 37) := ⟨_, rfl⟩
     obtain ⟨yb, hvb⟩ : ∃ q, q = w2q.heap.size := ⟨_, rfl⟩
     rw [← hwq, ← hvb]
     have Ly := Lib.hid (show wb.heap.size ≤ yb from by rw [hvb]; exact F2.out.size)
     have F3 := Lib.hid (show Fut wb w3q from by rw [hwq]; exact F2.out.alloc _)
     have By3 := Lib.hid (show Blk w3q yb 37 #[.int .i64 0, .int .i64 0] from by rw [hwq, hvb]; exact Blk.new _ _ _)
     have NE := Lib.hid (show xb < yb from by rw [hvb]; exact Bx2.out.lt)
     have Bx3 := Lib.hid (show Blk w3q xb 37 #[.int .i64 0, .int .i64 0] from by rw [hwq]; exact Bx2.out.alloc _)
     clear hwq hvb
     refine wpF_o rfl rfl (fun K hK => ?_)
     go_simp
     go_at_call 17
     refine (HVA2'.out _ (HF.out.trans F3.out)).mono ?_
     rintro r1 w4q ⟨rfl, hb⟩
     have f1 : Fut w3q w4q := hb
     refine hK _ _ (.inr f1) ?_
     have F4 := Lib.hid (F3.out.trans f1)
     have By4 := Lib.hid (By3.out.fut f1)
     have Bx4 := Lib.hid (Bx3.out.fut f1)
     clear hb f1 hK K
     have x2 := Bx4.out.cell (i := 0) rfl
     have x3 := Bx4.out.cell (i := 1) rfl
     have x0 := Bx4.out.fz 0
     have x1 := Bx4.out.fz 1
     refine wpF_ol rfl (by kernel_rfl) rfl (fun K hK => ?_)
     go_simp
     refine hK _ _ ?_
     clear hK K x0 x1 x2 x3
     have lx := Lx.out
     have ly := Ly.out
     have ne : xb ≠ yb := by have := NE.out; omega
     have bx : Blk ((w4q.setCell ⟨xb, 0, none⟩ (.int .i64 v1c)).setCell ⟨xb, 1, none⟩ (.int .i64 v1s)) xb 37 #[.int .i64 v1c, .int .i64 v1s] := (Bx4.out.set 0 (.int .i64 v1c)).set 1 (.int .i64 v1s)
     have bY : Blk ((w4q.setCell ⟨xb, 0, none⟩ (.int .i64 v1c)).setCell ⟨xb, 1, none⟩ (.int .i64 v1s)) yb 37 #[.int .i64 0, .int .i64 0] := (By4.out.setOther (a := ⟨xb, 0, none⟩) ne.symm _).setOther (a := ⟨xb, 1, none⟩) ne.symm _
     have fs : Fut wb ((w4q.setCell ⟨xb, 0, none⟩ (.int .i64 v1c)).setCell ⟨xb, 1, none⟩ (.int .i64 v1s)) := (F4.out.setCell (p := ⟨xb, 0, none⟩) lx _).setCell (p := ⟨xb, 1, none⟩) lx _
     generalize ((w4q.setCell ⟨xb, 0, none⟩ (.int .i64 v1c)).setCell ⟨xb, 1, none⟩ (.int .i64 v1s)) = ws at bx bY fs ⊢
     have x2 := bY.cell (i := 0) rfl
     have x3 := bY.cell (i := 1) rfl
     have x0 := bY.fz 0
     have x1 := bY.fz 1
     refine wpF_ol rfl (by kernel_rfl) rfl (fun K hK => ?_)
     go_simp
     refine hK _ _ ?_
     clear hK K x0 x1 x2 x3
     refine wpF_nil ?_
     exact cont xb yb _ (Lib.hid ⟨((fs.setCell (p := ⟨yb, 0, none⟩) ly _).setCell (p := ⟨yb, 1, none⟩) ly _), (bx.setOther (a := ⟨yb, 0, none⟩) ne _).setOther (a := ⟨yb, 1, none⟩) ne _, (bY.set 0 (.int .i64 v2c)).set 1 (.int .i64 v2s)⟩)
   ·
    go_simp
    refine hK _ _ (.inr ((Fut.refl _).alloc _)) ?_
    clear hK K
    obtain ⟨w2q, hwq⟩ : ∃ q, q = w1q.alloc (.cells #[.int .i64 0, .int .i64 0] 37) := ⟨_, rfl⟩
    obtain ⟨yb, hvb⟩ : ∃ q, q = w1q.heap.size := ⟨_, rfl⟩
    rw [← hwq, ← hvb]
    have Ly := Lib.hid (show wb.heap.size ≤ yb from by rw [hvb]; exact F1.out.size)
    have F2 := Lib.hid (show Fut wb w2q from by rw [hwq]; exact F1.out.alloc _)
    have By2 := Lib.hid (show Blk w2q yb 37 #[.int .i64 0, .int .i64 0] from by rw [hwq, hvb]; exact Blk.new _ _ _)
    clear hwq hvb
    refine wpF_two rfl rfl (fun K hK => ?_) (fun K hK => ?_)
    ·
     go_simp
     go_at_call 17
     refine (HVA2'.out _ (HF.out.trans F2.out)).mono ?_
     rintro r1 w3q ⟨rfl, hb⟩
     have f1 : Fut w2q w3q := hb
     refine hK _ _ (.inr f1) ?_
     have F3 := Lib.hid (F2.out.trans f1)
     have By3 := Lib.hid (By2.out.fut f1)
     clear hb f1 hK K
     refine wpF_o rfl rfl (fun K hK => ?_)
     go_simp
     refine hK _ _ (.inr ((Fut.refl _).alloc _)) ?_
     clear hK K
     obtain ⟨w4q, hwq⟩ : ∃ q, q = w3q.alloc (.cells #[.int .i64 0, .int .i64 0] 37) := ⟨_, rfl⟩
     obtain ⟨xb, hvb⟩ : ∃ q, q = w3q.heap.size := ⟨_, rfl⟩
     rw [← hwq, ← hvb]
     have Lx := Lib.hid (show wb.heap.size ≤ xb from by rw [hvb]; exact F3.out.size)
     have F4 := Lib.hid (show Fut wb w4q from by rw [hwq]; exact F3.out.alloc _)
     have Bx4 := Lib.hid (show Blk w4q xb 37 #[.int .i64 0, .int .i64 0] from by rw [hwq, hvb]; exact Blk.new _ _ _)
     have NE := Lib.hid (show yb < xb from by rw [hvb]; exact By3.out.lt)
     have By4 := Lib.hid (show Blk w4q yb 37 #[.int .i64 0, .int .i64 0] from by rw [hwq]; exact By3.out.alloc _)
     clear hwq hvb
     have x2 := Bx4.out.cell (i := 0) rfl
     have x3 := Bx4.out.cell (i := 1) rfl
     have x0 := Bx4.out.fz 0
     have x1 := Bx4.out.fz 1
     refine wpF_ol rfl (by kernel_rfl) rfl (fun K hK => ?_)
     go_simp
     refine hK _ _ ?_
     clear hK K x0 x1 x2 x3
     have lx := Lx.out
     have ly := Ly.out
     have ne : xb ≠ yb := by have := NE.out; omega
     have bx : Blk ((w4q.setCell ⟨xb, 0, none⟩ (.int .i64 v1c)).setCell ⟨xb, 1, none⟩ (.int .i64 v1s)) xb 37 #[.int .i64 v1c, .int .i64 v1s] := (Bx4.out.set 0 (.int .i64 v1c)).set 1 (.int .i64 v1s)
     have bY : Blk ((w4q.setCell ⟨xb, 0, none⟩ (.int .i64 v1c)).setCell ⟨xb, 1, none⟩ (.int .i64 v1s)) yb 37 #[.int .i64 0, .int .i64 0] := (By4.out.setOther (a := ⟨xb, 0, none⟩) ne.symm _).setOther (a := ⟨xb, 1, none⟩) ne.symm _
     have fs : Fut wb ((w4q.setCell ⟨xb, 0, none⟩ (.int .i64 v1c)).setCell ⟨xb, 1, none⟩ (.int .i64 v1s)) := (F4.out.setCell (p := ⟨xb, 0, none⟩) lx _).setCell (p := ⟨xb, 1, none⟩) lx _
     generalize ((w4q.setCell ⟨xb, 0, none⟩ (.int .i64 v1c)).setCell ⟨xb, 1, none⟩ (.int .i64 v1s)) = ws at bx bY fs ⊢
     have x2 := bY.cell (i := 0) rfl
     have x3 := bY.cell (i := 1) rfl
     have x0 := bY.fz 0
     have x1 := bY.fz 1
     refine wpF_ol rfl (by kernel_rfl) rfl (fun K hK => ?_)
     go_simp
     refine hK _ _ ?_
     clear hK K x0 x1 x2 x3
     refine wpF_nil ?_
     exact cont xb yb _ (Lib.hid ⟨((fs.setCell (p := ⟨yb, 0, none⟩) ly _).setCell (p := ⟨yb, 1, none⟩) ly _), (bx.setOther (a := ⟨yb, 0, none⟩) ne _).setOther (a := ⟨yb, 1, none⟩) ne _, (bY.set 0 (.int .i64 v2c)).set 1 (.int .i64 v2s)⟩)
    ·
     go_simp
     refine hK _ _ (.inr ((Fut.refl _).alloc _)) ?_
     clear hK K
     obtain ⟨w3q, hwq⟩ : ∃ q, q = w2q.alloc (.cells #[.int .i64 0, .int .i64 0] 37) := ⟨_, rfl⟩
     obtain ⟨xb, hvb⟩ : ∃ q, q = w2q.heap.size := ⟨_, rfl⟩
     rw [← hwq, ← hvb]
     have Lx := Lib.hid (show wb.heap.size ≤ xb from by rw [hvb]; exact F2.out.size)
     have F3 := Lib.hid (show Fut wb w3q from by rw [hwq]; exact F2.out.alloc _)
     have Bx3 := Lib.hid (show Blk w3q xb 37 #[.int .i64 0, .int .i64 0] from by rw [hwq, hvb]; exact Blk.new _ _ _)
     have NE := Lib.hid (show yb < xb from by rw [hvb]; exact By2.out.lt)
     have By3 := Lib.hid (show Blk w3q yb 37 #[.int .i64 0, .int .i64 0] from by rw [hwq]; exact By2.out.alloc _)
     clear hwq hvb
     refine wpF_o rfl rfl (fun K hK => ?_)
     go_simp
     go_at_call 17
     refine (HVA2'.out _ (HF.out.trans F3.out)).mono ?_
     rintro r1 w4q ⟨rfl, hb⟩
     have f1 : Fut w3q w4q := hb
     refine hK _ _ (.inr f1) ?_
     have F4 := Lib.hid (F3.out.trans f1)
     have Bx4 := Lib.hid (Bx3.out.fut f1)
     have By4 := Lib.hid (By3.out.fut f1)
     clear hb f1 hK K
     have x2 := Bx4.out.cell (i := 0) rfl
     have x3 := Bx4.out.cell (i := 1) rfl
     have x0 := Bx4.out.fz 0
     have x1 := Bx4.out.fz 1
     refine wpF_ol rfl (by kernel_rfl) rfl (fun K hK => ?_)
     go_simp
     refine hK _ _ ?_
     clear hK K x0 x1 x2 x3
     have lx := Lx.out
     have ly := Ly.out
     have ne : xb ≠ yb := by have := NE.out; omega
     have bx : Blk ((w4q.setCell ⟨xb, 0, none⟩ (.int .i64 v1c)).setCell ⟨xb, 1, none⟩ (.int .i64 v1s)) xb 37 #[.int .i64 v1c, .int .i64 v1s] := (Bx4.out.set 0 (.int .i64 v1c)).set 1 (.int .i64 v1s)
     have bY : Blk ((w4q.setCell ⟨xb, 0, none⟩ (.int .i64 v1c)).setCell ⟨xb, 1, none⟩ (.int .i64 v1s)) yb 37 #[.int .i64 0, .int .i64 0] := (By4.out.setOther (a := ⟨xb, 0, none⟩) ne.symm _).setOther (a := ⟨xb, 1, none⟩) ne.symm _
     have fs : Fut wb ((w4q.setCell ⟨xb, 0, none⟩ (.int .i64 v1c)).setCell ⟨xb, 1, none⟩ (.int .i64 v1s)) := (F4.out.setCell (p := ⟨xb, 0, none⟩) lx _).setCell (p := ⟨xb, 1, none⟩) lx _
     generalize ((w4q.setCell ⟨xb, 0, none⟩ (.int .i64 v1c)).setCell ⟨xb, 1, none⟩ (.int .i64 v1s)) = ws at bx bY fs ⊢
     have x2 := bY.cell (i := 0) rfl
     have x3 := bY.cell (i := 1) rfl
     have x0 := bY.fz 0
     have x1 := bY.fz 1
     refine wpF_ol rfl (by kernel_rfl) rfl (fun K hK => ?_)
     go_simp
     refine hK _ _ ?_
     clear hK K x0 x1 x2 x3
     refine wpF_nil ?_
     exact cont xb yb _ (Lib.hid ⟨((fs.setCell (p := ⟨yb, 0, none⟩) ly _).setCell (p := ⟨yb, 1, none⟩) ly _), (bx.setOther (a := ⟨yb, 0, none⟩) ne _).setOther (a := ⟨yb, 1, none⟩) ne _, (bY.set 0 (.int .i64 v2c)).set 1 (.int .i64 v2s)⟩)
  ·
   go_simp
   refine hK _ _ (.inr ((Fut.refl _).alloc _)) ?_
   clear hK K
   obtain ⟨w1q, hwq⟩ : ∃ q, q = wc.alloc (.cells #[.int .i64 0, .int .i64 0] 37) := ⟨_, rfl⟩
   obtain ⟨xb, hvb⟩ : ∃ q, q = wc.heap.size := ⟨_, rfl⟩
   rw [← hwq, ← hvb]
   have Lx := Lib.hid (show wb.heap.size ≤ xb from by rw [hvb]; exact FW.out.size)
   have F1 := Lib.hid (show Fut wb w1q from by rw [hwq]; exact FW.out.alloc _)
   have Bx1 := Lib.hid (show Blk w1q xb 37 #[.int .i64 0, .int .i64 0] from by rw [hwq, hvb]; exact Blk.new _ _ _)
   clear hwq hvb
   refine wpF_two rfl rfl (fun K hK => ?_) (fun K hK => ?_)
   ·
    go_simp
    go_at_call 17
    refine (HVA1'.out _ (HF.out.trans F1.out)).mono ?_
    rintro r1 w2q ⟨rfl, hb⟩
    have f1 : Fut w1q w2q := hb
    refine hK _ _ (.inr f1) ?_
    have F2 := Lib.hid (F1.out.trans f1)
    have Bx2 := Lib.hid (Bx1.out.fut f1)
    clear hb f1 hK K
    refine wpF_two rfl rfl (fun K hK => ?_) (fun K hK => ?_)
    ·
     go_simp
     go_at_call 17
     refine (HVA2'.out _ (HF.out.trans F2.out)).mono ?_
     rintro r1 w3q ⟨rfl, hb⟩
     have f1 : Fut w2q w3q := hb
     refine hK _ _ (.inr f1) ?_
     have F3 := Lib.hid (F2.out.trans f1)
     have Bx3 := Lib.hid (Bx2.out.fut f1)
     clear hb f1 hK K
     refine wpF_o rfl rfl (fun K hK => ?_)
     go_simp
     refine hK _ _ (.inr ((Fut.refl _).alloc _)) ?_
     clear hK K
     obtain ⟨w4q, hwq⟩ : ∃ q, q = w3q.alloc (.cells #[.int .i64 0, .int .i64 0] 37) := ⟨_, rfl⟩
     obtain ⟨yb, hvb⟩ : ∃ q, q = w3q.heap.size := ⟨_, rfl⟩
     rw [← hwq, ← hvb]
     have Ly := Lib.hid (show wb.heap.size ≤ yb from by rw [hvb]; exact F3.out.size)
     have F4 := Lib.hid (show Fut wb w4q from by rw [hwq]; exact F3.out.alloc _)
     have By4 := Lib.hid (show Blk w4q yb 37 #[.int .i64 0, .int .i64 0] from by rw [hwq, hvb]; exact Blk.new _ _ _)
     have NE := Lib.hid (show xb < yb from by rw [hvb]; exact Bx3.out.lt)
     have Bx4 := Lib.hid (show Blk w4q xb 37 #[.int .i64 0, .int .i64 0] from by rw [hwq]; exact Bx3.out.alloc _)
     clear hwq hvb
     have x2 := Bx4.out.cell (i := 0) rfl
     have x3 := Bx4.out.cell (i := 1) rfl
     have x0 := Bx4.out.fz 0
     have x1 := Bx4.out.fz 1
     refine wpF_ol rfl (by kernel_rfl) rfl (fun K hK => ?_)
     go_simp
     refine hK _ _ ?_
     clear hK K x0 x1 x2 x3
     have lx := Lx.out
     have ly := Ly.out
     have ne : xb ≠ yb := by have := NE.out; omega
     have bx : Blk ((w4q.setCell ⟨xb, 0, none⟩ (.int .i64 v1c)).setCell ⟨xb, 1, none⟩ (.int .i64 v1s)) xb 37 #[.int .i64 v1c, .int .i64 v1s] := (Bx4.out.set 0 (.int .i64 v1c)).set 1 (.int .i64 v1s)
     have bY : Blk ((w4q.setCell ⟨xb, 0, none⟩ (.int .i64 v1c)).setCell ⟨xb, 1, none⟩ (.int .i64 v1s)) yb 37 #[.int .i64 0, .int .i64 0] := (By4.out.setOther (a := ⟨xb, 0, none⟩) ne.symm _).setOther (a := ⟨xb, 1, none⟩) ne.symm _
     have fs : Fut wb ((w4q.setCell ⟨xb, 0, none⟩ (.int .i64 v1c)).setCell ⟨xb, 1, none⟩ (.int .i64 v1s)) := (F4.out.setCell (p := ⟨xb, 0, none⟩) lx _).setCell (p := ⟨xb, 1, none⟩) lx _
     generalize ((w4q.setCell ⟨xb, 0, none⟩ (.int .i64 v1c)).setCell ⟨xb, 1, none⟩ (.int .i64 v1s)) = ws at bx bY fs ⊢
     have x2 := bY.cell (i := 0) rfl
     have x3 := bY.cell (i := 1) rfl
     have x0 := bY.fz 0
     have x1 := bY.fz 1
     refine wpF_ol rfl (by kernel_rfl) rfl (fun K hK => ?_)
     go_simp
     refine hK _ _ ?_
     clear hK K x0 x1 x2 x3
     refine wpF_nil ?_
     exact cont xb yb _ (Lib.hid ⟨((fs.setCell (p := ⟨yb, 0, none⟩) ly _).setCell (p := ⟨yb, 1, none⟩) ly _), (bx.setOther (a := ⟨yb, 0, none⟩) ne _).setOther (a := ⟨yb, 1, none⟩) ne _, (bY.set 0 (.int .i64 v2c)).set 1 (.int .i64 v2s)⟩)
    ·
     go_simp
     refine hK _ _ (.inr ((Fut.refl _).alloc _)) ?_
     clear hK K
     obtain ⟨w3q, hwq⟩ : ∃ q, q = w2q.alloc (.cells #[.int .i64 0, .int .i64 0] 37) := ⟨_, rfl⟩
     obtain ⟨yb, hvb⟩ : ∃ q, q = w2q.heap.size := ⟨_, rfl⟩
     rw [← hwq, ← hvb]
     have Ly := Lib.hid (show wb.heap.size ≤ yb from by rw [hvb]; exact F2.out.size)
     have F3 := Lib.hid (show Fut wb w3q from by rw [hwq]; exact F2.out.alloc _)
     have By3 := Lib.hid (show Blk w3q yb 37 #[.int .i64 0, .int .i64 0] from by rw [hwq, hvb]; exact Blk.new _ _ _)
     have NE := Lib.hid (show xb < yb from by rw [hvb]; exact Bx2.out.lt)
     have Bx3 := Lib.hid (show Blk w3q xb 37 #[.int .i64 0, .int .i64 0] from by rw [hwq]; exact Bx2.out.alloc _)
     clear hwq hvb
     refine wpF_o rfl rfl (fun K hK => ?_)
     go_simp
     go_at_call 17
     refine (HVA2'.out _ (HF.out.trans F3.out)).mono ?_
     rintro r1 w4q ⟨rfl, hb⟩
     have f1 : Fut w3q w4q := hb
     refine hK _ _ (.inr f1) ?_
     have F4 := Lib.hid (F3.out.trans f1)
     have By4 := Lib.hid (By3.out.fut f1)
     have Bx4 := Lib.hid (Bx3.out.fut f1)
     clear hb f1 hK K
     have x2 := Bx4.out.cell (i := 0) rfl
     have x3 := Bx4.out.cell (i := 1) rfl
     have x0 := Bx4.out.fz 0
     have x1 := Bx4.out.fz 1
     refine wpF_ol rfl (by kernel_rfl) rfl (fun K hK => ?_)
     go_simp
     refine hK _ _ ?_
     clear hK K x0 x1 x2 x3
     have lx := Lx.out
     have ly := Ly.out
     have ne : xb ≠ yb := by have := NE.out; omega
     have bx : Blk ((w4q.setCell ⟨xb, 0, none⟩ (.int .i64 v1c)).setCell ⟨xb, 1, none⟩ (.int .i64 v1s)) xb 37 #[.int .i64 v1c, .int .i64 v1s] := (Bx4.out.set 0 (.int .i64 v1c)).set 1 (.int .i64 v1s)
     have bY : Blk ((w4q.setCell ⟨xb, 0, none⟩ (.int .i64 v1c)).setCell ⟨xb, 1, none⟩ (.int .i64 v1s)) yb 37 #[.int .i64 0, .int .i64 0] := (By4.out.setOther (a := ⟨xb, 0, none⟩) ne.symm _).setOther (a := ⟨xb, 1, none⟩) ne.symm _
     have fs : Fut wb ((w4q.setCell ⟨xb, 0, none⟩ (.int .i64 v1c)).setCell ⟨xb, 1, none⟩ (.int .i64 v1s)) := (F4.out.setCell (p := ⟨xb, 0, none⟩) lx _).setCell (p := ⟨xb, 1, none⟩) lx _
     generalize ((w4q.setCell ⟨xb, 0, none⟩ (.int .i64 v1c)).setCell ⟨xb, 1, none⟩ (.int .i64 v1s)) = ws at bx bY fs ⊢
     have x2 := bY.cell (i := 0) rfl
     have x3 := bY.cell (i := 1) rfl
     have x0 := bY.fz 0
     have x1 := bY.fz 1
     refine wpF_ol rfl (by kernel_rfl) rfl (fun K hK => ?_)
     go_simp
     refine hK _ _ ?_
     clear hK K x0 x1 x2 x3
     refine wpF_nil ?_
     exact cont xb yb _ (Lib.hid ⟨((fs.setCell (p := ⟨yb, 0, none⟩) ly _).setCell (p := ⟨yb, 1, none⟩) ly _), (bx.setOther (a := ⟨yb, 0, none⟩) ne _).setOther (a := ⟨yb, 1, none⟩) ne _, (bY.set 0 (.int .i64 v2c)).set 1 (.int .i64 v2s)⟩)
   ·
    go_simp
    refine hK _ _ (.inr ((Fut.refl _).alloc _)) ?_
    clear hK K
    obtain ⟨w2q, hwq⟩ : ∃ q, q = w1q.alloc (.cells #[.int .i64 0, .int .i64 0] 37) := ⟨_, rfl⟩
    obtain ⟨yb, hvb⟩ : ∃ q, q = w1q.heap.size := ⟨_, rfl⟩
    rw [← hwq, ← hvb]
    have Ly := Lib.hid (show wb.heap.size ≤ yb from by rw [hvb]; exact F1.out.size)
    have F2 := Lib.hid (show Fut wb w2q from by rw [hwq]; exact F1.out.alloc _)
    have By2 := Lib.hid (show Blk w2q yb 37 #[.int .i64 0, .int .i64 0] from by rw [hwq, hvb]; exact Blk.new _ _ _)
    have NE := Lib.hid (show xb < yb from by rw [hvb]; exact Bx1.out.lt)
    have Bx2 := Lib.hid (show Blk w2q xb 37 #[.int .i64 0, .int .i64 0] from by rw [hwq]; exact Bx1.out.alloc _)
    clear hwq hvb
    refine wpF_o rfl rfl (fun K hK => ?_)
    go_simp
    go_at_call 17
    refine (HVA1'.out _ (HF.out.trans F2.out)).mono ?_
    rintro r1 w3q ⟨rfl, hb⟩
    have f1 : Fut w2q w3q := hb
    refine hK _ _ (.inr f1) ?_
    have F3 := Lib.hid (F2.out.trans f1)
    have By3 := Lib.hid (By2.out.fut f1)
    have Bx3 := Lib.hid (Bx2.out.fut f1)
    clear hb f1 hK K
    refine wpF_o rfl rfl (fun K hK => ?_)
    go_simp
    go_at_call 17
    refine (HVA2'.out _ (HF.out.trans F3.out)).mono ?_
    rintro r1 w4q ⟨rfl, hb⟩
    have f1 : Fut w3q w4q := hb
    refine hK _ _ (.inr f1) ?_
    have F4 := Lib.hid (F3.out.trans f1)
    have By4 := Lib.hid (By3.out.fut f1)
    have Bx4 := Lib.hid (Bx3.out.fut f1)
    clear hb f1 hK K
    have x2 := Bx4.out.cell (i := 0) rfl
    have x3 := Bx4.out.cell (i := 1) rfl
    have x0 := Bx4.out.fz 0
    have x1 := Bx4.out.fz 1
    refine wpF_ol rfl (by kernel_rfl) rfl (fun K hK => ?_)
    go_simp
    refine hK _ _ ?_
    clear hK K x0 x1 x2 x3
    have lx := Lx.out
    have ly := Ly.out
    have ne : xb ≠ yb := by have := NE.out; omega
    have bx : Blk ((w4q.setCell ⟨xb, 0, none⟩ (.int .i64 v1c)).setCell ⟨xb, 1, none⟩ (.int .i64 v1s)) xb 37 #[.int .i64 v1c, .int .i64 v1s] := (Bx4.out.set 0 (.int .i64 v1c)).set 1 (.int .i64 v1s)
    have bY : Blk ((w4q.setCell ⟨xb, 0, none⟩ (.int .i64 v1c)).setCell ⟨xb, 1, none⟩ (.int .i64 v1s)) yb 37 #[.int .i64 0, .int .i64 0] := (By4.out.setOther (a := ⟨xb, 0, none⟩) ne.symm _).setOther (a := ⟨xb, 1, none⟩) ne.symm _
    have fs : Fut wb ((w4q.setCell ⟨xb, 0, none⟩ (.int .i64 v1c)).setCell ⟨xb, 1, none⟩ (.int .i64 v1s)) := (F4.out.setCell (p := ⟨xb, 0, none⟩) lx _).setCell (p := ⟨xb, 1, none⟩) lx _
    generalize ((w4q.setCell ⟨xb, 0, none⟩ (.int .i64 v1c)).setCell ⟨xb, 1, none⟩ (.int .i64 v1s)) = ws at bx bY fs ⊢
    have x2 := bY.cell (i := 0) rfl
    have x3 := bY.cell (i := 1) rfl
    have x0 := bY.fz 0
    have x1 := bY.fz 1
    refine wpF_ol rfl (by kernel_rfl) rfl (fun K hK => ?_)
    go_simp
    refine hK _ _ ?_
    clear hK K x0 x1 x2 x3
    refine wpF_nil ?_
    exact cont xb yb _ (Lib.hid ⟨((fs.setCell (p := ⟨yb, 0, none⟩) ly _).setCell (p := ⟨yb, 1, none⟩) ly _), (bx.setOther (a := ⟨yb, 0, none⟩) ne _).setOther (a := ⟨yb, 1, none⟩) ne _, (bY.set 0 (.int .i64 v2c)).set 1 (.int .i64 v2s)⟩)
  ·
   go_simp
   refine hK _ _ (.inr ((Fut.refl _).alloc _)) ?_
   clear hK K
   obtain ⟨w1q, hwq⟩ : ∃ q, q = wc.alloc (.cells #[.int .i64 0, .int .i64 0] 37) := ⟨_, rfl⟩
   obtain ⟨yb, hvb⟩ : ∃ q, q = wc.heap.size := ⟨_, rfl⟩
   rw [← hwq, ← hvb]
   have Ly := Lib.hid (show wb.heap.size ≤ yb from by rw [hvb]; exact FW.out.size)
   have F1 := Lib.hid (show Fut wb w1q from by rw [hwq]; exact FW.out.alloc _)
   have By1 := Lib.hid (show Blk w1q yb 37 #[.int .i64 0, .int .i64 0] from by rw [hwq, hvb]; exact Blk.new _ _ _)
   clear hwq hvb
   refine wpF_two rfl rfl (fun K hK => ?_) (fun K hK => ?_)
   ·
    go_simp
    go_at_call 17
    refine (HVA1'.out _ (HF.out.trans F1.out)).mono ?_
    rintro r1 w2q ⟨rfl, hb⟩
    have f1 : Fut w1q w2q := hb
    refine hK _ _ (.inr f1) ?_
    have F2 := Lib.hid (F1.out.trans f1)
    have By2 := Lib.hid (By1.out.fut f1)
    clear hb f1 hK K
    refine wpF_two rfl rfl (fun K hK => ?_) (fun K hK => ?_)
    ·
     go_simp
     go_at_call 17
     refine (HVA2'.out _ (HF.out.trans F2.out)).mono ?_
     rintro r1 w3q ⟨rfl, hb⟩
     have f1 : Fut w2q w3q := hb
     refine hK _ _ (.inr f1) ?_
     have F3 := Lib.hid (F2.out.trans f1)
     have By3 := Lib.hid (By2.out.fut f1)
     clear hb f1 hK K
     refine wpF_o rfl rfl (fun K hK => ?_)
     go_simp
     refine hK _ _ (.inr ((Fut.refl _).alloc _)) ?_
     clear hK K
     obtain ⟨w4q, hwq⟩ : ∃ q, q = w3q.alloc (.cells #[.int .i64 0, .int .i64 0] 37) := ⟨_, rfl⟩
     obtain ⟨xb, hvb⟩ : ∃ q, q = w3q.heap.size := ⟨_, rfl⟩
     rw [← hwq, ← hvb]
     have Lx := Lib.hid (show wb.heap.size ≤ xb from by rw [hvb]; exact F3.out.size)
     have F4 := Lib.hid (show Fut wb w4q from by rw [hwq]; exact F3.out.alloc _)
     have Bx4 := Lib.hid (show Blk w4q xb 37 #[.int .i64 0, .int .i64 0] from by rw [hwq, hvb]; exact Blk.new _ _ _)
     have NE := Lib.hid (show yb < xb from by rw [hvb]; exact By3.out.lt)
     have By4 := Lib.hid (show Blk w4q yb 37 #[.int .i64 0, .int .i64 0] from by rw [hwq]; exact By3.out.alloc _)
     clear hwq hvb
     have x2 := Bx4.out.cell (i := 0) rfl
     have x3 := Bx4.out.cell (i := 1) rfl
     have x0 := Bx4.out.fz 0
     have x1 := Bx4.out.fz 1
     refine wpF_ol rfl (by kernel_rfl) rfl (fun K hK => ?_)
     go_simp
     refine hK _ _ ?_
     clear hK K x0 x1 x2 x3
     have lx := Lx.out
     have ly := Ly.out
     have ne : xb ≠ yb := by have := NE.out; omega
     have bx : Blk ((w4q.setCell ⟨xb, 0, none⟩ (.int .i64 v1c)).setCell ⟨xb, 1, none⟩ (.int .i64 v1s)) xb 37 #[.int .i64 v1c, .int .i64 v1s] := (Bx4.out.set 0 (.int .i64 v1c)).set 1 (.int .i64 v1s)
     have bY : Blk ((w4q.setCell ⟨xb, 0, none⟩ (.int .i64 v1c)).setCell ⟨xb, 1, none⟩ (.int .i64 v1s)) yb 37 #[.int .i64 0, .int .i64 0] := (By4.out.setOther (a := ⟨xb, 0, none⟩) ne.symm _).setOther (a := ⟨xb, 1, none⟩) ne.symm _
     have fs : Fut wb ((w4q.setCell ⟨xb, 0, none⟩ (.int .i64 v1c)).setCell ⟨xb, 1, none⟩ (.int .i64 v1s)) := (F4.out.setCell (p := ⟨xb, 0, none⟩) lx _).setCell (p := ⟨xb, 1, none⟩) lx _
     generalize ((w4q.setCell ⟨xb, 0, none⟩ (.int .i64 v1c)).setCell ⟨xb, 1, none⟩ (.int .i64 v1s)) = ws at bx bY fs ⊢
     have x2 := bY.cell (i := 0) rfl
     have x3 := bY.cell (i := 1) rfl
     have x0 := bY.fz 0
     have x1 := bY.fz 1
     refine wpF_ol rfl (by kernel_rfl) rfl (fun K hK => ?_)
     go_simp
     refine hK _ _ ?_
     clear hK K x0 x1 x2 x3
     refine wpF_nil ?_
     exact cont xb yb _ (Lib.hid ⟨((fs.setCell (p := ⟨yb, 0, none⟩) ly _).setCell (p := ⟨yb, 1, none⟩) ly _), (bx.setOther (a := ⟨yb, 0, none⟩) ne _).setOther (a := ⟨yb, 1, none⟩) ne _, (bY.set 0 (.int .i64 v2c)).set 1 (.int .i64 v2s)⟩)
    ·
     go_simp
     refine hK _ _ (.inr ((Fut.refl _).alloc _)) ?_
     clear hK K
     obtain ⟨w3q, hwq⟩ : ∃ q, q = w2q.alloc (.cells #[.int .i64 0, .int .i64 0] 37) := ⟨_, rfl⟩
     obtain ⟨xb, hvb⟩ : ∃ q, q = w2q.heap.size := ⟨_, rfl⟩
     rw [← hwq, ← hvb]
     have Lx := Lib.hid (show wb.heap.size ≤ xb from by rw [hvb]; exact F2.out.size)
     have F3 := Lib.hid (show Fut wb w3q from by rw [hwq]; exact F2.out.alloc _)
     have Bx3 := Lib.hid (show Blk w3q xb 37 #[.int .i64 0, .int .i64 0] from by rw [hwq, hvb]; exact Blk.new _ _ _)
     have NE := Lib.hid (show yb < xb from by rw [hvb]; exact By2.out.lt)
     have By3 := Lib.hid (show Blk w3q yb 37 #[.int .i64 0, .int .i64 0] from by rw [hwq]; exact By2.out.alloc _)
     clear hwq hvb
     refine wpF_o rfl rfl (fun K hK => ?_)
     go_simp
     go_at_call 17
     refine (HVA2'.out _ (HF.out.trans F3.out)).mono ?_
     rintro r1 w4q ⟨rfl, hb⟩
     have f1 : Fut w3q w4q := hb
     refine hK _ _ (.inr f1) ?_
     have F4 := Lib.hid (F3.out.trans f1)
     have Bx4 := Lib.hid (Bx3.out.fut f1)
     have By4 := Lib.hid (By3.out.fut f1)
     clear hb f1 hK K
     have x2 := Bx4.out.cell (i := 0) rfl
     have x3 := Bx4.out.cell (i := 1) rfl
     have x0 := Bx4.out.fz 0
     have x1 := Bx4.out.fz 1
     refine wpF_ol rfl (by kernel_rfl) rfl (fun K hK => ?_)
     go_simp
     refine hK _ _ ?_
     clear hK K x0 x1 x2 x3
     have lx := Lx.out
     have ly := Ly.out
     have ne : xb ≠ yb := by have := NE.out; omega
     have bx : Blk ((w4q.setCell ⟨xb, 0, none⟩ (.int .i64 v1c)).setCell ⟨xb, 1, none⟩ (.int .i64 v1s)) xb 37 #[.int .i64 v1c, .int .i64 v1s] := (Bx4.out.set 0 (.int .i64 v1c)).set 1 (.int .i64 v1s)
     have bY : Blk ((w4q.setCell ⟨xb, 0, none⟩ (.int .i64 v1c)).setCell ⟨xb, 1, none⟩ (.int .i64 v1s)) yb 37 #[.int .i64 0, .int .i64 0] := (By4.out.setOther (a := ⟨xb, 0, none⟩) ne.symm _).setOther (a := ⟨xb, 1, none⟩) ne.symm _
     have fs : Fut wb ((w4q.setCell ⟨xb, 0, none⟩ (.int .i64 v1c)).setCell ⟨xb, 1, none⟩ (.int .i64 v1s)) := (F4.out.setCell (p := ⟨xb, 0, none⟩) lx _).setCell (p := ⟨xb, 1, none⟩) lx _
     generalize ((w4q.setCell ⟨xb, 0, none⟩ (.int .i64 v1c)).setCell ⟨xb, 1, none⟩ (.int .i64 v1s)) = ws at bx bY fs ⊢
     have x2 := bY.cell (i := 0) rfl
     have x3 := bY.cell (i := 1) rfl
     have x0 := bY.fz 0
     have x1 := bY.fz 1
     refine wpF_ol rfl (by kernel_rfl) rfl (fun K hK => ?_)
     go_simp
     refine hK _ _ ?_
     clear hK K x0 x1 x2 x3
     refine wpF_nil ?_
     exact cont xb yb _ (Lib.hid ⟨((fs.setCell (p := ⟨yb, 0, none⟩) ly _).setCell (p := ⟨yb, 1, none⟩) ly _), (bx.setOther (a := ⟨yb, 0, none⟩) ne _).setOther (a := ⟨yb, 1, none⟩) ne _, (bY.set 0 (.int .i64 v2c)).set 1 (.int .i64 v2s)⟩)
   ·
    go_simp
    refine hK _ _ (.inr ((Fut.refl _).alloc _)) ?_
    clear hK K
    obtain ⟨w2q, hwq⟩ : ∃ q, q = w1q.alloc (.cells #[.int .i64 0, .int .i64 0] 37) := ⟨_, rfl⟩
    obtain ⟨xb, hvb⟩ : ∃ q, q = w1q.heap.size := ⟨_, rfl⟩
    rw [← hwq, ← hvb]
    have Lx := Lib.hid (show wb.heap.size ≤ xb from by rw [hvb]; exact F1.out.size)
    have F2 := Lib.hid (show Fut wb w2q from by rw [hwq]; exact F1.out.alloc _)
    have Bx2 := Lib.hid (show Blk w2q xb 37 #[.int .i64 0, .int .i64 0] from by rw [hwq, hvb]; exact Blk.new _ _ _)
    have NE := Lib.hid (show yb < xb from by rw [hvb]; exact By1.out.lt)
    have By2 := Lib.hid (show Blk w2q yb 37 #[.int .i64 0, .int .i64 0] from by rw [hwq]; exact By1.out.alloc _)
    clear hwq hvb
    refine wpF_o rfl rfl (fun K hK => ?_)
    go_simp
    go_at_call 17
    refine (HVA1'.out _ (HF.out.trans F2.out)).mono ?_
    rintro r1 w3q ⟨rfl, hb⟩
    have f1 : Fut w2q w3q := hb
    refine hK _ _ (.inr f1) ?_
    have F3 := Lib.hid (F2.out.trans f1)
    have Bx3 := Lib.hid (Bx2.out.fut f1)
    have By3 := Lib.hid (By2.out.fut f1)
    clear hb f1 hK K
    refine wpF_o rfl rfl (fun K hK => ?_)
    go_simp
    go_at_call 17
    refine (HVA2'.out _ (HF.out.trans F3.out)).mono ?_
    rintro r1 w4q ⟨rfl, hb⟩
    have f1 : Fut w3q w4q := hb
    refine hK _ _ (.inr f1) ?_
    have F4 := Lib.hid (F3.out.trans f1)
    have Bx4 := Lib.hid (Bx3.out.fut f1)
    have By4 := Lib.hid (By3.out.fut f1)
    clear hb f1 hK K
    have x2 := Bx4.out.cell (i := 0) rfl
    have x3 := Bx4.out.cell (i := 1) rfl
    have x0 := Bx4.out.fz 0
    have x1 := Bx4.out.fz 1
    refine wpF_ol rfl (by kernel_rfl) rfl (fun K hK => ?_)
    go_simp
    refine hK _ _ ?_
    clear hK K x0 x1 x2 x3
    have lx := Lx.out
    have ly := Ly.out
    have ne : xb ≠ yb := by have := NE.out; omega
    have bx : Blk ((w4q.setCell ⟨xb, 0, none⟩ (.int .i64 v1c)).setCell ⟨xb, 1, none⟩ (.int .i64 v1s)) xb 37 #[.int .i64 v1c, .int .i64 v1s] := (Bx4.out.set 0 (.int .i64 v1c)).set 1 (.int .i64 v1s)
    have bY : Blk ((w4q.setCell ⟨xb, 0, none⟩ (.int .i64 v1c)).setCell ⟨xb, 1, none⟩ (.int .i64 v1s)) yb 37 #[.int .i64 0, .int .i64 0] := (By4.out.setOther (a := ⟨xb, 0, none⟩) ne.symm _).setOther (a := ⟨xb, 1, none⟩) ne.symm _
    have fs : Fut wb ((w4q.setCell ⟨xb, 0, none⟩ (.int .i64 v1c)).setCell ⟨xb, 1, none⟩ (.int .i64 v1s)) := (F4.out.setCell (p := ⟨xb, 0, none⟩) lx _).setCell (p := ⟨xb, 1, none⟩) lx _
    generalize ((w4q.setCell ⟨xb, 0, none⟩ (.int .i64 v1c)).setCell ⟨xb, 1, none⟩ (.int .i64 v1s)) = ws at bx bY fs ⊢
    have x2 := bY.cell (i := 0) rfl
    have x3 := bY.cell (i := 1) rfl
    have x0 := bY.fz 0
    have x1 := bY.fz 1
    refine wpF_ol rfl (by kernel_rfl) rfl (fun K hK => ?_)
    go_simp
    refine hK _ _ ?_
    clear hK K x0 x1 x2 x3
    refine wpF_nil ?_
    exact cont xb yb _ (Lib.hid ⟨((fs.setCell (p := ⟨yb, 0, none⟩) ly _).setCell (p := ⟨yb, 1, none⟩) ly _), (bx.setOther (a := ⟨yb, 0, none⟩) ne _).setOther (a := ⟨yb, 1, none⟩) ne _, (bY.set 0 (.int .i64 v2c)).set 1 (.int .i64 v2s)⟩)
end Go.Proofs.YtajbmdjlfniofaaDoor
