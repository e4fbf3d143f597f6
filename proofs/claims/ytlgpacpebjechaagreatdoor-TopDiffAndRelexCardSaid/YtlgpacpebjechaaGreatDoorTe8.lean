/-
  The tokens after an edit: what Update begins with.
-/
import Derived.Test.YtlgpacpebjechaaGreatDoorTe7
import Derived.Test.YtlgpacpebjechaaGreatDoorTd3
import Derived.Deep.DeepCutAuto
namespace Go.Proofs.YtlgpacpebjechaaGreatDoor
open Go.RowKit Go.Deep PLX
attribute [local go_sem] Oper.lit Oper.litS fut_fut fut_drew World.cell?_alloc_some
theorem startN_eq {M : AU} {x : List Nat} {L : List TK} (h : Lx M 0 x (L.map TK.tok)) {i : Nat} (hi : i ≤ L.length) : startN L i = tlen ((L.map TK.tok).take i) := by
  unfold startN
  rcases Nat.lt_or_ge i L.length with h1 | h1
  · obtain ⟨t, ht⟩ := get_lt rfl h1
    rw [ht]
    have := Lx.pos h i t.tok (by rw [List.getElem?_map, ht]; rfl)
    simpa [TK.tok] using this
  · obtain rfl : i = L.length := by omega
    rw [List.getElem?_eq_none (Nat.le_refl _)]
    simp only
    rcases Nat.eq_zero_or_pos L.length with h2 | h2
    · rw [List.length_eq_zero_iff.1 h2]; rfl
    · obtain ⟨t, ht⟩ := get_lt rfl (show L.length - 1 < L.length by omega)
      rw [ht]
      have hk : (L.map TK.tok)[L.length - 1]? = some t.tok := by rw [List.getElem?_map, ht]; rfl
      have h3 := Lx.pos h _ t.tok hk
      have h4 := tlen_next _ _ _ hk
      rw [show L.length - 1 + 1 = L.length by omega] at h4
      have h5 : t.tok.text.length = t.s.size := bl_len _
      have h6 : t.tok.at_ = t.a := rfl
      simp only
      omega
theorem tlen_many : ∀ (ts : List Tok), (∀ t ∈ ts, 1 ≤ t.text.length) → ts.length ≤ tlen ts
  | [], _ => Nat.le_refl _
  | t :: ts, h => by
    have h1 := tlen_many ts (fun u hu => h u (List.mem_cons_of_mem _ hu))
    have h2 := h t (List.mem_cons_self ..)
    rw [tlen_cons, List.length_cons]
    omega
/-- a token moved -/
def TK.mv (z : Int) (t : TK) : TK := ⟨t.k, (t.a + z).toNat, t.s, t.l⟩
theorem mv_tok (z : Int) (t : TK) : (t.mv z).tok = Tok.shift z t.tok := rfl
theorem apply_bl (x : ByteArray) (e : EI) (h : e.a + e.d ≤ x.size) : bl (x.extract 0 e.a ++ e.s ++ x.extract (e.a + e.d) x.size) = ap (bl x) e.ed := by
  rw [bl_append, bl_append, bl_extract _ _ _ (by omega), bl_extract _ _ _ (Nat.le_refl _)]
  unfold ap EI.ed
  rw [List.drop_zero, Nat.sub_zero]
  congr 1
  rw [List.take_of_length_le]
  rw [List.length_drop, bl_len]; omega
theorem run_load0 (a : Addr) (acc : Array Value) (w : World) : (loadCellsFrom a 0 0 acc).run Tryz.prog w = .ok acc w := rfl
attribute [local go_sem] run_load0
section
variable {w : World} {ops : Array Oper} {rest : List Oper} {o : Oper} {a : Act} {Q : Exit → Act → World → Prop}
/-- tokens of another slice are appended to a slice of the call's own -/
theorem wpList_takeT (hgd : o.guard = none) (s x : Operand) (ho : o.op = .call { callee := .builtin .append, args := #[s, x], argTypes := #[34, 34] })
    (B : Nat) (v : Value) (T U : List TK) (hs : a.eval s = v) (hown : OwnT w B v T) (b o' m c r : Nat) (hr : T.length + m = r) (hx : a.eval x = .slice (some ⟨b, o', none⟩) m c) (hU : U.length = m) (hR : RdS w (some ⟨b, o', none⟩) 4 encT U)
    (hm : 0 < m) (hlen : T.length + m ≤ 100000000000) (hB : B ≤ w.heap.size)
    (h : ∀ g cap w', OwnT w' B (.slice (some ⟨g, 0, none⟩) r cap) (T ++ U) → w.grownBy w' v.ownBlock → (v.ownBlock = some g ∨ g = w.heap.size) → wpList Tryz.prog ops Q rest (a.put o.dst (.slice (some ⟨g, 0, none⟩) r cap)) w') :
    wpList Tryz.prog ops Q (o :: rest) a w := by
  subst hr
  obtain ⟨i1, ki, kz0, kz1, kz2⟩ := info_parts info_tok
  refine wpList_append_lies _ hgd s x 34 ho B 48 i1 _ 4 40 Tryz.underlying34 ki kz0 kz1 kz2 rfl (by decide) v T.length (T.flatMap encT) hs hown ⟨b, o', none⟩ m c (U.flatMap encT) hx (by rw [flat_len encT 4 encT_len, hU]) (RdS.news encT_len hR) ?_ hm ?_ ?_ hB w.heap.size rfl ?_
  · intro u hu
    obtain ⟨t, _, ht⟩ := List.mem_flatMap.1 hu
    simp only [encT, tokv, List.mem_cons, List.not_mem_nil, or_false] at ht
    rcases ht with rfl | rfl | rfl | rfl <;> rfl
  · unfold maxLen; omega
  · omega
  · intro g cap w' h1 h2 h3 _
    refine h g cap w' ?_ h2 h3
    unfold OwnT
    rw [List.length_append, hU, List.flatMap_append]
    exact h1
end
theorem RdS.take {α : Type} {w : World} {A : Option Addr} {sz : Nat} {enc : α → List Value} {l : List α} (h : RdS w A sz enc l) (k : Nat) : RdS w A sz enc (l.take k) := fun i a hi => by
  refine h i a ?_
  rw [List.getElem?_take] at hi
  split at hi
  · exact hi
  · cases hi
/-- an old token is passed over -/
def skipB (L : List TK) (ea ed z at_ i : Nat) : Bool := match L[i]? with
  | some t => decide (t.a < ea + ed) || decide (t.a + z < at_ + ed)
  | none => false
theorem RdS.drop {α : Type} {w : World} {a : Addr} {sz : Nat} {enc : α → List Value} {l : List α} (h : RdS w (some a) sz enc l) (k : Nat) : RdS w (some (a.add (k * sz))) sz enc (l.drop k) := fun i x hi => by
  obtain ⟨b, o, e, hc⟩ := h (k + i) x (by rw [← List.getElem?_drop]; exact hi)
  obtain rfl := Option.some.inj e
  have e3 : (⟨b, o, none⟩ : Addr).add (k * sz) = ⟨b, o + k * sz, none⟩ := by unfold Addr.add; split <;> simp_all
  refine ⟨b, o + k * sz, by rw [e3], fun j u hj hu => ?_⟩
  have := hc j u hj hu
  rwa [Nat.add_mul, ← Nat.add_assoc] at this
theorem OwnT.futS {S : Nat → Bool} {w w' : World} {B : Nat} {v : Value} {xs : List TK} (h : OwnT w B v xs) (hf : FutS S w w') (hS : ∀ k, v.ownBlock = some k → S k = false) : OwnT w' B v xs := by
  refine ⟨h.1, ?_⟩
  rcases h.2 with hn | ⟨g, cap, cur, rfl, hb, hg, rest⟩
  · exact .inl hn
  · exact .inr ⟨g, cap, cur, rfl, hb, (hf.block g (Array.getElem?_eq_some_iff.1 hg).1 (hS g rfl)).trans hg, rest⟩
theorem upd_res : Tryz.f12.results = #[.tmp 6, .cell 7 53, .tmp 8] := by kernel_rfl
theorem res_cell3 {P : Program} {fn : Func} {o p q : Tmp} {ty : TypeId} (h : fn.results = #[.tmp o, .cell p ty, .tmp q]) (tmps : Array Value) (w : World) (g : Nat) (t : TypeId) (cs : Array Value) (fr : Nat × Nat) (d : TypeDesc)
    (hp : tmps.getD p undef = .pointer (some ⟨g, 0, none⟩)) (hg : w.heap[g]? = some (.cells cs t fr))
    (hu : P.underlying ty = some d) (hd : (match d with | .struct _ | .array _ _ => true | _ => false) = true) (hi : (P.info? ty).map (·.size) = some cs.size) :
    (results fn tmps).run P w = .ok (.tuple #[tmps.getD o undef, .agg cs, tmps.getD q undef]) w := by
  have hp' : tmps[p]?.getD undef = .pointer (some ⟨g, 0, none⟩) := by simpa using hp
  simp [results, h, hp', asAddr, run_loadVar_row w g t ty cs fr d hg hu hd hi]
theorem upd_ret {R : Ending → World → Prop} {wx : World} {tmps : Array Value} {u : Value} {g : Nat} {x y z : Value} (h6 : tmps.getD 6 undef = u) (h7 : tmps.getD 7 undef = .pointer (some ⟨g, 0, none⟩)) (h8 : tmps.getD 8 undef = .int .i64 0)
    (hB : Blk wx g 53 #[x, y, z]) (hR : R (.returned (.tuple #[u, .agg #[x, y, z], .int .i64 0])) wx) : bodyPost Tryz.prog Tryz.f12 R .ret { tmps := tmps, defers := [] } wx := by
  refine bodyPost_ret (res_cell3 upd_res _ _ g _ _ _ _ h7 hB Tryz.underlying53 rfl (by kernel_rfl)) rfl ?_
  rw [h6, h8]
  exact hR
theorem OwnT.cap {w : World} {B : Nat} {A : Option Addr} {n c : Nat} {xs : List TK} (h : OwnT w B (.slice A n c) xs) : n ≤ c := by
  rcases h.2 with ⟨h1, _⟩ | ⟨g, cap, cur, h1, _, _, h2, _⟩
  · injection h1 with _ h3 h4; omega
  · injection h1 with _ h3 h4; omega
/-- a struct of three cells is stored -/
theorem store3 {S : Nat → Bool} (w : World) (b : Nat) (x y z : Value) {p q r : Value} (hS : S b = true) (hB : Blk w b 53 #[p, q, r]) :
    FutS S w.drew (((w.setCell ⟨b, 0, none⟩ x).setCell ⟨b, 1, none⟩ y).setCell ⟨b, 2, none⟩ z).drew ∧ FutS S w (((w.setCell ⟨b, 0, none⟩ x).setCell ⟨b, 1, none⟩ y).setCell ⟨b, 2, none⟩ z).drew ∧ Blk (((w.setCell ⟨b, 0, none⟩ x).setCell ⟨b, 1, none⟩ y).setCell ⟨b, 2, none⟩ z).drew b 53 #[x, y, z] := by
  have h : FutS S w (((w.setCell ⟨b, 0, none⟩ x).setCell ⟨b, 1, none⟩ y).setCell ⟨b, 2, none⟩ z) := (((FutS.refl w).setCell (.inl hS) x).setCell (.inl hS) y).setCell (.inl hS) z
  exact ⟨⟨h.os, h.tape, h.output, h.size, h.block⟩, h.drew, ((hB.set 0 x).set 1 y).set 2 z⟩
theorem keep_of_fut {w w' : World} (h : Fut w w') : ∀ k, k < w.heap.size → w'.heap[k]? = w.heap[k]? := fun k hk => h.block k hk
set_option maxHeartbeats 6400000 in
set_option maxRecDepth 100000 in
theorem update_any (p : DP) (D : DA) (hD : D.OK) (x : List Nat) (L : List TK) (A : Option Addr) (n c : Nat) (e : EI) (w : World)
    (hl : L.length = n) (hLx : Lx D.au 0 x (L.map TK.tok)) (hx : x.length ≤ 1000) (hs : e.s.size ≤ 1000) (he : e.a + e.d ≤ x.length)
    (hR : RdA w p D) (hS : RdS w A 4 encT L) (hc : n ≤ c) :
    Calls Tryz.prog 12 #[dval p D.n, .slice A n c, edv e] w fun r w' => ∃ (L' : List TK) (A' : Option Addr) (c' : Nat) (x1 x2 x3 : Int), r = .returned (.tuple #[.slice A' L'.length c', .agg #[.int .i64 x1, .int .i64 x2, .int .i64 x3], .int .i64 0]) ∧ Lx D.au 0 (ap x e.ed) (L'.map TK.tok) ∧ L'.length ≤ c' ∧ OwnT w' w.heap.size (.slice A' L'.length c') L' ∧ Fut w w' := by
  have HED := Lib.hid (show e.ed = ⟨e.a, e.d, bl e.s⟩ from rfl)
  have HAP := Lib.hid (fun (y : ByteArray) (h : bl y = x) => show bl (y.extract 0 e.a ++ e.s ++ y.extract (e.a + e.d) y.size) = ap x e.ed from by rw [apply_bl y e (by rw [← bl_len, h]; exact he), h])
  have HLEN := Lib.hid (show (ap x e.ed).length + e.d = x.length + e.s.size from by
    have := ap_len x e.ed he
    have h2 : e.ed.ins.length = e.s.size := bl_len _
    have h3 : e.ed.d = e.d := rfl
    omega)
  have HFIN := Lib.hid (fun (out : List Tok) (q k : Nat) (ho : Outs D.au (ap x e.ed) q out) (hp : e.a + e.s.size ≤ q) (hq : tlen ((L.map TK.tok).take k) + e.s.size = q + e.d) => show Lx D.au 0 (ap x e.ed) (out ++ ((L.map TK.tok).drop k).map (Tok.shift ((e.s.size : Int) - e.d))) from by
    have := Outs.finish hLx (e := e.ed) he ho (by show e.a + (bl e.s).length ≤ q; rw [bl_len]; exact hp) (by show _ + (bl e.s).length = q + e.d; rw [bl_len]; exact hq)
    rwa [show ((e.ed.ins.length : Int) - e.ed.d) = (e.s.size : Int) - e.d from by show (((bl e.s).length : Nat) : Int) - _ = _; rw [bl_len]; rfl] at this)
  have HST := Lib.hid (fun (k : Nat) (hk : ∀ t ∈ L.take k, t.a + t.l ≤ e.a) => show Outs D.au (ap x e.ed) (tlen ((L.map TK.tok).take k)) ((L.map TK.tok).take k) from by
    refine Outs.start hLx (e := e.ed) he (fun t ht => ?_)
    rw [← List.map_take] at ht
    obtain ⟨t', h1, rfl⟩ := List.mem_map.1 ht
    exact hk t' h1)
  have HSE := Lib.hid (fun (i : Nat) (hi : i ≤ n) => startN_eq hLx (show i ≤ L.length by rw [hl]; exact hi))
  have HBD := Lib.hid (fun (t : TK) (ht : t ∈ L) => show t.a + t.s.size ≤ x.length ∧ t.l ≤ x.length + 1 ∧ 1 ≤ t.s.size from by
    have h1 := Lx.bounds hLx t.tok (List.mem_map_of_mem ht)
    have h5 : t.tok.text.length = t.s.size := bl_len _
    have h6 : t.tok.at_ = t.a := rfl
    have h7 : t.tok.look = t.l := rfl
    omega)
  have hnx : n ≤ x.length := by
    have := Lx.many hLx
    rw [List.length_map, hl] at this
    exact this
  have HW := Lib.hid (Lx.whole hLx)
  have HTX := Lib.hid (Lx.text D.au hLx)
  have HL := Lib.hid hl
  have HLX := Lib.hid hLx
  have HR := Lib.hid hR
  have HS := Lib.hid hS
  have HD := Lib.hid hD
  have HTE := Lib.hid (fun (wy : World) (hf : Fut w wy) => text_any L A n c wy hl (by omega) (by rw [Lx.whole hLx]; omega) (hS.fut hf))
  have HPR := Lib.hid (fun (wy : World) (hf : Fut w wy) => prefix_any L A n c e.a wy hl (by omega) (by omega) (fun t ht => by have := HBD.out t ht; omega) (hS.fut hf))
  have HSA := Lib.hid (fun (wy : World) (hf : Fut w wy) (i : Nat) (hi : i ≤ n) => start_any L A n c i wy hl (by omega) (by omega) (fun t ht => by have := HBD.out t ht; omega) (hS.fut hf))
  have HAY := Lib.hid (fun (y : ByteArray) (hy : bl y = x) (wy : World) => apply_any y e wy (by rw [← bl_len, hy]; omega) (by omega) (by rw [← bl_len, hy]; exact he))
  clear hl hLx hR hS hD
  obtain ⟨ea, ed, es⟩ := e
  simp only at *
  obtain ⟨nD, hnD⟩ : ∃ q, D.n = q := ⟨_, rfl⟩
  have HND := Lib.hid hnD
  rw [hnD]
  clear hnD
  go_enter Tryz.func12, Tryz.ntmps12
  go_wp2_with fail
  obtain ⟨wb, hwb⟩ : ∃ q, q = ((w.alloc (.cells #[.slice (some ⟨p.C, 0, none⟩) 256 p.cc, .slice (some ⟨p.N, 0, none⟩) nD p.cn, .slice (some ⟨p.A, 0, none⟩) nD p.ca] 30)).alloc (.cells #[.int .i64 ea, .int .i64 ed, .string es] 57)).alloc (.cells #[.int .i64 0, .int .i64 0, .int .i64 0] 53) := ⟨_, rfl⟩
  rw [← hwb]
  have HF := Lib.hid (show Fut w wb from by rw [hwb]; exact (((Fut.refl w).alloc _).alloc _).alloc _)
  have HB0 := Lib.hid (show Blk wb w.heap.size 30 #[.slice (some ⟨p.C, 0, none⟩) 256 p.cc, .slice (some ⟨p.N, 0, none⟩) nD p.cn, .slice (some ⟨p.A, 0, none⟩) nD p.ca] from by rw [hwb]; (repeat (first | exact heap_new' _ _ _ (by first | rfl | (simp only [World.size_alloc])) | refine (blk_alloc_lt _ _ _ (by first | omega | (simp only [World.size_alloc]; omega))).trans ?_)))
  have HB1 := Lib.hid (show Blk wb (w.heap.size + 1) 57 #[.int .i64 ea, .int .i64 ed, .string es] from by rw [hwb]; (repeat (first | exact heap_new' _ _ _ (by first | rfl | (simp only [World.size_alloc])) | refine (blk_alloc_lt _ _ _ (by first | omega | (simp only [World.size_alloc]; omega))).trans ?_)))
  have HB2 := Lib.hid (show Blk wb (w.heap.size + 1 + 1) 53 #[.int .i64 0, .int .i64 0, .int .i64 0] from by rw [hwb]; (repeat (first | exact heap_new' _ _ _ (by first | rfl | (simp only [World.size_alloc])) | refine (blk_alloc_lt _ _ _ (by first | omega | (simp only [World.size_alloc]; omega))).trans ?_)))
  have HZB := Lib.hid (show wb.heap.size = w.heap.size + 3 from by rw [hwb]; simp only [World.size_alloc])
  clear hwb
  have e0 := cell_fut (HB1.out.cell (i := 0) rfl)
  have e1 := cell_fut (HB1.out.cell (i := 1) rfl)
  have e2 := cell_fut (HB1.out.cell (i := 2) rfl)
  refine wp_region_M o_relex_Update_1 (by kernel_rfl) (by kernel_rfl) (by intro c a d v w h; cases d <;> exact h) ?_; unfold o_relex_Update_1
  iterate 2 (refine wpF_h rfl rfl (fun K hK => ?_); go_simp; refine hK _ _ ?_; clear hK K)
  refine wpF_o rfl rfl (fun K hK => ?_)
  go_simp
  go_at_call 13
  refine (HTE.out _ HF.out.drew).mono ?_
  rintro r w1 ⟨y, rfl, hy, hf1⟩
  refine hK _ _ (.inr hf1) ?_
  clear hK K
  have HY := Lib.hid (hy.trans HTX.out)
  have HF1 := Lib.hid ((Fut.refl wb).drew.trans hf1)
  clear hy hf1 HTE
  have HY2 := Lib.hid (HAP.out y HY.out)
  refine wpF_o rfl rfl (fun K hK => ?_)
  go_simp
  go_at_call 26
  refine (HAY.out y HY.out _).mono ?_
  rintro r w2 ⟨rfl, hf2⟩
  refine hK _ _ (.inr hf2) ?_
  clear hK K
  have HF2 := Lib.hid (HF1.out.trans hf2)
  clear hf2 HF1 HAY
  obtain ⟨tx, htx⟩ : ∃ q, y.extract 0 ea ++ es ++ y.extract (ea + ed) y.size = q := ⟨_, rfl⟩
  rw [htx] at HY2
  rw [htx]
  clear htx HAP HY
  iterate 5 (refine wpF_h rfl rfl (fun K hK => ?_); go_simp; refine hK _ _ ?_; clear hK K)
  refine wpF_nil ?_
  clear e0 e1 e2
  have c0 := (HB0.out.fut HF2.out).cell (i := 0) rfl
  have c1 := (HB0.out.fut HF2.out).cell (i := 1) rfl
  have c2 := (HB0.out.fut HF2.out).cell (i := 2) rfl
  go_wp2_with fail
  refine (scanner_any p nD tx _).mono ?_
  rintro r w3 ⟨rfl, hs1, hs2, hf3, hz3⟩
  have HF3 := Lib.hid (HF2.out.trans hf3)
  have HSC1 := Lib.hid hs1
  have HSC2 := Lib.hid hs2
  clear c0 c1 c2 hs1 hs2 hf3 hz3
  have c0 := (HB1.out.fut HF3.out).cell (i := 0) rfl
  go_wp2_with fail
  refine (HPR.out _ (HF.out.trans HF3.out)).mono ?_
  rintro r w4 ⟨k, rfl, hk, hk2, hf4⟩
  have HF4 := Lib.hid (HF3.out.trans hf4)
  have HSC3 := Lib.hid (HSC1.out.fut hf4)
  have HSC4 := Lib.hid (HSC2.out.fut hf4)
  have HK2 := Lib.hid hk2
  clear c0 hk2 hf4 HSC1 HSC2 HPR
  have c1 := (HB1.out.fut HF4.out).cell (i := 1) rfl
  have c2 := (HB1.out.fut HF4.out).cell (i := 2) rfl
  have hsh : IntKind.i64.wrap ((es.size : Int) - ed) = (es.size : Int) - ed := by rw [IntKind.wrap_i64]; omega
  go_wp2_with fail
  refine (HSA.out _ (HF.out.trans HF4.out) k hk).mono ?_
  rintro r w5 ⟨rfl, hf5⟩
  have HF5 := Lib.hid (HF4.out.trans hf5)
  have HSC5 := Lib.hid (HSC3.out.fut hf5)
  have HSC6 := Lib.hid (HSC4.out.fut hf5)
  clear c1 c2 hf5 HSC3 HSC4
  go_upto_region 8 with fail
  go_cut [16] (fun v wc => Hid (OwnT wc w5.heap.size v (L.take k)) ∧ Hid (Fut w5 wc))
  case first =>
    rcases Nat.eq_zero_or_pos k with hk0 | hk0
    · subst hk0
      cases A with
      | none =>
        go_wp2_with fail
        go_meet
        exact ⟨Lib.hid (OwnT.nil _ _), Lib.hid (Fut.refl _)⟩
      | some A =>
        go_wp2_with fail
        go_meet
        exact ⟨Lib.hid (OwnT.nil _ _), Lib.hid (Fut.refl _)⟩
    · obtain ⟨t0, ht0⟩ := get_lt HL.out (show 0 < n by omega)
      obtain ⟨b, o, rfl, _⟩ := HS.out 0 t0 ht0
      go_wp2_with (refine wpList_takeT rfl (.const (.slice none 0 0)) (.tmp 51) rfl w5.heap.size _ [] (L.take k) rfl (OwnT.nil _ _) b o k c k (Nat.zero_add _) rfl (by rw [List.length_take, HL.out]; omega) (RdS.take (HS.out.fut (HF.out.trans HF5.out)) k) hk0 (by simp only [List.length_nil]; omega) (Nat.le_refl _) ?_)
      intro g cap w' k1 k2 k3
      have HK1 := Lib.hid k1
      have HF6 := Lib.hid (Below.grown (Fut.refl w5) k2 (Nat.le_refl _) (fun kk hkk => by cases hkk))
      clear k1 k2 k3
      go_wp2_with fail
      go_meet
      exact ⟨HK1, HF6⟩
  case rest =>
    obtain ⟨HO, HFC⟩ := hcut
    have hTS := HLEN.out
    rw [← HY2.out, bl_len] at hTS
    have HBE := Lib.hid (HB1.out.fut HF5.out)
    have HBC := Lib.hid (HB2.out.fut HF5.out)
    have HW5 := Lib.hid (HF.out.trans HF5.out)
    have HSCAN := Lib.hid (fun (q : Nat) (hq : q < tx.size) (wy : World) (hf : Fut w5 wy) => show Calls Tryz.prog 48 #[.int .i64 q, .pointer (some ⟨w2.heap.size + 1, 0, none⟩), .pointer (some ⟨w2.heap.size, 0, none⟩)] wy fun e w' => e = .returned (.agg #[.int .i64 (nextT D tx q).k, .int .i64 (nextT D tx q).a, .string (nextT D tx q).s, .int .i64 (nextT D tx q).l]) ∧ Fut wy w' from
      scan1_any p D HD.out tx q w2.heap.size (w2.heap.size + 1) wy (by omega) hq (HR.out.fut (HW5.out.trans hf)) (by rw [HND.out]; exact HSC5.out.fut hf) (HSC6.out.fut hf))
    have hk4 := HSE.out k hk
    have hk5 : startN L k ≤ x.length := by rw [hk4, ← HW.out]; exact tlen_take_le _ _
    have HOU := Lib.hid (HST.out k HK2.out)
    rw [← hk4] at HOU
    have HKL := Lib.hid (show (L.take k).length ≤ startN L k from by
      rw [hk4, ← List.map_take]
      have h9 := tlen_many ((L.take k).map TK.tok) (fun u hu => ?_)
      · rw [List.length_map] at h9; exact h9
      obtain ⟨t, h1, rfl⟩ := List.mem_map.1 hu
      have := (HBD.out t (List.mem_of_mem_take h1)).2.2
      have h2 : t.tok.text.length = t.s.size := bl_len _
      omega)
    have hk6 : startN L k ≤ ea := by
      rw [hk4]
      refine Lx.ahead HLX.out k (fun u hu => ?_)
      rw [← List.map_take] at hu
      obtain ⟨t, h1, rfl⟩ := List.mem_map.1 hu
      exact HK2.out t h1
    clear hk4 HST HK2 HB0 HB1 HB2 HF2 HF3 HF4 HF5 HSC5 HSC6 HLEN HF
    go_wp2_with fail
    go_loopw [14, 15, 16] (fun at_ sf v wr => ∃ (at' sf' : Nat) (O : List TK), at_ = .int .i64 at' ∧ sf = .int .i64 sf' ∧ sf' ≤ n ∧ at' ≤ tx.size ∧ Hid (Outs D.au (ap x (EI.mk ea ed es).ed) at' (O.map TK.tok)) ∧ Hid (O.length ≤ at') ∧ Hid (OwnT wr w5.heap.size v O) ∧ Hid (Fut w5 wr)) (fun at_ _ _ _ => tx.size - (intOf at_).toNat)
    case atStart => exact ⟨startN L k, k, L.take k, rfl, rfl, hk, by omega, Lib.hid (by rw [List.map_take]; exact HOU.out), HKL, HO, HFC⟩
    case round =>
      obtain ⟨at', sf', O, rfl, rfl, hsf, hat, HOU2, HOL, HOW, HFW⟩ := hrel
      have HX1 := Lib.hid hTS
      have HX2 := Lib.hid hk6
      clear hk6 hk5
      go_wp2_with fail
      obtain ⟨wo, rfl⟩ : ∃ q, q = wr := ⟨_, rfl⟩
      go_loopw [15] (fun sf wr => ∃ sf' : Nat, sf = .int .i64 sf' ∧ sf' ≤ n ∧ Hid (Fut wo wr)) (fun sf _ => n - (intOf sf).toNat)
      case atStart => exact ⟨sf', rfl, hsf, Lib.hid (Fut.refl _)⟩
      case round =>
        obtain ⟨s2, rfl, hs2, HFI⟩ := hrel
        obtain ⟨cb, hcb⟩ : ∃ cb, skipB L ea ed es.size at' s2 = cb := ⟨_, rfl⟩
        have HCB := Lib.hid hcb
        clear hcb
        go_upto_region 9 with fail
        go_cut [80] (fun v wx => v = .bool cb ∧ Hid (Fut wo wx))
        case first =>
          by_cases hlt : s2 < n
          · obtain ⟨t, ht⟩ := get_lt HL.out hlt
            obtain ⟨b, o, rfl, hc⟩ := HS.out s2 t ht
            have HCT : Hid ((decide (t.a < ea + ed) || decide (t.a + es.size < at' + ed)) = cb) := Lib.hid (by have h9 := HCB.out; unfold skipB at h9; rw [ht] at h9; exact h9)
            have hts := HBD.out t (List.mem_of_getElem? ht)
            have HFX := Lib.hid (HFW.out.trans HFI.out)
            have c1 : ∀ dd os, (fut wr dd os).cell? ⟨b, o + s2 * 4 + 1, none⟩ = some (.int .i64 t.a) := cell_fut ((HW5.out.trans HFX.out).cell (hc 1 _ (by omega) rfl))
            have e0 := cell_fut ((HBE.out.fut HFX.out).cell (i := 0) rfl)
            have e1 := cell_fut ((HBE.out.fut HFX.out).cell (i := 1) rfl)
            have hlt1 : ((s2 : Int) < n) = True := eq_true (by omega)
            have hge1 : (0 ≤ (s2 : Int)) = True := eq_true (by omega)
            have hx1 : t.a ≤ 1000 := by omega
            have hx2 : at' ≤ 2000 := by have := HX1.out; omega
            have hw1 : IntKind.i64.wrap ((ea : Int) + ed) = (ea : Int) + ed := by rw [IntKind.wrap_i64]; omega
            have hw2 : IntKind.i64.wrap ((t.a : Int) + ((es.size : Int) - ed)) = (t.a : Int) + ((es.size : Int) - ed) := by rw [IntKind.wrap_i64]; omega
            clear ht hc hts
            by_cases hA : t.a < ea + ed
            · have hA1 : ((t.a : Int) < (ea : Int) + ed) = True := eq_true (by omega)
              refine wp_region_M o_relex_Update_9 (by kernel_rfl) (by kernel_rfl) (by intro c a d v w h; cases d <;> exact h) ?_; unfold o_relex_Update_9
              iterate 28 (first | ((refine wpF_h rfl rfl (fun K hK => ?_); go_simp; refine hK _ _ ?_; clear hK K)) | ((refine wpF_hs2 rfl rfl (fun K hK => ?_); go_simp; refine hK _ _ ?_; clear hK K)))
              refine wpF_nil ?_
              go_wp2_with fail
              go_meet
              exact ⟨by rw [← HCT.out]; simp [hA], Lib.hid HFI.out.drew⟩
            · have hA1 : ((t.a : Int) < (ea : Int) + ed) = False := eq_false (by omega)
              by_cases hB : t.a + es.size < at' + ed
              · have hB1 : ((t.a : Int) + ((es.size : Int) - ed) < at') = True := eq_true (by omega)
                refine wp_region_M o_relex_Update_9 (by kernel_rfl) (by kernel_rfl) (by intro c a d v w h; cases d <;> exact h) ?_; unfold o_relex_Update_9
                iterate 28 (first | ((refine wpF_h rfl rfl (fun K hK => ?_); go_simp; refine hK _ _ ?_; clear hK K)) | ((refine wpF_hs2 rfl rfl (fun K hK => ?_); go_simp; refine hK _ _ ?_; clear hK K)))
                refine wpF_nil ?_
                go_wp2_with fail
                go_meet
                exact ⟨by rw [← HCT.out]; simp [hB], Lib.hid HFI.out.drew⟩
              · have hB1 : ((t.a : Int) + ((es.size : Int) - ed) < at') = False := eq_false (by omega)
                refine wp_region_M o_relex_Update_9 (by kernel_rfl) (by kernel_rfl) (by intro c a d v w h; cases d <;> exact h) ?_; unfold o_relex_Update_9
                iterate 28 (first | ((refine wpF_h rfl rfl (fun K hK => ?_); go_simp; refine hK _ _ ?_; clear hK K)) | ((refine wpF_hs2 rfl rfl (fun K hK => ?_); go_simp; refine hK _ _ ?_; clear hK K)))
                refine wpF_nil ?_
                go_wp2_with fail
                go_meet
                exact ⟨by rw [← HCT.out]; simp [hA, hB], Lib.hid HFI.out.drew⟩
          · have hlt1 : ((s2 : Int) < n) = False := eq_false (by omega)
            have HCT : Hid (false = cb) := Lib.hid (by have h9 := HCB.out; unfold skipB at h9; rw [List.getElem?_eq_none (by rw [HL.out]; omega)] at h9; exact h9)
            refine wp_region_M o_relex_Update_9 (by kernel_rfl) (by kernel_rfl) (by intro c a d v w h; cases d <;> exact h) ?_; unfold o_relex_Update_9
            iterate 28 (first | ((refine wpF_h rfl rfl (fun K hK => ?_); go_simp; refine hK _ _ ?_; clear hK K)) | ((refine wpF_hs2 rfl rfl (fun K hK => ?_); go_simp; refine hK _ _ ?_; clear hK K)))
            refine wpF_nil ?_
            go_wp2_with fail
            go_meet
            exact ⟨by rw [← HCT.out], Lib.hid HFI.out.drew⟩
        case rest =>
          obtain ⟨rfl, HFI2⟩ := hcut
          cases cb
          · have HGE := Lib.hid (show at' + ed ≤ startN L s2 + es.size from by
              have h9 := HCB.out
              unfold skipB at h9
              rcases Nat.lt_or_ge s2 n with h1 | h1
              · obtain ⟨t, ht⟩ := get_lt HL.out h1
                have e1 : startN L s2 = t.a := by unfold startN; rw [ht]
                rw [ht] at h9
                simp only [Bool.or_eq_false_iff, decide_eq_false_iff_not] at h9
                omega
              · have e1 := HSE.out s2 hs2
                rw [List.take_of_length_le (by rw [List.length_map, HL.out]; exact h1), HW.out] at e1
                have := HX1.out
                omega)
            have hst : startN L s2 ≤ 1000 := by
              rw [HSE.out s2 hs2]
              have := tlen_take_le (L.map TK.tok) s2
              have := HW.out
              omega
            obtain ⟨st, hst2⟩ : ∃ q, startN L s2 = q := ⟨_, rfl⟩
            have HSA2 := HSA.out
            obtain ⟨brk, hbrk⟩ : ∃ q, decide (ea + es.size ≤ at' ∧ st + es.size = at' + ed) = q := ⟨_, rfl⟩
            have HBRK := Lib.hid hbrk
            have HSTA := Lib.hid (fun (wy : World) (hf : Fut w5 wy) => show Calls Tryz.prog 29 #[.slice A n c, .int .i64 s2] wy fun e w' => e = .returned (.int .i64 st) ∧ Fut wy w' from by
              have := HSA.out wy (HW5.out.trans hf) s2 hs2
              rw [hst2] at this
              exact this)
            rw [hst2] at HGE hst
            have HS2 := Lib.hid hst2
            clear hbrk HSA2 HSA hst2
            have HFX := Lib.hid (HFW.out.trans HFI2.out)
            have hat2 : at' ≤ 2000 := by have := HX1.out; omega
            go_upto_region 11 with fail
            go_cut [99] (fun v wx => v = .bool brk ∧ Hid (Fut wo wx))
            case first =>
              have e0 := (HBE.out.fut HFX.out).cell (i := 0) rfl
              have e2 := (HBE.out.fut HFX.out).cell (i := 2) rfl
              have hw1 : IntKind.i64.wrap ((ea : Int) + es.size) = (ea : Int) + es.size := by rw [IntKind.wrap_i64]; omega
              have hw2 : IntKind.i64.wrap ((st : Int) + ((es.size : Int) - ed)) = (st : Int) + ((es.size : Int) - ed) := by rw [IntKind.wrap_i64]; omega
              by_cases hq : ea + es.size ≤ at'
              · have hq1 : ((ea : Int) + es.size ≤ at') = True := eq_true (by omega)
                go_wp2_with fail
                refine (HSTA.out _ HFX.out).mono ?_
                rintro r w6 ⟨rfl, hf6⟩
                have HF6 := Lib.hid (HFI2.out.trans hf6)
                clear hf6 e0 e2
                by_cases hE : st + es.size = at' + ed
                · have hE1 : ((st : Int) + ((es.size : Int) - ed) = at') = True := eq_true (by omega)
                  have hE2 : ((st : Int) + ((es.size : Int) - ed) == at') = true := beq_iff_eq.2 (by omega)
                  go_wp2_with fail
                  go_meet
                  exact ⟨by rw [← HBRK.out]; simp [hq, hE], HF6⟩
                · have hE1 : ((st : Int) + ((es.size : Int) - ed) = at') = False := eq_false (by omega)
                  have hE2 : ((st : Int) + ((es.size : Int) - ed) == at') = false := beq_eq_false_iff_ne.2 (by omega)
                  go_wp2_with fail
                  go_meet
                  exact ⟨by rw [← HBRK.out]; simp [hE], HF6⟩
              · have hq1 : ((ea : Int) + es.size ≤ at') = False := eq_false (by omega)
                go_wp2_with fail
                go_meet
                exact ⟨by rw [← HBRK.out]; simp [hq], HFI2⟩
            case rest =>
              obtain ⟨rfl, HFI3⟩ := hcut
              cases brk
              ·
                have hlt : at' < tx.size := by
                  have h9 := of_decide_eq_false HBRK.out
                  have h1 := HGE.out
                  have h2 := HX1.out
                  have h3 : st ≤ x.length := by
                    rw [← HS2.out, HSE.out s2 hs2, ← HW.out]; exact tlen_take_le _ _
                  omega
                have hN := nextT_size D tx at' hlt
                have HTK := Lib.hid (nextT_tok D tx at' hlt)
                have HSP := Lib.hid (Outs.step D.au HOU2.out (by rw [← HY2.out, bl_len]; exact hlt))
                have HC := Lib.hid (HSCAN.out at' hlt wc (HFW.out.trans HFI3.out))
                have hTa : (nextT D tx at').a = at' := rfl
                obtain ⟨T, hT⟩ : ∃ T, nextT D tx at' = T := ⟨_, rfl⟩
                rw [hT] at hN HTK HC hTa
                clear hT
                obtain ⟨h1, h2, hN3⟩ := hN
                clear hN3
                have HTA := Lib.hid hTa
                have HEN := Lib.hid (fun (wy : World) => show Calls Tryz.prog 30 #[.agg #[.int .i64 T.k, .int .i64 T.a, .string T.s, .int .i64 T.l]] wy fun e w' => e = .returned (.int .i64 ((at' + T.s.size : Nat) : Int)) ∧ Fut wy w' from by
                  have h9 := end_any T wy (by omega) (by omega)
                  have h8 : T.a + T.s.size = at' + T.s.size := by omega
                  rw [h8] at h9
                  exact h9)
                clear hTa
                have HT := Lib.hid (show T.tok.text.length = T.s.size from bl_len _)
                rw [← HY2.out, ← HTK.out, HT.out, HY2.out] at HSP
                go_wp2_with fail
                refine HC.out.mono ?_
                rintro r w6 ⟨rfl, hf6⟩
                have HF6 := Lib.hid (HFI3.out.trans hf6)
                have hf6s := HF6.out.size
                have hw5 := (HFW.out.trans HF6.out).size
                have HOW6 := Lib.hid (((HOW.out.fut HF6.out).alloc (.cells #[.int .i64 T.k, .int .i64 T.a, .string T.s, .int .i64 T.l] 48)).alloc (.cells #[.int .i64 T.k, .int .i64 T.a, .string T.s, .int .i64 T.l] 48))
                clear hf6 HC HSCAN HSTA
                go_wp2_with (refine wpList_pushT rfl (.tmp 103) (.tmp 105) rfl w5.heap.size u16 O rfl HOW6.out (w6.heap.size + 1) T rfl (heap_new' _ _ _ (by simp only [World.size_alloc])) (by have := HOL.out; omega) (by simp only [World.size_alloc]; omega) ?_)
                intro g cap w7 k1 k2 k3
                have hbT : Blk ((w6.alloc (.cells #[.int .i64 T.k, .int .i64 T.a, .string T.s, .int .i64 T.l] 48)).alloc (.cells #[.int .i64 T.k, .int .i64 T.a, .string T.s, .int .i64 T.l] 48)) w6.heap.size 48 #[.int .i64 T.k, .int .i64 T.a, .string T.s, .int .i64 T.l] := (Blk.new _ _ _).alloc _
                have hne : some w6.heap.size ≠ u16.ownBlock := fun e => by
                  have h4 := (HOW.out.lt _ e.symm).2
                  omega
                have hb7 := hbT.grown k2 hne
                have d0 := hb7.cell (i := 0) rfl
                have d1 := hb7.cell (i := 1) rfl
                have d2 := hb7.cell (i := 2) rfl
                have d3 := hb7.cell (i := 3) rfl
                have HOW7 := Lib.hid k1
                have HF7 := Lib.hid (show Fut w5 w7 from Below.grown (((HFW.out.trans HF6.out).alloc (.cells #[.int .i64 T.k, .int .i64 T.a, .string T.s, .int .i64 T.l] 48)).alloc (.cells #[.int .i64 T.k, .int .i64 T.a, .string T.s, .int .i64 T.l] 48)) k2 (by simp only [World.size_alloc]; omega) (fun kk hkk => (HOW.out.lt kk hkk).1))
                clear k1 k2 k3 hbT hne hb7
                go_wp2_with fail
                refine (HEN.out _).mono ?_
                rintro r w8 ⟨rfl, hf8⟩
                have HF8 := Lib.hid (HF7.out.trans hf8)
                have HOW8 := Lib.hid (HOW7.out.fut hf8)
                clear hf8 d0 d1 d2 d3 HOW7 HF7
                go_wp2_with fail
                refine ⟨⟨at' + T.s.size, s2, O ++ [T], rfl, rfl, hs2, h2, Lib.hid ?_, Lib.hid ?_, HOW8, HF8⟩, by simp [intOf]; omega⟩
                · rw [List.map_append]; exact HSP.out
                · have := HOL.out
                  rw [List.length_append, List.length_singleton]; omega
              · obtain ⟨A0, c0, rfl⟩ := HOW.out.form
                go_upto_region 16 with fail
                have HF0 := Lib.hid (HFI3.out.alloc (.cells #[.int .i64 k, .int .i64 ((s2 : Int) - k), .int .i64 (wrap64 ((O.length : Int) - k))] 53))
                have HC0 := Lib.hid (Blk.new wc 53 #[.int .i64 k, .int .i64 ((s2 : Int) - k), .int .i64 (wrap64 ((O.length : Int) - k))])
                have HZ0 := Lib.hid (World.size_alloc wc (.cells #[.int .i64 k, .int .i64 ((s2 : Int) - k), .int .i64 (wrap64 ((O.length : Int) - k))] 53))
                generalize wc.alloc (.cells #[.int .i64 k, .int .i64 ((s2 : Int) - k), .int .i64 (wrap64 ((O.length : Int) - k))] 53) = wz at *
                go_cut [120, 121, 122] (fun v l i wx => ∃ (A2 : Option Addr) (c2 : Nat), v = .slice A2 (n - s2) c2 ∧ l = .int .i64 ((n - s2 : Nat) : Int) ∧ i = .int .i64 0 ∧ Hid (RdS w A2 4 encT (L.drop s2)) ∧ wx = wz)
                case first =>
                  have HRS := HS
                  by_cases hcs : c = s2
                  · have HCS := Lib.hid hcs
                    have hcs1 : (c = s2) = True := eq_true hcs
                    clear hcs
                    go_wp2_with fail
                    go_meet
                    exact ⟨_, _, rfl, rfl, rfl, Lib.hid (by rw [List.drop_eq_nil_of_le (by have := HCS.out; have := HL.out; omega)]; exact RdS.nil), rfl⟩
                  · have hcs1 : (c = s2) = False := eq_false hcs
                    cases A with
                    | none =>
                      go_wp2_with fail
                      go_meet
                      refine ⟨none, _, rfl, rfl, rfl, Lib.hid (fun i t hi => ?_), rfl⟩
                      obtain ⟨b, o, e, _⟩ := HRS.out (s2 + i) t (by rw [← List.getElem?_drop]; exact hi)
                      cases e
                    | some A =>
                      go_wp2_with fail
                      go_meet
                      exact ⟨_, _, rfl, rfl, rfl, Lib.hid (RdS.drop HRS.out s2), rfl⟩
                case rest =>
                  obtain ⟨A2, c2, rfl, rfl, rfl, HR2, hwz⟩ := hcut
                  have hwz2 := hwz.symm
                  subst hwz2
                  clear hwz
                  have h9 := of_decide_eq_true HBRK.out
                  have HE1 := Lib.hid h9.1
                  have HE2 := Lib.hid h9.2
                  clear h9
                  have HPOS := Lib.hid (show ∀ (i : Nat) (t : TK), (L.drop s2)[i]? = some t → st ≤ t.a ∧ t.a ≤ 1000 from fun i t hi => by
                    rw [List.getElem?_drop] at hi
                    have h1 := Lx.pos HLX.out (s2 + i) t.tok (by rw [List.getElem?_map, hi]; rfl)
                    have h2 := tlen_take_mono (L.map TK.tok) (show s2 ≤ s2 + i by omega)
                    have h3 := HSE.out s2 hs2
                    rw [HS2.out] at h3
                    have h4 : t.tok.at_ = t.a := rfl
                    have h5 := HBD.out t (List.mem_of_getElem? hi)
                    omega)
                  have HDL := Lib.hid (show (L.drop s2).length = n - s2 by rw [List.length_drop, HL.out])
                  go_wp2_with fail
                  go_loopw [16, 122] (fun v i wr => ∃ (j : Nat) (O2 : List TK), i = .int .i64 j ∧ j ≤ n - s2 ∧ Hid (O2 = O ++ ((L.drop s2).take j).map (TK.mv ((es.size : Int) - ed))) ∧ Hid (O2.length ≤ at' + j) ∧ Hid (OwnT wr w5.heap.size v O2) ∧ Hid (∀ kk, v.ownBlock = some kk → kk ≠ wc.heap.size) ∧ Hid (Blk wr wc.heap.size 53 #[.int .i64 k, .int .i64 ((s2 : Int) - k), .int .i64 (wrap64 ((O.length : Int) - k))]) ∧ Hid (Fut w5 wr)) (fun _ i _ => n - s2 - (intOf i).toNat)
                  case atStart =>
                    refine ⟨0, O, rfl, Nat.zero_le _, Lib.hid (by simp), HOL, Lib.hid (HOW.out.fut HF0.out), Lib.hid (fun kk hk9 => ?_), HC0, Lib.hid (HFW.out.trans HF0.out)⟩
                    have h1 := (HOW.out.lt kk hk9).2
                    have h2 := HFI3.out.size
                    omega
                  case round =>
                    obtain ⟨j, O2, rfl, hj, HO2, HO2L, HOW2, HNB, HCB, HFL⟩ := hrel
                    by_cases hjn : j < n - s2
                    · have hjn1 : ((j : Int) < ((n - s2 : Nat) : Int)) = True := eq_true (by omega)
                      obtain ⟨t, ht⟩ := get_lt HDL.out hjn
                      obtain ⟨b, o, rfl, hc9⟩ := HR2.out j t ht
                      have hta := HPOS.out j t ht
                      have HTT := Lib.hid ht
                      have HFY := Lib.hid (HW5.out.trans HFL.out)
                      have d0 := HFY.out.cell (hc9 0 _ (by omega) rfl)
                      have d1 := HFY.out.cell (hc9 1 _ (by omega) rfl)
                      have d2 := HFY.out.cell (hc9 2 _ (by omega) rfl)
                      have d3 := HFY.out.cell (hc9 3 _ (by omega) rfl)
                      rw [Nat.add_zero] at d0
                      obtain ⟨a2, ha2⟩ : ∃ q : Nat, ((t.a : Int) + ((es.size : Int) - ed)).toNat = q := ⟨_, rfl⟩
                      have HA2 := Lib.hid ha2
                      have hwa : IntKind.i64.wrap ((t.a : Int) + ((es.size : Int) - ed)) = (a2 : Int) := by
                        have := HE2.out
                        rw [IntKind.wrap_i64]; omega
                      clear ht hc9 hta ha2
                      have HOW3 := Lib.hid ((HOW2.out.alloc (.cells #[.int .i64 t.k, .int .i64 a2, .string t.s, .int .i64 t.l] 48)).alloc (.cells #[.int .i64 t.k, .int .i64 a2, .string t.s, .int .i64 t.l] 48))
                      have hfl := HFL.out.size
                      go_wp2_with (refine wpList_pushT rfl (.tmp 131) (.tmp 133) rfl w5.heap.size u16 O2 rfl HOW3.out (wr.heap.size + 1) ⟨t.k, a2, t.s, t.l⟩ rfl (heap_new' _ _ _ (by simp only [World.size_alloc])) (by have := HO2L.out; have := HX1.out; omega) (by simp only [World.size_alloc]; omega) ?_)
                      intro g cap w7 k1 k2 k3
                      have HOW4 := Lib.hid k1
                      have hcbl := HCB.out.lt
                      have HCB2 := Lib.hid (((HCB.out.alloc (.cells #[.int .i64 t.k, .int .i64 a2, .string t.s, .int .i64 t.l] 48)).alloc (.cells #[.int .i64 t.k, .int .i64 a2, .string t.s, .int .i64 t.l] 48)).grown k2 (fun e => HNB.out _ e.symm rfl))
                      have HFL2 := Lib.hid (show Fut w5 w7 from Below.grown ((HFL.out.alloc (.cells #[.int .i64 t.k, .int .i64 a2, .string t.s, .int .i64 t.l] 48)).alloc (.cells #[.int .i64 t.k, .int .i64 a2, .string t.s, .int .i64 t.l] 48)) k2 (by simp only [World.size_alloc]; omega) (fun kk hkk => (HOW2.out.lt kk hkk).1))
                      have HNB2 := Lib.hid (show ∀ kk, (Value.slice (some ⟨g, 0, none⟩) (O2.length + 1) cap).ownBlock = some kk → kk ≠ wc.heap.size from fun kk hkk => by
                        have e9 : g = kk := Option.some.inj hkk
                        subst e9
                        rcases k3 with h | h
                        · exact HNB.out _ h
                        · try simp only [World.size_alloc] at h
                          omega)
                      clear k1 k2 k3 d0 d1 d2 d3
                      go_wp2_with fail
                      refine ⟨⟨j + 1, O2 ++ [⟨t.k, a2, t.s, t.l⟩], by go_num, by omega, Lib.hid ?_, Lib.hid ?_, HOW4, HNB2, HCB2, HFL2⟩, by simp [intOf]; omega⟩
                      · rw [HO2.out, List.append_assoc, List.take_add_one, HTT.out, List.map_append]
                        congr 2
                        simp [TK.mv, HA2.out]
                      · have := HO2L.out
                        rw [List.length_append, List.length_singleton]; omega
                    · have hjn1 : ((j : Int) < ((n - s2 : Nat) : Int)) = False := eq_false (by omega)
                      have hjn2 : j = n - s2 := by omega
                      obtain ⟨S, hS⟩ : ∃ S : Nat → Bool, S = fun kk => kk == w.heap.size + 1 + 1 := ⟨_, rfl⟩
                      have hbcl := HBC.out.lt
                      have hw5c := (HFW.out.trans HFI3.out).size
                      have x0 := cell_futS (S := S) (HCB.out.cell (i := 0) rfl) (by rw [hS]; exact beq_eq_false_iff_ne.2 (by simp only; omega))
                      have x1 := cell_futS (S := S) (HCB.out.cell (i := 1) rfl) (by rw [hS]; exact beq_eq_false_iff_ne.2 (by simp only; omega))
                      have x2 := cell_futS (S := S) (HCB.out.cell (i := 2) rfl) (by rw [hS]; exact beq_eq_false_iff_ne.2 (by simp only; omega))
                      have hBR := HBC.out.fut HFL.out
                      have t0 := hBR.cell (i := 0) rfl
                      have t1 := hBR.cell (i := 1) rfl
                      have t2 := hBR.cell (i := 2) rfl
                      have z0 := hBR.fz 0
                      have z1 := hBR.fz 1
                      have z2 := hBR.fz 2
                      have HBR := Lib.hid hBR
                      have HJN := Lib.hid hjn2
                      have HSS := Lib.hid (show S (w.heap.size + 1 + 1) = true by rw [hS]; simp)
                      have HSU := Lib.hid (show ∀ kk, S kk = true → kk = w.heap.size + 1 + 1 from fun kk h => by rw [hS] at h; exact beq_iff_eq.1 h)
                      clear hBR hjn2 hS
                      go_wp2_with fail
                      refine wp_region_MG (relS S) o_relex_Update_22 (by kernel_rfl) (by kernel_rfl) (by intro c a d v w h; cases d <;> exact h) ?_; unfold o_relex_Update_22
                      iterate 3 (refine wpS_h rfl rfl (fun K hK => ?_); go_simp; refine hK _ _ ?_; clear hK K)
                      refine wpG_o rfl rfl (fun K hK => ?_)
                      go_simp
                      have h3 := store3 (S := S) wr (w.heap.size + 1 + 1) (.int .i64 k) (.int .i64 ((s2 : Int) - k)) (.int .i64 (wrap64 ((O.length : Int) - k))) HSS.out HBR.out
                      refine hK _ _ (.inr h3.1) ?_
                      clear hK K x0 x1 x2 t0 t1 t2 z0 z1 z2
                      have HFS := Lib.hid h3.2.1
                      have HB9 := Lib.hid h3.2.2
                      clear h3
                      generalize (((wr.setCell ⟨w.heap.size + 1 + 1, 0, none⟩ (.int .i64 k)).setCell ⟨w.heap.size + 1 + 1, 1, none⟩ (.int .i64 ((s2 : Int) - k))).setCell ⟨w.heap.size + 1 + 1, 2, none⟩ (.int .i64 (wrap64 ((O.length : Int) - k)))).drew = wf at HFS HB9 ⊢
                      (refine wpS_h rfl rfl (fun K hK => ?_); go_simp; refine hK _ _ ?_; clear hK K)
                      refine wpG_nil ?_
                      rename_i hcont
                      refine hcont _ _ ?_
                      refine wp_ret ?_
                      change bodyPost Tryz.prog Tryz.f12 _ .ret _ _
                      refine upd_ret (u := u16) rfl rfl rfl HB9.out ?_
                      obtain ⟨A9, c9, rfl⟩ := HOW2.out.form
                      have hOW9 : OwnT wf w5.heap.size (.slice A9 O2.length c9) O2 := HOW2.out.futS HFS.out (fun kk hkk => by
                        have h1 := (HOW2.out.lt kk hkk).1
                        cases e9 : S kk with
                        | false => rfl
                        | true =>
                          have h2 := HSU.out kk e9
                          have := HBC.out.lt
                          omega)
                      refine ⟨O2, A9, c9, _, _, _, rfl, ?_, ?_, hOW9.base HW5.out.size, HFS.out.fut (HW5.out.trans HFL.out) (fun kk hkk => ?_)⟩
                      · rw [HO2.out, HJN.out, List.take_of_length_le (Nat.le_of_eq HDL.out), List.map_append, List.map_map]
                        have h8 := HFIN.out (O.map TK.tok) at' s2 HOU2.out HE1.out (by
                          rw [← HSE.out s2 hs2, HS2.out]; exact HE2.out)
                        rw [← List.map_drop, List.map_map] at h8
                        exact h8
                      · exact HOW2.out.cap
                      · rw [HSU.out kk hkk]; exact Nat.le_trans (Nat.le_succ _) (Nat.le_succ _)
          · go_wp2_with fail
            have hlt : s2 < n := by
              rcases Nat.lt_or_ge s2 n with h1 | h1
              · exact h1
              · have h9 := HCB.out
                unfold skipB at h9
                rw [List.getElem?_eq_none (by rw [HL.out]; omega)] at h9
                cases h9
            exact ⟨⟨s2 + 1, by go_num, hlt, HFI2⟩, by simp [intOf]; omega⟩
end Go.Proofs.YtlgpacpebjechaaGreatDoor
