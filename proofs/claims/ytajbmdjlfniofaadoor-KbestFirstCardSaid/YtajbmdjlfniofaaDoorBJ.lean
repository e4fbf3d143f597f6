/-
  Texts joined: The enumeration: get; The enumeration: a node extended (plain part, and words for the walk); The enumeration: a node extended; The enumeration: a node begun.
-/
import Derived.Test.YtajbmdjlfniofaaDoorBI
/-
  The enumeration: get.
-/
namespace Go.Proofs.YtajbmdjlfniofaaDoor
open Go.RowKit Go.Deep PK
attribute [local go_sem] Oper.lit Oper.litS fut_fut fut_drew World.cell?_alloc_some
attribute [local go_sem] World.frozen?_setCell
/-- what a call of extend hands back -/
def ExtR (X : LX) (B : Nat → Bool) (F : Nat → Bool) (w : World) (σ : ST) (v : Nat) (a : TS) (e : Ending) (w' : World) : Prop :=
 ∃ F' σ' a', LI X F' w' σ' ∧ IdleAll X.L B σ' ∧ Ext B σ σ' ∧ Fr X F w σ F' w' σ' ∧ σ' v = some a' ∧ ((e = .returned (.bool true) ∧ a.K.length < a'.K.length) ∨ (e = .returned (.bool false) ∧ a'.K = a.K ∧ FullD X.L.E v (a'.K.map (fun c => toDT c.d))))
theorem map_toCd (K : List CI) : (K.map toCd).map (·.d) = K.map (fun c => toDT c.d) := by rw [List.map_map]; rfl
def lenS (w : World) (sb : Nat) : Nat := match w.cell? ⟨sb, 0, none⟩ with | some (.slice _ n _) => n | _ => 0
theorem own_formK {w : World} {B sz n : Nat} {E : TypeId} {v : Value} {xs : List Value} (h : w.ownsRow B E sz v n xs) : ∃ A c, v = .slice A n c := by
 rcases h.2 with ⟨hn, h0⟩ | ⟨g, cap, cur, rfl, _⟩
 ·
  subst h0; exact ⟨none, 0, hn⟩
 ·
  exact ⟨_, _, rfl⟩
theorem lenS_of {L : LP} {F : Nat → Bool} {v : Nat} {w : World} {t : TS} (h : TSM L F v w t) : lenS w t.sb = t.K.length := by
 obtain ⟨A, c, hv⟩ := own_formK h.kown
 have := h.sblk.cell (i := 0) rfl
 unfold lenS
 rw [this, hv]
 rfl
theorem ownC_form {w : World} {B : Nat} {v : Value} {K : List CI} (h : w.ownsRow B 66 5 v K.length (K.flatMap encC)) (hm : 0 < K.length) : ∃ g cap, v = .slice (some ⟨g, 0, none⟩) K.length cap ∧ B ≤ g ∧ g < w.heap.size ∧ K.length ≤ cap := by
 obtain ⟨_, ⟨_, hn⟩ | ⟨g, cap, cur, hv, h1, h2, h3, h4, _⟩⟩ := h
 ·
  omega
 ·
  exact ⟨g, cap, hv, h1, (Array.getElem?_eq_some_iff.1 h2).1, h3⟩
theorem ownC_at {w : World} {B g cap n : Nat} {K : List CI} (h : w.ownsRow B 66 5 (.slice (some ⟨g, 0, none⟩) n cap) n (K.flatMap encC)) {i : Nat} {c : CI} (hi : K[i]? = some c) (hn : K.length = n) :
  w.cell? ⟨g, i * 5, none⟩ = some (.int .i64 c.d.e) ∧ w.cell? ⟨g, i * 5 + 1, none⟩ = some (.slice c.d.A c.d.k.length c.d.c) ∧ w.cell? ⟨g, i * 5 + 2, none⟩ = some (.int .i64 c.v.c) ∧ w.cell? ⟨g, i * 5 + 3, none⟩ = some (.int .i64 c.v.s) ∧ w.cell? ⟨g, i * 5 + 4, none⟩ = some (.slice c.rA c.r.length c.rc) := by
 have hil : i < n := by rw [← hn]; exact (List.getElem?_eq_some_iff.1 hi).1
 have key : ∀ t, t < 5 → (K.flatMap encC)[i * 5 + t]? = (encC c)[t]? := fun t ht => flat_get encC 5 encC_len K i c t hi ht
 exact ⟨(World.ownsRow.cellAt h (i * 5) (by omega)).trans (key 0 (by decide)), (World.ownsRow.cellAt h (i * 5 + 1) (by omega)).trans (key 1 (by decide)), (World.ownsRow.cellAt h (i * 5 + 2) (by omega)).trans (key 2 (by decide)), (World.ownsRow.cellAt h (i * 5 + 3) (by omega)).trans (key 3 (by decide)), (World.ownsRow.cellAt h (i * 5 + 4) (by omega)).trans (key 4 (by decide))⟩
theorem Ext.new {B : Nat → Bool} {σ : ST} {v : Nat} {a : TS} (hv : σ v = none) : Ext B σ (upS σ v a) := ⟨fun u t hu => ⟨t, by rw [upS_other _ _ _ _ (fun e => by rw [e, hv] at hu; cases hu)]; exact hu, rfl, fun h => h, fun _ _ h => h, fun _ => rfl⟩⟩
theorem IdleAll.new {L : LP} {B : Nat → Bool} {σ : ST} (h : IdleAll L B σ) {v : Nat} {a : TS} (ha : a.on = false) : IdleAll L B (upS σ v a) := by
 intro u t hu hb hon
 by_cases e : u = v
 ·
  subst e
  rw [upS_same] at hu
  obtain rfl := Option.some.inj hu
  rw [ha] at hon; cases hon
 ·
  rw [upS_other _ _ _ _ e] at hu
  exact h u t hu hb hon
theorem getK_res : Tryd.f35.results = #[.cell 6 66, .tmp 7] := by kernel_rfl
/-- while a node is extended: the result's block rb -/
structure GJ (X : LX) (B : Nat → Bool) (v : Nat) (F0 : Nat → Bool) (w0 : World) (σ0 : ST) (sb rb : Nat) (F : Nat → Bool) (w : World) (σ : ST) (a : TS) : Prop where
 li : LI X F w σ
 id : IdleAll X.L B σ
 ex : Ext B σ0 σ
 fr : Fr X F0 w0 σ0 F w σ
 sv : σ v = some a
 sb : a.sb = sb
 rk : Blk w rb 66 #[.int .i64 0, .slice none 0 0, .int .i64 0, .int .i64 0, .slice none 0 0]
 rl : ¬ LBs X σ rb ∧ F rb = false
theorem Fr.keepB {X : LX} {F F' : Nat → Bool} {w w' : World} {σ σ' : ST} (h : Fr X F w σ F' w' σ') {b : Nat} (hb : b < w.heap.size) (hn : ¬ LBs X σ b ∧ F b = false) : w'.heap[b]? = w.heap[b]? ∧ ¬ LBs X σ' b ∧ F' b = false := by
 refine ⟨h.f.block b hb ?_, fun h1 => ?_, ?_⟩
 ·
  cases e : LBb X σ b with
  | false => rfl
  | true => exact absurd (LBb_iff.1 e) hn.1
 ·
  rcases h.b b h1 with h2 | h2
  ·
   exact hn.1 h2
  ·
   omega
 ·
  cases e : F' b with
  | false => rfl
  | true =>
   rcases h.n b e with h2 | h2
   ·
    rw [hn.2] at h2; cases h2
   ·
    omega
set_option maxHeartbeats 6400000 in
set_option maxRecDepth 4000 in
theorem getK_any (X : LX) (hX : X.OK) (B : Nat → Bool) (v : Nat) (hv : v < X.M) (F : Nat → Bool) (w : World) (σ : ST) (h : LI X F w σ) (hI : IdleAll X.L B σ) (r : Nat) (hr : r ≤ 1000)
  (HXT : ∀ F' w' σ' a, LI X F' w' σ' → IdleAll X.L B σ' → Ext B σ σ' → σ' v = some a → a.K.length ≤ r → Calls Tryd.prog 47 #[.pointer (some ⟨X.L.lb, 0, none⟩), kI v, .pointer (some ⟨a.sb, 0, none⟩)] w' (ExtR X B F' w' σ' v a)) :
  Calls Tryd.prog 35 #[.pointer (some ⟨X.L.lb, 0, none⟩), kI v, rkv r] w (GetR X B F w σ v r) := by
 have HI := Lib.hid h
 have HID := Lib.hid hI
 have HXX := Lib.hid HXT
 obtain ⟨wa, hwa⟩ : ∃ wa, wa = w.alloc (.cells #[.int .i64 0, .slice none 0 0, .int .i64 0, .int .i64 0, .slice none 0 0] 66) := ⟨_, rfl⟩
 obtain ⟨rb, hrb⟩ : ∃ q, q = w.heap.size := ⟨_, rfl⟩
 have HFA := Lib.hid (show Fut w wa from by rw [hwa]; exact (Fut.refl w).alloc _)
 have HRB := Lib.hid (show Blk wa rb 66 #[.int .i64 0, .slice none 0 0, .int .i64 0, .int .i64 0, .slice none 0 0] from by rw [hwa, hrb]; exact Blk.new _ _ _)
 have HRN := Lib.hid (show ¬ LBs X σ rb ∧ F rb = false from ⟨fun h1 => by have := h.bF h1; omega, by
  cases e : F rb with
  | false => rfl
  | true => have := h.fb rb e; omega⟩)
 have HAT := Lib.hid (at_any X hX F wa σ (h.go HFA.out) v hv)
 have HRE := Lib.hid hrb
 clear h hI HXT hX hrb
 go_enter Tryd.func35, Tryd.ntmps35
 go_wp2_with fail
 rw [← hwa, ← HRE.out]
 clear hwa
 refine HAT.out.mono ?_
 rintro e w1 ⟨F1, σ1, a1, li1, sv1, rfl, fr1, hcase⟩
 have hk1 := fr1.keepB HRB.out.lt HRN.out
 have hID1 : IdleAll X.L B σ1 := by
  rcases hcase with rfl | ⟨h1, rfl, h3⟩
  ·
   exact HID.out
  ·
   exact HID.out.new h3
 have hEX1 : Ext B σ σ1 := by
  rcases hcase with rfl | ⟨h1, rfl, h3⟩
  ·
   exact Ext.refl _ _
  ·
   exact Ext.new h1
 have HJ1 := Lib.hid (show GJ X B v F wa σ a1.sb rb F1 w1 σ1 a1 from ⟨li1, hID1, hEX1, fr1, sv1, rfl, hk1.1.trans HRB.out, hk1.2⟩)
 obtain ⟨sb, hsb⟩ : ∃ q, q = a1.sb := ⟨_, rfl⟩
 rw [← hsb] at HJ1 ⊢
 clear li1 sv1 fr1 hcase hk1 hID1 hEX1 hsb
 go_wp2_with fail
 go_loopw [18] (fun _ wr => Hid (∃ F' σ' a, GJ X B v F wa σ sb rb F' wr σ' a)) (fun _ wr => r + 1 - lenS wr sb)
 case atStart => exact Lib.hid ⟨F1, σ1, a1, HJ1.out⟩
 case round =>
  obtain ⟨F', σ', a, hJ⟩ := hrel.out
  have HJ := Lib.hid hJ
  have hM := hJ.li.mem v a hJ.sv
  obtain ⟨KA, Kc, hKv⟩ := own_formK hM.kown
  have s0 := hM.sblk.cell (i := 0) rfl
  rw [hJ.sb, hKv] at s0
  have hln := lenS_of hM
  rw [hJ.sb] at hln
  have HLN := Lib.hid hln
  have hkl := (hJ.li.pl v a hJ.sv).kl
  have HKV := Lib.hid hKv
  clear hrel hJ hM hln hKv
  by_cases hle : a.K.length ≤ r
  ·
   have HXC := Lib.hid (HXX.out F' wr σ' a HJ.out.li HJ.out.id HJ.out.ex HJ.out.sv hle)
   rw [HJ.out.sb] at HXC
   have HLE := Lib.hid hle
   go_wp2_with fail
   refine HXC.out.mono ?_
   rintro e w2 ⟨F2, σ2, a2, li2, id2, ex2, fr2, sv2, hres⟩
   have hk2 := fr2.keepB HJ.out.rk.lt HJ.out.rl
   obtain ⟨t', g1, g2, _, g4, _⟩ := ex2.k v a HJ.out.sv
   rw [sv2] at g1
   obtain rfl := Option.some.inj g1
   have HJ2 := Lib.hid (show GJ X B v F wa σ sb rb F2 w2 σ2 a2 from ⟨li2, id2, HJ.out.ex.trans ex2, HJ.out.fr.trans fr2, sv2, g2.trans HJ.out.sb, hk2.1.trans HJ.out.rk, hk2.2⟩)
   clear li2 id2 ex2 fr2 sv2 hk2 g2 g4
   rcases hres with ⟨rfl, hlt⟩ | ⟨rfl, hke, hfull⟩
   ·
    have HLT := Lib.hid hlt
    clear hlt
    go_wp2_with fail
    refine ⟨Lib.hid ⟨F2, σ2, a2, HJ2.out⟩, ?_⟩
    have h9 := lenS_of (HJ2.out.li.mem v a2 HJ2.out.sv)
    rw [HJ2.out.sb] at h9
    rw [h9, HLN.out]
    have := HLT.out
    omega
   ·
    have HRS := Lib.hid (And.intro hke hfull)
    have r0 := HJ2.out.rk.cell (i := 0) rfl
    have r1 := HJ2.out.rk.cell (i := 1) rfl
    have r2 := HJ2.out.rk.cell (i := 2) rfl
    have r3 := HJ2.out.rk.cell (i := 3) rfl
    have r4 := HJ2.out.rk.cell (i := 4) rfl
    have f0 := HJ2.out.rk.fz 0
    have f1 := HJ2.out.rk.fz 1
    have f2 := HJ2.out.rk.fz 2
    have f3 := HJ2.out.rk.fz 3
    have f4 := HJ2.out.rk.fz 4
    have HRR := Lib.hid (((((HJ2.out.rk.set 0 (.int .i64 0)).set 1 (.slice none 0 0)).set 2 (.int .i64 0)).set 3 (.int .i64 0)).set 4 (.slice none 0 0))
    clear hke hfull
    go_wp2_with fail
    refine bodyPost_ret (res_cell2 getK_res _ _ rb _ _ _ _ rfl HRR.out Tryd.underlying66 rfl (by kernel_rfl)) rfl ?_
    have hFS : FutS (fun q => q == rb) w2 (((((w2.setCell ⟨rb, 0, none⟩ (.int .i64 0)).setCell ⟨rb, 1, none⟩ (.slice none 0 0)).setCell ⟨rb, 2, none⟩ (.int .i64 0)).setCell ⟨rb, 3, none⟩ (.int .i64 0)).setCell ⟨rb, 4, none⟩ (.slice none 0 0)) :=
     (((((FutS.refl w2).setCell (a := ⟨rb, 0, none⟩) (.inl (by simp)) _).setCell (a := ⟨rb, 1, none⟩) (.inl (by simp)) _).setCell (a := ⟨rb, 2, none⟩) (.inl (by simp)) _).setCell (a := ⟨rb, 3, none⟩) (.inl (by simp)) _).setCell (a := ⟨rb, 4, none⟩) (.inl (by simp)) _
    refine ⟨F2, σ2, HJ2.out.li.other hFS (fun q hq _ => by rw [show q = rb by simpa using hq]; exact HJ2.out.rl), HJ2.out.id, HJ2.out.ex, ((Fr.of_fut HFA.out).trans HJ2.out.fr).other hFS (fun q hq _ => by rw [show q = rb by simpa using hq, HRE.out]; exact Nat.le_refl _), .inr ⟨⟨a2.K.map (fun c => toDT c.d), ?_, HRS.out.2, ?_⟩, rfl⟩⟩
    ·
     have h9 := (HJ2.out.li.pl v a2 HJ2.out.sv).half.pre
     rwa [map_toCd] at h9
    ·
     rw [List.length_map, HRS.out.1]; exact HLE.out
  ·
   have hle2 : r < a.K.length := by omega
   obtain ⟨c, hc⟩ : ∃ c, a.K[r]? = some c := ⟨_, List.getElem?_eq_getElem hle2⟩
   have HC := Lib.hid hc
   have hM := HJ.out.li.mem v a HJ.out.sv
   obtain ⟨g, cap, hKg, _, hgl, hcap⟩ := ownC_form hM.kown (by omega)
   rw [HKV.out] at hKg
   injection hKg with e1 e2 e3
   subst e1 e3
   have hko := hM.kown
   rw [HKV.out] at hko
   obtain ⟨k0, k1, k2, k3, k4⟩ := ownC_at hko hc rfl
   obtain ⟨cd, ⟨cvc, cvs⟩, cr, crA, crc⟩ := c
   simp only at k0 k1 k2 k3 k4
   have r0 := HJ.out.rk.cell (i := 0) rfl
   have r1 := HJ.out.rk.cell (i := 1) rfl
   have r2 := HJ.out.rk.cell (i := 2) rfl
   have r3 := HJ.out.rk.cell (i := 3) rfl
   have r4 := HJ.out.rk.cell (i := 4) rfl
   have f0 := HJ.out.rk.fz 0
   have f1 := HJ.out.rk.fz 1
   have f2 := HJ.out.rk.fz 2
   have f3 := HJ.out.rk.fz 3
   have f4 := HJ.out.rk.fz 4
   have HRR := Lib.hid (((((HJ.out.rk.set 0 (.int .i64 cd.e)).set 1 (.slice cd.A cd.k.length cd.c)).set 2 (.int .i64 cvc)).set 3 (.int .i64 cvs)).set 4 (.slice crA cr.length crc))
   clear hc hM hko
   go_wp2_with fail
   refine bodyPost_ret (res_cell2 getK_res _ _ rb _ _ _ _ rfl HRR.out Tryd.underlying66 rfl (by kernel_rfl)) rfl ?_
   have hFS : FutS (fun q => q == rb) wr (((((wr.setCell ⟨rb, 0, none⟩ (.int .i64 cd.e)).setCell ⟨rb, 1, none⟩ (.slice cd.A cd.k.length cd.c)).setCell ⟨rb, 2, none⟩ (.int .i64 cvc)).setCell ⟨rb, 3, none⟩ (.int .i64 cvs)).setCell ⟨rb, 4, none⟩ (.slice crA cr.length crc)) :=
    (((((FutS.refl wr).setCell (a := ⟨rb, 0, none⟩) (.inl (by simp)) _).setCell (a := ⟨rb, 1, none⟩) (.inl (by simp)) _).setCell (a := ⟨rb, 2, none⟩) (.inl (by simp)) _).setCell (a := ⟨rb, 3, none⟩) (.inl (by simp)) _).setCell (a := ⟨rb, 4, none⟩) (.inl (by simp)) _
   exact ⟨F', σ', HJ.out.li.other hFS (fun q hq _ => by rw [show q = rb by simpa using hq]; exact HJ.out.rl), HJ.out.id, HJ.out.ex, ((Fr.of_fut HFA.out).trans HJ.out.fr).other hFS (fun q hq _ => by rw [show q = rb by simpa using hq, HRE.out]; exact Nat.le_refl _), .inl ⟨a, _, HJ.out.sv, HC.out, rfl⟩⟩
end Go.Proofs.YtajbmdjlfniofaaDoor
/-
  The enumeration: a node extended (plain part, and words for the walk).
-/
namespace Go.Proofs.YtajbmdjlfniofaaDoor
open Go.RowKit Go.Deep PK
theorem succ_lt {es : List EE} (hes : ∀ e ∈ es, PK.okE e) {e i r : Nat} {l : List Nat} {x y : DT} (h : TrE es e l x) (k : TrE es e (l.set i (r + 1)) y) (hi : l[i]? = some r) : cmpD es x y < 0 := by
 have hne : x ≠ y := fun e1 => by
  subst e1
  have h1 := (h.inj k).2
  have h2 : (l.set i (r + 1))[i]? = some (r + 1) := by rw [List.getElem?_set_self (List.getElem?_eq_some_iff.1 hi).1]
  rw [← h1, hi] at h2
  have := Option.some.inj h2
  omega
 obtain ⟨E, a, h1, rfl, h3, h4, h5⟩ := h
 obtain ⟨E', b, k1, rfl, k3, k4, k5⟩ := k
 rw [h1] at k1
 obtain rfl := Option.some.inj k1
 have hle : cmpD es (.node (e : Int) a) (.node (e : Int) b) ≤ 0 := by
  refine node_mono hes (by omega) (fun j d f hd hf => ?_)
  have hj : j < E.t.length := by rw [← h3]; exact (List.getElem?_eq_some_iff.1 hd).1
  have ht : E.t[j]? = some E.t[j] := List.getElem?_eq_getElem hj
  have hl : l[j]? = some l[j] := List.getElem?_eq_getElem (by omega)
  have n1 := h5 j _ _ d ht hl hd
  by_cases e1 : j = i
  ·
   subst e1
   rw [hi] at hl
   have n2 := k5 j _ (r + 1) f ht (by rw [List.getElem?_set_self (by omega)]) hf
   rw [← Option.some.inj hl] at n1
   have := n1.lt n2 (by omega)
   omega
  ·
   have n2 := k5 j _ _ f ht (by rw [List.getElem?_set_ne (fun e2 => e1 e2.symm)]; exact hl) hf
   rw [n1.unique n2, cmpD_refl]; omega
 by_cases e0 : cmpD es (.node (e : Int) a) (.node (e : Int) b) = 0
 ·
  exact absurd (cmpD_zero es _ _ e0) hne
 ·
  omega
def bv (B : Nat → Bool) (v : Nat) (u : Nat) : Bool := B u || u == v
theorem bv_same (B : Nat → Bool) (v : Nat) : bv B v v = true := by simp [bv]
theorem bv_of {B : Nat → Bool} {v u : Nat} (h : bv B v u = true) : B u = true ∨ u = v := by simpa [bv] using h
theorem bv_no {B : Nat → Bool} {v u : Nat} (h : bv B v u = false) : B u = false ∧ u ≠ v := by simpa [bv] using h
theorem butv_bv {B : Nat → Bool} {v : Nat} (hB : B v = false) : butv (bv B v) v = B := by
 funext u
 show ((B u || u == v) && !(u == v)) = B u
 by_cases e : u = v
 ·
  subst e; simp [hB]
 ·
  have e1 : (u == v) = false := beq_eq_false_iff_ne.2 e
  rw [e1]; simp
/-- begin's word -/
def BegR (X : LX) (B : Nat → Bool) (F : Nat → Bool) (w : World) (σ : ST) (v : Nat) (e : Ending) (w' : World) : Prop :=
 ∃ F' σ' a', LI X F' w' σ' ∧ IdleAll X.L (bv B v) σ' ∧ σ' v = some a' ∧ a'.on = true ∧ Idle X.L v a' ∧ Ext B σ σ' ∧ Fr X F w σ F' w' σ' ∧ ((e = .returned (.bool true) ∧ a'.K.length = 1) ∨ (e = .returned (.bool false) ∧ a'.K = []))
theorem IdleAll.shut {L : LP} {B : Nat → Bool} {v : Nat} {σ : ST} (h : IdleAll L (bv B v) σ) {a : TS} (ha : σ v = some a) (hi : Idle L v a) : IdleAll L B σ := by
 intro u t hu hb hon
 by_cases e : u = v
 ·
  subst e
  rw [ha] at hu
  obtain rfl := Option.some.inj hu
  exact hi
 ·
  exact h u t hu (by simp [bv, hb, e]) hon
theorem IdleAll.open {L : LP} {B : Nat → Bool} {v : Nat} {σ : ST} (h : IdleAll L B σ) : IdleAll L (bv B v) σ := fun u t hu hb hon => h u t hu (bv_no hb).1 hon
theorem IdleAll.open' {L : LP} {B : Nat → Bool} {v : Nat} {σ : ST} {a : TS} (h : IdleAll L B σ) : IdleAll L (bv B v) (upS σ v a) := fun u t hu hb hon => by
 rw [upS_other _ _ _ _ (bv_no hb).2] at hu
 exact h u t hu (bv_no hb).1 hon
/-- started -/
def TS.start (t : TS) : TS := { t with on := true }
theorem TSP.start {L : LP} {v : Nat} {t : TS} (h : TSP L v t) : TSP L v t.start := ⟨h.half, h.nd, h.rk, h.rq, h.kl, fun e => by cases e⟩
/-- while the successors of the last are offered -/
structure EJ (X : LX) (B : Nat → Bool) (v : Nat) (F0 : Nat → Bool) (w0 : World) (σ0 : ST) (a : TS) (last : CI) (lk i : Nat) (F : Nat → Bool) (w : World) (σ : ST) (t : TS) : Prop where
 li : LI X F w σ
 id : IdleAll X.L (bv B v) σ
 ex : Ext B σ0 σ
 fr : Fr X F0 w0 σ0 F w σ
 sv : σ v = some t
 k : t.K = a.K ∧ t.sb = a.sb ∧ t.on = true ∧ t.o = a.o
 nx : t.nx ≤ a.nx + i ∧ (a.o = a.K.length → t.nx = a.nx)
 fc : FrC X.L t
 mn : ∀ e l, a.Sn e l → t.Sn e l
 dn : ∀ j r, j < i → last.r[j]? = some r → t.Sn last.d.e.toNat (last.r.set j (r + 1))
 lb : Blk w lk 66 #[.int .i64 last.d.e, .slice last.d.A last.d.k.length last.d.c, .int .i64 last.v.c, .int .i64 last.v.s, .slice last.rA last.r.length last.rc]
 ll : ¬ LBs X σ lk ∧ F lk = false
theorem getElem?_map_toCd {K : List CI} {i : Nat} {x : Cd} (h : (K.map toCd)[i]? = some x) : ∃ c, K[i]? = some c ∧ x = toCd c := by
 rw [List.getElem?_map] at h
 obtain ⟨c, hc, e⟩ := Option.map_eq_some_iff.1 h
 exact ⟨c, hc, e.symm⟩
/-- all successors of the last are offered -/
theorem EJ.front {X : LX} {B : Nat → Bool} {v : Nat} {F0 : Nat → Bool} {w0 : World} {σ0 : ST} {a : TS} {last : CI} {lk i : Nat} {F : Nat → Bool} {w : World} {σ : ST} {t : TS} (h : EJ X B v F0 w0 σ0 a last lk i F w σ t) (hI : Idle X.L v a) (hl : a.K[a.K.length - 1]? = some last) (hi : last.r.length ≤ i) :
  Front X.L.E v (t.K.map toCd) t.Q t.Sn (fun _ => True) t.K.length := by
 obtain ⟨hK, _⟩ := h.k
 refine ⟨h.fc, fun e E d hz h1 h2 h3 h4 => h.mn _ _ (hI.fr.z e E d hz h1 h2 h3 h4), fun j x hj hx q r hr => ?_⟩
 rw [hK] at hj hx
 obtain ⟨c, hc, rfl⟩ := getElem?_map_toCd hx
 by_cases e : j < a.o
 ·
  exact h.mn _ _ (hI.fr.s j _ e hx q r hr)
 ·
  have := hI.o1
  obtain rfl : j = a.K.length - 1 := by omega
  rw [hl] at hc
  obtain rfl := Option.some.inj hc
  have hr' : last.r[q]? = some r := hr
  exact h.dn q r (by have := (List.getElem?_eq_some_iff.1 hr').1; omega) hr'
/-- one more offered -/
theorem EJ.nx' {X : LX} {B : Nat → Bool} {v : Nat} {F0 : Nat → Bool} {w0 : World} {σ0 : ST} {a : TS} {last : CI} {lk i : Nat} {F : Nat → Bool} {w : World} {σ : ST} {t : TS} (h : EJ X B v F0 w0 σ0 a last lk i F w σ t) (hI : Idle X.L v a) (hi : i ≤ 3) (hne : a.K ≠ []) : t.nx ≤ 12 + 3 * a.K.length := by
 have h1 := hI.o1
 have h2 := hI.o2
 have h3 := hI.nx
 have h4 := h.nx
 have : 0 < a.K.length := List.length_pos_iff.2 hne
 by_cases e : a.o = a.K.length
 ·
  rw [h4.2 e]; omega
 ·
  omega
/-! ### the ranks copied -/
theorem info_intQ : (Tryd.prog.info? 3).map (fun i => (i.zero, i.size, i.bytes)) = some (some (.int .i64 0), 1, 8) := by kernel_rfl
theorem wp_clone {w : World} {o : Oper} {a : Act} {K : Act → World → Prop} {Q : Exit → Act → World → Prop} (s x : Operand) (ho : o.op = .call { callee := .builtin .append, args := #[s, x], argTypes := #[46, 46] })
  (hs : a.eval s = .slice none 0 0) (A : Option Addr) (m c : Nat) (l : List Nat) (hx : a.eval x = .slice A m c) (hl : l.length = m) (hm0 : 0 < m) (hm : m ≤ 1000) (hR : Rd1 w A rkv l)
  (h : ∀ g cap w', w'.ownsRow w.heap.size 3 1 (.slice (some ⟨g, 0, none⟩) m cap) m (l.map rkv) → Fut w w' → w.heap.size ≤ g → K (a.put o.dst (.slice (some ⟨g, 0, none⟩) m cap)) w') : o.wp Tryd.prog a w K Q := by
 obtain ⟨b, o', rfl⟩ : ∃ b o', A = some ⟨b, o', none⟩ := by
  obtain ⟨b, o', e, _⟩ := hR 0 l[0] (List.getElem?_eq_getElem (by omega))
  exact ⟨b, o', e⟩
 obtain ⟨i, hi, hzz⟩ := Option.map_eq_some_iff.1 info_intQ
 simp only [Prod.mk.injEq] at hzz
 obtain ⟨hz, hs1, hb1⟩ := hzz
 obtain ⟨v', w', hr, h2, h3, _, h5⟩ := run_append_own_at (P := Tryd.prog) w w.heap.size 46 o.type 3 i _ 1 8 Tryd.underlying46 hi hz hs1 hb1 rfl (by decide) (.slice none 0 0) 0 [] (World.ownsRow_nil _ _ _ _) ⟨b, o', none⟩ m c (l.map rkv) (by rw [List.length_map, hl]; omega)
  hR.news
  (fun u hu => by
   obtain ⟨e, _, he⟩ := List.mem_map.1 hu
   subst he; rfl) (by unfold maxLen; omega) (by omega) (Nat.le_refl _)
 obtain ⟨g, cap, rfl, _, _⟩ := h2.form (by omega)
 unfold Oper.wp execOp
 simp only [ho, resolve, invoke, builtin, Sem.run_bind, Sem.run_pure, Result.andThen_ok, List.map_toArray, List.map_cons, List.map_nil, hs, hx, hr]
 have e0 : 0 + m = m := Nat.zero_add m
 rw [e0] at h2 ⊢
 refine h g cap w' (by simpa using h2) ⟨h3.os, h3.tape, h3.output, h3.size, fun k hk => h3.block k hk (by simp [Value.ownBlock])⟩ (World.ownsRow.lt h2 g rfl).1
theorem wpList_clone {ops : Array Oper} {rest : List Oper} {w : World} {o : Oper} {a : Act} {Q : Exit → Act → World → Prop} (hgd : o.guard = none) (s x : Operand) (ho : o.op = .call { callee := .builtin .append, args := #[s, x], argTypes := #[46, 46] })
  (hs : a.eval s = .slice none 0 0) (A : Option Addr) (m c : Nat) (l : List Nat) (hx : a.eval x = .slice A m c) (hl : l.length = m) (hm0 : 0 < m) (hm : m ≤ 1000) (hR : Rd1 w A rkv l)
  (h : ∀ g cap w', w'.ownsRow w.heap.size 3 1 (.slice (some ⟨g, 0, none⟩) m cap) m (l.map rkv) → Fut w w' → w.heap.size ≤ g → wpList Tryd.prog ops Q rest (a.put o.dst (.slice (some ⟨g, 0, none⟩) m cap)) w') : wpList Tryd.prog ops Q (o :: rest) a w :=
 wpList_plain hgd fun _ hK => wp_clone s x ho hs A m c l hx hl hm0 hm hR fun g cap w' h1 h2 h3 => hK _ _ (h g cap w' h1 h2 h3)
theorem node_eQ {L : LP} {v : Nat} {c : CI} (h : COK L.E v (toCd c)) : ∃ k A cc ks, c.d = .node ((k : Nat) : Int) A cc ks ∧ (toCd c).e = k ∧ TrE L.E k c.r (toDT c.d) := by
 obtain ⟨⟨E, kk, h1, h2, h3, h4, h5⟩, hf⟩ := h
 obtain ⟨⟨e, A, cc, ks⟩, vv, r, rA, rc⟩ := c
 have h6 : toDT (.node e A cc ks) = .node (((toCd ⟨.node e A cc ks, vv, r, rA, rc⟩).e : Nat) : Int) kk := h2
 rw [toDT_eq] at h6
 injection h6 with h7 h8
 exact ⟨_, A, cc, ks, congrArg (fun z => DI.node z A cc ks) h7, rfl, E, kk, h1, h2, h3, h4, h5⟩
/-! ### what is listed, turned -/
theorem TSM.known {L : LP} {F : Nat → Bool} {v : Nat} {w w' : World} {t : TS} (h : TSM L F v w t) (hf : FutS (fun k => k == t.sb || t.Kv.ownBlock == some k) w w') {K' : List CI} {Kv' : Value} (hb : Blk w' t.sb 96 #[Kv', .pointer (some ⟨t.qb, 0, none⟩), .bool t.on, .map (some t.mb)])
  (ho : w'.ownsRow t.B 66 5 Kv' K'.length (K'.flatMap encC)) (hc : ∀ c ∈ K', RdC F w c ∧ okC L v c) (hg : ∀ g, Kv'.ownBlock = some g → F g = false) : TSM L F v w' { t with K := K', Kv := Kv' } := by
 have hS : ∀ k, (k == t.sb || t.Kv.ownBlock == some k) = true → k = t.sb ∨ t.Kv.ownBlock = some k := fun k hk => by simpa using hk
 have hn : ∀ k, ¬ (k = t.sb ∨ t.Kv.ownBlock = some k) → (k == t.sb || t.Kv.ownBlock == some k) = false := fun k hk => by
  cases e : (k == t.sb || t.Kv.ownBlock == some k) with
  | false => rfl
  | true => exact absurd (hS k e) hk
 have hlF : ∀ k, t.LB k = true → F k = false := fun k hk => by
  cases e : F k with
  | false => rfl
  | true => rw [h.fL k e] at hk; cases hk
 have hFn : ∀ k, F k = true → (k == t.sb || t.Kv.ownBlock == some k) = false := fun k hk => hn k (by
  rintro (e | e)
  ·
   rw [e, hlF _ (lb_s t)] at hk; cases hk
  ·
   rw [hlF k (lb_k e)] at hk; cases hk)
 have hK : KpF F w w' := KpF.of_futS h.qk.fb hFn hf
 have hmb : w'.heap[t.mb]? = w.heap[t.mb]? := hf.block _ h.seen.lt (hn _ (by
  rintro (e | e)
  ·
   exact h.seen.ne_blk h.sblk e
  ·
   have := (World.ownsRow.lt h.kown _ e).1
   have := h.mB
   omega))
 refine ⟨hb, h.qk.keep hf.size (fun k e => hf.block k (h.lt k (lb_q e)) (hn k (by
  rintro (e1 | e1)
  ·
   exact (h.sq k e).1 e1
  ·
   exact (h.sq k e).2.2 e1))) hK (fun _ e => e) (fun k e => Nat.lt_of_lt_of_le (h.qk.fb k e) hf.size) h.qk.fs, h.heap, ho, h.seen.of_block hmb, h.sval, h.sB, h.mB, h.pm, fun c hc' => (hc c hc').1.keep hK (fun _ e => e), fun c hc' => (hc c hc').2, fun k hk => ?_⟩
 cases e : TS.LB { t with K := K', Kv := Kv' } k with
 | false => rfl
 | true =>
  exfalso
  rcases lb_of.1 e with e1 | e1 | e1 | e1
  ·
   rw [e1, hlF _ (lb_s t)] at hk; cases hk
  ·
   rw [e1, hlF _ (lb_m t)] at hk; cases hk
  ·
   rw [hg k e1] at hk; cases hk
  ·
   rw [hlF k (lb_q (t := t) e1)] at hk; cases hk
theorem TSM.ghost {L : LP} {F : Nat → Bool} {v : Nat} {w : World} {t : TS} (h : TSM L F v w t) (o : Nat) : TSM L F v w { t with o := o } :=
 ⟨h.sblk, h.qk, h.heap, h.kown, h.seen, h.sval, h.sB, h.mB, h.pm, h.ktr, h.kok, h.fL⟩
theorem TSP.ghost {L : LP} {v : Nat} {t : TS} (h : TSP L v t) (hon : t.on = true) (o : Nat) : TSP L v { t with o := o } :=
 ⟨h.half, h.nd, h.rk, h.rq, h.kl, fun e => by rw [show TS.on { t with o := o } = t.on from rfl, hon] at e; cases e⟩
/-- the first of the queue goes to the list -/
theorem TSP.take {L : LP} {v : Nat} {t : TS} (hes : ∀ e ∈ L.E, PK.okE e) (hB : ∀ u x, FinD L.E u x → ∃ b, Nth L.E u 0 b) (h : TSP L v t) (hon : t.on = true) (f : Front L.E v (t.K.map toCd) t.Q t.Sn (fun _ => True) t.K.length) (hh : HeapOK (befK L.E) t.H t.m) (hm : 0 < t.m) (hl : t.K.length < 50) (Kv' v' : Value) (H' : Nat → EK)
  (h1 : ∀ c, (∃ k, k < t.m ∧ t.H k = c) ↔ c = t.H 0 ∨ ∃ k, k < t.m - 1 ∧ H' k = c) (h2 : ∀ P, PW P t.m t.H → PW P (t.m - 1) H' ∧ ∀ k, k < t.m - 1 → P (H' k) (t.H 0) ∧ P (t.H 0) (H' k)) :
  TSP L v { t with K := t.K ++ [(t.H 0).c], Kv := Kv', Hv := v', H := H', m := t.m - 1, o := t.K.length } ∧ Front L.E v ((t.K ++ [(t.H 0).c]).map toCd) (TS.Q { t with K := t.K ++ [(t.H 0).c], Kv := Kv', Hv := v', H := H', m := t.m - 1, o := t.K.length }) t.Sn (fun _ => True) t.K.length := by
 have hQ' : ∀ q, t.Q q ↔ q = toCd (t.H 0).c ∨ TS.Q { t with K := t.K ++ [(t.H 0).c], Kv := Kv', Hv := v', H := H', m := t.m - 1, o := t.K.length } q := by
  intro q
  unfold TS.Q
  simp only
  constructor
  ·
   rintro ⟨i, hi, rfl⟩
   rcases (h1 (t.H i)).1 ⟨i, hi, rfl⟩ with e | ⟨k, hk, e⟩
   ·
    exact .inl (by rw [e])
   ·
    exact .inr ⟨k, hk, by rw [e]⟩
  ·
   rintro (rfl | ⟨k, hk, rfl⟩)
   ·
    exact ⟨0, hm, rfl⟩
   ·
    obtain ⟨i, hi, e⟩ := (h1 (H' k)).2 (.inr ⟨k, hk, rfl⟩)
    exact ⟨i, hi, by rw [e]⟩
 obtain ⟨n1, n2⟩ := h2 _ h.nd
 have hp := h.half.pop hes hB f (by rw [List.length_map]; exact Nat.le_refl _) (c := toCd (t.H 0).c) ⟨0, hm, rfl⟩ (fun q hq => by
   obtain ⟨i, hi, rfl⟩ := hq
   exact befK_le (heap_min (befK_wo L.E) hh i i (Nat.le_refl _) hi)) hQ' (fun q hq => by
   obtain ⟨k, hk, rfl⟩ := hq
   intro e
   obtain ⟨k1, _, _, _, e1, e2, _⟩ := node_eQ (h.half.cok _ (.inr ⟨0, hm, rfl⟩))
   obtain ⟨i, hi, e3⟩ := (h1 (H' k)).2 (.inr ⟨k, hk, rfl⟩)
   obtain ⟨k2, _, _, _, g1, g2, _⟩ := node_eQ (h.half.cok (toCd (H' k).c) (.inr ⟨i, hi, by rw [e3]⟩))
   refine (n2 k hk).1 ⟨?_, e.2⟩
   rw [e1, g1]
   simp only [DI.e]
   have := e.1
   rw [e2, show (toCd (H' k).c).e = k2 from g2] at this
   omega)
 rw [List.length_map] at hp
 rw [List.map_append, List.map_singleton]
 refine ⟨⟨by
  show Half L.E v ((t.K ++ [(t.H 0).c]).map toCd) _ t.Sn
  rw [List.map_append, List.map_singleton]; exact hp.1, n1, fun j c hc r hr => ?_, fun i hi r hr => ?_, ?_, fun e => ?_⟩, hp.2⟩
 ·
  have hc' : (t.K ++ [(t.H 0).c])[j]? = some c := hc
  rcases Nat.lt_or_ge j t.K.length with h3 | h3
  ·
   rw [List.getElem?_append_left h3] at hc'
   exact h.rk j c hc' r hr
  ·
   rw [List.getElem?_append_right h3] at hc'
   have h4 := (List.getElem?_eq_some_iff.1 hc').1
   simp only [List.length_singleton] at h4
   rw [show j - t.K.length = 0 by omega] at hc'
   simp at hc'
   subst hc'
   have := h.rq 0 hm r hr
   omega
 ·
  obtain ⟨i', hi', e⟩ := (h1 (H' i)).2 (.inr ⟨i, hi, rfl⟩)
  have h3 : r ∈ (H' i).c.r := hr
  rw [← e] at h3
  have := h.rq i' hi' r h3
  show r ≤ (t.K ++ [(t.H 0).c]).length
  rw [List.length_append]; omega
 ·
  show (t.K ++ [(t.H 0).c]).length ≤ 50
  rw [List.length_append, List.length_singleton]; omega
 ·
  have e' : t.on = false := e
  rw [hon] at e'; cases e'
end Go.Proofs.YtajbmdjlfniofaaDoor
/-
  The enumeration: a node extended.
-/
namespace Go.Proofs.YtajbmdjlfniofaaDoor
open Go.RowKit Go.Deep PK
attribute [local go_sem] Oper.lit Oper.litS fut_fut fut_drew World.cell?_alloc_some
attribute [local go_sem] World.frozen?_setCell
theorem butv_no {B : Nat → Bool} {v : Nat} (hB : B v = false) : butv B v = B := by
 funext u
 show (B u && !(u == v)) = B u
 by_cases e : u = v
 ·
  subst e; simp [hB]
 ·
  have e1 : (u == v) = false := beq_eq_false_iff_ne.2 e
  rw [e1]; simp
theorem info_ca : (Tryd.prog.info? 66).map (fun i => (i.zero, i.size, i.bytes)) = some (some (.agg #[.int .i64 0, .slice none 0 0, .int .i64 0, .int .i64 0, .slice none 0 0]), 5, 72) := by kernel_rfl
/-- a stream turned, but for its queue -/
theorem TSM.starts {L : LP} {F : Nat → Bool} {v : Nat} {w : World} {t : TS} (h : TSM L F v w t) : TSM L F v (w.setCell ⟨t.sb, 2, none⟩ (.bool true)) t.start ∧ FutS t.LB w (w.setCell ⟨t.sb, 2, none⟩ (.bool true)) := by
 have hg := grown_set w ⟨t.sb, 2, none⟩ (.bool true)
 have hF : F t.sb = false := by
  cases e : F t.sb with
  | false => rfl
  | true => have := h.fL _ e; rw [lb_s] at this; cases this
 have hK : KpF F w (w.setCell ⟨t.sb, 2, none⟩ (.bool true)) := KpF.of_grown h.qk.fb (fun k hk => by rw [← Option.some.inj hk]; exact hF) hg
 have hk : ∀ k, k < w.heap.size → k ≠ t.sb → (w.setCell ⟨t.sb, 2, none⟩ (.bool true)).heap[k]? = w.heap[k]? := fun k hk hne => hg.block k hk (fun e => hne (Option.some.inj e))
 refine ⟨⟨h.sblk.set 2 _, h.qk.keep hg.size (fun k e => hk k (h.lt k (lb_q e)) (h.sq k e).1) hK (fun _ e => e) (fun k e => Nat.lt_of_lt_of_le (h.qk.fb k e) hg.size) (fun k e => ?_), h.heap, ownF_keep h.kown (fun k e => hk k (h.lt k (lb_k e)) ?_), h.seen.setCell (fun e => h.seen.ne_blk h.sblk e) _, h.sval, h.sB, h.mB, h.pm, fun c hc => (h.ktr c hc).keep hK (fun _ e => e), h.kok, h.fL⟩, (FutS.refl w).setCell (a := ⟨t.sb, 2, none⟩) (.inl (lb_s t)) _⟩
 ·
  cases e2 : SQ t.qb t.pb t.Hv k with
  | false => rfl
  | true => exact absurd (lb_q e2) (by rw [h.fL k e]; simp)
 ·
  have := (World.ownsRow.lt h.kown k e).1
  have := h.sB
  omega
set_option maxHeartbeats 6400000 in
set_option maxRecDepth 4000 in
theorem extendK_any (X : LX) (hX : X.OK) (B : Nat → Bool) (v : Nat) (_hv : v < X.M) (hBv : B v = false) (F : Nat → Bool) (w : World) (σ : ST) (h : LI X F w σ) (hI : IdleAll X.L B σ) (a : TS) (ha : σ v = some a) (hlt : a.K.length < 50)
  (HBG : a.on = false → ∀ w', LI X F w' (upS σ v a.start) → Calls Tryd.prog 55 #[.pointer (some ⟨X.L.lb, 0, none⟩), kI v, .pointer (some ⟨a.sb, 0, none⟩)] w' (BegR X B F w' (upS σ v a.start) v))
  (HGK : ∀ last x, a.K[a.K.length - 1]? = some last → X.L.es[last.d.e.toNat]? = some x → ∀ (i r : Nat), last.r[i]? = some r → ∀ (i' r' : Nat) (tt : Int), x.t[i']? = some tt → (last.r.set i (r + 1))[i']? = some r' → ∀ F' w' σ' a', LI X F' w' σ' → IdleAll X.L (bv B v) σ' → Ext B σ σ' → σ' v = some a' → a'.K = a.K → a'.on = true →
   Calls Tryd.prog 35 #[.pointer (some ⟨X.L.lb, 0, none⟩), .int .i64 tt, rkv r'] w' (GetR X (bv B v) F' w' σ' tt.toNat r')) :
  Calls Tryd.prog 47 #[.pointer (some ⟨X.L.lb, 0, none⟩), kI v, .pointer (some ⟨a.sb, 0, none⟩)] w (ExtR X B F w σ v a) := by
 have HXO := Lib.hid hX
 have HI := Lib.hid h
 have HID := Lib.hid hI
 have HA := Lib.hid ha
 have HLT := Lib.hid hlt
 have HBV := Lib.hid hBv
 have hM := h.mem v a ha
 have HM := Lib.hid hM
 have HP := Lib.hid (h.pl v a ha)
 have s2 : w.cell? ⟨a.sb, 2, none⟩ = some (.bool a.on) := hM.sblk.cell rfl
 have e2 := hM.sblk.fz 2
 obtain ⟨KA, Kc, hKv⟩ := own_formK hM.kown
 have s0 : w.cell? ⟨a.sb, 0, none⟩ = some (.slice KA a.K.length Kc) := by rw [← hKv]; exact hM.sblk.cell rfl
 have HKV := Lib.hid hKv
 have HB1 := Lib.hid HBG
 have HG1 := Lib.hid HGK
 have hkl := (h.pl v a ha).kl
 clear h hI ha hlt hBv HBG HGK hX hM hKv
 obtain ⟨on, hon⟩ : ∃ q, q = a.on := ⟨_, rfl⟩
 rw [← hon] at s2
 have HON := Lib.hid hon
 clear hon
 cases on with
 | false =>
  have HS := Lib.hid HM.out.starts
  have HLS := Lib.hid (show LI X F (w.setCell ⟨a.sb, 2, none⟩ (.bool true)) (upS σ v a.start) from HI.out.step HA.out HS.out.2 (fun _ e => e) (fun _ e => .inl e) (fun k hk => Nat.lt_of_lt_of_le (HI.out.fb k hk) HS.out.2.size) rfl (fun _ e => .inl e) HS.out.1 HP.out.start (Nat.le_refl _) (fun c hc => .inl hc))
  have HBC := Lib.hid (HB1.out HON.out.symm _ HLS.out)
  go_enter Tryd.func47, Tryd.ntmps47
  go_wp2_with fail
  refine HBC.out.mono ?_
  rintro e w2 ⟨F2, σ2, a2, li2, id2, sv2, on2, ie2, ex2, fr2, hres⟩
  have hoff := HP.out.off HON.out.symm
  have hex : Ext B σ σ2 := by
   have h1 : Ext (butv (bv B v) v) σ (upS σ v a.start) := Ext.up HA.out rfl (fun _ => rfl) (fun _ _ h => h)
   rw [butv_bv HBV.out] at h1
   exact h1.trans ex2
  have hfr : Fr X F w σ F2 w2 σ2 := (Fr.step (b := a.start) HA.out HS.out.2 (fun _ e => e) (fun _ e => .inl e) (fun _ e => .inl e)).trans fr2
  have HR := Lib.hid (And.intro li2 (And.intro (id2.shut sv2 ie2) (And.intro hex (And.intro hfr (And.intro sv2 ie2)))))
  have HOF := Lib.hid hoff.1
  clear li2 id2 sv2 on2 ie2 ex2 fr2 hoff hex hfr
  rcases hres with ⟨rfl, hl⟩ | ⟨rfl, hl⟩
  ·
   have HL := Lib.hid hl
   clear hl
   go_wp2_with fail
   go_returns
   exact ⟨F2, σ2, a2, HR.out.1, HR.out.2.1, HR.out.2.2.1, HR.out.2.2.2.1, HR.out.2.2.2.2.1, .inl ⟨rfl, by rw [HOF.out, HL.out]; decide⟩⟩
  ·
   have HL := Lib.hid hl
   clear hl
   go_wp2_with fail
   go_returns
   refine ⟨F2, σ2, a2, HR.out.1, HR.out.2.1, HR.out.2.2.1, HR.out.2.2.2.1, HR.out.2.2.2.2.1, .inr ⟨rfl, HL.out.trans HOF.out.symm, fun d hd => ?_⟩⟩
   exact absurd hd ((HR.out.2.2.2.2.2.none HL.out).1 d)
 | true =>
  have hie := HID.out v a HA.out HBV.out HON.out.symm
  have HIE := Lib.hid hie
  by_cases hz : a.K.length = 0
  ·
   have hK0 : a.K = [] := List.length_eq_zero_iff.1 hz
   have hno := hie.none hK0
   have HNO := Lib.hid hno
   have s1 : w.cell? ⟨a.sb, 1, none⟩ = some (.pointer (some ⟨a.qb, 0, none⟩)) := HM.out.sblk.cell rfl
   have HPC := Lib.hid (popK_any HXO.out.L HM.out.qk HM.out.heap)
   rw [hz] at s0
   clear hno hie
   go_enter Tryd.func47, Tryd.ntmps47
   go_wp2_with fail
   refine HPC.out.mono ?_
   rintro e w2 ⟨⟨hm0, rfl, hq⟩ | ⟨hm0, _⟩, hfs⟩
   ·
    have HQ := Lib.hid (And.intro hq hfs)
    clear hq hfs hm0
    go_wp2_with fail
    go_returns
    have hT := HM.out.queue HQ.out.2 HQ.out.1 HM.out.heap
    have hT2 : TSM X.L F v w2 a := hT
    have hfl : FutS a.LB w w2 := HQ.out.2.mono (fun k hk => .inl (lb_q hk))
    have hLI : LI X F w2 (upS σ v a) := HI.out.step HA.out hfl (fun _ e => e) (fun _ e => .inl e) (fun k hk => Nat.lt_of_lt_of_le (HI.out.fb k hk) HQ.out.2.size) rfl (fun _ e => .inl e) hT2 HP.out (Nat.le_refl _) (fun c hc => .inl hc)
    have hEX : Ext B σ (upS σ v a) := by
     have h1 : Ext (butv B v) σ (upS σ v a) := Ext.up HA.out rfl (fun h => h) (fun _ _ h => h)
     rwa [butv_no HBV.out] at h1
    refine ⟨F, upS σ v a, a, hLI.go ((Fut.refl w2).alloc _), (HID.out.open' (a := a)).shut (upS_same _ _ _) HIE.out, hEX, (Fr.step (b := a) HA.out hfl (fun _ e => e) (fun _ e => .inl e) (fun _ e => .inl e)).trans (Fr.of_fut ((Fut.refl w2).alloc _)), upS_same _ _ _, .inr ⟨rfl, rfl, fun d hd => absurd hd (HNO.out.1 d)⟩⟩
   ·
    have := HNO.out.2
    omega
  ·
   obtain ⟨n, hn⟩ : ∃ n, n = a.K.length := ⟨_, rfl⟩
   obtain ⟨p, rfl⟩ : ∃ p, n = p + 1 := ⟨n - 1, by omega⟩
   have hlm : ((p + 1 : Nat) : Int) - 1 = (p : Int) := by omega
   have wlm : IntKind.i64.wrap (((p : Int) + 1) - 1) = (p : Int) := by rw [IntKind.wrap_i64]; omega
   have hpn : p < p + 1 := by omega
   have hn50 : p + 1 ≤ 50 := by omega
   obtain ⟨last, hlast⟩ : ∃ c, a.K[p]? = some c := ⟨_, List.getElem?_eq_getElem (by omega)⟩
   obtain ⟨g0, cap0, hKg, _, hgl, hcap⟩ := ownC_form HM.out.kown (by omega)
   rw [HKV.out] at hKg
   injection hKg with e1 e2' e3
   subst e1 e3
   have hko := HM.out.kown
   rw [HKV.out] at hko
   obtain ⟨k0, k1, k2, k3, k4⟩ := ownC_at hko hlast rfl
   have hcok := HP.out.half.cok (toCd last) (.inl (List.mem_map.2 ⟨last, List.mem_of_getElem? hlast, rfl⟩))
   have hrk := HP.out.rk p last hlast
   have hlC := HM.out.ktr last (List.mem_of_getElem? hlast)
   have HCOK := Lib.hid hcok
   have HRK := Lib.hid hrk
   have HLC := Lib.hid hlC
   have HLA := Lib.hid hlast
   obtain ⟨k, lA, lc, lks, hd, hke, hTr⟩ := node_eQ hcok
   obtain ⟨ld, ⟨lvc, lvs⟩, lr, lrA, lrc⟩ := last
   simp only at hd
   subst hd
   simp only [DI.e, DI.A, DI.c, DI.k] at k0 k1 k2 k3 k4
   have HTR := Lib.hid hTr
   obtain ⟨x, hx⟩ : ∃ x, X.L.es[k]? = some x := by
    obtain ⟨E, _, h1, _⟩ := hTr
    rw [List.getElem?_map] at h1
    obtain ⟨x, hx, _⟩ := Option.map_eq_some_iff.1 h1
    exact ⟨x, hx⟩
   have HXX := Lib.hid hx
   have hrl : lr.length = x.t.length := by
    obtain ⟨E, _, h1, _, _, h4, _⟩ := hTr
    rw [List.getElem?_map, hx] at h1
    obtain rfl := Option.some.inj h1
    rw [h4]; simp [toEE]
   have hx3 : x.t.length ≤ 3 := HXO.out.L.tl x (List.mem_of_getElem? hx)
   have HXL := Lib.hid hrl
   obtain ⟨m, hm⟩ : ∃ m, lr.length = m := ⟨_, rfl⟩
   have HM3 := Lib.hid hm
   have hm3 : m ≤ 3 := by omega
   rw [hm] at k4
   rw [← hn] at s0
   have HN := Lib.hid hn
   have HKE := Lib.hid hke
   obtain ⟨lk, hlk⟩ : ∃ q, q = w.heap.size := ⟨_, rfl⟩
   have HLK := Lib.hid hlk
   have hB0 : Blk (w.alloc (.cells #[.int .i64 (k : Int), .slice lA lks.length lc, .int .i64 lvc, .int .i64 lvs, .slice lrA m lrc] 66)) lk 66 #[.int .i64 (k : Int), .slice lA lks.length lc, .int .i64 lvc, .int .i64 lvs, .slice lrA m lrc] := by rw [hlk]; exact Blk.new _ _ _
   have hJ0 : EJ X B v F w σ a ⟨.node (k : Int) lA lc lks, ⟨lvc, lvs⟩, lr, lrA, lrc⟩ lk 0 F (w.alloc (.cells #[.int .i64 (k : Int), .slice lA lks.length lc, .int .i64 lvc, .int .i64 lvs, .slice lrA m lrc] 66)) σ a := by
    refine ⟨HI.out.go ((Fut.refl w).alloc _), HID.out.open, Ext.refl _ _, Fr.of_fut ((Fut.refl w).alloc _), HA.out, ⟨rfl, rfl, HON.out.symm, rfl⟩, ⟨Nat.le_refl _, fun _ => rfl⟩, fun e l hs => hie.fr.c e l hs, fun _ _ h => h, fun j r hj => by omega, ?_, fun h1 => by have := HI.out.bF h1; omega, ?_⟩
    ·
     simp only [DI.e, DI.A, DI.c, DI.k]
     rw [hm]; exact hB0
    ·
     cases e : F lk with
     | false => rfl
     | true => have := HI.out.fb lk e; omega
   have HJ0 := Lib.hid hJ0
   clear hJ0 hB0 hlk hke hm hrl hx hTr hlC hrk hcok hko hlast hn hie hz
   go_enter Tryd.func47, Tryd.ntmps47
   go_wp2_with fail
   rw [← HLK.out]
   generalize w.alloc (.cells #[.int .i64 (k : Int), .slice lA lks.length lc, .int .i64 lvc, .int .i64 lvs, .slice lrA m lrc] 66) = w3 at *
   go_loopw [44] (fun i wr => ∃ (j : Nat) (F' : Nat → Bool) (σ' : ST) (t : TS), j ≤ m ∧ i = .int .i64 j ∧ Hid (EJ X B v F w σ a ⟨.node (k : Int) lA lc lks, ⟨lvc, lvs⟩, lr, lrA, lrc⟩ lk j F' wr σ' t)) (fun i _ => m - (intOf i).toNat)
   case atStart => exact ⟨0, F, σ, a, Nat.zero_le _, rfl, HJ0⟩
   case round =>
    obtain ⟨j, F', σ', t, hj, rfl, HJ⟩ := hrel
    have hlb := HJ.out.lb
    simp only [DI.e, DI.A, DI.c, DI.k] at hlb
    rw [HM3.out] at hlb
    have HLB := Lib.hid hlb
    have b0 := hlb.cell (i := 0) rfl
    have b4 := hlb.cell (i := 4) rfl
    clear hlb
    by_cases hjm : j < m
    ·
     obtain ⟨rr, hrr⟩ := get_lt HM3.out hjm
     have HRR := Lib.hid hrr
     have hr50 : rr ≤ p := HRK.out rr (List.mem_of_getElem? hrr)
     have hKF : KpF F w wr := KpF.of_futS HI.out.fb (fun q hq => by
      cases e : LBb X σ q with
      | false => rfl
      | true => rw [HI.out.nF (LBb_iff.1 e)] at hq; cases hq) HJ.out.fr.f
     have hrd : Rd1 wr lrA rkv lr := Rd1.keepF HLC.out.2.1 HLC.out.2.2 hKF
     have HRD := Lib.hid hrd
     have hst := fun (g cap : Nat) (w4 : World) (h1 : w4.ownsRow wr.heap.size 3 1 (.slice (some ⟨g, 0, none⟩) m cap) m (lr.map rkv)) (h2 : Fut wr w4) (h3 : wr.heap.size ≤ g) => (show w4.cell? ⟨g, j, none⟩ = some (.int .i64 (rr : Int)) ∧ w4.frozen? ⟨g, j, none⟩ = false ∧
       Blk (w4.setCell ⟨g, j, none⟩ (.int .i64 ((rr : Int) + 1))) lk 66 #[.int .i64 (k : Int), .slice lA lks.length lc, .int .i64 lvc, .int .i64 lvs, .slice lrA m lrc] ∧
       (w4.setCell ⟨g, j, none⟩ (.int .i64 ((rr : Int) + 1))).ownsRow wr.heap.size 3 1 (.slice (some ⟨g, 0, none⟩) m cap) m ((lr.set j (rr + 1)).map rkv) ∧
       Fut wr (w4.setCell ⟨g, j, none⟩ (.int .i64 ((rr : Int) + 1))) ∧ wr.heap.size ≤ g from by
      have hlt := HLB.out.lt
      refine ⟨(World.ownsRow.cellAt h1 j (by simpa using hjm)).trans (by rw [List.getElem?_map, HRR.out]; rfl), World.ownsRow.frozenAt h1 _, (HLB.out.fut h2).setOther (a := ⟨g, j, none⟩) (show lk ≠ g by omega) _, ?_, h2.setCell (p := ⟨g, j, none⟩) h3 _, h3⟩
      have h4 := (World.ownsRow.stored h1 j (.int .i64 ((rr : Int) + 1))).1
      rw [List.map_set]
      exact h4)
     have HST := Lib.hid hst
     have wrr : IntKind.i64.wrap ((rr : Int) + 1) = (rr : Int) + 1 := by rw [IntKind.wrap_i64]; omega
     clear hrr hKF hrd hst
     go_wp2_with (at_builtin; refine wpList_clone rfl (.const (.slice none 0 0)) (.tmp 48) rfl rfl lrA m lrc lr rfl HM3.out (by omega) (by omega) HRD.out ?_; intro g cap w4 h1 h2 h3; have HS4 := Lib.hid (HST.out g cap w4 h1 h2 h3); have d1 := HS4.out.1; have d2 := HS4.out.2.1; have d3 := HS4.out.2.2.1.cell (i := 0) rfl; clear h1 h2 h3)
     generalize w4.setCell ⟨g, j, none⟩ (.int .i64 ((rr : Int) + 1)) = w5 at *
     obtain ⟨_, _, hlb5, hrow, hfu, hgw⟩ := HS4.out
     obtain ⟨G, hG⟩ : ∃ G : Nat → Bool, G = fun q => F' q || q == g := ⟨_, rfl⟩
     have hFG : ∀ q, F' q = true → G q = true := fun q hq => by rw [hG]; simp [hq]
     have hGF : ∀ q, G q = true → F' q = true ∨ q = g := fun q hq => by
      rw [hG] at hq
      simpa using hq
     have hGg : G g = true := by rw [hG]; simp
     have hgn : ¬ LBs X σ' g := fun h1 => by have := HJ.out.li.bF h1; omega
     have hgl5 : g < w5.heap.size := (World.ownsRow.lt hrow g rfl).2
     have hLG : LI X G w5 σ' := (HJ.out.li.go hfu).frz hFG (fun q hq => by
      rcases hGF q hq with h1 | rfl
      ·
       exact .inl h1
      ·
       exact .inr ⟨hgl5, hgn⟩)
     have hszw : w.heap.size ≤ wr.heap.size := HJ.out.fr.f.size
     have hFrG : Fr X F w σ G w5 σ' := (HJ.out.fr.trans (Fr.of_fut hfu)).frz hFG (fun q hq => by
      rcases hGF q hq with h1 | rfl
      ·
       exact .inl h1
      ·
       exact .inr (by omega))
     have hlg : ¬ LBs X σ' lk ∧ G lk = false := ⟨HJ.out.ll.1, by
      cases e : G lk with
      | false => rfl
      | true =>
       rcases hGF lk e with h1 | h1
       ·
        rw [HJ.out.ll.2] at h1; cases h1
       ·
        have := HLB.out.lt; omega⟩
     have hxh : x.h = (v : Int) := by
      have h1 := HP.out.half.cok _ (.inl (List.mem_map.2 ⟨_, List.mem_of_getElem? HLA.out, rfl⟩))
      have h2 := (PK.validD_iff _ _ _ _).1 (by
       have h3 := h1.2.1
       simp only [toCd, toDT_eq] at h3
       exact h3)
      obtain ⟨E, g1, g2, _⟩ := h2
      rw [edge_at HXX.out] at g1
      obtain rfl := Option.some.inj g1
      have := (okE_parts ((validB_parts HXO.out.L.vd).2.2 x (List.mem_of_getElem? HXX.out))).1
      unfold toEE at g2
      simp only at g2
      omega
     have hOF := offerK_any X HXO.out (bv B v) v (bv_same B v) G w5 σ' hLG HJ.out.id t HJ.out.sv HJ.out.k.2.2.1 k x HXX.out hxh (lr.set j (rr + 1)) (some ⟨g, 0, none⟩) cap (by rw [List.length_set]; exact HXL.out) (fun r hr => by
      rcases List.mem_or_eq_of_mem_set hr with h1 | h1
      ·
       have := HRK.out r h1; omega
      ·
       omega) (fun r hr => by
      rw [HJ.out.k.1, ← HN.out]
      rcases List.mem_or_eq_of_mem_set hr with h1 | h1
      ·
       have := HRK.out r h1; omega
      ·
       omega) (Rd1.of_own hrow) (fun b o e _ => by
      injection e with e
      injection e with e1 _ _
      rw [← e1]; exact hGg) (by
      have h1 := HJ.out.nx.1
      have h2 := HIE.out.nx
      have h3 := HIE.out.o2
      omega) (fun _ d hd hdf c hc => by
      rw [HJ.out.k.1] at hc
      have h1 := succ_lt (EEs_ok HXO.out.L.vd) HTR.out hd HRR.out
      obtain ⟨q, hq⟩ := List.getElem?_of_mem hc
      have hql := (List.getElem?_eq_some_iff.1 hq).1
      by_cases e : q = p
      ·
       subst e
       rw [HLA.out] at hq
       obtain rfl := Option.some.inj hq
       exact h1
      ·
       have h2 := HP.out.half.pre.srt q p (toDT c.d) _ (by have := HN.out; omega) (by rw [List.getElem?_map, List.getElem?_map, hq]; rfl) (by rw [List.getElem?_map, List.getElem?_map, HLA.out]; rfl)
       exact cmp_lt_le h2 (Int.le_of_lt h1)) (fun i' r' tt h1 h2 F2 w2 σ2 li2 id2 ex2 => by
      have hK2 : ∃ a2, σ2 v = some a2 ∧ a2.K = a.K ∧ a2.on = true := by
       obtain ⟨a2, g1, _, _, _, g5⟩ := ex2.k v _ (upS_same _ _ _)
       rw [g5 (bv_same B v)] at g1
       exact ⟨_, g1, HJ.out.k.1, HJ.out.k.2.2.1⟩
      obtain ⟨a2, g1, g2, g3⟩ := hK2
      have hE2 : Ext B σ σ2 := by
       have e1 : Ext (butv (bv B v) v) σ' (upS σ' v (t.note k (lr.set j (rr + 1)))) := Ext.up HJ.out.sv rfl (fun h => h) (fun _ _ h => h)
       rw [butv_bv HBV.out] at e1
       exact (HJ.out.ex.trans e1).trans (ex2.mono (fun u hu => by simp [bv, hu]))
      exact HG1.out ⟨.node (k : Int) lA lc lks, ⟨lvc, lvs⟩, lr, lrA, lrc⟩ x (by rw [← HN.out, Nat.add_sub_cancel]; exact HLA.out) (by simp only [DI.e, Int.toNat_natCast]; exact HXX.out) j rr HRR.out i' r' tt h1 h2 F2 w2 σ2 a2 li2 id2 hE2 g1 g2 g3)
     rw [List.length_set, HM3.out, HJ.out.k.2.1] at hOF
     have HOF := Lib.hid hOF
     have HGX := Lib.hid (And.intro hLG (And.intro hFrG (And.intro hlg hlb5)))
     clear hOF hLG hFrG hlg hlb5 hrow hfu hgw hFG hGF hGg hgn hgl5 hG hxh d1 d2
     go_wp2_with fail
     refine HOF.out.mono ?_
     rintro e w6 ⟨⟨u, rfl⟩, F6, σ6, t6, li6, id6, sv6, ex6, of6, fr6⟩
     have H6 := Lib.hid (And.intro li6 (And.intro id6 (And.intro sv6 (And.intro ex6 (And.intro of6 fr6)))))
     clear li6 id6 sv6 ex6 of6 fr6
     go_wp2_with fail
     obtain ⟨li6, id6, sv6, ex6, of6, fr6⟩ := H6.out
     have hk6 := fr6.keepB HGX.out.2.2.2.lt HGX.out.2.2.1
     have hfc := of6.frc HJ.out.fc
     obtain ⟨o1, o2, o3, o4, o5, o6, o7⟩ := of6
     rw [butv_bv HBV.out] at ex6
     refine ⟨⟨j + 1, F6, σ6, t6, by omega, by go_num, Lib.hid ⟨li6, id6, HJ.out.ex.trans ex6, HGX.out.2.1.trans fr6, sv6, ⟨o1.trans HJ.out.k.1, o2.trans HJ.out.k.2.1, o3.trans HJ.out.k.2.2.1, o4.trans HJ.out.k.2.2.2⟩, ⟨?_, fun ho => ?_⟩, hfc, fun e l hs => (o6 e l).2 (.inl (HJ.out.mn e l hs)), fun j' r' hj' hr' => ?_, ?_, hk6.2⟩⟩, by simp [intOf]; omega⟩
     ·
      have h1 := HJ.out.nx.1
      rcases o7 with ⟨h2, _⟩ | ⟨_, _, _, h2, _⟩ <;> omega
     ·
      have h1 := HJ.out.nx.2 ho
      rcases o7 with ⟨h2, _⟩ | ⟨_, _, _, _, h3, _⟩
      ·
       omega
      ·
       exfalso
       apply h3
       refine HJ.out.mn _ _ ?_
       have h4 := HIE.out.fr.s p (toCd ⟨.node (k : Int) lA lc lks, ⟨lvc, lvs⟩, lr, lrA, lrc⟩) (by rw [ho, ← HN.out]; omega) (by rw [List.getElem?_map, HLA.out]; rfl) j rr HRR.out
       simpa [toCd, DI.e] using h4
     ·
      by_cases e : j' = j
      ·
       subst e
       have e9 : lr[j']? = some r' := hr'
       rw [HRR.out] at e9
       obtain rfl := Option.some.inj e9
       simp only [DI.e, Int.toNat_natCast]
       exact (o6 _ _).2 (.inr ⟨rfl, rfl⟩)
      ·
       exact (o6 _ _).2 (.inl (HJ.out.dn j' r' (by omega) hr'))
     ·
      simp only [DI.e, DI.A, DI.c, DI.k]
      rw [HM3.out]
      exact hk6.1.trans HGX.out.2.2.2
    ·
     have hjn : j = m := by omega
     subst hjn
     have hfr := HJ.out.front HIE.out (by rw [← HN.out, Nat.add_sub_cancel]; exact HLA.out) (by rw [show lr.length = j from HM3.out]; exact Nat.le_refl _)
     have hMt := HJ.out.li.mem v t HJ.out.sv
     have s1 : wr.cell? ⟨a.sb, 1, none⟩ = some (.pointer (some ⟨t.qb, 0, none⟩)) := by rw [← HJ.out.k.2.1]; exact hMt.sblk.cell rfl
     have HMT := Lib.hid hMt
     have HFR := Lib.hid hfr
     have HPC := Lib.hid (popK_any HXO.out.L hMt.qk hMt.heap)
     have hKne : a.K ≠ [] := fun e => by have := HN.out; rw [e] at this; simp at this
     have HNX := Lib.hid (HJ.out.nx' HIE.out (by omega) hKne)
     clear hfr hMt b0 b4 hKne
     go_wp2_with fail
     refine HPC.out.mono ?_
     rintro e w2 ⟨⟨hm0, rfl, hq⟩ | ⟨hm0, rfl, v', H', hq, hh, h1, h2, hvb⟩, hfs⟩
     ·
      have HQ := Lib.hid (And.intro hq (And.intro hfs hm0))
      clear hq hfs hm0
      go_wp2_with fail
      go_returns
      obtain ⟨hq, hfs, hm0⟩ := HQ.out
      have hT := (HMT.out.queue hfs hq HMT.out.heap : TSM X.L F' v w2 t).ghost t.K.length
      have hfl : FutS t.LB wr w2 := hfs.mono (fun k hk => .inl (lb_q hk))
      have hLI : LI X F' w2 (upS σ' v { t with o := t.K.length }) := HJ.out.li.step HJ.out.sv hfl (fun _ e => e) (fun _ e => .inl e) (fun k hk => Nat.lt_of_lt_of_le (HJ.out.li.fb k hk) hfs.size) rfl (fun _ e => .inl e) hT ((HJ.out.li.pl v t HJ.out.sv).ghost HJ.out.k.2.2.1 _) (Nat.le_refl _) (fun c hc => .inl hc)
      have hEX : Ext B σ (upS σ' v { t with o := t.K.length }) := by
       have e1 : Ext (butv B v) σ' (upS σ' v { t with o := t.K.length }) := Ext.up HJ.out.sv rfl (fun h => h) (fun _ _ h => h)
       rw [butv_no HBV.out] at e1
       exact HJ.out.ex.trans e1
      have hKl : t.K.length = p + 1 := by rw [HJ.out.k.1]; exact HN.out.symm
      have hIt : Idle X.L v { t with o := t.K.length } := ⟨fun e => by
       have e' : t.K = [] := e
       rw [e'] at hKl; simp at hKl, HFR.out, Nat.le_succ _, Nat.le_refl _, by
       show t.nx ≤ 12 + 3 * t.K.length
       rw [HJ.out.k.1]; exact HNX.out⟩
      have hfull := Front.full (EEs_ok HXO.out.L.vd) (best_exists (EEs_ok HXO.out.L.vd) HXO.out.S HXO.out.s) (HJ.out.li.pl v t HJ.out.sv).half HFR.out (by rw [List.length_map]; exact Nat.le_refl _) (fun q hq => by
       obtain ⟨i, hi, _⟩ := hq
       omega)
      refine ⟨F', upS σ' v { t with o := t.K.length }, _, hLI.go ((Fut.refl w2).alloc _), IdleAll.shut (fun u c hu hb hon => ?_) (upS_same _ _ _) hIt, hEX, (HJ.out.fr.trans (Fr.step (b := { t with o := t.K.length }) HJ.out.sv hfl (fun _ e => e) (fun _ e => .inl e) (fun _ e => .inl e))).trans (Fr.of_fut ((Fut.refl w2).alloc _)), upS_same _ _ _, .inr ⟨rfl, HJ.out.k.1, ?_⟩⟩
      ·
       rw [upS_other _ _ _ _ (bv_no hb).2] at hu
       exact HJ.out.id u c hu hb hon
      ·
       rw [← map_toCd]; exact hfull
     ·
      have HQ := Lib.hid (And.intro hq (And.intro hh (And.intro h1 (And.intro h2 (And.intro hvb (And.intro hfs hm0))))))
      have hT1 : TSM X.L F' v w2 { t with Hv := v', H := H', m := t.m - 1 } := HMT.out.queue (nx' := t.nx) hfs hq hh
      have HT1 := Lib.hid hT1
      obtain ⟨hc0, HC0⟩ : ∃ c, (t.H 0).c = c := ⟨_, rfl⟩
      have HCC := Lib.hid HC0
      have hctr := (HMT.out.qk.tr 0 hm0).keep (HMT.out.qk.kp hfs) (fun _ e => e)
      have hcok := HMT.out.qk.ok 0 hm0
      rw [HC0] at hctr hcok ⊢
      have HCR := Lib.hid (And.intro hctr hcok)
      obtain ⟨cd, ⟨cvc, cvs⟩, cr, crA, crc⟩ := hc0
      obtain ⟨KA2, Kc2, hKv2⟩ := own_formK hT1.kown
      have HKV2 := Lib.hid hKv2
      have hKl : t.K.length = p + 1 := by rw [HJ.out.k.1]; exact HN.out.symm
      have HKL := Lib.hid hKl
      have hs20 : w2.cell? ⟨a.sb, 0, none⟩ = some (.slice KA2 (p + 1) Kc2) := by
       rw [← HJ.out.k.2.1, ← hKl]
       have := hT1.sblk.cell (i := 0) rfl
       rw [hKv2] at this
       exact this
      clear hq hfs h1 h2 hh hvb hctr hcok hT1 hKv2 HC0 hKl
      obtain ⟨cx, hcx⟩ : ∃ q, q = w2.heap.size := ⟨_, rfl⟩
      have HCX := Lib.hid hcx
      have HBX := Lib.hid (show Blk (w2.alloc (.cells #[.int .i64 cd.e, .slice cd.A cd.k.length cd.c, .int .i64 cvc, .int .i64 cvs, .slice crA cr.length crc] 66)) cx 66 #[.int .i64 cd.e, .slice cd.A cd.k.length cd.c, .int .i64 cvc, .int .i64 cvs, .slice crA cr.length crc] from by rw [hcx]; exact Blk.new _ _ _)
      have HF3 := Lib.hid (show Fut w2 (w2.alloc (.cells #[.int .i64 cd.e, .slice cd.A cd.k.length cd.c, .int .i64 cvc, .int .i64 cvs, .slice crA cr.length crc] 66)) from (Fut.refl w2).alloc _)
      clear hcx
      go_wp2_with fail
      rw [← HCX.out]
      generalize w2.alloc (.cells #[.int .i64 cd.e, .slice cd.A cd.k.length cd.c, .int .i64 cvc, .int .i64 cvs, .slice crA cr.length crc] 66) = w3 at *
      obtain ⟨S, hS⟩ : ∃ S : Nat → Bool, S = fun q => (Value.slice KA2 (p + 1) Kc2).ownBlock == some q := ⟨_, rfl⟩
      have hkw : w2.ownsRow t.B 66 5 (.slice KA2 (p + 1) Kc2) (p + 1) (t.K.flatMap encC) := by
       have h1 := HT1.out.kown
       have h2 : w2.ownsRow t.B 66 5 t.Kv t.K.length (t.K.flatMap encC) := h1
       have h3 : t.Kv = .slice KA2 t.K.length Kc2 := HKV2.out
       rw [h3, HKL.out] at h2
       exact h2
      have HKW := Lib.hid hkw
      have hSsb : S a.sb = false := by
       rw [hS]
       have h1 := own_ne_blk hkw HT1.out.sblk (by decide)
       rw [← HJ.out.k.2.1]
       exact beq_eq_false_iff_ne.2 (fun e => h1 t.sb e rfl)
      have hScx : S cx = false := by
       rw [hS]
       exact beq_eq_false_iff_ne.2 (fun e => by
        have := (World.ownsRow.lt hkw cx e).2
        have := HCX.out
        omega)
      have HSV := Lib.hid (show ∀ q, (Value.slice KA2 (p + 1) Kc2).ownBlock = some q → S q = true from fun q hq => by rw [hS]; simp [hq])
      have x0 := cell_futS (HF3.out.cell hs20) hSsb
      have y0 := cell_futS (HBX.out.cell (i := 0) rfl) hScx
      have y1 := cell_futS (HBX.out.cell (i := 1) rfl) hScx
      have y2 := cell_futS (HBX.out.cell (i := 2) rfl) hScx
      have y3 := cell_futS (HBX.out.cell (i := 3) rfl) hScx
      have y4 := cell_futS (HBX.out.cell (i := 4) rfl) hScx
      clear hkw hSsb hScx hS hs20
      refine wp_region_MG (relS S) o_kbest_lister_extend_18 (by kernel_rfl) (by kernel_rfl) (by intro c a d v w h; cases d <;> exact h) ?_; unfold o_kbest_lister_extend_18
      iterate 6 (refine wpS_h rfl rfl (fun K hK => ?_); go_simp; refine hK _ _ ?_; clear hK K)
      refine wpG_o rfl rfl (fun K hK => ?_)
      go_simp
      go_at_K
      refine hK _ _ (.inr ((relS S).of_fut ((Fut.refl _).alloc _))) ?_
      clear hK K x0 y0 y1 y2 y3 y4
      obtain ⟨w4, hw4⟩ : ∃ w4, w4 = (w3.alloc (.cells #[.int .i64 cd.e, .slice cd.A cd.k.length cd.c, .int .i64 cvc, .int .i64 cvs, .slice crA cr.length crc] 66)).drew := ⟨_, rfl⟩
      have HF4 := Lib.hid (show Fut w2 w4 from by rw [hw4]; exact (HF3.out.alloc _).drew)
      have HNB := Lib.hid (show w4.heap[w3.heap.size]? = some (.cells #[.int .i64 cd.e, .slice cd.A cd.k.length cd.c, .int .i64 cvc, .int .i64 cvs, .slice crA cr.length crc] 66 (0, 0)) from by rw [hw4]; exact heap_new' _ _ _ rfl)
      have HKW4 := Lib.hid (own_fut HKW.out HF4.out)
      rw [show (w3.alloc (.cells #[.int .i64 cd.e, .slice cd.A cd.k.length cd.c, .int .i64 cvc, .int .i64 cvs, .slice crA cr.length crc] 66)).drew = w4 from hw4.symm]
      clear hw4
      refine wpG_o rfl rfl (fun K hK => ?_)
      refine wp_push 92 66 5 72 _ Tryd.underlying92 info_ca rfl (by decide) (by decide) (.tmp 77) (.tmp 79) rfl t.B (.slice KA2 (p + 1) Kc2) (p + 1) _ rfl HKW4.out w3.heap.size [.int .i64 cd.e, .slice cd.A cd.k.length cd.c, .int .i64 cvc, .int .i64 cvs, .slice crA cr.length crc] rfl HNB.out rfl (by simp [Value.oneCell']) (by omega) (Nat.le_trans HT1.out.qk.sz HF4.out.size) ?_
      intro g cap w5 p1 p2 p3
      refine hK _ _ (.inr ((FutS.refl _).grown p2 (fun k hk => .inl (HSV.out k hk)))) ?_
      clear hK K
      have HP5 := Lib.hid (And.intro p1 (And.intro p2 p3))
      have HS5 := Lib.hid (((show Blk w2 a.sb 96 #[t.Kv, .pointer (some ⟨t.qb, 0, none⟩), .bool t.on, .map (some t.mb)] from by rw [← HJ.out.k.2.1]; exact HT1.out.sblk).fut HF4.out).grown p2 (fun e => own_ne_blk HKW4.out (((show Blk w2 a.sb 96 #[t.Kv, .pointer (some ⟨t.qb, 0, none⟩), .bool t.on, .map (some t.mb)] from by rw [← HJ.out.k.2.1]; exact HT1.out.sblk).fut HF4.out)) (by decide) a.sb e.symm rfl))
      clear p1 p2 p3
      iterate 2 (refine wpS_h rfl rfl (fun K hK => ?_); go_simp; refine hK _ _ ?_; clear hK K)
      refine wpG_ol rfl (by kernel_rfl) rfl (fun K hK => ?_)
      have u0 := HS5.out.cell (i := 0) rfl
      have f0 := HS5.out.fz 0
      go_simp
      refine hK _ _ ?_
      clear hK K u0 f0
      refine wpG_nil ?_
      go_wp2_with fail
      go_returns
      obtain ⟨hq, hh, h1, h2, hvb, hfs, hm0⟩ := HQ.out
      obtain ⟨p1, p2, p3⟩ := HP5.out
      have hwr2 : wr.heap.size ≤ w2.heap.size := hfs.size
      have hw24 : w2.heap.size ≤ w4.heap.size := HF4.out.size
      have hKF4 : KpF F' w2 w4 := KpF.of_fut HT1.out.qk.fb HF4.out
      have hb4 : ∀ q, F' q = true → q < w4.heap.size := fun q hq => Nat.lt_of_lt_of_le (HT1.out.qk.fb q hq) hw24
      have hT4 : TSM X.L F' v w4 { t with Hv := v', H := H', m := t.m - 1 } := HT1.out.keep hw24 (fun q hq => HF4.out.block q (HT1.out.lt q hq)) hKF4 (fun _ e => e) hb4 HT1.out.fL
      have hKvE : t.Kv = .slice KA2 (p + 1) Kc2 := by
       have h3 : t.Kv = .slice KA2 t.K.length Kc2 := HKV2.out
       rw [h3, HKL.out]
      have hgF : F' g = false := by
       rcases p3 with h5 | h5
       ·
        cases e : F' g with
        | false => rfl
        | true =>
         have := HMT.out.fL g e
         rw [lb_k (by rw [hKvE]; exact h5)] at this; cases this
       ·
        cases e : F' g with
        | false => rfl
        | true => have := hb4 g e; omega
      have hgsb : g ≠ a.sb := own_ne_blk p1 HS5.out (by decide) g rfl
      have hown : (w5.setCell ⟨a.sb, 0, none⟩ (.slice (some ⟨g, 0, none⟩) (p + 1 + 1) cap)).ownsRow t.B 66 5 (.slice (some ⟨g, 0, none⟩) (p + 1 + 1) cap) (t.K ++ [(⟨cd, ⟨cvc, cvs⟩, cr, crA, crc⟩ : CI)]).length ((t.K ++ [(⟨cd, ⟨cvc, cvs⟩, cr, crA, crc⟩ : CI)]).flatMap encC) := by
       rw [List.length_append, HKL.out, List.flatMap_append]
       have h3 := World.ownsRow.kept p1 (grown_set w5 ⟨a.sb, 0, none⟩ (.slice (some ⟨g, 0, none⟩) (p + 1 + 1) cap)) (.inr (by simp only [Value.ownBlock]; intro e; exact hgsb (Option.some.inj e)))
       simpa [encC] using h3
      have hT6 := TSM.known (t := { t with Hv := v', H := H', m := t.m - 1 }) hT4 (K' := t.K ++ [⟨cd, ⟨cvc, cvs⟩, cr, crA, crc⟩]) (Kv' := .slice (some ⟨g, 0, none⟩) (p + 1 + 1) cap) (w' := w5.setCell ⟨a.sb, 0, none⟩ (.slice (some ⟨g, 0, none⟩) (p + 1 + 1) cap)) (((FutS.refl w4).grown p2 (fun q hq => .inl (by
       rw [← hKvE] at hq
       simp [hq]))).setCell (a := ⟨a.sb, 0, none⟩) (.inl (by simp [HJ.out.k.2.1])) _) (by
       have h3 := HS5.out.set 0 (.slice (some ⟨g, 0, none⟩) (p + 1 + 1) cap)
       show Blk _ t.sb _ _
       rw [HJ.out.k.2.1]
       exact h3) hown (fun c hc => by
       rcases List.mem_append.1 hc with h3 | h3
       ·
        exact ⟨hT4.ktr c h3, hT4.kok c h3⟩
       ·
        rw [List.mem_singleton.1 h3]
        exact ⟨HCR.out.1.keep hKF4 (fun _ e => e), HCR.out.2⟩) (fun q hq => by
       simp only [Value.ownBlock, Option.some.injEq] at hq
       subst hq
       exact hgF)
      have hT7 := hT6.ghost t.K.length
      have htake := (HJ.out.li.pl v t HJ.out.sv).take (EEs_ok HXO.out.L.vd) (best_exists (EEs_ok HXO.out.L.vd) HXO.out.S HXO.out.s) HJ.out.k.2.2.1 HFR.out HMT.out.heap hm0 (by rw [HJ.out.k.1]; exact HLT.out) (.slice (some ⟨g, 0, none⟩) (p + 1 + 1) cap) v' H' h1 h2
      rw [HCC.out] at htake
      obtain ⟨t2, ht2⟩ : ∃ t2 : TS, t2 = { t with K := t.K ++ [⟨cd, ⟨cvc, cvs⟩, cr, crA, crc⟩], Kv := .slice (some ⟨g, 0, none⟩) (p + 1 + 1) cap, Hv := v', H := H', m := t.m - 1, o := t.K.length } := ⟨_, rfl⟩
      have hT8 : TSM X.L F' v (w5.setCell ⟨a.sb, 0, none⟩ (.slice (some ⟨g, 0, none⟩) (p + 1 + 1) cap)) t2 := by rw [ht2]; exact hT7
      have hP8 : TSP X.L v t2 := by rw [ht2]; exact htake.1
      have hF8 : Front X.L.E v (t2.K.map toCd) t2.Q t2.Sn (fun _ => True) t2.o := by rw [ht2]; exact htake.2
      have hK8 : t2.K = t.K ++ [⟨cd, ⟨cvc, cvs⟩, cr, crA, crc⟩] := by rw [ht2]
      have hfl : FutS t.LB wr (w5.setCell ⟨a.sb, 0, none⟩ (.slice (some ⟨g, 0, none⟩) (p + 1 + 1) cap)) := ((((hfs.mono (fun k hk => .inl (lb_q (t := t) hk))) : FutS t.LB wr w2).then HF4.out).grown p2 (fun q hq => .inl (lb_k (t := t) (by rw [hKvE]; exact hq)))).setCell (a := ⟨a.sb, 0, none⟩) (.inl (by rw [← HJ.out.k.2.1]; exact lb_s t)) _
      have hLB : ∀ q, t2.LB q = true → t.LB q = true ∨ wr.heap.size ≤ q := fun q hq => by
       rw [ht2] at hq
       rcases lb_of.1 hq with h5 | h5 | h5 | h5
       ·
        rw [h5]; exact .inl (lb_s t)
       ·
        rw [h5]; exact .inl (lb_m t)
       ·
        simp only [Value.ownBlock, Option.some.injEq] at h5
        subst h5
        rcases p3 with h6 | h6
        ·
         exact .inl (lb_k (by rw [hKvE]; exact h6))
        ·
         exact .inr (by omega)
       ·
        unfold SQ at h5
        simp only [Bool.or_eq_true, beq_iff_eq] at h5
        rcases h5 with (h5 | h5) | h5
        ·
         rw [h5]; exact .inl (lb_q (t := t) sq_q)
        ·
         rw [h5]; exact .inl (lb_q (t := t) sq_m)
        ·
         rw [hvb] at h5
         exact .inl (lb_q (t := t) (by simp [SQ, h5]))
      have hLI := HJ.out.li.step (b := t2) HJ.out.sv hfl (fun _ e => e) (fun _ e => .inl e) (fun k hk => Nat.lt_of_lt_of_le (HJ.out.li.fb k hk) hfl.size) (by rw [ht2]) hLB hT8 hP8 (by rw [hK8, List.length_append]; omega) (fun c hc => by
       left
       rcases hc with hc | ⟨i, hi, hc⟩
       ·
        rw [hK8] at hc
        rcases List.mem_append.1 hc with h5 | h5
        ·
         exact .inl h5
        ·
         exact .inr ⟨0, hm0, by rw [HCC.out, List.mem_singleton.1 h5]⟩
       ·
        rw [ht2] at hi hc
        obtain ⟨i', hi', e⟩ := (h1 (H' i)).2 (.inr ⟨i, hi, rfl⟩)
        exact .inr ⟨i', hi', by rw [e]; exact hc⟩)
      have hEX : Ext B σ (upS σ' v t2) := by
       have e1 : Ext (butv B v) σ' (upS σ' v t2) := Ext.up HJ.out.sv (by rw [ht2]) (fun h => by rw [ht2]; exact h) (fun i c hc => by
        rw [hK8, List.getElem?_append_left (List.getElem?_eq_some_iff.1 hc).1]; exact hc)
       rw [butv_no HBV.out] at e1
       exact HJ.out.ex.trans e1
      have hIt : Idle X.L v t2 := ⟨fun e => by rw [hK8] at e; simp at e, hF8, by rw [hK8, List.length_append, ht2]; exact Nat.le_refl _, by rw [hK8, List.length_append, ht2]; exact Nat.le_succ _, by
       rw [ht2]
       show t.nx ≤ 12 + 3 * t.K.length
       rw [HJ.out.k.1]; exact HNX.out⟩
      refine ⟨F', upS σ' v t2, t2, hLI, IdleAll.shut (fun u c hu hb hon => ?_) (upS_same _ _ _) hIt, hEX, HJ.out.fr.trans (Fr.step (b := t2) HJ.out.sv hfl (fun _ e => e) (fun _ e => .inl e) hLB), upS_same _ _ _, .inl ⟨rfl, by rw [hK8, List.length_append, HJ.out.k.1]; exact Nat.lt_succ_self _⟩⟩
      rw [upS_other _ _ _ _ (bv_no hb).2] at hu
      exact HJ.out.id u c hu hb hon
end Go.Proofs.YtajbmdjlfniofaaDoor
/-
  The enumeration: a node begun.
-/
namespace Go.Proofs.YtajbmdjlfniofaaDoor
open Go.RowKit Go.Deep PK
attribute [local go_sem] Oper.lit Oper.litS fut_fut fut_drew World.cell?_alloc_some
attribute [local go_sem] World.frozen?_setCell
/-! ### plain -/
theorem mem_heads {es : List EI} {v k : Nat} : k ∈ headsOf es v ↔ ∃ x, es[k]? = some x ∧ x.h = (v : Int) := by
 unfold headsOf
 rw [List.mem_filter, List.mem_range]
 constructor
 ·
  rintro ⟨h1, h2⟩
  rw [List.getElem?_eq_getElem h1] at h2
  exact ⟨_, List.getElem?_eq_getElem h1, by simpa using h2⟩
 ·
  rintro ⟨x, h1, h2⟩
  refine ⟨(List.getElem?_eq_some_iff.1 h1).1, ?_⟩
  rw [h1]
  simpa using h2
theorem heads_len (es : List EI) (v : Nat) : (headsOf es v).length ≤ es.length := by
 unfold headsOf
 exact Nat.le_trans (List.length_filter_le _ _) (by simp)
/-- the chosen derivation, by its ranks -/
theorem fol_tr {es : List EE} {V : Nat → VV} (hes : ∀ e ∈ es, PK.okE e) (hS : Sol es V) {v : Nat} {d : DT} (hv : (V v).c < INF) (h : Fol V es v d) : ∃ (k : Nat) (E : EE) (ks : List DT), d = .node (k : Int) ks ∧ es[k]? = some E ∧ E.h = v ∧ TrE es k (List.replicate ks.length 0) d := by
 obtain ⟨j, E, h1, h2, h3, h4, _⟩ := chosen_fin hes hS hv
 cases h with
 | mk he hl hk =>
  rename_i E' ks
  rw [h1, edge_nat h2] at he
  obtain rfl := Option.some.inj he
  refine ⟨j, E, ks, by rw [h1], h2, h3, E, ks, h2, by rw [h1], hl, by rw [List.length_replicate]; exact hl, fun i t r x g1 g2 g3 => ?_⟩
  rw [List.getElem?_replicate] at g2
  split at g2
  ·
   obtain rfl := Option.some.inj g2
   have hm := List.mem_of_getElem? g1
   exact (fol_nth hes hS (tails_fin hes hS (List.mem_of_getElem? h2) hv h4 hm) (hk i x t g3 g1)).2.nth rfl
  ·
   cases g2
/-- a tree of least kids is finite just where the hyperedge's value is -/
theorem ev_of_tr {es : List EE} {V : Nat → VV} (hes : ∀ e ∈ es, PK.okE e) (hS : Sol es V) (hs : ∀ v, (V v).s < INF) {k : Nat} {E : EE} {d : DT} (hE : es[k]? = some E) (h : TrE es k (List.replicate E.t.length 0) d) : val es d = ev V E := by
 obtain ⟨E', ks, h1, rfl, h3, h4, h5⟩ := h
 rw [hE] at h1
 obtain rfl := Option.some.inj h1
 rw [val, edge_nat hE]
 simp only
 unfold ev
 congr 1
 rw [valL_map]
 apply List.ext_getElem?
 intro i
 rw [List.getElem?_map, List.getElem?_map]
 by_cases hi : i < ks.length
 ·
  have hx : ks[i]? = some ks[i] := List.getElem?_eq_getElem hi
  have ht : E.t[i]? = some E.t[i] := List.getElem?_eq_getElem (by omega)
  have hn := h5 i _ 0 _ ht (by rw [List.getElem?_replicate, if_pos (by omega)]) hx
  have hv := fin_of_FinD hes hS hn.fin
  obtain ⟨b, hb⟩ := fol_exists hes hS hs _ _ hv (Nat.lt_succ_self _)
  have := hn.unique ((fol_nth hes hS hv hb).2.nth rfl)
  rw [hx, ht, this]
  simp only [Option.map_some]
  rw [(hb.good hes hS hv).1]
 ·
  rw [List.getElem?_eq_none (by omega), List.getElem?_eq_none (by omega)]
  rfl
/-- while the other hyperedges are offered -/
structure BJ (X : LX) (B : Nat → Bool) (v : Nat) (F0 : Nat → Bool) (w0 : World) (σ0 : ST) (a : TS) (fst : CI) (i : Nat) (F : Nat → Bool) (w : World) (σ : ST) (t : TS) : Prop where
 li : LI X F w σ
 id : IdleAll X.L (bv B v) σ
 ex : Ext B σ0 σ
 fr : Fr X F0 w0 σ0 F w σ
 sv : σ v = some t
 k : t.K = [fst] ∧ t.sb = a.sb ∧ t.on = true ∧ t.o = 0
 nx : t.nx ≤ i
 fc : FrC X.L t
 s0 : t.Sn fst.d.e.toNat fst.r
 dn : ∀ (j k : Nat) (x : EI), j < i → (headsOf X.L.es v)[j]? = some k → X.L.es[k]? = some x → (ev X.V (toEE x)).c < INF → t.Sn k (List.replicate x.t.length 0)
/-- all are offered -/
theorem BJ.idle {X : LX} (hX : X.OK) {B : Nat → Bool} {v : Nat} {F0 : Nat → Bool} {w0 : World} {σ0 : ST} {a : TS} {fst : CI} {i : Nat} {F : Nat → Bool} {w : World} {σ : ST} {t : TS} (h : BJ X B v F0 w0 σ0 a fst i F w σ t) (hi : (headsOf X.L.es v).length ≤ i) (hi2 : i ≤ 12) : Idle X.L v t := by
 refine ⟨fun e => ?_, ⟨h.fc, fun e E d _ h1 h2 h3 h4 => ?_, fun j x hj => ?_⟩, ?_, ?_, ?_⟩
 ·
  rw [h.k.1] at e; cases e
 ·
  rw [List.getElem?_map] at h1
  obtain ⟨x, hx, rfl⟩ := Option.map_eq_some_iff.1 h1
  have h0 := (okE_parts ((validB_parts hX.L.vd).2.2 x (List.mem_of_getElem? hx))).1
  have hm : e ∈ headsOf X.L.es v := mem_heads.2 ⟨x, hx, by unfold toEE at h2; simp only at h2; omega⟩
  obtain ⟨j, hj⟩ := List.getElem?_of_mem hm
  have h5 := h.dn j e x (by have := (List.getElem?_eq_some_iff.1 hj).1; omega) hj hx (by
   rw [← ev_of_tr (EEs_ok hX.L.vd) hX.S hX.s (show X.L.E[e]? = some (toEE x) by rw [List.getElem?_map, hx]; rfl) h3]; exact h4)
  have h6 : (toEE x).t.length = x.t.length := by simp [toEE]
  rw [h6]; exact h5
 ·
  rw [h.k.2.2.2] at hj; omega
 ·
  rw [h.k.1, h.k.2.2.2]; exact Nat.le_refl _
 ·
  rw [h.k.2.2.2]; exact Nat.zero_le _
 ·
  have := h.nx
  omega
/-- a key noted -/
theorem TSM.noted {L : LP} {F : Nat → Bool} {v : Nat} {w w2 : World} {t : TS} (hM : TSM L F v w t) {k : Nat} {l : List Nat} (hm2 : MF Tryd.prog 9 w2 t.mb (mset t.S (strV (keyS k l)) (.bool true))) (hg2 : w.grownBy w2 (some t.mb)) : TSM L F v w2 (t.note k l) ∧ FutS t.LB w w2 := by
 have hfs : FutS t.LB w w2 := (FutS.refl w).grown hg2 (fun q hq => .inl (by rw [← Option.some.inj hq]; exact lb_m t))
 have hk2 : ∀ q, t.LB q = true → q ≠ t.mb → w2.heap[q]? = w.heap[q]? := fun q hq hne => hg2.block q (hM.lt q hq) (fun e => hne (Option.some.inj e))
 have hKF : KpF F w w2 := KpF.of_futS hM.qk.fb hM.fL hfs
 have hfb : ∀ q, F q = true → q < w2.heap.size := fun q hq => Nat.lt_of_lt_of_le (hM.qk.fb q hq) hg2.size
 refine ⟨⟨(hk2 _ (lb_s t) (fun e => hM.seen.ne_blk hM.sblk e.symm)).trans hM.sblk, hM.qk.keep hg2.size (fun q hq => hk2 q (lb_q hq) (hM.sq q hq).2.1) hKF (fun _ e => e) hfb hM.qk.fs, hM.heap, ownF_keep hM.kown (fun q hq => hk2 q (lb_k hq) (fun e => ?_)), hm2, fun key y hy => ?_, hM.sB, hM.mB, hM.pm, fun c hc => (hM.ktr c hc).keep hKF (fun _ e => e), hM.kok, hM.fL⟩, hfs⟩
 ·
  have := (World.ownsRow.lt hM.kown _ hq).1
  have := hM.mB
  omega
 ·
  by_cases e : key = strV (keyS k l)
  ·
   subst e
   have h9 : mset t.S (strV (keyS k l)) (.bool true) (strV (keyS k l)) = some y := hy
   rw [mset_same] at h9
   exact (Option.some.inj h9).symm
  ·
   have h9 : mset t.S (strV (keyS k l)) (.bool true) key = some y := hy
   rw [mset_other _ _ _ _ e] at h9
   exact hM.sval key y h9
/-! ### the walk -/
theorem rd1_zero {w : World} {b n : Nat} {E : Nat → Int} (h : RowI w b n E) (hE : ∀ i, E i = 0) : Rd1 w (some ⟨b, 0, none⟩) rkv (List.replicate n 0) := by
 intro i r hi
 rw [List.getElem?_replicate] at hi
 split at hi
 ·
  rename_i hin
  obtain rfl := Option.some.inj hi
  refine ⟨b, 0, rfl, ?_⟩
  rw [Nat.zero_add, h.cell hin, hE]
  rfl
 ·
  cases hi
theorem zero_li (w : World) : (zeroValue 46).run Tryd.prog w = .ok (.slice none 0 0) w := by kernel_rfl
/-- one that is not finite -/
theorem BJ.skip {X : LX} {B : Nat → Bool} {v : Nat} {F0 : Nat → Bool} {w0 : World} {σ0 : ST} {a : TS} {fst : CI} {j : Nat} {F : Nat → Bool} {w : World} {σ : ST} {t : TS} (h : BJ X B v F0 w0 σ0 a fst j F w σ t) {kk : Nat} {y : EI} (hH : (headsOf X.L.es v)[j]? = some kk) (hy : X.L.es[kk]? = some y) (hf : ¬ (ev X.V (toEE y)).c < INF) : BJ X B v F0 w0 σ0 a fst (j + 1) F w σ t :=
 ⟨h.li, h.id, h.ex, h.fr, h.sv, h.k, Nat.le_succ_of_le h.nx, h.fc, h.s0, fun j' k' x hj' h1 h2 h3 => by
  by_cases e : j' = j
  ·
   subst e
   rw [hH] at h1
   obtain rfl := Option.some.inj h1
   rw [hy] at h2
   obtain rfl := Option.some.inj h2
   exact absurd h3 hf
  ·
   exact h.dn j' k' x (by omega) h1 h2 h3⟩
/-- one that is offered -/
theorem BJ.offered {X : LX} {B : Nat → Bool} {v : Nat} {F0 : Nat → Bool} {w0 : World} {σ0 : ST} {a : TS} {fst : CI} {j : Nat} {F : Nat → Bool} {w : World} {σ : ST} {t : TS} (hJ : BJ X B v F0 w0 σ0 a fst j F w σ t) (hX : X.OK) (hBv : B v = false) {x : EI} (hx : X.L.es[fst.d.e.toNat]? = some x) (hr : fst.r = List.replicate x.t.length 0) (hp : PreD X.L.E v [toDT fst.d]) (ht : TrE X.L.E fst.d.e.toNat fst.r (toDT fst.d))
  {w1 : World} (hf : Fut w w1) {q m : Nat} (hq : w.heap.size ≤ q ∧ q < w1.heap.size) (hR : RowI w1 q m (fun _ => 0)) {kk : Nat} {y : EI} (hH : (headsOf X.L.es v)[j]? = some kk) (hy : X.L.es[kk]? = some y) (hm : y.t.length = m) (hj : j < 100)
  (HG : ∀ (i : Nat) (tt : Int), y.t[i]? = some tt → ∀ F' w' σ' a', LI X F' w' σ' → IdleAll X.L (bv B v) σ' → Ext B σ0 σ' → σ' v = some a' → a'.K ≠ [] → a'.on = true →
   Calls Tryd.prog 35 #[.pointer (some ⟨X.L.lb, 0, none⟩), .int .i64 tt, rkv 0] w' (GetR X (bv B v) F' w' σ' tt.toNat 0)) :
  Calls Tryd.prog 56 #[.pointer (some ⟨X.L.lb, 0, none⟩), .pointer (some ⟨a.sb, 0, none⟩), kI kk, .slice (some ⟨q, 0, none⟩) m m] w1 fun e w' => (∃ u, e = .returned u) ∧ ∃ F' σ' t', BJ X B v F0 w0 σ0 a fst (j + 1) F' w' σ' t' := by
 obtain ⟨G, hG⟩ : ∃ G : Nat → Bool, G = fun b => F b || b == q := ⟨_, rfl⟩
 have hFG : ∀ b, F b = true → G b = true := fun b hb => by rw [hG]; simp [hb]
 have hGF : ∀ b, G b = true → F b = true ∨ b = q := fun b hb => by
  rw [hG] at hb
  simpa using hb
 have hGq : G q = true := by rw [hG]; simp
 clear hG
 have hgn : ¬ LBs X σ q := fun h1 => by have := hJ.li.bF h1; omega
 have hLG : LI X G w1 σ := (hJ.li.go hf).frz hFG (fun b hb => by
  rcases hGF b hb with h1 | rfl
  ·
   exact .inl h1
  ·
   exact .inr ⟨hq.2, hgn⟩)
 have hszw : w0.heap.size ≤ w.heap.size := hJ.fr.f.size
 have hFrG : Fr X F0 w0 σ0 G w1 σ := (hJ.fr.trans (Fr.of_fut hf)).frz hFG (fun b hb => by
  rcases hGF b hb with h1 | rfl
  ·
   exact .inl h1
  ·
   exact .inr (by omega))
 obtain ⟨y', hy', hyv⟩ := mem_heads.1 (List.mem_of_getElem? hH)
 rw [hy] at hy'
 obtain rfl := Option.some.inj hy'
 have hlr : (List.replicate m 0).length = y.t.length := by rw [List.length_replicate, hm]
 have h0 : ∀ r ∈ List.replicate m 0, r = 0 := fun r hr => (List.mem_replicate.1 hr).2
 have hOF := offerK_any X hX (bv B v) v (bv_same B v) G w1 σ hLG hJ.id t hJ.sv hJ.k.2.2.1 kk y hy hyv (List.replicate m 0) (some ⟨q, 0, none⟩) m hlr (fun r hr => by rw [h0 r hr]; exact Nat.zero_le _) (fun r hr => by rw [h0 r hr]; exact Nat.zero_le _) (rd1_zero hR (fun _ => rfl)) (fun b o e _ => by
  injection e with e
  injection e with e1 _ _
  rw [← e1]; exact hGq) (by have := hJ.nx; omega) (fun hns d hd hdf c hc => by
  rw [hJ.k.1] at hc
  rw [List.mem_singleton.1 hc]
  rcases hp.all d hdf with h1 | h1
  ·
   rw [List.mem_singleton.1 h1] at hd
   exfalso
   obtain ⟨E1, k1, _, g2, _⟩ := hd
   obtain ⟨E2, k2, _, g4, _⟩ := ht
   rw [g4] at g2
   injection g2 with g5 _
   have g6 : fst.d.e.toNat = kk := by omega
   refine hns ?_
   have h9 := hJ.s0
   rw [hr, g6] at h9
   rw [g6, hy] at hx
   obtain rfl := Option.some.inj hx
   rw [← hm]; exact h9
  ·
   exact h1 _ (List.mem_singleton.2 rfl)) (fun i r tt h1 h2 F2 w2 σ2 li2 id2 ex2 => by
  obtain rfl := h0 r (List.mem_of_getElem? h2)
  have hK2 : ∃ a2, σ2 v = some a2 ∧ a2.K ≠ [] ∧ a2.on = true := by
   obtain ⟨a2, g1, _, _, _, g5⟩ := ex2.k v _ (upS_same _ _ _)
   rw [g5 (bv_same B v)] at g1
   refine ⟨_, g1, ?_, hJ.k.2.2.1⟩
   show t.K ≠ []
   rw [hJ.k.1]; simp
  obtain ⟨a2, g1, g2, g3⟩ := hK2
  have hE2 : Ext B σ0 σ2 := by
   have e1 : Ext (butv (bv B v) v) σ (upS σ v (t.note kk (List.replicate m 0))) := Ext.up hJ.sv rfl (fun h => h) (fun _ _ h => h)
   rw [butv_bv hBv] at e1
   exact (hJ.ex.trans e1).trans (ex2.mono (fun u hu => by simp [bv, hu]))
  exact HG i tt h1 F2 w2 σ2 a2 li2 id2 hE2 g1 g2 g3)
 rw [List.length_replicate, hJ.k.2.1] at hOF
 refine hOF.mono ?_
 rintro e w6 ⟨hu, F6, σ6, t6, li6, id6, sv6, ex6, of6, fr6⟩
 refine ⟨hu, F6, σ6, t6, ?_⟩
 have hfc := of6.frc hJ.fc
 obtain ⟨o1, o2, o3, o4, o5, o6, o7⟩ := of6
 rw [butv_bv hBv] at ex6
 refine ⟨li6, id6, hJ.ex.trans ex6, hFrG.trans fr6, sv6, ⟨o1.trans hJ.k.1, o2.trans hJ.k.2.1, o3.trans hJ.k.2.2.1, o4.trans hJ.k.2.2.2⟩, ?_, hfc, (o6 _ _).2 (.inl hJ.s0), fun j' k' x' hj' h1 h2 h3 => ?_⟩
 ·
  have := hJ.nx
  rcases o7 with ⟨h1, _⟩ | ⟨d, _, _, h1, _⟩ <;> omega
 ·
  by_cases e : j' = j
  ·
   subst e
   rw [hH] at h1
   obtain rfl := Option.some.inj h1
   rw [hy] at h2
   obtain rfl := Option.some.inj h2
   exact (o6 _ _).2 (.inr ⟨rfl, by rw [hm]⟩)
  ·
   exact (o6 _ _).2 (.inl (hJ.dn j' k' x' (by omega) h1 h2 h3))
set_option maxHeartbeats 6400000 in
set_option maxRecDepth 4000 in
theorem beginK_any (X : LX) (hX : X.OK) (B : Nat → Bool) (v : Nat) (hv : v < X.M) (hBv : B v = false) (F : Nat → Bool) (w : World) (σ : ST) (h : LI X F w σ) (hI : IdleAll X.L (bv B v) σ) (a : TS) (ha : σ v = some a) (hon : a.on = true) (hK : a.K = []) (hm : a.m = 0) (hS : ∀ key, a.S key = none) (hnx : a.nx = 0) (ho : a.o = 0)
  (HG : ∀ (k : Nat) (x : EI), X.L.es[k]? = some x → x.h = (v : Int) → ∀ (i : Nat) (tt : Int), x.t[i]? = some tt → ∀ F' w' σ' a', LI X F' w' σ' → IdleAll X.L (bv B v) σ' → Ext B σ σ' → σ' v = some a' → a'.K ≠ [] → a'.on = true →
   Calls Tryd.prog 35 #[.pointer (some ⟨X.L.lb, 0, none⟩), .int .i64 tt, rkv 0] w' (GetR X (bv B v) F' w' σ' tt.toNat 0)) :
  Calls Tryd.prog 55 #[.pointer (some ⟨X.L.lb, 0, none⟩), kI v, .pointer (some ⟨a.sb, 0, none⟩)] w (BegR X B F w σ v) := by
 have HXO := Lib.hid hX
 have HI := Lib.hid h
 have HID := Lib.hid hI
 have HA := Lib.hid ha
 have HON := Lib.hid hon
 have HOF := Lib.hid (And.intro hK (And.intro hm (And.intro hS (And.intro hnx ho))))
 have HGG := Lib.hid HG
 have HBV := Lib.hid hBv
 have HVM := Lib.hid hv
 have hM8 : X.M ≤ 8 := by have := hX.L.hN; have := hX.M; omega
 have hE := h.env.now
 have l0 := hE.lb.cell (i := 0) rfl
 have l1 := hE.lb.cell (i := 1) rfl
 have HEN := Lib.hid hE
 have HBC := Lib.hid (best_gen X.L.N X.L.A X.L.n X.L.c X.L.es hX.L.hl hX.L.hn' X.V (v : Int) (fun _ => ⟨by have := hX.L.hn; omega, hX.L.tl', hX.S, fun _ => hX.s _⟩) w hE.es)
 clear h hI ha hon hK hm hS hnx ho HG hBv hX hE
 go_enter Tryd.func55, Tryd.ntmps55
 go_wp2_with fail
 refine HBC.out.mono ?_
 rintro r w1 ⟨⟨d, e, rfl, hRP, hBR⟩, hb⟩
 have HF1 := Lib.hid (show Fut w w1 from hb)
 have HRP := Lib.hid hRP
 clear hb hRP
 have hvN : (0 : Int) ≤ (v : Int) ∧ (v : Int) < X.L.N := ⟨by omega, by have := HXO.out.M; omega⟩
 have hcase : (INF ≤ (X.V v).c ∧ e = 6) ∨ ((X.V v).c < INF ∧ e = 0 ∧ Fol X.V X.L.E v (toDT d)) := by
  unfold BestR at hBR
  rcases hBR with ⟨h1, _⟩ | ⟨_, h1, _⟩ | ⟨_, _, h1, h2, _⟩ | ⟨_, _, h1, h2, h3⟩
  ·
   rw [HXO.out.L.vd] at h1; cases h1
  ·
   exact absurd hvN h1
  ·
   exact .inl ⟨by simpa using h1, h2⟩
  ·
   exact .inr ⟨by simpa using h1, h2, by simpa using h3⟩
 clear hBR hvN
 rcases hcase with ⟨hinf, rfl⟩ | ⟨hfin, rfl, hfol⟩
 ·
  have HIN := Lib.hid hinf
  clear hinf
  go_wp2_with fail
  go_returns
  have hno : ∀ d, ¬ FinD X.L.E v d := fun d hd => by
   have := fin_of_FinD (EEs_ok HXO.out.L.vd) HXO.out.S hd
   have := HIN.out
   omega
  obtain ⟨hK, hm, hS, hnx, ho⟩ := HOF.out
  have hsn : ∀ e l, ¬ a.Sn e l := fun e l h => by
   have := h.2.2
   rw [hS] at this; cases this
  refine ⟨F, σ, a, (HI.out.go HF1.out).go ((Fut.refl _).alloc _), HID.out, HA.out, HON.out, ⟨fun _ => ⟨hno, hm⟩, ⟨fun e l h => absurd h (hsn e l), fun e E d _ h1 h2 h3 h4 => ?_, fun i x hi => ?_⟩, by rw [hK]; exact Nat.zero_le _, by rw [ho]; exact Nat.zero_le _, by rw [hnx]; exact Nat.zero_le _⟩, Ext.refl _ _, Fr.of_fut (HF1.out.alloc _), .inr ⟨rfl, hK⟩⟩
  ·
   exact absurd ⟨h3.valid h1 h2, h4⟩ (hno d)
  ·
   omega
 ·
  have HFI := Lib.hid hfin
  have HFO := Lib.hid hfol
  clear hfin hfol
  obtain ⟨de, dA, dc, dks⟩ := d
  obtain ⟨k, E, ks, h1, h2, h3, h4⟩ := fol_tr (EEs_ok HXO.out.L.vd) HXO.out.S HFI.out HFO.out
  rw [toDT_eq] at h1
  injection h1 with h1 h1'
  subst h1 h1'
  rw [List.length_map] at h4
  have hfn := fol_nth (EEs_ok HXO.out.L.vd) HXO.out.S HFI.out HFO.out
  have hgood := HFO.out.good (EEs_ok HXO.out.L.vd) HXO.out.S HFI.out
  obtain ⟨x, hx, rfl⟩ : ∃ x, X.L.es[k]? = some x ∧ toEE x = E := by
   rw [List.getElem?_map] at h2
   obtain ⟨x, hx, e⟩ := Option.map_eq_some_iff.1 h2
   exact ⟨x, hx, e⟩
  obtain ⟨n, hn⟩ : ∃ n, dks.length = n := ⟨_, rfl⟩
  have hnx : n = x.t.length := by
   obtain ⟨E', _, g1, _, _, g4, _⟩ := h4
   rw [h2] at g1
   obtain rfl := Option.some.inj g1
   rw [List.length_replicate, hn] at g4
   rw [g4]; simp [toEE]
  have hx3 : x.t.length ≤ 3 := HXO.out.L.tl x (List.mem_of_getElem? hx)
  have hn3 : n ≤ 3 := by omega
  rw [hn] at h4
  have HTR := Lib.hid h4
  have HFN := Lib.hid hfn
  have HGD := Lib.hid hgood
  have HXX := Lib.hid hx
  have HX3 := Lib.hid h3
  have HNX := Lib.hid hnx
  have HNK := Lib.hid hn
  have HKL := Lib.hid (show k < 12 from by
   have := (List.getElem?_eq_some_iff.1 hx).1
   have := HXO.out.L.hl
   have := HXO.out.L.hn
   omega)
  simp only [dv, DI.e, DI.A, DI.c, DI.k, hn]
  clear h2 h3 h4 hfn hgood hx hnx hx3 l0 l1
  obtain ⟨bd, hbd⟩ : ∃ q, q = w1.heap.size := ⟨_, rfl⟩
  have HBDE := Lib.hid hbd
  have hBD : Blk (w1.alloc (.cells #[.int .i64 (k : Int), .slice dA n dc] 35)) bd 35 #[.int .i64 (k : Int), .slice dA n dc] := by rw [hbd]; exact Blk.new _ _ _
  have HBD := Lib.hid hBD
  have HF2 := Lib.hid (show Fut w (w1.alloc (.cells #[.int .i64 (k : Int), .slice dA n dc] 35)) from HF1.out.alloc _)
  have HS2 := Lib.hid (show w1.heap.size ≤ (w1.alloc (.cells #[.int .i64 (k : Int), .slice dA n dc] 35)).heap.size from by rw [World.size_alloc]; omega)
  have HF12 := Lib.hid (show Fut w1 (w1.alloc (.cells #[.int .i64 (k : Int), .slice dA n dc] 35)) from (Fut.refl w1).alloc _)
  clear hBD hbd
  go_wp2_with fail
  rw [← HBDE.out]
  generalize w1.alloc (.cells #[.int .i64 (k : Int), .slice dA n dc] 35) = w2 at *
  have d0 := cell_fut (HBD.out.cell (i := 0) rfl)
  have d1 := cell_fut (HBD.out.cell (i := 1) rfl)
  have l2 := cell_fut (HF2.out.cell (HEN.out.lb.cell (i := 2) rfl))
  have v0 := cell_fut (HF2.out.cell (HEN.out.vr.c HVM.out))
  have v1 := cell_fut (HF2.out.cell (HEN.out.vr.s HVM.out))
  have hmk := run_make_row' (P := Tryd.prog) 46 3 (.int .i64 0) 8 Tryd.underlying46 info_intQ rfl .i64 .i64 n (by omega) (by omega)
  refine wp_region_M o_kbest_lister_begin_4 (by kernel_rfl) (by kernel_rfl) (by intro c a d v w h; cases d <;> exact h) ?_; unfold o_kbest_lister_begin_4
  iterate 11 (refine wpF_h rfl rfl (fun K hK => ?_); go_simp; refine hK _ _ ?_; clear hK K)
  refine wpF_two rfl rfl (fun K hK => ?_) (fun K hK => ?_)
  ·
   go_simp
   refine hK _ _ (.inr ((Fut.refl _).alloc _)) ?_
   clear hK K
   (refine wpF_h rfl rfl (fun K hK => ?_); go_simp; refine hK _ _ ?_; clear hK K)
   refine wpF_o rfl rfl (fun K hK => ?_)
   go_simp
   refine hK _ _ (.inr ((Fut.refl _).alloc _)) ?_
   clear hK K
   clear d0 d1 l2 v0 v1 hmk
   obtain ⟨rz, hrz⟩ : ∃ q, q = w2.heap.size := ⟨_, rfl⟩
   obtain ⟨fb, hfb⟩ : ∃ q, q = w2.heap.size + 1 := ⟨_, rfl⟩
   rw [← hfb, ← hrz]
   have HPZ := Lib.hid (show RowI (((w2.alloc (.cells (madeCells #[.int .i64 0] n) 3)).alloc (.cells #[.int .i64 0, .slice none 0 0, .int .i64 0, .int .i64 0, .slice none 0 0] 66)).drew) rz n (fun _ => 0) from RowI.fut (RowI.fut (by rw [hrz]; exact World.rowIs_made w2 (.int .i64 0) n 3) ((Fut.refl _).alloc _)) (Fut.refl _).drew)
   have HPB := Lib.hid (show Blk (((w2.alloc (.cells (madeCells #[.int .i64 0] n) 3)).alloc (.cells #[.int .i64 0, .slice none 0 0, .int .i64 0, .int .i64 0, .slice none 0 0] 66)).drew) fb 66 #[.int .i64 0, .slice none 0 0, .int .i64 0, .int .i64 0, .slice none 0 0] from by exact Blk.drew (show Blk _ _ _ _ from heap_new' _ _ _ (by rw [hfb]; simp only [World.size_alloc])))
   have HFS := Lib.hid (show Fut w2 (((w2.alloc (.cells (madeCells #[.int .i64 0] n) 3)).alloc (.cells #[.int .i64 0, .slice none 0 0, .int .i64 0, .int .i64 0, .slice none 0 0] 66)).drew) from (((Fut.refl w2).alloc _).alloc _).drew)
   have HSS := Lib.hid (show (((w2.alloc (.cells (madeCells #[.int .i64 0] n) 3)).alloc (.cells #[.int .i64 0, .slice none 0 0, .int .i64 0, .int .i64 0, .slice none 0 0] 66)).drew).heap.size = w2.heap.size + 2 from by show ((w2.alloc _).alloc _).heap.size = _; simp only [World.size_alloc])
   have HRZ := Lib.hid (show w2.heap.size ≤ rz ∧ rz < w2.heap.size + 2 from by omega)
   have HFB := Lib.hid (show w2.heap.size ≤ fb ∧ fb < w2.heap.size + 2 ∧ rz ≠ fb from by omega)
   clear hrz hfb
   generalize ((w2.alloc (.cells (madeCells #[.int .i64 0] n) 3)).alloc (.cells #[.int .i64 0, .slice none 0 0, .int .i64 0, .int .i64 0, .slice none 0 0] 66)).drew = ws at *
   refine wpF_ol rfl (by kernel_rfl) rfl (fun K hK => ?_)
   have u0 := HPB.out.cell (i := 0) rfl
   have f0 := HPB.out.fz 0
   have u1 := HPB.out.cell (i := 1) rfl
   have f1 := HPB.out.fz 1
   have u2 := HPB.out.cell (i := 2) rfl
   have f2 := HPB.out.fz 2
   have u3 := HPB.out.cell (i := 3) rfl
   have f3 := HPB.out.fz 3
   have u4 := HPB.out.cell (i := 4) rfl
   have f4 := HPB.out.fz 4
   go_simp
   refine hK _ _ ?_
   clear hK K u0 u1 u2 u3 u4 f0 f1 f2 f3 f4
   have HB4 := Lib.hid (show Blk (((((ws.setCell ⟨fb, 0, none⟩ (.int .i64 (k : Int))).setCell ⟨fb, 1, none⟩ (.slice dA n dc)).setCell ⟨fb, 2, none⟩ (.int .i64 (X.V v).c)).setCell ⟨fb, 3, none⟩ (.int .i64 (X.V v).s)).setCell ⟨fb, 4, none⟩ (.slice (some ⟨rz, 0, none⟩) n n)) fb 66 #[.int .i64 (k : Int), .slice dA n dc, .int .i64 (X.V v).c, .int .i64 (X.V v).s, .slice (some ⟨rz, 0, none⟩) n n] from (((((HPB.out.set 0 (.int .i64 (k : Int))).set 1 (.slice dA n dc)).set 2 (.int .i64 (X.V v).c)).set 3 (.int .i64 (X.V v).s)).set 4 (.slice (some ⟨rz, 0, none⟩) n n)))
   have HZ4 := Lib.hid (show RowI (((((ws.setCell ⟨fb, 0, none⟩ (.int .i64 (k : Int))).setCell ⟨fb, 1, none⟩ (.slice dA n dc)).setCell ⟨fb, 2, none⟩ (.int .i64 (X.V v).c)).setCell ⟨fb, 3, none⟩ (.int .i64 (X.V v).s)).setCell ⟨fb, 4, none⟩ (.slice (some ⟨rz, 0, none⟩) n n)) rz n (fun _ => 0) from HPZ.out.of_block (((((blk_setCell_other ((((ws.setCell ⟨fb, 0, none⟩ (.int .i64 (k : Int))).setCell ⟨fb, 1, none⟩ (.slice dA n dc)).setCell ⟨fb, 2, none⟩ (.int .i64 (X.V v).c)).setCell ⟨fb, 3, none⟩ (.int .i64 (X.V v).s)) ⟨fb, 4, none⟩ (.slice (some ⟨rz, 0, none⟩) n n) rz HFB.out.2.2).trans (blk_setCell_other (((ws.setCell ⟨fb, 0, none⟩ (.int .i64 (k : Int))).setCell ⟨fb, 1, none⟩ (.slice dA n dc)).setCell ⟨fb, 2, none⟩ (.int .i64 (X.V v).c)) ⟨fb, 3, none⟩ (.int .i64 (X.V v).s) rz HFB.out.2.2)).trans (blk_setCell_other ((ws.setCell ⟨fb, 0, none⟩ (.int .i64 (k : Int))).setCell ⟨fb, 1, none⟩ (.slice dA n dc)) ⟨fb, 2, none⟩ (.int .i64 (X.V v).c) rz HFB.out.2.2)).trans (blk_setCell_other (ws.setCell ⟨fb, 0, none⟩ (.int .i64 (k : Int))) ⟨fb, 1, none⟩ (.slice dA n dc) rz HFB.out.2.2)).trans (blk_setCell_other ws ⟨fb, 0, none⟩ (.int .i64 (k : Int)) rz HFB.out.2.2)))
   have HF24 := Lib.hid (show Fut w2 (((((ws.setCell ⟨fb, 0, none⟩ (.int .i64 (k : Int))).setCell ⟨fb, 1, none⟩ (.slice dA n dc)).setCell ⟨fb, 2, none⟩ (.int .i64 (X.V v).c)).setCell ⟨fb, 3, none⟩ (.int .i64 (X.V v).s)).setCell ⟨fb, 4, none⟩ (.slice (some ⟨rz, 0, none⟩) n n)) from (((((HFS.out.setCell (p := ⟨fb, 0, none⟩) HFB.out.1 (.int .i64 (k : Int))).setCell (p := ⟨fb, 1, none⟩) HFB.out.1 (.slice dA n dc)).setCell (p := ⟨fb, 2, none⟩) HFB.out.1 (.int .i64 (X.V v).c)).setCell (p := ⟨fb, 3, none⟩) HFB.out.1 (.int .i64 (X.V v).s)).setCell (p := ⟨fb, 4, none⟩) HFB.out.1 (.slice (some ⟨rz, 0, none⟩) n n)))
   have HS4 := Lib.hid (show (((((ws.setCell ⟨fb, 0, none⟩ (.int .i64 (k : Int))).setCell ⟨fb, 1, none⟩ (.slice dA n dc)).setCell ⟨fb, 2, none⟩ (.int .i64 (X.V v).c)).setCell ⟨fb, 3, none⟩ (.int .i64 (X.V v).s)).setCell ⟨fb, 4, none⟩ (.slice (some ⟨rz, 0, none⟩) n n)).heap.size = w2.heap.size + 2 from by simp only [World.size_setCell]; exact HSS.out)
   generalize (((((ws.setCell ⟨fb, 0, none⟩ (.int .i64 (k : Int))).setCell ⟨fb, 1, none⟩ (.slice dA n dc)).setCell ⟨fb, 2, none⟩ (.int .i64 (X.V v).c)).setCell ⟨fb, 3, none⟩ (.int .i64 (X.V v).s)).setCell ⟨fb, 4, none⟩ (.slice (some ⟨rz, 0, none⟩) n n)) = w4 at *
   clear HPZ HPB HFS HSS
   refine wpF_nil ?_
   have HF4 := Lib.hid (HF2.out.trans HF24.out)
   have hs12 := HS2.out
   have hw1 := HF1.out.size
   obtain ⟨G, hG⟩ : ∃ G : Nat → Bool, G = fun q => F q || (decide (w.heap.size ≤ q) && decide (q < w1.heap.size)) || q == rz := ⟨_, rfl⟩
   have hGF : ∀ q, G q = true → F q = true ∨ (w.heap.size ≤ q ∧ q < w1.heap.size) ∨ q = rz := fun q hq => by
    rw [hG] at hq
    simp only [Bool.or_eq_true, Bool.and_eq_true, decide_eq_true_eq, beq_iff_eq] at hq
    rcases hq with (h1 | h1) | h1
    ·
     exact .inl h1
    ·
     exact .inr (.inl h1)
    ·
     exact .inr (.inr h1)
   have hFG : ∀ q, F q = true → G q = true := fun q hq => by rw [hG]; simp [hq]
   have hGn : ∀ q, w.heap.size ≤ q → q < w1.heap.size → G q = true := fun q h1 h2 => by rw [hG]; simp [h1, h2]
   have hGz : G rz = true := by rw [hG]; simp
   clear hG
   have hGw : ∀ q, G q = true → F q = true ∨ w.heap.size ≤ q := fun q hq => by
    rcases hGF q hq with h1 | h1 | h1
    ·
     exact .inl h1
    ·
     exact .inr h1.1
    ·
     have := HRZ.out; exact .inr (by omega)
   have hG4 : ∀ q, G q = true → q < w4.heap.size := fun q hq => by
    have := HS4.out
    rcases hGF q hq with h1 | h1 | h1
    ·
     have := HI.out.fb q h1; omega
    ·
     omega
    ·
     have := HRZ.out; omega
   have hLG : LI X G w4 σ := (HI.out.go HF4.out).frz hFG (fun q hq => by
    rcases hGw q hq with h1 | h1
    ·
     exact .inl h1
    ·
     exact .inr ⟨hG4 q hq, fun h2 => by have := HI.out.bF h2; omega⟩)
   have hFr4 : Fr X F w σ G w4 σ := (Fr.of_fut HF4.out).frz hFG hGw
   have hM : TSM X.L G v w4 a := hLG.mem v a HA.out
   have hRC : RdC G w4 ⟨.node (k : Int) dA dc dks, ⟨(X.V v).c, (X.V v).s⟩, List.replicate n 0, some ⟨rz, 0, none⟩, n⟩ := by
    refine ⟨HRP.out.keep (fun q h1 h2 => ⟨(HF12.out.trans HF24.out).block q h2, hGn q h1 h2⟩), rd1_zero HZ4.out (fun _ => rfl), fun b o e _ => ?_⟩
    injection e with e
    injection e with e1 _ _
    rw [← e1]; exact hGz
   have hOK : okC X.L (v : Int) ⟨.node (k : Int) dA dc dks, ⟨(X.V v).c, (X.V v).s⟩, List.replicate n 0, some ⟨rz, 0, none⟩, n⟩ := by
    refine ⟨?_, ?_⟩
    ·
     exact HGD.out.2
    ·
     exact HGD.out.1.symm
   obtain ⟨KA, Kc, hKv⟩ := own_formK hM.kown
   obtain ⟨hK0, hm0, hS0, hnx0, ho0⟩ := HOF.out
   rw [hK0, List.length_nil] at hKv
   have s0 : w4.cell? ⟨a.sb, 0, none⟩ = some (.slice KA 0 Kc) := by rw [← hKv]; exact hM.sblk.cell rfl
   have hkow : w4.ownsRow a.B 66 5 (.slice KA 0 Kc) 0 [] := by
    have h1 := hM.kown
    rw [hK0, hKv] at h1
    exact h1
   have HLG := Lib.hid hLG
   have HFR4 := Lib.hid hFr4
   have HMM := Lib.hid hM
   have HRC := Lib.hid hRC
   have HOK := Lib.hid hOK
   have HKV := Lib.hid hKv
   have HKW := Lib.hid hkow
   have hsfb : a.sb ≠ fb := by have := hM.sblk.lt; have h1 := HI.out.bF (.inr ⟨v, a, HA.out, lb_s a⟩); have := HFB.out; omega
   obtain ⟨S, hS⟩ : ∃ S : Nat → Bool, S = fun q => (Value.slice KA 0 Kc).ownBlock == some q := ⟨_, rfl⟩
   have hSsb : S a.sb = false := by
    rw [hS]
    exact beq_eq_false_iff_ne.2 (fun e => own_ne_blk hkow hM.sblk (by decide) a.sb e rfl)
   have hSfb : S fb = false := by
    rw [hS]
    refine beq_eq_false_iff_ne.2 (fun e => ?_)
    have h1 := HI.out.bF (.inr ⟨v, a, HA.out, lb_k (by rw [hKv]; exact e)⟩)
    have := HFB.out
    omega
   have HSV := Lib.hid (show ∀ q, (Value.slice KA 0 Kc).ownBlock = some q → S q = true from fun q hq => by rw [hS]; simp [hq])
   have x0 := cell_futS s0 hSsb
   have y0 := cell_futS (HB4.out.cell (i := 0) rfl) hSfb
   have y1 := cell_futS (HB4.out.cell (i := 1) rfl) hSfb
   have y2 := cell_futS (HB4.out.cell (i := 2) rfl) hSfb
   have y3 := cell_futS (HB4.out.cell (i := 3) rfl) hSfb
   have y4 := cell_futS (HB4.out.cell (i := 4) rfl) hSfb
   clear hLG hFr4 hM hRC hOK hKv hkow s0 hSsb hSfb hS hGF hFG hGn hGz hGw hG4 hK0 hm0 hS0 hnx0 ho0
   go_wp2_with fail
   refine wp_region_MG (relS S) o_kbest_lister_begin_5 (by kernel_rfl) (by kernel_rfl) (by intro c a d v w h; cases d <;> exact h) ?_; unfold o_kbest_lister_begin_5
   iterate 6 (refine wpS_h rfl rfl (fun K hK => ?_); go_simp; refine hK _ _ ?_; clear hK K)
   refine wpG_o rfl rfl (fun K hK => ?_)
   go_simp
   go_at_K
   refine hK _ _ (.inr ((relS S).of_fut ((Fut.refl _).alloc _))) ?_
   clear hK K x0 y0 y1 y2 y3 y4
   obtain ⟨w5, hw5⟩ : ∃ w5, w5 = (w4.alloc (.cells #[.int .i64 (k : Int), .slice dA n dc, .int .i64 (X.V v).c, .int .i64 (X.V v).s, .slice (some ⟨rz, 0, none⟩) n n] 66)).drew := ⟨_, rfl⟩
   have HF45 := Lib.hid (show Fut w4 w5 from by rw [hw5]; exact ((Fut.refl _).alloc _).drew)
   have HNB := Lib.hid (show w5.heap[w4.heap.size]? = some (.cells #[.int .i64 (k : Int), .slice dA n dc, .int .i64 (X.V v).c, .int .i64 (X.V v).s, .slice (some ⟨rz, 0, none⟩) n n] 66 (0, 0)) from by rw [hw5]; exact heap_new' _ _ _ rfl)
   have HKW5 := Lib.hid (own_fut HKW.out HF45.out)
   rw [show (w4.alloc (.cells #[.int .i64 (k : Int), .slice dA n dc, .int .i64 (X.V v).c, .int .i64 (X.V v).s, .slice (some ⟨rz, 0, none⟩) n n] 66)).drew = w5 from hw5.symm]
   clear hw5
   refine wpG_o rfl rfl (fun K hK => ?_)
   refine wp_push 92 66 5 72 _ Tryd.underlying92 info_ca rfl (by decide) (by decide) (.tmp 40) (.tmp 42) rfl a.B (.slice KA 0 Kc) 0 _ rfl HKW5.out w4.heap.size [.int .i64 (k : Int), .slice dA n dc, .int .i64 (X.V v).c, .int .i64 (X.V v).s, .slice (some ⟨rz, 0, none⟩) n n] rfl HNB.out rfl (by simp [Value.oneCell']) (by omega) (Nat.le_trans HMM.out.qk.sz HF45.out.size) ?_
   intro g cap w6 p1 p2 p3
   refine hK _ _ (.inr ((FutS.refl _).grown p2 (fun k hk => .inl (HSV.out k hk)))) ?_
   clear hK K
   have HP6 := Lib.hid (And.intro p1 (And.intro p2 p3))
   have HSB6 := Lib.hid ((HMM.out.sblk.fut HF45.out).grown p2 (fun e => own_ne_blk HKW5.out (HMM.out.sblk.fut HF45.out) (by decide) a.sb e.symm rfl))
   clear p1 p2 p3
   iterate 2 (refine wpS_h rfl rfl (fun K hK => ?_); go_simp; refine hK _ _ ?_; clear hK K)
   refine wpG_ol rfl (by kernel_rfl) rfl (fun K hK => ?_)
   have u0 := HSB6.out.cell (i := 0) rfl
   have f0 := HSB6.out.fz 0
   go_simp
   refine hK _ _ ?_
   clear hK K u0 f0
   refine wpG_nil ?_
   have hT7 : TSM X.L G v (w6.setCell ⟨a.sb, 0, none⟩ (.slice (some ⟨g, 0, none⟩) 1 cap)) { a with K := [⟨.node (k : Int) dA dc dks, ⟨(X.V v).c, (X.V v).s⟩, List.replicate n 0, some ⟨rz, 0, none⟩, n⟩], Kv := .slice (some ⟨g, 0, none⟩) 1 cap } ∧ FutS a.LB w4 (w6.setCell ⟨a.sb, 0, none⟩ (.slice (some ⟨g, 0, none⟩) 1 cap)) ∧ (∀ q, TS.LB { a with K := [⟨.node (k : Int) dA dc dks, ⟨(X.V v).c, (X.V v).s⟩, List.replicate n 0, some ⟨rz, 0, none⟩, n⟩], Kv := .slice (some ⟨g, 0, none⟩) 1 cap } q = true → a.LB q = true ∨ w.heap.size ≤ q) ∧ w4.heap.size ≤ (w6.setCell ⟨a.sb, 0, none⟩ (.slice (some ⟨g, 0, none⟩) 1 cap)).heap.size ∧ (∀ q, q = bd ∨ q = fb → (w6.setCell ⟨a.sb, 0, none⟩ (.slice (some ⟨g, 0, none⟩) 1 cap)).heap[q]? = w4.heap[q]?) := by
    obtain ⟨p1, p2, p3⟩ := HP6.out
    have hgsb : g ≠ a.sb := own_ne_blk p1 HSB6.out (by decide) g rfl
    have hold : ∀ q, (Value.slice KA 0 Kc).ownBlock = some q → q < w.heap.size := fun q hq => HI.out.bF (.inr ⟨v, a, HA.out, lb_k (by rw [HKV.out]; exact hq)⟩)
    have hslt : a.sb < w.heap.size := HI.out.bF (.inr ⟨v, a, HA.out, lb_s a⟩)
    have hT5 : TSM X.L G v w5 a := HMM.out.keep HF45.out.size (fun q hq => HF45.out.block q (HMM.out.lt q hq)) (KpF.of_fut HMM.out.qk.fb HF45.out) (fun _ e => e) (fun q hq => Nat.lt_of_lt_of_le (HMM.out.qk.fb q hq) HF45.out.size) HMM.out.fL
    have hgF : G g = false := by
     rcases p3 with h5 | h5
     ·
      cases e : G g with
      | false => rfl
      | true =>
       have := HMM.out.fL g e
       rw [lb_k (by rw [HKV.out]; exact h5)] at this; cases this
     ·
      cases e : G g with
      | false => rfl
      | true => have := hT5.qk.fb g e; omega
    have hfl5 : FutS (fun q => q == a.sb || a.Kv.ownBlock == some q) w5 (w6.setCell ⟨a.sb, 0, none⟩ (.slice (some ⟨g, 0, none⟩) 1 cap)) := ((FutS.refl w5).grown p2 (fun q hq => .inl (by rw [HKV.out]; simp [hq]))).setCell (a := ⟨a.sb, 0, none⟩) (.inl (by simp)) _
    refine ⟨hT5.known hfl5 (HSB6.out.set 0 _) ?_ (fun c hc => ?_) (fun q hq => ?_), ?_, fun q hq => ?_, ?_, fun q hq => ?_⟩
    ·
     have h3 := World.ownsRow.kept p1 (grown_set w6 ⟨a.sb, 0, none⟩ (.slice (some ⟨g, 0, none⟩) 1 cap)) (.inr (by simp only [Value.ownBlock]; intro e; exact hgsb (Option.some.inj e)))
     simpa [encC, DI.e, DI.A, DI.c, DI.k, HNK.out] using h3
    ·
     rw [List.mem_singleton.1 hc]
     exact ⟨HRC.out.keep (KpF.of_fut HMM.out.qk.fb HF45.out) (fun _ e => e), HOK.out⟩
    ·
     simp only [Value.ownBlock, Option.some.injEq] at hq
     subst hq
     exact hgF
    ·
     exact FutS.setCell (S := a.LB) (FutS.grown (S := a.LB) (FutS.then (S := a.LB) (FutS.refl w4) HF45.out) p2 (fun q hq => .inl (lb_k (t := a) (by rw [HKV.out]; exact hq)))) (a := ⟨a.sb, 0, none⟩) (.inl (lb_s a)) _
    ·
     rcases lb_of.1 hq with h5 | h5 | h5 | h5
     ·
      rw [h5]; exact .inl (lb_s a)
     ·
      rw [h5]; exact .inl (lb_m a)
     ·
      simp only [Value.ownBlock, Option.some.injEq] at h5
      subst h5
      rcases p3 with h6 | h6
      ·
       exact .inl (lb_k (by rw [HKV.out]; exact h6))
      ·
       have := HF45.out.size
       have := HF4.out.size
       exact .inr (by omega)
     ·
      exact .inl (lb_q (t := a) h5)
    ·
     have := p2.size
     have := HF45.out.size
     rw [World.size_setCell]; omega
    ·
     have h7 : w.heap.size ≤ q ∧ q < w4.heap.size := by
      have := HS4.out
      have := HFB.out
      have := HBDE.out
      have := HBD.out.lt
      rcases hq with rfl | rfl <;> omega
     have h8 := hfl5.block q (by have := HF45.out.size; omega) (by
      simp only [Bool.or_eq_false_iff, beq_eq_false_iff_ne]
      refine ⟨by omega, fun e => ?_⟩
      have := hold q (by rw [← HKV.out]; exact e)
      omega)
     exact h8.trans (HF45.out.block q h7.2)
   have HT7 := Lib.hid hT7
   have HLB7 := Lib.hid (show ∀ q, TS.LB { a with K := [⟨.node (k : Int) dA dc dks, ⟨(X.V v).c, (X.V v).s⟩, List.replicate n 0, some ⟨rz, 0, none⟩, n⟩], Kv := .slice (some ⟨g, 0, none⟩) 1 cap } q = true → a.LB q = true ∨ w4.heap.size ≤ q from fun q hq => by
    obtain ⟨p1, p2, p3⟩ := HP6.out
    rcases lb_of.1 hq with h5 | h5 | h5 | h5
    ·
     rw [h5]; exact .inl (lb_s a)
    ·
     rw [h5]; exact .inl (lb_m a)
    ·
     simp only [Value.ownBlock, Option.some.injEq] at h5
     subst h5
     rcases p3 with h6 | h6
     ·
      exact .inl (lb_k (by rw [HKV.out]; exact h6))
     ·
      have := HF45.out.size
      exact .inr (by omega)
    ·
     exact .inl (lb_q (t := a) h5))
   clear hT7
   generalize w6.setCell ⟨a.sb, 0, none⟩ (.slice (some ⟨g, 0, none⟩) 1 cap) = w7 at *
   have HA1 := Lib.hid (show ∃ t0 : TS, t0 = { a with K := [⟨.node (k : Int) dA dc dks, ⟨(X.V v).c, (X.V v).s⟩, List.replicate n 0, some ⟨rz, 0, none⟩, n⟩], Kv := .slice (some ⟨g, 0, none⟩) 1 cap } from ⟨_, rfl⟩)
   have hz100 : ∀ r ∈ List.replicate n 0, r < 100 := fun r hr => by rw [(List.mem_replicate.1 hr).2]; decide
   have hlz : (List.replicate n 0).length = n := List.length_replicate
   have hkm := keyS_mk (e := k) (l := List.replicate n 0) (by have := HKL.out; omega) hz100 (by rw [hlz]; omega)
   have hkc := fun (w' : World) (hf : Fut w7 w') => key_any k (some ⟨rz, 0, none⟩) n (List.replicate n 0) w' (by have := HKL.out; omega) hz100 (by rw [hlz]; omega) ((HT7.out.1.ktr _ (List.mem_singleton.2 rfl)).2.1.fut hf)
   rw [hlz] at hkc
   have HKC := Lib.hid hkc
   have HKM := Lib.hid hkm
   have s3 := cell_fut (show w7.cell? ⟨a.sb, 3, none⟩ = some (.map (some a.mb)) from HT7.out.1.sblk.cell rfl)
   have b0 := cell_fut (show w7.cell? ⟨bd, 0, none⟩ = some (.int .i64 (k : Int)) from (World.cell?_of_block (HT7.out.2.2.2.2 bd (.inl rfl))).trans ((HF24.out.cell (HBD.out.cell (i := 0) rfl))))
   have b4 := cell_fut (show w7.cell? ⟨fb, 4, none⟩ = some (.slice (some ⟨rz, 0, none⟩) n n) from (World.cell?_of_block (HT7.out.2.2.2.2 fb (.inr rfl))).trans (HB4.out.cell (i := 4) rfl))
   clear hz100 hlz hkm hkc
   go_wp2_with fail
   refine wp_region_M o_kbest_lister_begin_6 (by kernel_rfl) (by kernel_rfl) (by intro c a d v w h; cases d <;> exact h) ?_; unfold o_kbest_lister_begin_6
   iterate 8 (refine wpF_h rfl rfl (fun K hK => ?_); go_simp; refine hK _ _ ?_; clear hK K)
   refine wpF_o rfl rfl (fun K hK => ?_)
   go_simp
   go_at_call 62
   refine (HKC.out _ (Fut.refl w7).drew).mono ?_
   rintro r w8 ⟨rfl, hb8⟩
   refine hK _ _ (.inr hb8) ?_
   clear hK K
   have HF78 := Lib.hid (show Fut w7 w8 from (Fut.refl w7).drew.trans hb8)
   clear hb8
   have HT8 := Lib.hid (show TSM X.L G v w8 { a with K := [⟨.node (k : Int) dA dc dks, ⟨(X.V v).c, (X.V v).s⟩, List.replicate n 0, some ⟨rz, 0, none⟩, n⟩], Kv := .slice (some ⟨g, 0, none⟩) 1 cap } from HT7.out.1.keep HF78.out.size (fun q hq => HF78.out.block q (HT7.out.1.lt q hq)) (KpF.of_fut HT7.out.1.qk.fb HF78.out) (fun _ e => e) (fun q hq => Nat.lt_of_lt_of_le (HT7.out.1.qk.fb q hq) HF78.out.size) HT7.out.1.fL)
   refine wpF_ol rfl (by kernel_rfl) rfl (fun K hK => ?_)
   refine wp_fput (.tmp 49) (.tmp 54) (.const (.bool true)) rfl slaw Tryd.underlying94 rfl HT8.out.seen HKM.out rfl rfl ?_
   intro w9 hm9 hg9
   refine hK _ _ ?_
   clear hK K s3 b0 b4
   refine wpF_nil ?_
   have hN := HT8.out.noted (k := k) (l := List.replicate n 0) hm9 hg9
   obtain ⟨t1, ht1⟩ : ∃ t1 : TS, t1 = TS.note { a with K := [⟨.node (k : Int) dA dc dks, ⟨(X.V v).c, (X.V v).s⟩, List.replicate n 0, some ⟨rz, 0, none⟩, n⟩], Kv := .slice (some ⟨g, 0, none⟩) 1 cap } k (List.replicate n 0) := ⟨_, rfl⟩
   have hT9 : TSM X.L G v w9 t1 := by rw [ht1]; exact hN.1
   have hK9 : t1.K = [⟨.node (k : Int) dA dc dks, ⟨(X.V v).c, (X.V v).s⟩, List.replicate n 0, some ⟨rz, 0, none⟩, n⟩] := by rw [ht1]; rfl
   have hk100 : k < 100 := by have := HKL.out; omega
   have hz100 : ∀ r ∈ List.replicate n 0, r < 100 := fun r hr => by rw [(List.mem_replicate.1 hr).2]; decide
   have hSn : ∀ e l, t1.Sn e l ↔ (e = k ∧ l = List.replicate n 0) := fun e l => by
    rw [ht1, note_sn hk100 hz100]
    constructor
    ·
     rintro (h1 | h1)
     ·
      have h2 := h1.2.2
      have h3 : a.S (strV (keyS e l)) = some (.bool true) := h2
      rw [HOF.out.2.2.1] at h3; cases h3
     ·
      exact h1
    ·
     exact .inr
   have hQ9 : ∀ q, ¬ t1.Q q := fun q hq => by
    obtain ⟨i, hi, _⟩ := hq
    rw [ht1] at hi
    have h1 : i < a.m := hi
    rw [HOF.out.2.1] at h1
    omega
   have hcd : toCd ⟨.node (k : Int) dA dc dks, ⟨(X.V v).c, (X.V v).s⟩, List.replicate n 0, some ⟨rz, 0, none⟩, n⟩ = ⟨k, List.replicate n 0, toDT (.node (k : Int) dA dc dks)⟩ := by simp only [toCd, DI.e, Int.toNat_natCast]
   have hCO : COK X.L.E v ⟨k, List.replicate n 0, toDT (.node (k : Int) dA dc dks)⟩ := ⟨HTR.out, HFN.out.1⟩
   have hP9 : TSP X.L v t1 := by
    refine ⟨⟨?_, fun c hc => ?_, fun c hc q hq => absurd hq (hQ9 q), fun c hc => ?_⟩, fun i j hi => ?_, fun j c hc r hr => ?_, fun i hi => ?_, by rw [hK9]; simp, fun e => ?_⟩
    ·
     rw [hK9]
     simp only [List.map_cons, List.map_nil, hcd]
     exact HFN.out.2
    ·
     rcases hc with hc | hc
     ·
      rw [hK9] at hc
      simp only [List.map_cons, List.map_nil, hcd, List.mem_singleton] at hc
      rw [hc]; exact hCO
     ·
      exact absurd hc (hQ9 c)
    ·
     rcases hc with hc | hc
     ·
      rw [hK9] at hc
      simp only [List.map_cons, List.map_nil, hcd, List.mem_singleton] at hc
      rw [hc]; exact (hSn _ _).2 ⟨rfl, rfl⟩
     ·
      exact absurd hc (hQ9 c)
    ·
     exact absurd ⟨i, hi, rfl⟩ (hQ9 _)
    ·
     rw [hK9] at hc
     cases j with
     | zero =>
      simp only [List.getElem?_cons_zero, Option.some.injEq] at hc
      subst hc
      rw [(List.mem_replicate.1 hr).2]; exact Nat.zero_le _
     | succ j => simp at hc
    ·
     exact absurd ⟨i, hi, rfl⟩ (hQ9 _)
    ·
     rw [ht1] at e
     have h1 : a.on = false := e
     rw [HON.out] at h1; cases h1
   have hfl9 : FutS a.LB w4 w9 := ((HT7.out.2.1.then HF78.out).trans (FutS.grownS hg9 (fun q hq => by rw [← Option.some.inj hq]; exact lb_m a)))
   have hLB9 : ∀ q, t1.LB q = true → a.LB q = true ∨ w4.heap.size ≤ q := fun q hq => by
    rw [ht1] at hq
    exact HLB7.out q hq
   have hLI9 := HLG.out.step (b := t1) HA.out hfl9 (fun _ e => e) (fun _ e => .inl e) (fun q hq => Nat.lt_of_lt_of_le (HLG.out.fb q hq) hfl9.size) (by rw [ht1]; rfl) hLB9 hT9 hP9 (by rw [HOF.out.1]; exact Nat.zero_le _) (fun c hc => by
    rcases hc with hc | ⟨i, hi, _⟩
    ·
     right
     rw [hK9] at hc
     rw [List.mem_singleton.1 hc]
     intro E i t r g1 g2 g3
     rw [List.getElem?_replicate] at g3
     split at g3
     ·
      exact .inl (Option.some.inj g3).symm
     ·
      cases g3
    ·
     exact absurd ⟨i, hi, rfl⟩ (hQ9 _))
   have hEX9 : Ext B σ (upS σ v t1) := by
    have e1 : Ext (butv B v) σ (upS σ v t1) := Ext.up HA.out (by rw [ht1]; rfl) (fun _ => by rw [ht1]; exact HON.out) (fun i c hc => by rw [HOF.out.1] at hc; simp at hc)
    rwa [butv_no HBV.out] at e1
   have hJ0 : BJ X B v F w σ a ⟨.node (k : Int) dA dc dks, ⟨(X.V v).c, (X.V v).s⟩, List.replicate n 0, some ⟨rz, 0, none⟩, n⟩ 0 G w9 (upS σ v t1) t1 := ⟨hLI9, HID.out.up (bv_same B v), hEX9, HFR4.out.trans (Fr.step (b := t1) HA.out hfl9 (fun _ e => e) (fun _ e => .inl e) hLB9), upS_same _ _ _, ⟨hK9, by rw [ht1]; rfl, by rw [ht1]; exact HON.out, by rw [ht1]; exact HOF.out.2.2.2.2⟩, by rw [ht1]; show a.nx ≤ 0; rw [HOF.out.2.2.2.1]; exact Nat.le_refl _, fun e l hs => .inl ⟨toCd ⟨.node (k : Int) dA dc dks, ⟨(X.V v).c, (X.V v).s⟩, List.replicate n 0, some ⟨rz, 0, none⟩, n⟩, .inl (by rw [hK9]; simp), by rw [hcd]; exact ((hSn e l).1 hs).1.symm, by rw [hcd]; exact ((hSn e l).1 hs).2.symm⟩, by simp only [DI.e, Int.toNat_natCast]; exact (hSn _ _).2 ⟨rfl, rfl⟩, fun j _ _ hj => by omega⟩
   have HJ0 := Lib.hid hJ0
   have hkm0 : k ∈ headsOf X.L.es v := mem_heads.2 ⟨x, HXX.out, by
    have h0 := (okE_parts ((validB_parts HXO.out.L.vd).2.2 x (List.mem_of_getElem? HXX.out))).1
    have h1 := HX3.out
    unfold toEE at h1
    simp only at h1
    omega⟩
   obtain ⟨hl, hhl⟩ : ∃ q, (headsOf X.L.es v).length = q := ⟨_, rfl⟩
   have hlw := heads_len X.L.es v
   have hl12 : hl ≤ 12 := by have := HXO.out.L.hl; have := HXO.out.L.hn; omega
   have hM8b : X.M ≤ 8 := by have := HXO.out.L.hN; have := HXO.out.M; omega
   obtain ⟨ab, ao, hc, hHF⟩ : ∃ ab ao hc, X.HF (kI v) = some (.slice (some ⟨ab, ao, none⟩) hl hc) := by
    rcases hLI9.env.now.hh v HVM.out with ⟨_, h1⟩ | ⟨A, c, h1, h2⟩
    ·
     rw [h1] at hkm0; cases hkm0
    ·
     obtain ⟨j, hj⟩ := List.getElem?_of_mem hkm0
     obtain ⟨b, o, rfl, _⟩ := h2 j k hj
     exact ⟨b, o, c, by rw [h1, hhl]⟩
   have hlk := (hLI9.env.now.hm.lookup klaw Tryd.underlying86 (zero_li _) (keyN (v := v) (by have := HVM.out; omega))).1
   rw [hHF] at hlk
   simp only [Option.getD_some] at hlk
   have c2 := hLI9.env.now.lb.cell (i := 3) rfl
   have HHF := Lib.hid hHF
   have HHL := Lib.hid hhl
   have HL12 := Lib.hid hl12
   obtain ⟨fst, hfst⟩ : ∃ c : CI, c = ⟨.node (k : Int) dA dc dks, ⟨(X.V v).c, (X.V v).s⟩, List.replicate n 0, some ⟨rz, 0, none⟩, n⟩ := ⟨_, rfl⟩
   rw [← hfst] at hJ0
   have hx9 : X.L.es[fst.d.e.toNat]? = some x := by rw [hfst]; simp only [DI.e, Int.toNat_natCast]; exact HXX.out
   have hr9 : fst.r = List.replicate x.t.length 0 := by rw [hfst]; simp only; rw [HNX.out]
   have hp9 : PreD X.L.E v [toDT fst.d] := by rw [hfst]; exact HFN.out.2
   have ht9 : TrE X.L.E fst.d.e.toNat fst.r (toDT fst.d) := by rw [hfst]; simp only [DI.e, Int.toNat_natCast]; exact HTR.out
   have HFS := Lib.hid (And.intro hx9 (And.intro hr9 (And.intro hp9 ht9)))
   have HJ0 := Lib.hid hJ0
   have h09 : 0 ≤ hl := Nat.zero_le _
   clear hN ht1 hT9 hK9 hk100 hz100 hSn hQ9 hcd hCO hP9 hfl9 hLB9 hLI9 hEX9 hJ0 hm9 hg9 hkm0 hhl hlw hHF hfst hx9 hr9 hp9 ht9
   go_wp2_with fail
   clear hlk c2
   go_loopw [62] (fun i wr => ∃ (j : Nat) (F' : Nat → Bool) (σ' : ST) (t : TS), j ≤ hl ∧ i = .int .i64 j ∧ Hid (BJ X B v F w σ a fst j F' wr σ' t)) (fun i _ => hl - (intOf i).toNat)
   case atStart => exact ⟨0, G, _, t1, h09, rfl, HJ0⟩
   case round =>
    obtain ⟨j, F', σ', t, hj, rfl, HJ⟩ := hrel
    by_cases hjm : j < hl
    ·
     obtain ⟨kk, hkk⟩ := get_lt HHL.out hjm
     obtain ⟨y, hy, hyv⟩ := mem_heads.1 (List.mem_of_getElem? hkk)
     have hE := HJ.out.li.env.now
     have hrow : wr.cell? ⟨ab, ao + j, none⟩ = some (.int .i64 (kk : Int)) := by
      rcases hE.hh v HVM.out with ⟨h1, _⟩ | ⟨A, c, h1, h2⟩
      ·
       rw [HHF.out] at h1; cases h1
      ·
       rw [HHF.out] at h1
       have h3 := Option.some.inj h1
       injection h3 with h4 _ _
       obtain ⟨b, o, h5, h6⟩ := h2 j kk hkk
       rw [← h4] at h5
       injection h5 with h5
       injection h5 with h7 h8 _
       subst h7 h8
       exact h6
     have hfin := finite_any X HXO.out wr hE kk y hy
     have hkn : kk < X.L.n := by
      have := (List.getElem?_eq_some_iff.1 hy).1
      rw [HXO.out.L.hl] at this; exact this
     have hn12 := HXO.out.L.hn
     obtain ⟨eb, eo, hA, hce⟩ := hE.es.1 kk y hy
     have l1 := hE.lb.cell (i := 1) rfl
     rw [hA] at l1
     have c1 := hce 1 _ (by decide) rfl
     have hy3 : y.t.length ≤ 3 := HXO.out.L.tl y (List.mem_of_getElem? hy)
     obtain ⟨m, hm⟩ : ∃ q, y.t.length = q := ⟨_, rfl⟩
     rw [hm] at c1
     have HFC := Lib.hid hfin
     have HKK := Lib.hid hkk
     have HY := Lib.hid hy
     have HYM := Lib.hid hm
     have hm3 : m ≤ 3 := by omega
     by_cases hf : (ev X.V (toEE y)).c < INF
     ·
      have HOF := Lib.hid (HJ.out.offered HXO.out HBV.out HFS.out.1 HFS.out.2.1 HFS.out.2.2.1 HFS.out.2.2.2 (w1 := wr.alloc (.cells (madeCells #[.int .i64 0] m) 3)) ((Fut.refl wr).alloc _) (q := wr.heap.size) ⟨Nat.le_refl _, by rw [World.size_alloc]; omega⟩ (World.rowIs_made wr (.int .i64 0) m 3) hkk hy hm (by omega) (fun i tt hi F2 w2 σ2 a2 => HGG.out kk y hy hyv i tt hi F2 w2 σ2 a2))
      have hmk := run_make_row' (P := Tryd.prog) 46 3 (.int .i64 0) 8 Tryd.underlying46 info_intQ rfl .i64 .i64 m (by omega) (by omega)
      rw [decide_eq_true hf] at hfin
      have HFC := Lib.hid hfin
      clear hfin hkk hy hyv hE hA hce hm hf hy3
      go_wp2_with fail
      refine HFC.out.mono ?_
      rintro r w8 ⟨rfl, hw8⟩
      rw [hw8]
      clear hw8 w8
      go_wp2_with fail
      refine HOF.out.mono ?_
      rintro e w6 ⟨⟨u, rfl⟩, F6, σ6, t6, hj6⟩
      have HJ6 := Lib.hid hj6
      clear hj6
      go_wp2_with fail
      exact ⟨⟨j + 1, F6, σ6, t6, by omega, by go_num, HJ6⟩, by simp [intOf]; omega⟩
     ·
      have HSK := Lib.hid (HJ.out.skip hkk hy hf)
      rw [decide_eq_false hf] at hfin
      have HFC := Lib.hid hfin
      clear hfin hkk hy hyv hE hA hce hm hf hy3
      go_wp2_with fail
      refine HFC.out.mono ?_
      rintro r w8 ⟨rfl, hw8⟩
      rw [hw8]
      clear hw8 w8
      go_wp2_with fail
      exact ⟨⟨j + 1, F', σ', t, by omega, by go_num, HSK⟩, by simp [intOf]; omega⟩
    ·
     go_wp2_with fail
     go_returns
     exact ⟨F', σ', t, HJ.out.li, HJ.out.id, HJ.out.sv, HJ.out.k.2.2.1, HJ.out.idle HXO.out (by rw [HHL.out]; omega) (by have := HL12.out; omega), HJ.out.ex, HJ.out.fr, .inl ⟨rfl, by rw [HJ.out.k.1]; rfl⟩⟩
  ·
   go_simp
   refine hK _ _ (.inr ((Fut.refl _).alloc _)) ?_
   clear hK K
   refine wpF_o rfl rfl (fun K hK => ?_)
   go_simp
   refine hK _ _ (.inr ((Fut.refl _).alloc _)) ?_
   clear hK K
   (refine wpF_h rfl rfl (fun K hK => ?_); go_simp; refine hK _ _ ?_; clear hK K)
   clear d0 d1 l2 v0 v1 hmk
   obtain ⟨rz, hrz⟩ : ∃ q, q = w2.heap.size + 1 := ⟨_, rfl⟩
   obtain ⟨fb, hfb⟩ : ∃ q, q = w2.heap.size := ⟨_, rfl⟩
   rw [← hrz, ← hfb]
   have HPZ := Lib.hid (show RowI (((w2.alloc (.cells #[.int .i64 0, .slice none 0 0, .int .i64 0, .int .i64 0, .slice none 0 0] 66)).alloc (.cells (madeCells #[.int .i64 0] n) 3)).drew) rz n (fun _ => 0) from RowI.fut (by have h9 := World.rowIs_made (w2.alloc (.cells #[.int .i64 0, .slice none 0 0, .int .i64 0, .int .i64 0, .slice none 0 0] 66)) (.int .i64 0) n 3; rw [World.size_alloc, ← hrz] at h9; exact h9) (Fut.refl _).drew)
   have HPB := Lib.hid (show Blk (((w2.alloc (.cells #[.int .i64 0, .slice none 0 0, .int .i64 0, .int .i64 0, .slice none 0 0] 66)).alloc (.cells (madeCells #[.int .i64 0] n) 3)).drew) fb 66 #[.int .i64 0, .slice none 0 0, .int .i64 0, .int .i64 0, .slice none 0 0] from by rw [hfb]; exact ((Blk.new w2 _ _).alloc _).drew)
   have HFS := Lib.hid (show Fut w2 (((w2.alloc (.cells #[.int .i64 0, .slice none 0 0, .int .i64 0, .int .i64 0, .slice none 0 0] 66)).alloc (.cells (madeCells #[.int .i64 0] n) 3)).drew) from (((Fut.refl w2).alloc _).alloc _).drew)
   have HSS := Lib.hid (show (((w2.alloc (.cells #[.int .i64 0, .slice none 0 0, .int .i64 0, .int .i64 0, .slice none 0 0] 66)).alloc (.cells (madeCells #[.int .i64 0] n) 3)).drew).heap.size = w2.heap.size + 2 from by show ((w2.alloc _).alloc _).heap.size = _; simp only [World.size_alloc])
   have HRZ := Lib.hid (show w2.heap.size ≤ rz ∧ rz < w2.heap.size + 2 from by omega)
   have HFB := Lib.hid (show w2.heap.size ≤ fb ∧ fb < w2.heap.size + 2 ∧ rz ≠ fb from by omega)
   clear hrz hfb
   generalize ((w2.alloc (.cells #[.int .i64 0, .slice none 0 0, .int .i64 0, .int .i64 0, .slice none 0 0] 66)).alloc (.cells (madeCells #[.int .i64 0] n) 3)).drew = ws at *
   refine wpF_ol rfl (by kernel_rfl) rfl (fun K hK => ?_)
   have u0 := HPB.out.cell (i := 0) rfl
   have f0 := HPB.out.fz 0
   have u1 := HPB.out.cell (i := 1) rfl
   have f1 := HPB.out.fz 1
   have u2 := HPB.out.cell (i := 2) rfl
   have f2 := HPB.out.fz 2
   have u3 := HPB.out.cell (i := 3) rfl
   have f3 := HPB.out.fz 3
   have u4 := HPB.out.cell (i := 4) rfl
   have f4 := HPB.out.fz 4
   go_simp
   refine hK _ _ ?_
   clear hK K u0 u1 u2 u3 u4 f0 f1 f2 f3 f4
   have HB4 := Lib.hid (show Blk (((((ws.setCell ⟨fb, 0, none⟩ (.int .i64 (k : Int))).setCell ⟨fb, 1, none⟩ (.slice dA n dc)).setCell ⟨fb, 2, none⟩ (.int .i64 (X.V v).c)).setCell ⟨fb, 3, none⟩ (.int .i64 (X.V v).s)).setCell ⟨fb, 4, none⟩ (.slice (some ⟨rz, 0, none⟩) n n)) fb 66 #[.int .i64 (k : Int), .slice dA n dc, .int .i64 (X.V v).c, .int .i64 (X.V v).s, .slice (some ⟨rz, 0, none⟩) n n] from (((((HPB.out.set 0 (.int .i64 (k : Int))).set 1 (.slice dA n dc)).set 2 (.int .i64 (X.V v).c)).set 3 (.int .i64 (X.V v).s)).set 4 (.slice (some ⟨rz, 0, none⟩) n n)))
   have HZ4 := Lib.hid (show RowI (((((ws.setCell ⟨fb, 0, none⟩ (.int .i64 (k : Int))).setCell ⟨fb, 1, none⟩ (.slice dA n dc)).setCell ⟨fb, 2, none⟩ (.int .i64 (X.V v).c)).setCell ⟨fb, 3, none⟩ (.int .i64 (X.V v).s)).setCell ⟨fb, 4, none⟩ (.slice (some ⟨rz, 0, none⟩) n n)) rz n (fun _ => 0) from HPZ.out.of_block (((((blk_setCell_other ((((ws.setCell ⟨fb, 0, none⟩ (.int .i64 (k : Int))).setCell ⟨fb, 1, none⟩ (.slice dA n dc)).setCell ⟨fb, 2, none⟩ (.int .i64 (X.V v).c)).setCell ⟨fb, 3, none⟩ (.int .i64 (X.V v).s)) ⟨fb, 4, none⟩ (.slice (some ⟨rz, 0, none⟩) n n) rz HFB.out.2.2).trans (blk_setCell_other (((ws.setCell ⟨fb, 0, none⟩ (.int .i64 (k : Int))).setCell ⟨fb, 1, none⟩ (.slice dA n dc)).setCell ⟨fb, 2, none⟩ (.int .i64 (X.V v).c)) ⟨fb, 3, none⟩ (.int .i64 (X.V v).s) rz HFB.out.2.2)).trans (blk_setCell_other ((ws.setCell ⟨fb, 0, none⟩ (.int .i64 (k : Int))).setCell ⟨fb, 1, none⟩ (.slice dA n dc)) ⟨fb, 2, none⟩ (.int .i64 (X.V v).c) rz HFB.out.2.2)).trans (blk_setCell_other (ws.setCell ⟨fb, 0, none⟩ (.int .i64 (k : Int))) ⟨fb, 1, none⟩ (.slice dA n dc) rz HFB.out.2.2)).trans (blk_setCell_other ws ⟨fb, 0, none⟩ (.int .i64 (k : Int)) rz HFB.out.2.2)))
   have HF24 := Lib.hid (show Fut w2 (((((ws.setCell ⟨fb, 0, none⟩ (.int .i64 (k : Int))).setCell ⟨fb, 1, none⟩ (.slice dA n dc)).setCell ⟨fb, 2, none⟩ (.int .i64 (X.V v).c)).setCell ⟨fb, 3, none⟩ (.int .i64 (X.V v).s)).setCell ⟨fb, 4, none⟩ (.slice (some ⟨rz, 0, none⟩) n n)) from (((((HFS.out.setCell (p := ⟨fb, 0, none⟩) HFB.out.1 (.int .i64 (k : Int))).setCell (p := ⟨fb, 1, none⟩) HFB.out.1 (.slice dA n dc)).setCell (p := ⟨fb, 2, none⟩) HFB.out.1 (.int .i64 (X.V v).c)).setCell (p := ⟨fb, 3, none⟩) HFB.out.1 (.int .i64 (X.V v).s)).setCell (p := ⟨fb, 4, none⟩) HFB.out.1 (.slice (some ⟨rz, 0, none⟩) n n)))
   have HS4 := Lib.hid (show (((((ws.setCell ⟨fb, 0, none⟩ (.int .i64 (k : Int))).setCell ⟨fb, 1, none⟩ (.slice dA n dc)).setCell ⟨fb, 2, none⟩ (.int .i64 (X.V v).c)).setCell ⟨fb, 3, none⟩ (.int .i64 (X.V v).s)).setCell ⟨fb, 4, none⟩ (.slice (some ⟨rz, 0, none⟩) n n)).heap.size = w2.heap.size + 2 from by simp only [World.size_setCell]; exact HSS.out)
   generalize (((((ws.setCell ⟨fb, 0, none⟩ (.int .i64 (k : Int))).setCell ⟨fb, 1, none⟩ (.slice dA n dc)).setCell ⟨fb, 2, none⟩ (.int .i64 (X.V v).c)).setCell ⟨fb, 3, none⟩ (.int .i64 (X.V v).s)).setCell ⟨fb, 4, none⟩ (.slice (some ⟨rz, 0, none⟩) n n)) = w4 at *
   clear HPZ HPB HFS HSS
   refine wpF_nil ?_
   have HF4 := Lib.hid (HF2.out.trans HF24.out)
   have hs12 := HS2.out
   have hw1 := HF1.out.size
   obtain ⟨G, hG⟩ : ∃ G : Nat → Bool, G = fun q => F q || (decide (w.heap.size ≤ q) && decide (q < w1.heap.size)) || q == rz := ⟨_, rfl⟩
   have hGF : ∀ q, G q = true → F q = true ∨ (w.heap.size ≤ q ∧ q < w1.heap.size) ∨ q = rz := fun q hq => by
    rw [hG] at hq
    simp only [Bool.or_eq_true, Bool.and_eq_true, decide_eq_true_eq, beq_iff_eq] at hq
    rcases hq with (h1 | h1) | h1
    ·
     exact .inl h1
    ·
     exact .inr (.inl h1)
    ·
     exact .inr (.inr h1)
   have hFG : ∀ q, F q = true → G q = true := fun q hq => by rw [hG]; simp [hq]
   have hGn : ∀ q, w.heap.size ≤ q → q < w1.heap.size → G q = true := fun q h1 h2 => by rw [hG]; simp [h1, h2]
   have hGz : G rz = true := by rw [hG]; simp
   clear hG
   have hGw : ∀ q, G q = true → F q = true ∨ w.heap.size ≤ q := fun q hq => by
    rcases hGF q hq with h1 | h1 | h1
    ·
     exact .inl h1
    ·
     exact .inr h1.1
    ·
     have := HRZ.out; exact .inr (by omega)
   have hG4 : ∀ q, G q = true → q < w4.heap.size := fun q hq => by
    have := HS4.out
    rcases hGF q hq with h1 | h1 | h1
    ·
     have := HI.out.fb q h1; omega
    ·
     omega
    ·
     have := HRZ.out; omega
   have hLG : LI X G w4 σ := (HI.out.go HF4.out).frz hFG (fun q hq => by
    rcases hGw q hq with h1 | h1
    ·
     exact .inl h1
    ·
     exact .inr ⟨hG4 q hq, fun h2 => by have := HI.out.bF h2; omega⟩)
   have hFr4 : Fr X F w σ G w4 σ := (Fr.of_fut HF4.out).frz hFG hGw
   have hM : TSM X.L G v w4 a := hLG.mem v a HA.out
   have hRC : RdC G w4 ⟨.node (k : Int) dA dc dks, ⟨(X.V v).c, (X.V v).s⟩, List.replicate n 0, some ⟨rz, 0, none⟩, n⟩ := by
    refine ⟨HRP.out.keep (fun q h1 h2 => ⟨(HF12.out.trans HF24.out).block q h2, hGn q h1 h2⟩), rd1_zero HZ4.out (fun _ => rfl), fun b o e _ => ?_⟩
    injection e with e
    injection e with e1 _ _
    rw [← e1]; exact hGz
   have hOK : okC X.L (v : Int) ⟨.node (k : Int) dA dc dks, ⟨(X.V v).c, (X.V v).s⟩, List.replicate n 0, some ⟨rz, 0, none⟩, n⟩ := by
    refine ⟨?_, ?_⟩
    ·
     exact HGD.out.2
    ·
     exact HGD.out.1.symm
   obtain ⟨KA, Kc, hKv⟩ := own_formK hM.kown
   obtain ⟨hK0, hm0, hS0, hnx0, ho0⟩ := HOF.out
   rw [hK0, List.length_nil] at hKv
   have s0 : w4.cell? ⟨a.sb, 0, none⟩ = some (.slice KA 0 Kc) := by rw [← hKv]; exact hM.sblk.cell rfl
   have hkow : w4.ownsRow a.B 66 5 (.slice KA 0 Kc) 0 [] := by
    have h1 := hM.kown
    rw [hK0, hKv] at h1
    exact h1
   have HLG := Lib.hid hLG
   have HFR4 := Lib.hid hFr4
   have HMM := Lib.hid hM
   have HRC := Lib.hid hRC
   have HOK := Lib.hid hOK
   have HKV := Lib.hid hKv
   have HKW := Lib.hid hkow
   have hsfb : a.sb ≠ fb := by have := hM.sblk.lt; have h1 := HI.out.bF (.inr ⟨v, a, HA.out, lb_s a⟩); have := HFB.out; omega
   obtain ⟨S, hS⟩ : ∃ S : Nat → Bool, S = fun q => (Value.slice KA 0 Kc).ownBlock == some q := ⟨_, rfl⟩
   have hSsb : S a.sb = false := by
    rw [hS]
    exact beq_eq_false_iff_ne.2 (fun e => own_ne_blk hkow hM.sblk (by decide) a.sb e rfl)
   have hSfb : S fb = false := by
    rw [hS]
    refine beq_eq_false_iff_ne.2 (fun e => ?_)
    have h1 := HI.out.bF (.inr ⟨v, a, HA.out, lb_k (by rw [hKv]; exact e)⟩)
    have := HFB.out
    omega
   have HSV := Lib.hid (show ∀ q, (Value.slice KA 0 Kc).ownBlock = some q → S q = true from fun q hq => by rw [hS]; simp [hq])
   have x0 := cell_futS s0 hSsb
   have y0 := cell_futS (HB4.out.cell (i := 0) rfl) hSfb
   have y1 := cell_futS (HB4.out.cell (i := 1) rfl) hSfb
   have y2 := cell_futS (HB4.out.cell (i := 2) rfl) hSfb
   have y3 := cell_futS (HB4.out.cell (i := 3) rfl) hSfb
   have y4 := cell_futS (HB4.out.cell (i := 4) rfl) hSfb
   clear hLG hFr4 hM hRC hOK hKv hkow s0 hSsb hSfb hS hGF hFG hGn hGz hGw hG4 hK0 hm0 hS0 hnx0 ho0
   go_wp2_with fail
   refine wp_region_MG (relS S) o_kbest_lister_begin_5 (by kernel_rfl) (by kernel_rfl) (by intro c a d v w h; cases d <;> exact h) ?_; unfold o_kbest_lister_begin_5
   iterate 6 (refine wpS_h rfl rfl (fun K hK => ?_); go_simp; refine hK _ _ ?_; clear hK K)
   refine wpG_o rfl rfl (fun K hK => ?_)
   go_simp
   go_at_K
   refine hK _ _ (.inr ((relS S).of_fut ((Fut.refl _).alloc _))) ?_
   clear hK K x0 y0 y1 y2 y3 y4
   obtain ⟨w5, hw5⟩ : ∃ w5, w5 = (w4.alloc (.cells #[.int .i64 (k : Int), .slice dA n dc, .int .i64 (X.V v).c, .int .i64 (X.V v).s, .slice (some ⟨rz, 0, none⟩) n n] 66)).drew := ⟨_, rfl⟩
   have HF45 := Lib.hid (show Fut w4 w5 from by rw [hw5]; exact ((Fut.refl _).alloc _).drew)
   have HNB := Lib.hid (show w5.heap[w4.heap.size]? = some (.cells #[.int .i64 (k : Int), .slice dA n dc, .int .i64 (X.V v).c, .int .i64 (X.V v).s, .slice (some ⟨rz, 0, none⟩) n n] 66 (0, 0)) from by rw [hw5]; exact heap_new' _ _ _ rfl)
   have HKW5 := Lib.hid (own_fut HKW.out HF45.out)
   rw [show (w4.alloc (.cells #[.int .i64 (k : Int), .slice dA n dc, .int .i64 (X.V v).c, .int .i64 (X.V v).s, .slice (some ⟨rz, 0, none⟩) n n] 66)).drew = w5 from hw5.symm]
   clear hw5
   refine wpG_o rfl rfl (fun K hK => ?_)
   refine wp_push 92 66 5 72 _ Tryd.underlying92 info_ca rfl (by decide) (by decide) (.tmp 40) (.tmp 42) rfl a.B (.slice KA 0 Kc) 0 _ rfl HKW5.out w4.heap.size [.int .i64 (k : Int), .slice dA n dc, .int .i64 (X.V v).c, .int .i64 (X.V v).s, .slice (some ⟨rz, 0, none⟩) n n] rfl HNB.out rfl (by simp [Value.oneCell']) (by omega) (Nat.le_trans HMM.out.qk.sz HF45.out.size) ?_
   intro g cap w6 p1 p2 p3
   refine hK _ _ (.inr ((FutS.refl _).grown p2 (fun k hk => .inl (HSV.out k hk)))) ?_
   clear hK K
   have HP6 := Lib.hid (And.intro p1 (And.intro p2 p3))
   have HSB6 := Lib.hid ((HMM.out.sblk.fut HF45.out).grown p2 (fun e => own_ne_blk HKW5.out (HMM.out.sblk.fut HF45.out) (by decide) a.sb e.symm rfl))
   clear p1 p2 p3
   iterate 2 (refine wpS_h rfl rfl (fun K hK => ?_); go_simp; refine hK _ _ ?_; clear hK K)
   refine wpG_ol rfl (by kernel_rfl) rfl (fun K hK => ?_)
   have u0 := HSB6.out.cell (i := 0) rfl
   have f0 := HSB6.out.fz 0
   go_simp
   refine hK _ _ ?_
   clear hK K u0 f0
   refine wpG_nil ?_
   have hT7 : TSM X.L G v (w6.setCell ⟨a.sb, 0, none⟩ (.slice (some ⟨g, 0, none⟩) 1 cap)) { a with K := [⟨.node (k : Int) dA dc dks, ⟨(X.V v).c, (X.V v).s⟩, List.replicate n 0, some ⟨rz, 0, none⟩, n⟩], Kv := .slice (some ⟨g, 0, none⟩) 1 cap } ∧ FutS a.LB w4 (w6.setCell ⟨a.sb, 0, none⟩ (.slice (some ⟨g, 0, none⟩) 1 cap)) ∧ (∀ q, TS.LB { a with K := [⟨.node (k : Int) dA dc dks, ⟨(X.V v).c, (X.V v).s⟩, List.replicate n 0, some ⟨rz, 0, none⟩, n⟩], Kv := .slice (some ⟨g, 0, none⟩) 1 cap } q = true → a.LB q = true ∨ w.heap.size ≤ q) ∧ w4.heap.size ≤ (w6.setCell ⟨a.sb, 0, none⟩ (.slice (some ⟨g, 0, none⟩) 1 cap)).heap.size ∧ (∀ q, q = bd ∨ q = fb → (w6.setCell ⟨a.sb, 0, none⟩ (.slice (some ⟨g, 0, none⟩) 1 cap)).heap[q]? = w4.heap[q]?) := by
    obtain ⟨p1, p2, p3⟩ := HP6.out
    have hgsb : g ≠ a.sb := own_ne_blk p1 HSB6.out (by decide) g rfl
    have hold : ∀ q, (Value.slice KA 0 Kc).ownBlock = some q → q < w.heap.size := fun q hq => HI.out.bF (.inr ⟨v, a, HA.out, lb_k (by rw [HKV.out]; exact hq)⟩)
    have hslt : a.sb < w.heap.size := HI.out.bF (.inr ⟨v, a, HA.out, lb_s a⟩)
    have hT5 : TSM X.L G v w5 a := HMM.out.keep HF45.out.size (fun q hq => HF45.out.block q (HMM.out.lt q hq)) (KpF.of_fut HMM.out.qk.fb HF45.out) (fun _ e => e) (fun q hq => Nat.lt_of_lt_of_le (HMM.out.qk.fb q hq) HF45.out.size) HMM.out.fL
    have hgF : G g = false := by
     rcases p3 with h5 | h5
     ·
      cases e : G g with
      | false => rfl
      | true =>
       have := HMM.out.fL g e
       rw [lb_k (by rw [HKV.out]; exact h5)] at this; cases this
     ·
      cases e : G g with
      | false => rfl
      | true => have := hT5.qk.fb g e; omega
    have hfl5 : FutS (fun q => q == a.sb || a.Kv.ownBlock == some q) w5 (w6.setCell ⟨a.sb, 0, none⟩ (.slice (some ⟨g, 0, none⟩) 1 cap)) := ((FutS.refl w5).grown p2 (fun q hq => .inl (by rw [HKV.out]; simp [hq]))).setCell (a := ⟨a.sb, 0, none⟩) (.inl (by simp)) _
    refine ⟨hT5.known hfl5 (HSB6.out.set 0 _) ?_ (fun c hc => ?_) (fun q hq => ?_), ?_, fun q hq => ?_, ?_, fun q hq => ?_⟩
    ·
     have h3 := World.ownsRow.kept p1 (grown_set w6 ⟨a.sb, 0, none⟩ (.slice (some ⟨g, 0, none⟩) 1 cap)) (.inr (by simp only [Value.ownBlock]; intro e; exact hgsb (Option.some.inj e)))
     simpa [encC, DI.e, DI.A, DI.c, DI.k, HNK.out] using h3
    ·
     rw [List.mem_singleton.1 hc]
     exact ⟨HRC.out.keep (KpF.of_fut HMM.out.qk.fb HF45.out) (fun _ e => e), HOK.out⟩
    ·
     simp only [Value.ownBlock, Option.some.injEq] at hq
     subst hq
     exact hgF
    ·
     exact FutS.setCell (S := a.LB) (FutS.grown (S := a.LB) (FutS.then (S := a.LB) (FutS.refl w4) HF45.out) p2 (fun q hq => .inl (lb_k (t := a) (by rw [HKV.out]; exact hq)))) (a := ⟨a.sb, 0, none⟩) (.inl (lb_s a)) _
    ·
     rcases lb_of.1 hq with h5 | h5 | h5 | h5
     ·
      rw [h5]; exact .inl (lb_s a)
     ·
      rw [h5]; exact .inl (lb_m a)
     ·
      simp only [Value.ownBlock, Option.some.injEq] at h5
      subst h5
      rcases p3 with h6 | h6
      ·
       exact .inl (lb_k (by rw [HKV.out]; exact h6))
      ·
       have := HF45.out.size
       have := HF4.out.size
       exact .inr (by omega)
     ·
      exact .inl (lb_q (t := a) h5)
    ·
     have := p2.size
     have := HF45.out.size
     rw [World.size_setCell]; omega
    ·
     have h7 : w.heap.size ≤ q ∧ q < w4.heap.size := by
      have := HS4.out
      have := HFB.out
      have := HBDE.out
      have := HBD.out.lt
      rcases hq with rfl | rfl <;> omega
     have h8 := hfl5.block q (by have := HF45.out.size; omega) (by
      simp only [Bool.or_eq_false_iff, beq_eq_false_iff_ne]
      refine ⟨by omega, fun e => ?_⟩
      have := hold q (by rw [← HKV.out]; exact e)
      omega)
     exact h8.trans (HF45.out.block q h7.2)
   have HT7 := Lib.hid hT7
   have HLB7 := Lib.hid (show ∀ q, TS.LB { a with K := [⟨.node (k : Int) dA dc dks, ⟨(X.V v).c, (X.V v).s⟩, List.replicate n 0, some ⟨rz, 0, none⟩, n⟩], Kv := .slice (some ⟨g, 0, none⟩) 1 cap } q = true → a.LB q = true ∨ w4.heap.size ≤ q from fun q hq => by
    obtain ⟨p1, p2, p3⟩ := HP6.out
    rcases lb_of.1 hq with h5 | h5 | h5 | h5
    ·
     rw [h5]; exact .inl (lb_s a)
    ·
     rw [h5]; exact .inl (lb_m a)
    ·
     simp only [Value.ownBlock, Option.some.injEq] at h5
     subst h5
     rcases p3 with h6 | h6
     ·
      exact .inl (lb_k (by rw [HKV.out]; exact h6))
     ·
      have := HF45.out.size
      exact .inr (by omega)
    ·
     exact .inl (lb_q (t := a) h5))
   clear hT7
   generalize w6.setCell ⟨a.sb, 0, none⟩ (.slice (some ⟨g, 0, none⟩) 1 cap) = w7 at *
   have HA1 := Lib.hid (show ∃ t0 : TS, t0 = { a with K := [⟨.node (k : Int) dA dc dks, ⟨(X.V v).c, (X.V v).s⟩, List.replicate n 0, some ⟨rz, 0, none⟩, n⟩], Kv := .slice (some ⟨g, 0, none⟩) 1 cap } from ⟨_, rfl⟩)
   have hz100 : ∀ r ∈ List.replicate n 0, r < 100 := fun r hr => by rw [(List.mem_replicate.1 hr).2]; decide
   have hlz : (List.replicate n 0).length = n := List.length_replicate
   have hkm := keyS_mk (e := k) (l := List.replicate n 0) (by have := HKL.out; omega) hz100 (by rw [hlz]; omega)
   have hkc := fun (w' : World) (hf : Fut w7 w') => key_any k (some ⟨rz, 0, none⟩) n (List.replicate n 0) w' (by have := HKL.out; omega) hz100 (by rw [hlz]; omega) ((HT7.out.1.ktr _ (List.mem_singleton.2 rfl)).2.1.fut hf)
   rw [hlz] at hkc
   have HKC := Lib.hid hkc
   have HKM := Lib.hid hkm
   have s3 := cell_fut (show w7.cell? ⟨a.sb, 3, none⟩ = some (.map (some a.mb)) from HT7.out.1.sblk.cell rfl)
   have b0 := cell_fut (show w7.cell? ⟨bd, 0, none⟩ = some (.int .i64 (k : Int)) from (World.cell?_of_block (HT7.out.2.2.2.2 bd (.inl rfl))).trans ((HF24.out.cell (HBD.out.cell (i := 0) rfl))))
   have b4 := cell_fut (show w7.cell? ⟨fb, 4, none⟩ = some (.slice (some ⟨rz, 0, none⟩) n n) from (World.cell?_of_block (HT7.out.2.2.2.2 fb (.inr rfl))).trans (HB4.out.cell (i := 4) rfl))
   clear hz100 hlz hkm hkc
   go_wp2_with fail
   refine wp_region_M o_kbest_lister_begin_6 (by kernel_rfl) (by kernel_rfl) (by intro c a d v w h; cases d <;> exact h) ?_; unfold o_kbest_lister_begin_6
   iterate 8 (refine wpF_h rfl rfl (fun K hK => ?_); go_simp; refine hK _ _ ?_; clear hK K)
   refine wpF_o rfl rfl (fun K hK => ?_)
   go_simp
   go_at_call 62
   refine (HKC.out _ (Fut.refl w7).drew).mono ?_
   rintro r w8 ⟨rfl, hb8⟩
   refine hK _ _ (.inr hb8) ?_
   clear hK K
   have HF78 := Lib.hid (show Fut w7 w8 from (Fut.refl w7).drew.trans hb8)
   clear hb8
   have HT8 := Lib.hid (show TSM X.L G v w8 { a with K := [⟨.node (k : Int) dA dc dks, ⟨(X.V v).c, (X.V v).s⟩, List.replicate n 0, some ⟨rz, 0, none⟩, n⟩], Kv := .slice (some ⟨g, 0, none⟩) 1 cap } from HT7.out.1.keep HF78.out.size (fun q hq => HF78.out.block q (HT7.out.1.lt q hq)) (KpF.of_fut HT7.out.1.qk.fb HF78.out) (fun _ e => e) (fun q hq => Nat.lt_of_lt_of_le (HT7.out.1.qk.fb q hq) HF78.out.size) HT7.out.1.fL)
   refine wpF_ol rfl (by kernel_rfl) rfl (fun K hK => ?_)
   refine wp_fput (.tmp 49) (.tmp 54) (.const (.bool true)) rfl slaw Tryd.underlying94 rfl HT8.out.seen HKM.out rfl rfl ?_
   intro w9 hm9 hg9
   refine hK _ _ ?_
   clear hK K s3 b0 b4
   refine wpF_nil ?_
   have hN := HT8.out.noted (k := k) (l := List.replicate n 0) hm9 hg9
   obtain ⟨t1, ht1⟩ : ∃ t1 : TS, t1 = TS.note { a with K := [⟨.node (k : Int) dA dc dks, ⟨(X.V v).c, (X.V v).s⟩, List.replicate n 0, some ⟨rz, 0, none⟩, n⟩], Kv := .slice (some ⟨g, 0, none⟩) 1 cap } k (List.replicate n 0) := ⟨_, rfl⟩
   have hT9 : TSM X.L G v w9 t1 := by rw [ht1]; exact hN.1
   have hK9 : t1.K = [⟨.node (k : Int) dA dc dks, ⟨(X.V v).c, (X.V v).s⟩, List.replicate n 0, some ⟨rz, 0, none⟩, n⟩] := by rw [ht1]; rfl
   have hk100 : k < 100 := by have := HKL.out; omega
   have hz100 : ∀ r ∈ List.replicate n 0, r < 100 := fun r hr => by rw [(List.mem_replicate.1 hr).2]; decide
   have hSn : ∀ e l, t1.Sn e l ↔ (e = k ∧ l = List.replicate n 0) := fun e l => by
    rw [ht1, note_sn hk100 hz100]
    constructor
    ·
     rintro (h1 | h1)
     ·
      have h2 := h1.2.2
      have h3 : a.S (strV (keyS e l)) = some (.bool true) := h2
      rw [HOF.out.2.2.1] at h3; cases h3
     ·
      exact h1
    ·
     exact .inr
   have hQ9 : ∀ q, ¬ t1.Q q := fun q hq => by
    obtain ⟨i, hi, _⟩ := hq
    rw [ht1] at hi
    have h1 : i < a.m := hi
    rw [HOF.out.2.1] at h1
    omega
   have hcd : toCd ⟨.node (k : Int) dA dc dks, ⟨(X.V v).c, (X.V v).s⟩, List.replicate n 0, some ⟨rz, 0, none⟩, n⟩ = ⟨k, List.replicate n 0, toDT (.node (k : Int) dA dc dks)⟩ := by simp only [toCd, DI.e, Int.toNat_natCast]
   have hCO : COK X.L.E v ⟨k, List.replicate n 0, toDT (.node (k : Int) dA dc dks)⟩ := ⟨HTR.out, HFN.out.1⟩
   have hP9 : TSP X.L v t1 := by
    refine ⟨⟨?_, fun c hc => ?_, fun c hc q hq => absurd hq (hQ9 q), fun c hc => ?_⟩, fun i j hi => ?_, fun j c hc r hr => ?_, fun i hi => ?_, by rw [hK9]; simp, fun e => ?_⟩
    ·
     rw [hK9]
     simp only [List.map_cons, List.map_nil, hcd]
     exact HFN.out.2
    ·
     rcases hc with hc | hc
     ·
      rw [hK9] at hc
      simp only [List.map_cons, List.map_nil, hcd, List.mem_singleton] at hc
      rw [hc]; exact hCO
     ·
      exact absurd hc (hQ9 c)
    ·
     rcases hc with hc | hc
     ·
      rw [hK9] at hc
      simp only [List.map_cons, List.map_nil, hcd, List.mem_singleton] at hc
      rw [hc]; exact (hSn _ _).2 ⟨rfl, rfl⟩
     ·
      exact absurd hc (hQ9 c)
    ·
     exact absurd ⟨i, hi, rfl⟩ (hQ9 _)
    ·
     rw [hK9] at hc
     cases j with
     | zero =>
      simp only [List.getElem?_cons_zero, Option.some.injEq] at hc
      subst hc
      rw [(List.mem_replicate.1 hr).2]; exact Nat.zero_le _
     | succ j => simp at hc
    ·
     exact absurd ⟨i, hi, rfl⟩ (hQ9 _)
    ·
     rw [ht1] at e
     have h1 : a.on = false := e
     rw [HON.out] at h1; cases h1
   have hfl9 : FutS a.LB w4 w9 := ((HT7.out.2.1.then HF78.out).trans (FutS.grownS hg9 (fun q hq => by rw [← Option.some.inj hq]; exact lb_m a)))
   have hLB9 : ∀ q, t1.LB q = true → a.LB q = true ∨ w4.heap.size ≤ q := fun q hq => by
    rw [ht1] at hq
    exact HLB7.out q hq
   have hLI9 := HLG.out.step (b := t1) HA.out hfl9 (fun _ e => e) (fun _ e => .inl e) (fun q hq => Nat.lt_of_lt_of_le (HLG.out.fb q hq) hfl9.size) (by rw [ht1]; rfl) hLB9 hT9 hP9 (by rw [HOF.out.1]; exact Nat.zero_le _) (fun c hc => by
    rcases hc with hc | ⟨i, hi, _⟩
    ·
     right
     rw [hK9] at hc
     rw [List.mem_singleton.1 hc]
     intro E i t r g1 g2 g3
     rw [List.getElem?_replicate] at g3
     split at g3
     ·
      exact .inl (Option.some.inj g3).symm
     ·
      cases g3
    ·
     exact absurd ⟨i, hi, rfl⟩ (hQ9 _))
   have hEX9 : Ext B σ (upS σ v t1) := by
    have e1 : Ext (butv B v) σ (upS σ v t1) := Ext.up HA.out (by rw [ht1]; rfl) (fun _ => by rw [ht1]; exact HON.out) (fun i c hc => by rw [HOF.out.1] at hc; simp at hc)
    rwa [butv_no HBV.out] at e1
   have hJ0 : BJ X B v F w σ a ⟨.node (k : Int) dA dc dks, ⟨(X.V v).c, (X.V v).s⟩, List.replicate n 0, some ⟨rz, 0, none⟩, n⟩ 0 G w9 (upS σ v t1) t1 := ⟨hLI9, HID.out.up (bv_same B v), hEX9, HFR4.out.trans (Fr.step (b := t1) HA.out hfl9 (fun _ e => e) (fun _ e => .inl e) hLB9), upS_same _ _ _, ⟨hK9, by rw [ht1]; rfl, by rw [ht1]; exact HON.out, by rw [ht1]; exact HOF.out.2.2.2.2⟩, by rw [ht1]; show a.nx ≤ 0; rw [HOF.out.2.2.2.1]; exact Nat.le_refl _, fun e l hs => .inl ⟨toCd ⟨.node (k : Int) dA dc dks, ⟨(X.V v).c, (X.V v).s⟩, List.replicate n 0, some ⟨rz, 0, none⟩, n⟩, .inl (by rw [hK9]; simp), by rw [hcd]; exact ((hSn e l).1 hs).1.symm, by rw [hcd]; exact ((hSn e l).1 hs).2.symm⟩, by simp only [DI.e, Int.toNat_natCast]; exact (hSn _ _).2 ⟨rfl, rfl⟩, fun j _ _ hj => by omega⟩
   have HJ0 := Lib.hid hJ0
   have hkm0 : k ∈ headsOf X.L.es v := mem_heads.2 ⟨x, HXX.out, by
    have h0 := (okE_parts ((validB_parts HXO.out.L.vd).2.2 x (List.mem_of_getElem? HXX.out))).1
    have h1 := HX3.out
    unfold toEE at h1
    simp only at h1
    omega⟩
   obtain ⟨hl, hhl⟩ : ∃ q, (headsOf X.L.es v).length = q := ⟨_, rfl⟩
   have hlw := heads_len X.L.es v
   have hl12 : hl ≤ 12 := by have := HXO.out.L.hl; have := HXO.out.L.hn; omega
   have hM8b : X.M ≤ 8 := by have := HXO.out.L.hN; have := HXO.out.M; omega
   obtain ⟨ab, ao, hc, hHF⟩ : ∃ ab ao hc, X.HF (kI v) = some (.slice (some ⟨ab, ao, none⟩) hl hc) := by
    rcases hLI9.env.now.hh v HVM.out with ⟨_, h1⟩ | ⟨A, c, h1, h2⟩
    ·
     rw [h1] at hkm0; cases hkm0
    ·
     obtain ⟨j, hj⟩ := List.getElem?_of_mem hkm0
     obtain ⟨b, o, rfl, _⟩ := h2 j k hj
     exact ⟨b, o, c, by rw [h1, hhl]⟩
   have hlk := (hLI9.env.now.hm.lookup klaw Tryd.underlying86 (zero_li _) (keyN (v := v) (by have := HVM.out; omega))).1
   rw [hHF] at hlk
   simp only [Option.getD_some] at hlk
   have c2 := hLI9.env.now.lb.cell (i := 3) rfl
   have HHF := Lib.hid hHF
   have HHL := Lib.hid hhl
   have HL12 := Lib.hid hl12
   obtain ⟨fst, hfst⟩ : ∃ c : CI, c = ⟨.node (k : Int) dA dc dks, ⟨(X.V v).c, (X.V v).s⟩, List.replicate n 0, some ⟨rz, 0, none⟩, n⟩ := ⟨_, rfl⟩
   rw [← hfst] at hJ0
   have hx9 : X.L.es[fst.d.e.toNat]? = some x := by rw [hfst]; simp only [DI.e, Int.toNat_natCast]; exact HXX.out
   have hr9 : fst.r = List.replicate x.t.length 0 := by rw [hfst]; simp only; rw [HNX.out]
   have hp9 : PreD X.L.E v [toDT fst.d] := by rw [hfst]; exact HFN.out.2
   have ht9 : TrE X.L.E fst.d.e.toNat fst.r (toDT fst.d) := by rw [hfst]; simp only [DI.e, Int.toNat_natCast]; exact HTR.out
   have HFS := Lib.hid (And.intro hx9 (And.intro hr9 (And.intro hp9 ht9)))
   have HJ0 := Lib.hid hJ0
   have h09 : 0 ≤ hl := Nat.zero_le _
   clear hN ht1 hT9 hK9 hk100 hz100 hSn hQ9 hcd hCO hP9 hfl9 hLB9 hLI9 hEX9 hJ0 hm9 hg9 hkm0 hhl hlw hHF hfst hx9 hr9 hp9 ht9
   go_wp2_with fail
   clear hlk c2
   go_loopw [62] (fun i wr => ∃ (j : Nat) (F' : Nat → Bool) (σ' : ST) (t : TS), j ≤ hl ∧ i = .int .i64 j ∧ Hid (BJ X B v F w σ a fst j F' wr σ' t)) (fun i _ => hl - (intOf i).toNat)
   case atStart => exact ⟨0, G, _, t1, h09, rfl, HJ0⟩
   case round =>
    obtain ⟨j, F', σ', t, hj, rfl, HJ⟩ := hrel
    by_cases hjm : j < hl
    ·
     obtain ⟨kk, hkk⟩ := get_lt HHL.out hjm
     obtain ⟨y, hy, hyv⟩ := mem_heads.1 (List.mem_of_getElem? hkk)
     have hE := HJ.out.li.env.now
     have hrow : wr.cell? ⟨ab, ao + j, none⟩ = some (.int .i64 (kk : Int)) := by
      rcases hE.hh v HVM.out with ⟨h1, _⟩ | ⟨A, c, h1, h2⟩
      ·
       rw [HHF.out] at h1; cases h1
      ·
       rw [HHF.out] at h1
       have h3 := Option.some.inj h1
       injection h3 with h4 _ _
       obtain ⟨b, o, h5, h6⟩ := h2 j kk hkk
       rw [← h4] at h5
       injection h5 with h5
       injection h5 with h7 h8 _
       subst h7 h8
       exact h6
     have hfin := finite_any X HXO.out wr hE kk y hy
     have hkn : kk < X.L.n := by
      have := (List.getElem?_eq_some_iff.1 hy).1
      rw [HXO.out.L.hl] at this; exact this
     have hn12 := HXO.out.L.hn
     obtain ⟨eb, eo, hA, hce⟩ := hE.es.1 kk y hy
     have l1 := hE.lb.cell (i := 1) rfl
     rw [hA] at l1
     have c1 := hce 1 _ (by decide) rfl
     have hy3 : y.t.length ≤ 3 := HXO.out.L.tl y (List.mem_of_getElem? hy)
     obtain ⟨m, hm⟩ : ∃ q, y.t.length = q := ⟨_, rfl⟩
     rw [hm] at c1
     have HFC := Lib.hid hfin
     have HKK := Lib.hid hkk
     have HY := Lib.hid hy
     have HYM := Lib.hid hm
     have hm3 : m ≤ 3 := by omega
     by_cases hf : (ev X.V (toEE y)).c < INF
     ·
      have HOF := Lib.hid (HJ.out.offered HXO.out HBV.out HFS.out.1 HFS.out.2.1 HFS.out.2.2.1 HFS.out.2.2.2 (w1 := wr.alloc (.cells (madeCells #[.int .i64 0] m) 3)) ((Fut.refl wr).alloc _) (q := wr.heap.size) ⟨Nat.le_refl _, by rw [World.size_alloc]; omega⟩ (World.rowIs_made wr (.int .i64 0) m 3) hkk hy hm (by omega) (fun i tt hi F2 w2 σ2 a2 => HGG.out kk y hy hyv i tt hi F2 w2 σ2 a2))
      have hmk := run_make_row' (P := Tryd.prog) 46 3 (.int .i64 0) 8 Tryd.underlying46 info_intQ rfl .i64 .i64 m (by omega) (by omega)
      rw [decide_eq_true hf] at hfin
      have HFC := Lib.hid hfin
      clear hfin hkk hy hyv hE hA hce hm hf hy3
      go_wp2_with fail
      refine HFC.out.mono ?_
      rintro r w8 ⟨rfl, hw8⟩
      rw [hw8]
      clear hw8 w8
      go_wp2_with fail
      refine HOF.out.mono ?_
      rintro e w6 ⟨⟨u, rfl⟩, F6, σ6, t6, hj6⟩
      have HJ6 := Lib.hid hj6
      clear hj6
      go_wp2_with fail
      exact ⟨⟨j + 1, F6, σ6, t6, by omega, by go_num, HJ6⟩, by simp [intOf]; omega⟩
     ·
      have HSK := Lib.hid (HJ.out.skip hkk hy hf)
      rw [decide_eq_false hf] at hfin
      have HFC := Lib.hid hfin
      clear hfin hkk hy hyv hE hA hce hm hf hy3
      go_wp2_with fail
      refine HFC.out.mono ?_
      rintro r w8 ⟨rfl, hw8⟩
      rw [hw8]
      clear hw8 w8
      go_wp2_with fail
      exact ⟨⟨j + 1, F', σ', t, by omega, by go_num, HSK⟩, by simp [intOf]; omega⟩
    ·
     go_wp2_with fail
     go_returns
     exact ⟨F', σ', t, HJ.out.li, HJ.out.id, HJ.out.sv, HJ.out.k.2.2.1, HJ.out.idle HXO.out (by rw [HHL.out]; omega) (by have := HL12.out; omega), HJ.out.ex, HJ.out.fr, .inl ⟨rfl, by rw [HJ.out.k.1]; rfl⟩⟩
end Go.Proofs.YtajbmdjlfniofaaDoor
