/-
  Texts joined: The key of a hyperedge and ranks: what it is, and that it tells them apart; Candidates of the enumeration in memory; the order of its queues; The enumeration's queue: how it lies in memory; before; The enumeration's queue: swap; The enumeration's queue: up, down; The enumeration's queue: Push; The enumeration's queue: Pop.
-/
import Derived.Test.YtajbmdjlfniofaaDoorBC
import Derived.Test.YtajbmdjlfniofaaDoorShelf
import Derived.Test.YtajbmdjlfniofaaDoorBD
import Derived.Test.YtajbmdjlfniofaaDoorBN
import Derived.Test.YtajbmdjlfniofaaDoorBE
import Derived.Test.YtajbmdjlfniofaaDoorBB
import Derived.Test.YtajbmdjlfniofaaDoorBF
/-
  The key of a hyperedge and ranks: what it is, and that it tells them apart.
-/
namespace Go.Proofs.YtajbmdjlfniofaaDoor
open Go.RowKit
attribute [local go_sem] Oper.lit Oper.litS fut_fut fut_drew World.cell?_alloc_some
/-! ### numerals -/
theorem dig_ne {u : Nat} (h : u < 100) : ∀ b ∈ Lib.decDigits u, b ≠ 44 := by
 have key : ∀ i : Fin 100, ∀ b ∈ (if i.val < 10 then [UInt8.ofNat (48 + i.val)] else [UInt8.ofNat (48 + i.val / 10), UInt8.ofNat (48 + i.val % 10)]), b ≠ 44 := by decide +kernel
 intro b hb
 refine key ⟨u, h⟩ b ?_
 by_cases h1 : u < 10
 ·
  rw [if_pos h1]; rwa [Lib.decDigits_one h1] at hb
 ·
  rw [if_neg h1]; rwa [Lib.decDigits_two h1 h] at hb
theorem dig_inj {u v : Nat} (hu : u < 100) (hv : v < 100) (h : Lib.decDigits u = Lib.decDigits v) : u = v := by
 have e : ∀ i : Nat, i < 100 → ((Lib.decDigits i).foldl (fun a b => a * 10 + (b.toNat - 48)) 0) = i := by
  intro i hi
  have key : ∀ i : Fin 100, ((if i.val < 10 then [UInt8.ofNat (48 + i.val)] else [UInt8.ofNat (48 + i.val / 10), UInt8.ofNat (48 + i.val % 10)]).foldl (fun a b => a * 10 + (b.toNat - 48)) 0) = i.val := by decide +kernel
  have := key ⟨i, hi⟩
  by_cases h1 : i < 10
  ·
   rw [Lib.decDigits_one h1]; rwa [if_pos h1] at this
  ·
   rw [Lib.decDigits_two h1 hi]; rwa [if_neg h1] at this
 rw [← e u hu, ← e v hv, h]
def tailS (l : List Nat) : List UInt8 := l.flatMap (fun r => 44 :: Lib.decDigits r)
def keyS (e : Nat) (l : List Nat) : List UInt8 := Lib.decDigits e ++ tailS l
theorem keyS_snoc (e : Nat) (l : List Nat) (r : Nat) : keyS e (l ++ [r]) = keyS e l ++ 44 :: Lib.decDigits r := by
 unfold keyS tailS
 rw [List.flatMap_append, List.append_assoc]
 simp
theorem cut44 : ∀ {a b c d : List UInt8}, (∀ x ∈ a, x ≠ 44) → (∀ x ∈ b, x ≠ 44) → (c = [] ∨ ∃ c', c = 44 :: c') → (d = [] ∨ ∃ d', d = 44 :: d') → a ++ c = b ++ d → a = b ∧ c = d
 | [], [], _, _, _, _, _, _, h => ⟨rfl, by simpa using h⟩
 | [], x :: b, c, d, _, hb, hc, _, h => by
  exfalso
  simp only [List.nil_append, List.cons_append] at h
  rcases hc with rfl | ⟨c', rfl⟩
  ·
   cases h
  ·
   injection h with h1 _
   exact hb x (by simp) h1.symm
 | x :: a, [], c, d, ha, _, _, hd, h => by
  exfalso
  simp only [List.nil_append, List.cons_append] at h
  rcases hd with rfl | ⟨d', rfl⟩
  ·
   cases h
  ·
   injection h with h1 _
   exact ha x (by simp) h1
 | x :: a, y :: b, c, d, ha, hb, hc, hd, h => by
  simp only [List.cons_append] at h
  injection h with h1 h2
  obtain ⟨h3, h4⟩ := cut44 (fun z hz => ha z (by simp [hz])) (fun z hz => hb z (by simp [hz])) hc hd h2
  exact ⟨by rw [h1, h3], h4⟩
theorem tail_form (l : List Nat) : tailS l = [] ∨ ∃ c', tailS l = 44 :: c' := by
 cases l with
 | nil => exact .inl rfl
 | cons r l => exact .inr ⟨_, rfl⟩
theorem tailS_inj : ∀ {l m : List Nat}, (∀ r ∈ l, r < 100) → (∀ r ∈ m, r < 100) → tailS l = tailS m → l = m
 | [], [], _, _, _ => rfl
 | [], _ :: _, _, _, h => by simp [tailS] at h
 | _ :: _, [], _, _, h => by simp [tailS] at h
 | r :: l, s :: m, hl, hm, h => by
  have h1 : Lib.decDigits r ++ tailS l = Lib.decDigits s ++ tailS m := by
   unfold tailS at *
   simpa using h
  obtain ⟨h2, h3⟩ := cut44 (dig_ne (hl r (by simp))) (dig_ne (hm s (by simp))) (tail_form l) (tail_form m) h1
  rw [dig_inj (hl r (by simp)) (hm s (by simp)) h2, tailS_inj (fun x hx => hl x (by simp [hx])) (fun x hx => hm x (by simp [hx])) h3]
theorem keyS_inj {e f : Nat} {l m : List Nat} (he : e < 100) (hf : f < 100) (hl : ∀ r ∈ l, r < 100) (hm : ∀ r ∈ m, r < 100) (h : keyS e l = keyS f m) : e = f ∧ l = m := by
 unfold keyS at h
 obtain ⟨h2, h3⟩ := cut44 (dig_ne he) (dig_ne hf) (tail_form l) (tail_form m) h
 exact ⟨dig_inj he hf h2, tailS_inj hl hm h3⟩
theorem dig_len {u : Nat} (h : u < 100) : (Lib.decDigits u).length ≤ 2 := by
 by_cases h1 : u < 10
 ·
  rw [Lib.decDigits_one h1]; simp
 ·
  rw [Lib.decDigits_two h1 h]; simp
theorem tailS_len : ∀ {l : List Nat}, (∀ r ∈ l, r < 100) → (tailS l).length ≤ 3 * l.length
 | [], _ => by simp [tailS]
 | r :: l, h => by
  have h1 := tailS_len (l := l) (fun x hx => h x (by simp [hx]))
  have h2 := dig_len (h r (by simp))
  have h3 : (tailS (r :: l)).length = 1 + (Lib.decDigits r).length + (tailS l).length := by unfold tailS; simp; omega
  rw [h3, List.length_cons]; omega
theorem keyS_len {e : Nat} (he : e < 100) {l : List Nat} (h : ∀ r ∈ l, r < 100) : (keyS e l).length ≤ 2 + 3 * l.length := by
 unfold keyS
 rw [List.length_append]
 have := dig_len he
 have := tailS_len h
 omega
/-! ### the program's key -/
abbrev strV (b : List UInt8) : Value := .string ⟨b.toArray⟩
abbrev rkv (r : Nat) : Value := .int .i64 (r : Int)
set_option maxHeartbeats 1600000 in
theorem key_any (e : Nat) (A : Option Addr) (c : Nat) (l : List Nat) (w : World) (he : e < 100) (hl : ∀ r ∈ l, r < 100) (hn : l.length ≤ 1000000) (hR : Rd1 w A rkv l) :
  Calls Tryd.prog 62 #[.int .i64 e, .slice A l.length c] w fun r w' => r = .returned (strV (keyS e l)) ∧ Below w.heap.size w w' := by
 have HL := Lib.hid hl
 have HR := Lib.hid hR
 obtain ⟨n, hn'⟩ : ∃ n, l.length = n := ⟨_, rfl⟩
 have HN := Lib.hid hn'
 have hn63 : n ≤ 1000000 := hn' ▸ hn
 simp only [hn']
 clear hl hR hn hn'
 go_enter Tryd.func62, Tryd.ntmps62
 go_wp2_with fail
 refine (Tryd.strconv_Itoa_small e he w).mono ?_
 rintro r w1 ⟨rfl, rfl⟩
 go_wp2_with fail
 obtain ⟨wb, hwb⟩ : ∃ wb, wb = w1 := ⟨_, rfl⟩
 go_loopw [5, 12] (fun s i wr => ∃ j : Nat, j ≤ n ∧ i = .int .i64 j ∧ s = strV (keyS e (l.take j)) ∧ wr = wb) (fun _ i _ => n - (intOf i).toNat)
 case atStart => exact ⟨0, Nat.zero_le _, rfl, by simp [keyS, tailS], hwb.symm⟩
 case round =>
  obtain ⟨j, hj, rfl, rfl, rfl⟩ := hrel
  subst hwb
  by_cases hlt : j < n
  ·
   obtain ⟨x, hx⟩ := get_lt HN.out hlt
   obtain ⟨b, o, rfl, hc⟩ := HR.out j x hx
   have hx1 := HL.out x (List.mem_of_getElem? hx)
   have HX := Lib.hid hx
   have z1 : ¬ (9223372036854775807 < 1 + (Lib.decDigits x).length) := by have := dig_len hx1; omega
   have z2 : ¬ (9223372036854775807 < (keyS e (l.take j)).length + (1 + (Lib.decDigits x).length)) := by
    have h1 := dig_len hx1
    have h2 := keyS_len he (l := l.take j) (fun r hr => HL.out r (List.mem_of_mem_take hr))
    rw [List.length_take] at h2
    omega
   clear hx
   go_wp2_with fail
   refine (Tryd.strconv_Itoa_small x hx1 _).mono ?_
   rintro r w1 ⟨rfl, rfl⟩
   go_wp2_with fail
   refine ⟨⟨j + 1, by omega, by go_num, ?_, trivial⟩, by simp [intOf]; omega⟩
   rw [List.take_add_one, HX.out, Option.toList_some, keyS_snoc]
   simp [strV, ByteArray.ext_iff]
  ·
   have hjn : j = n := by omega
   subst hjn
   have hl9 : l.take j = l := List.take_of_length_le (by rw [HN.out]; omega)
   go_wp2_with fail
   go_ret
   exact ⟨by rw [hl9]; rfl, Below.refl _ _⟩
end Go.Proofs.YtajbmdjlfniofaaDoor
/-
  Candidates of the enumeration in memory; the order of its queues.
-/
namespace Go.Proofs.YtajbmdjlfniofaaDoor
open Go.RowKit Go.Deep PK
attribute [local go_sem] Oper.lit Oper.litS fut_fut fut_drew World.cell?_alloc_some
/-- the hypergraph of an enumeration, and where its lister lies -/
structure LP where
 N : Int
 A : Option Addr
 n : Nat
 c : Nat
 es : List EI
 lb : Nat
structure LP.OK (L : LP) : Prop where
 hl : L.es.length = L.n
 hn : L.n ≤ 12
 vd : validB L.N L.es = true
 hN : L.N ≤ 8
 tl : ∀ e ∈ L.es, e.t.length ≤ 3
theorem LP.OK.hn' {L : LP} (h : L.OK) : L.n ≤ maxLen := by have := h.hn; unfold maxLen; omega
theorem LP.OK.tl' {L : LP} (h : L.OK) : ∀ e ∈ L.es, e.t.length ≤ 1000000 := fun e he => by have := h.tl e he; omega
abbrev LP.E (L : LP) : List EE := EEs L.es
/-- the blocks F lie as they lay -/
def KpF (F : Nat → Bool) (w w' : World) : Prop := ∀ k, F k = true → w'.heap[k]? = w.heap[k]?
theorem KpF.refl (F : Nat → Bool) (w : World) : KpF F w w := fun _ _ => rfl
theorem KpF.trans {F : Nat → Bool} {a b c : World} (h : KpF F a b) (k : KpF F b c) : KpF F a c := fun i hi => (k i hi).trans (h i hi)
theorem KpF.of_fut {F : Nat → Bool} {w w' : World} (hb : ∀ k, F k = true → k < w.heap.size) (h : Fut w w') : KpF F w w' := fun k hk => h.block k (hb k hk)
theorem KpF.of_futS {F S : Nat → Bool} {w w' : World} (hb : ∀ k, F k = true → k < w.heap.size) (hd : ∀ k, F k = true → S k = false) (h : FutS S w w') : KpF F w w' := fun k hk => h.block k (hb k hk) (hd k hk)
theorem KpF.of_grown {F : Nat → Bool} {w w' : World} {row : Option Nat} (hb : ∀ k, F k = true → k < w.heap.size) (hd : ∀ k, row = some k → F k = false) (h : w.grownBy w' row) : KpF F w w' := fun k hk => h.block k (hb k hk) (fun e => by have := hd k e.symm; rw [hk] at this; cases this)
theorem KpF.cell {F : Nat → Bool} {w w' : World} {a : Addr} {v : Value} (h : KpF F w w') (ha : F a.block = true) (hc : w.cell? a = some v) : w'.cell? a = some v := (World.cell?_of_block (h _ ha)).trans hc
/-- what is so of every world in which the blocks F lie as they lie -/
def StF (F : Nat → Bool) (w : World) (φ : World → Prop) : Prop := ∀ w', KpF F w w' → φ w'
theorem StF.now {F : Nat → Bool} {w : World} {φ : World → Prop} (h : StF F w φ) : φ w := h w (KpF.refl _ _)
theorem StF.go {F : Nat → Bool} {w w' : World} {φ : World → Prop} (h : StF F w φ) (k : KpF F w w') : StF F w' φ := fun w'' k' => h w'' (k.trans k')
theorem StF.mono {F G : Nat → Bool} {w : World} {φ : World → Prop} (h : StF F w φ) (hFG : ∀ k, F k = true → G k = true) : StF G w φ := fun w' k => h w' (fun i hi => k i (hFG i hi))
/-- the lister's hypergraph -/
def EnvL (L : LP) (w : World) : Prop := w.cell? ⟨L.lb, 0, none⟩ = some (.int .i64 L.N) ∧ w.cell? ⟨L.lb, 1, none⟩ = some (.slice L.A L.n L.c) ∧ RdE w L.A L.es
/-- a candidate -/
structure CI where
 d : DI
 v : VV
 r : List Nat
 rA : Option Addr
 rc : Nat
def encC (c : CI) : List Value := [.int .i64 c.d.e, .slice c.d.A c.d.k.length c.d.c, .int .i64 c.v.c, .int .i64 c.v.s, .slice c.rA c.r.length c.rc]
theorem encC_len (c : CI) : (encC c).length = 5 := rfl
abbrev cK (c : CI) : Value := .agg #[.int .i64 c.d.e, .slice c.d.A c.d.k.length c.d.c, .int .i64 c.v.c, .int .i64 c.v.s, .slice c.rA c.r.length c.rc]
/-- its tree and ranks lie in the blocks F -/
def RdC (F : Nat → Bool) (w : World) (c : CI) : Prop := RdP (fun b => F b = true) w c.d ∧ Rd1 w c.rA rkv c.r ∧ ∀ b o, c.rA = some ⟨b, o, none⟩ → c.r ≠ [] → F b = true
theorem RdC.keep {F G : Nat → Bool} {w w' : World} {c : CI} (h : RdC F w c) (k : KpF F w w') (hFG : ∀ k, F k = true → G k = true) : RdC G w' c := by
 refine ⟨h.1.keep (fun b hb _ => ⟨k b hb, hFG b hb⟩), fun i a hi => ?_, fun b o e hne => hFG b (h.2.2 b o e hne)⟩
 obtain ⟨b, o, e, hc⟩ := h.2.1 i a hi
 exact ⟨b, o, e, k.cell (h.2.2 b o e (fun e2 => by rw [e2] at hi; simp at hi)) hc⟩
/-- is a's tree less than b's? -/
def ltC (E : List EE) (a b : CI) : Bool := decide (cmpD E (toDT a.d) (toDT b.d) < 0)
def okC (L : LP) (nd : Int) (c : CI) : Prop := PK.validD L.E (toDT c.d) nd = true ∧ c.v = val L.E (toDT c.d)
theorem ltC_ne {L : LP} {nd md : Int} {a b : CI} (ha : okC L nd a) (hb : okC L md b) (h : a.v ≠ b.v) : ltC L.E a b = ltV a.v b.v := by
 obtain ⟨⟨e, A, c, k⟩, v, r, rA, rc⟩ := a
 obtain ⟨⟨f, B, d, l⟩, u, s, sA, sc⟩ := b
 have h1 := ha.2
 have h2 := hb.2
 simp only at h1 h2 h
 subst h1 h2
 unfold ltC
 simp only [toDT_eq] at h ⊢
 rw [cmpD, if_pos (fun e => h (cmpV_zero.1 e))]
 unfold cmpV
 by_cases e1 : ltV (val L.E (.node e (k.map toDT))) (val L.E (.node f (l.map toDT))) = true
 ·
  simp [e1]
 ·
  have e1' : ltV (val L.E (.node e (k.map toDT))) (val L.E (.node f (l.map toDT))) = false := by simpa using e1
  rw [e1']
  by_cases e2 : ltV (val L.E (.node f (l.map toDT))) (val L.E (.node e (k.map toDT))) = true
  ·
   simp [e2]
  ·
   simp [e2]
set_option maxHeartbeats 6400000 in
theorem kless_any (L : LP) (hL : L.OK) (cb : Nat) (nd : Int) (a b : CI) (ha : okC L nd a) (hb : okC L nd b) (w : World) (hE : EnvL L w) (hcb : w.cell? ⟨cb, 0, none⟩ = some (.pointer (some ⟨L.lb, 0, none⟩))) (hRa : RdD w a.d) (hRb : RdD w b.d) :
  Calls Tryd.prog 53 #[cK a, cK b, .pointer (some ⟨cb, 0, none⟩)] w fun e w' => e = .returned (.bool (ltC L.E a b)) ∧ Below w.heap.size w w' := by
 have HC := Lib.hid (fun w' (hf : Fut w w') => dcmp_any L.N L.A L.n L.c L.es hL.hl hL.hn' hL.vd hL.tl' a.d b.d nd w' ha.1 hb.1 (hE.2.2.fut hf) (hRa.fut hf) (hRb.fut hf))
 have HNE := Lib.hid (ltC_ne ha hb)
 have HQ0 := Lib.hid hcb
 have HQ1 := Lib.hid hE.1
 have HQ2 := Lib.hid hE.2.1
 obtain ⟨adt, hadt⟩ : ∃ x, x = ltC L.E a b := ⟨_, rfl⟩
 have HAD := Lib.hid hadt
 rw [← hadt]
 unfold ltC at hadt
 have HDD := Lib.hid hadt
 obtain ⟨da, ⟨vac, vas⟩, ra, raA, rac⟩ := a
 obtain ⟨db, ⟨vbc, vbs⟩, rb, rbA, rbc⟩ := b
 clear hE hcb hRa hRb ha hb hL hadt
 obtain ⟨wb, hwb⟩ : ∃ wb, wb = (w.alloc (.cells #[.int .i64 da.e, .slice da.A da.k.length da.c, .int .i64 vac, .int .i64 vas, .slice raA ra.length rac] 66)).alloc (.cells #[.int .i64 db.e, .slice db.A db.k.length db.c, .int .i64 vbc, .int .i64 vbs, .slice rbA rb.length rbc] 66) := ⟨_, rfl⟩
 have HF := Lib.hid (show Fut w wb from by rw [hwb]; exact ((Fut.refl w).alloc _).alloc _)
 have HA := Lib.hid (show Blk wb w.heap.size 66 #[.int .i64 da.e, .slice da.A da.k.length da.c, .int .i64 vac, .int .i64 vas, .slice raA ra.length rac] from by rw [hwb]; exact (Blk.new w _ _).alloc _)
 have HB := Lib.hid (show Blk wb (w.heap.size + 1) 66 #[.int .i64 db.e, .slice db.A db.k.length db.c, .int .i64 vbc, .int .i64 vbs, .slice rbA rb.length rbc] from by rw [hwb]; exact heap_new' _ _ _ (by simp only [World.size_alloc]))
 have a0 := HA.out.cell (i := 2) rfl
 have a1 := HA.out.cell (i := 3) rfl
 have b0 := HB.out.cell (i := 2) rfl
 have b1 := HB.out.cell (i := 3) rfl
 by_cases hv : (⟨vac, vas⟩ : VV) = ⟨vbc, vbs⟩
 ·
  injection hv with h1 h2
  subst h1 h2
  go_enter Tryd.func53, Tryd.ntmps53
  go_wp2_with fail
  rw [← hwb]
  clear hwb a0 a1 b0 b1
  have q0 := cell_fut (HF.out.cell HQ0.out)
  have q1 := cell_fut (HF.out.cell HQ1.out)
  have q2 := cell_fut (HF.out.cell HQ2.out)
  have a0 := cell_fut (HA.out.cell (i := 0) rfl)
  have a1 := cell_fut (HA.out.cell (i := 1) rfl)
  have b0 := cell_fut (HB.out.cell (i := 0) rfl)
  have b1 := cell_fut (HB.out.cell (i := 1) rfl)
  obtain ⟨N, A, n, c, es, lb⟩ := L
  simp only at q0 q1 q2 HC HDD
  refine wp_region_M o_kbest_lister_at_1_3 (by kernel_rfl) (by kernel_rfl) (by intro c a d v w h; cases d <;> exact h) ?_; unfold o_kbest_lister_at_1_3
  iterate 8 (refine wpF_h rfl rfl (fun K hK => ?_); go_simp; refine hK _ _ ?_; clear hK K)
  refine wpF_o rfl rfl (fun K hK => ?_)
  go_simp
  go_at_call 54
  refine (HC.out _ (HF.out.trans (Fut.refl wb).drew)).mono ?_
  rintro r w1 ⟨rfl, hb1⟩
  refine hK _ _ (.inr hb1) ?_
  clear hK K
  have HF1 := Lib.hid (show Fut w w1 from (HF.out.trans (Fut.refl wb).drew).trans hb1)
  clear hb1
  iterate 2 (refine wpF_h rfl rfl (fun K hK => ?_); go_simp; refine hK _ _ ?_; clear hK K)
  refine wpF_nil ?_
  go_wp2_with fail
  go_ret
  exact ⟨by rw [HDD.out]; rfl, HF1.out⟩
 ·
  have hne : ¬ vac = vbc ∨ (vac = vbc ∧ ¬ vas = vbs) := by
   by_cases h1 : vac = vbc
   ·
    exact .inr ⟨h1, fun h2 => hv (by rw [h1, h2])⟩
   ·
    exact .inl h1
  have HV := Lib.hid hv
  clear hv hwb HF HA HB a0 a1 b0 b1 HC HDD
  rcases hne with h1 | ⟨rfl, h1⟩
  all_goals
   go_enter Tryd.func53, Tryd.ntmps53
   go_wp2_with fail
   refine (less_any ⟨_, _⟩ ⟨_, _⟩ _).mono ?_
   rintro r w1 ⟨rfl, hb1⟩
   have HF1 := Lib.hid (show Fut w w1 from (((Fut.refl w).alloc _).alloc _).trans hb1)
   clear hb1
   go_wp2_with fail
   go_ret
   exact ⟨by rw [HAD.out, HNE.out HV.out]; rfl, HF1.out⟩
end Go.Proofs.YtajbmdjlfniofaaDoor
/-
  The enumeration's queue: how it lies in memory; before.
-/
namespace Go.Proofs.YtajbmdjlfniofaaDoor
open Go.RowKit Go.Deep PK
attribute [local go_sem] Oper.lit Oper.litS fut_fut fut_drew World.cell?_alloc_some
attribute [local go_sem] World.frozen?_setCell
structure EK where
 c : CI
 hd : Int
 tm : Int
def encK (e : EK) : List Value := [.int .i64 e.c.d.e, .slice e.c.d.A e.c.d.k.length e.c.d.c, .int .i64 e.c.v.c, .int .i64 e.c.v.s, .slice e.c.rA e.c.r.length e.c.rc, .int .i64 e.hd, .int .i64 e.tm]
theorem encK_len (e : EK) : (encK e).length = 7 := rfl
def befK (E : List EE) (a b : EK) : Bool := ltC E a.c b.c || (!(ltC E b.c a.c) && decide (a.tm < b.tm))
theorem befK_wo (E : List EE) : WO (befK E) := by
 refine ⟨fun a => ?_, fun a b c => ?_, fun a b => ?_⟩
 ·
  unfold befK ltC
  rw [cmpD_refl]
  simp
 ·
  unfold befK ltC
  have h1 := cmpD_tr E (toDT a.c.d) (toDT b.c.d) (toDT c.c.d)
  have h2 := cmpD_anti E (toDT a.c.d) (toDT b.c.d)
  have h3 := cmpD_anti E (toDT b.c.d) (toDT c.c.d)
  have h4 := cmpD_anti E (toDT a.c.d) (toDT c.c.d)
  have h5 := cmpD_tr E (toDT c.c.d) (toDT b.c.d) (toDT a.c.d)
  have h6 := cmpD_tr E (toDT c.c.d) (toDT a.c.d) (toDT b.c.d)
  have h7 := cmpD_tr E (toDT b.c.d) (toDT a.c.d) (toDT c.c.d)
  have h8 := cmpD_tr E (toDT b.c.d) (toDT c.c.d) (toDT a.c.d)
  have h9 := cmpD_tr E (toDT a.c.d) (toDT c.c.d) (toDT b.c.d)
  simp only [Bool.or_eq_false_iff, Bool.and_eq_false_iff, Bool.not_eq_false', decide_eq_true_eq, decide_eq_false_iff_not]
  omega
 ·
  unfold befK ltC
  have h2 := cmpD_anti E (toDT a.c.d) (toDT b.c.d)
  simp only [Bool.or_eq_true, Bool.and_eq_true, Bool.not_eq_true', Bool.or_eq_false_iff, Bool.and_eq_false_iff, Bool.not_eq_false', decide_eq_true_eq, decide_eq_false_iff_not]
  omega
theorem befK_le {E : List EE} {a b : EK} (h : befK E b a = false) : cmpD E (toDT a.c.d) (toDT b.c.d) ≤ 0 := by
 unfold befK ltC at h
 simp only [Bool.or_eq_false_iff, decide_eq_false_iff_not] at h
 have := cmpD_anti E (toDT a.c.d) (toDT b.c.d)
 omega
def entK (H : Nat → EK) (m : Nat) : List Value := ((List.range m).map H).flatMap encK
theorem entK_len (H : Nat → EK) (m : Nat) : (entK H m).length = m * 7 := by unfold entK; rw [flat_len encK 7 encK_len]; simp
theorem entK_get (H : Nat → EK) (m i t : Nat) (hi : i < m) (ht : t < 7) : (entK H m)[i * 7 + t]? = (encK (H i))[t]? := by
 unfold entK
 exact flat_get encK 7 encK_len _ i (H i) t (by rw [List.getElem?_map, List.getElem?_range hi]; rfl) ht
theorem entK_congr {H G : Nat → EK} {m : Nat} (h : ∀ i, i < m → H i = G i) : entK H m = entK G m := by
 unfold entK
 congr 1
 exact List.map_congr_left (fun i hi => h i (List.mem_range.1 hi))
theorem entK_succ (H : Nat → EK) (m : Nat) (e : EK) : entK (upd H m e) (m + 1) = entK H m ++ encK e := by
 unfold entK
 rw [List.range_succ, List.map_append, List.flatMap_append]
 congr 1
 ·
  exact entK_congr (fun i hi => upd_other _ _ _ _ (by omega))
 ·
  simp [upd_same]
theorem entK_take (H : Nat → EK) (m : Nat) : (entK H (m + 1)).take (m * 7) = entK H m := by
 have h := entK_succ H m (H m)
 rw [entK_congr (G := H) (fun i _ => by unfold upd; split <;> simp_all)] at h
 rw [h, List.take_left' (entK_len H m)]
def sets7 (l : List Value) (i : Nat) (e : EK) : List Value := (((((((l.set (i * 7) (.int .i64 e.c.d.e)).set (i * 7 + 1) (.slice e.c.d.A e.c.d.k.length e.c.d.c)).set (i * 7 + 2) (.int .i64 e.c.v.c)).set (i * 7 + 3) (.int .i64 e.c.v.s)).set (i * 7 + 4) (.slice e.c.rA e.c.r.length e.c.rc)).set (i * 7 + 5) (.int .i64 e.hd)).set (i * 7 + 6) (.int .i64 e.tm))
theorem sets7_eq (H : Nat → EK) (m i : Nat) (e : EK) (hi : i < m) : sets7 (entK H m) i e = entK (upd H i e) m := by
 have hl := entK_len H m
 apply List.ext_getElem?
 intro k
 obtain ⟨q, r, hr, rfl⟩ : ∃ q r, r < 7 ∧ k = q * 7 + r := ⟨k / 7, k % 7, by omega, by omega⟩
 by_cases hq : q < m
 ·
  rw [entK_get _ m q r hq hr]
  unfold sets7
  by_cases e1 : q = i
  ·
   subst e1
   rw [upd_same]
   match r, hr with
   | 0, _ => simp [List.getElem?_set, hl, encK]; omega
   | 1, _ => simp [List.getElem?_set, hl, encK]; omega
   | 2, _ => simp [List.getElem?_set, hl, encK]; omega
   | 3, _ => simp [List.getElem?_set, hl, encK]; omega
   | 4, _ => simp [List.getElem?_set, hl, encK]; omega
   | 5, _ => simp [List.getElem?_set, hl, encK]; omega
   | 6, _ => simp [List.getElem?_set, hl, encK]; omega
  ·
   rw [upd_other _ _ _ _ e1, List.getElem?_set_ne (by omega), List.getElem?_set_ne (by omega), List.getElem?_set_ne (by omega), List.getElem?_set_ne (by omega), List.getElem?_set_ne (by omega), List.getElem?_set_ne (by omega), List.getElem?_set_ne (by omega)]
   exact entK_get H m q r hq hr
 ·
  rw [List.getElem?_eq_none (by unfold sets7; simp only [List.length_set, hl]; omega), List.getElem?_eq_none (by rw [entK_len]; omega)]
def set7 (w : World) (g i : Nat) (e : EK) : World := (((((((w.setCell ⟨g, i * 7, none⟩ (.int .i64 e.c.d.e)).setCell ⟨g, i * 7 + 1, none⟩ (.slice e.c.d.A e.c.d.k.length e.c.d.c)).setCell ⟨g, i * 7 + 2, none⟩ (.int .i64 e.c.v.c)).setCell ⟨g, i * 7 + 3, none⟩ (.int .i64 e.c.v.s)).setCell ⟨g, i * 7 + 4, none⟩ (.slice e.c.rA e.c.r.length e.c.rc)).setCell ⟨g, i * 7 + 5, none⟩ (.int .i64 e.hd)).setCell ⟨g, i * 7 + 6, none⟩ (.int .i64 e.tm))
abbrev OwnK (w : World) (B : Nat) (v : Value) (H : Nat → EK) (m : Nat) : Prop := w.ownsRow B 121 7 v m (entK H m)
section
variable {w w' : World} {B g m cap : Nat} {H : Nat → EK} {v : Value}
theorem OwnK.set (h : OwnK w B (.slice (some ⟨g, 0, none⟩) m cap) H m) (i : Nat) (e : EK) (hi : i < m) : OwnK (set7 w g i e) B (.slice (some ⟨g, 0, none⟩) m cap) (upd H i e) m ∧ w.grownBy (set7 w g i e) (some g) := by
 have h1 := World.ownsRow.stored h (i * 7) (.int .i64 e.c.d.e)
 have h2 := h1.1.stored (i * 7 + 1) (.slice e.c.d.A e.c.d.k.length e.c.d.c)
 have h3 := h2.1.stored (i * 7 + 2) (.int .i64 e.c.v.c)
 have h4 := h3.1.stored (i * 7 + 3) (.int .i64 e.c.v.s)
 have h5 := h4.1.stored (i * 7 + 4) (.slice e.c.rA e.c.r.length e.c.rc)
 have h6 := h5.1.stored (i * 7 + 5) (.int .i64 e.hd)
 have h7 := h6.1.stored (i * 7 + 6) (.int .i64 e.tm)
 refine ⟨?_, World.grownBy.trans h1.2 (World.grownBy.trans h2.2 (World.grownBy.trans h3.2 (World.grownBy.trans h4.2 (World.grownBy.trans h5.2 (World.grownBy.trans h6.2 h7.2)))))⟩
 have := h7.1
 rw [show ((((((((entK H m).set (i * 7) (.int .i64 e.c.d.e)).set (i * 7 + 1) (.slice e.c.d.A e.c.d.k.length e.c.d.c)).set (i * 7 + 2) (.int .i64 e.c.v.c)).set (i * 7 + 3) (.int .i64 e.c.v.s)).set (i * 7 + 4) (.slice e.c.rA e.c.r.length e.c.rc)).set (i * 7 + 5) (.int .i64 e.hd)).set (i * 7 + 6) (.int .i64 e.tm)) = entK (upd H i e) m from sets7_eq H m i e hi] at this
 exact this
theorem OwnK.cut (h : OwnK w B (.slice (some ⟨g, 0, none⟩) (m + 1) cap) H (m + 1)) : OwnK w B (.slice (some ⟨g, 0, none⟩) m cap) H m := by
 obtain ⟨hl, ⟨hv, _⟩ | ⟨g', cap', cur, hv, h1, h2, h3, h4, h5, h6⟩⟩ := h
 ·
  simp at hv
 ·
  injection hv with e1 e2 e3
  injection e1 with e1
  injection e1 with e1 _ _
  subst e1 e3
  refine ⟨entK_len H m, .inr ⟨g, cap, cur, rfl, h1, h2, by omega, h4, h5, ?_⟩⟩
  have := congrArg (List.take (m * 7)) h6
  rw [entK_take, List.take_take, Nat.min_eq_left (by omega)] at this
  exact this
theorem OwnK.at (h : OwnK w B (.slice (some ⟨g, 0, none⟩) m cap) H m) {i : Nat} (hi : i < m) : w.cell? ⟨g, i * 7, none⟩ = some (.int .i64 (H i).c.d.e) ∧ w.cell? ⟨g, i * 7 + 1, none⟩ = some (.slice (H i).c.d.A (H i).c.d.k.length (H i).c.d.c) ∧ w.cell? ⟨g, i * 7 + 2, none⟩ = some (.int .i64 (H i).c.v.c) ∧ w.cell? ⟨g, i * 7 + 3, none⟩ = some (.int .i64 (H i).c.v.s) ∧ w.cell? ⟨g, i * 7 + 4, none⟩ = some (.slice (H i).c.rA (H i).c.r.length (H i).c.rc) ∧ w.cell? ⟨g, i * 7 + 5, none⟩ = some (.int .i64 (H i).hd) ∧ w.cell? ⟨g, i * 7 + 6, none⟩ = some (.int .i64 (H i).tm) :=
 ⟨(World.ownsRow.cellAt h (i * 7) (by omega)).trans (entK_get H m i 0 hi (by decide)), (World.ownsRow.cellAt h (i * 7 + 1) (by omega)).trans (entK_get H m i 1 hi (by decide)), (World.ownsRow.cellAt h (i * 7 + 2) (by omega)).trans (entK_get H m i 2 hi (by decide)), (World.ownsRow.cellAt h (i * 7 + 3) (by omega)).trans (entK_get H m i 3 hi (by decide)), (World.ownsRow.cellAt h (i * 7 + 4) (by omega)).trans (entK_get H m i 4 hi (by decide)), (World.ownsRow.cellAt h (i * 7 + 5) (by omega)).trans (entK_get H m i 5 hi (by decide)), (World.ownsRow.cellAt h (i * 7 + 6) (by omega)).trans (entK_get H m i 6 hi (by decide))⟩
theorem OwnK.form (h : OwnK w B v H m) (hm : 0 < m) : ∃ g cap, v = .slice (some ⟨g, 0, none⟩) m cap ∧ B ≤ g ∧ g < w.heap.size ∧ m ≤ cap ∧ cap ≤ maxLen := by
 obtain ⟨_, ⟨_, hn⟩ | ⟨g, cap, cur, hv, h1, h2, h3, h4, _⟩⟩ := h
 ·
  omega
 ·
  exact ⟨g, cap, hv, h1, (Array.getElem?_eq_some_iff.1 h2).1, h3, h4⟩
end
/-- the queue at block qb, its map at mb, its heap's entries H in a row from block B on; nx: the next handle and time; cb: the box of its order; F: where the trees lie -/
structure QK (L : LP) (F : Nat → Bool) (nd : Int) (cb : Nat) (w : World) (qb mb B : Nat) (v : Value) (H : Nat → EK) (m nx : Nat) : Prop where
 q : Blk w qb 115 #[.func (.func 53) #[] #[.pointer (some ⟨cb, 0, none⟩)], v, .map (some mb), .int .i64 (nx : Int), .int .i64 (nx : Int)]
 mp : MPi w mb
 own : OwnK w B v H m
 qB : qb < B
 mB : mb < B
 sz : B ≤ w.heap.size
 hd : ∀ i, i < m → 0 ≤ (H i).hd ∧ (H i).hd < nx
 nx1 : nx ≤ 100000000000
 mx : m ≤ nx
 fb : ∀ k, F k = true → k < w.heap.size
 fq : F qb = false
 fm : F mb = false
 fo : ∀ k, v.ownBlock = some k → F k = false
 env : StF F w (fun w => w.cell? ⟨cb, 0, none⟩ = some (.pointer (some ⟨L.lb, 0, none⟩)) ∧ EnvL L w)
 tr : ∀ i, i < m → RdC F w (H i).c
 ok : ∀ i, i < m → okC L nd (H i).c
section
variable {L : LP} {F : Nat → Bool} {nd : Int} {cb : Nat} {w : World} {qb mb B : Nat} {v : Value} {H : Nat → EK} {m nx : Nat} {w' : World}
theorem QK.ne (h : QK L F nd cb w qb mb B v H m nx) : qb ≠ mb := by
 intro e
 obtain ⟨es, clock, hb, _⟩ := h.mp
 have := h.q
 unfold Blk at this
 rw [e, hb] at this
 cases this
theorem QK.fs (h : QK L F nd cb w qb mb B v H m nx) : ∀ k, F k = true → SQ qb mb v k = false := by
 intro k hk
 unfold SQ
 simp only [Bool.or_eq_false_iff, beq_eq_false_iff_ne, ne_eq]
 refine ⟨⟨fun e => ?_, fun e => ?_⟩, fun e => ?_⟩
 ·
  rw [e, h.fq] at hk; cases hk
 ·
  rw [e, h.fm] at hk; cases hk
 ·
  rw [h.fo k e] at hk; cases hk
theorem QK.kp (h : QK L F nd cb w qb mb B v H m nx) (hf : FutS (SQ qb mb v) w w') : KpF F w w' := KpF.of_futS h.fb h.fs hf
theorem QK.go (h : QK L F nd cb w qb mb B v H m nx) (hf : Fut w w') : QK L F nd cb w' qb mb B v H m nx :=
 have hk : KpF F w w' := KpF.of_fut h.fb hf
 ⟨h.q.fut hf, h.mp.fut hf, World.ownsRow.kept (row := none) h.own ⟨hf.os, hf.tape, hf.output, hf.size, fun k hk _ => hf.block k hk⟩ (by
  cases hv : v.ownBlock with
  | none => exact .inl rfl
  | some k => exact .inr (by simp)), h.qB, h.mB, Nat.le_trans h.sz hf.size, h.hd, h.nx1, h.mx, fun k hk => Nat.lt_of_lt_of_le (h.fb k hk) hf.size, h.fq, h.fm, h.fo, h.env.go hk, fun i hi => (h.tr i hi).keep hk (fun _ e => e), h.ok⟩
end
set_option maxHeartbeats 6400000 in
set_option maxRecDepth 4000 in
theorem beforeK_any {L : LP} {F : Nat → Bool} {nd : Int} {cb : Nat} {w : World} {qb mb B : Nat} {v : Value} {H : Nat → EK} {m nx : Nat} (hL : L.OK) (h : QK L F nd cb w qb mb B v H m nx) (i j : Nat) (hi : i < m) (hj : j < m) :
  Calls Tryd.prog 69 #[.pointer (some ⟨qb, 0, none⟩), .int .i64 (i : Int), .int .i64 (j : Int)] w fun r w' => r = .returned (.bool (befK L.E (H i) (H j))) ∧ Below w.heap.size w w' := by
 have HQ := Lib.hid h
 have HC1 := Lib.hid (fun w' (hf : Fut w w') => kless_any L hL cb nd (H i).c (H j).c (h.ok i hi) (h.ok j hj) w' (h.env.go (KpF.of_fut h.fb hf)).now.2 (h.env.go (KpF.of_fut h.fb hf)).now.1 ((h.tr i hi).1.rd.fut hf) ((h.tr j hj).1.rd.fut hf))
 have HC2 := Lib.hid (fun w' (hf : Fut w w') => kless_any L hL cb nd (H j).c (H i).c (h.ok j hj) (h.ok i hi) w' (h.env.go (KpF.of_fut h.fb hf)).now.2 (h.env.go (KpF.of_fut h.fb hf)).now.1 ((h.tr j hj).1.rd.fut hf) ((h.tr i hi).1.rd.fut hf))
 have HBF := Lib.hid (show befK L.E (H i) (H j) = (ltC L.E (H i).c (H j).c || (!(ltC L.E (H j).c (H i).c) && decide ((H i).tm < (H j).tm))) from rfl)
 obtain ⟨g, cap, rfl, hBg, hgl, hmc, hcap⟩ := h.own.form (by omega)
 have hm63 : m ≤ 9223372036854775807 := by have := h.nx1; have := h.mx; omega
 obtain ⟨i0, i1, i2, i3, i4, i5, i6⟩ := h.own.at hi
 obtain ⟨j0, j1, j2, j3, j4, j5, j6⟩ := h.own.at hj
 generalize befK L.E (H i) (H j) = bq at HBF ⊢
 generalize H i = ei at i0 i1 i2 i3 i4 i5 i6 HC1 HC2 HBF
 generalize H j = ej at j0 j1 j2 j3 j4 j5 j6 HC1 HC2 HBF
 obtain ⟨⟨xd, ⟨xc, xs⟩, xr, xA, xo⟩, xh, xt⟩ := ei
 obtain ⟨⟨yd, ⟨yc, ys⟩, yr, yA, yo⟩, yh, yt⟩ := ej
 simp only at i0 j0 i1 j1 i2 j2 i3 j3 i4 j4 i5 j5 i6 j6 HC1 HC2 HBF
 obtain ⟨S, hS⟩ : ∃ S : Nat → Bool, S = fun q => decide (w.heap.size ≤ q) := ⟨_, rfl⟩
 have hSl : ∀ q, q < w.heap.size → S q = false := fun q hq => by rw [hS]; exact decide_eq_false (by omega)
 have hSo : ∀ q, w.heap.size ≤ q → S q = true := fun q hq => by rw [hS]; exact decide_eq_true hq
 clear hS
 have x0 := cell_futS (h.q.cell (i := 0) rfl) (hSl _ h.q.lt)
 have x1 := cell_futS (h.q.cell (i := 1) rfl) (hSl _ h.q.lt)
 have a0 := cell_futS i0 (hSl _ hgl)
 have a1 := cell_futS i1 (hSl _ hgl)
 have a2 := cell_futS i2 (hSl _ hgl)
 have a3 := cell_futS i3 (hSl _ hgl)
 have a4 := cell_futS i4 (hSl _ hgl)
 have a5 := cell_futS i5 (hSl _ hgl)
 have a6 := cell_futS i6 (hSl _ hgl)
 have b0 := cell_futS j0 (hSl _ hgl)
 have b1 := cell_futS j1 (hSl _ hgl)
 have b2 := cell_futS j2 (hSl _ hgl)
 have b3 := cell_futS j3 (hSl _ hgl)
 have b4 := cell_futS j4 (hSl _ hgl)
 have b5 := cell_futS j5 (hSl _ hgl)
 have b6 := cell_futS j6 (hSl _ hgl)
 clear h i0 j0 i1 j1 i2 j2 i3 j3 i4 j4 i5 j5 i6 j6 hBg hgl hmc hcap hL
 go_enter Tryd.func69, Tryd.ntmps69
 go_wp2_with fail
 refine wp_region_MG (relS S) o_pqueue_Queue_kbest_candidate_before_1 (by kernel_rfl) (by kernel_rfl) (by intro c a d v w h; cases d <;> exact h) ?_; unfold o_pqueue_Queue_kbest_candidate_before_1
 iterate 14 (refine wpS_h rfl rfl (fun K hK => ?_); go_simp; refine hK _ _ ?_; clear hK K)
 refine wpG_two' rfl rfl (fun K hK => ?_) (fun K hK => ?_)
 ·
  go_simp
  refine hK _ _ (.inr ((relS S).of_fut ((Fut.refl _).alloc _))) ?_
  clear hK K
  refine wpG_o rfl rfl (fun K hK => ?_)
  go_simp
  refine hK _ _ (.inr ((relS S).of_fut ((Fut.refl _).alloc _))) ?_
  clear hK K
  obtain ⟨p1, hp1⟩ : ∃ q, q = w.heap.size := ⟨_, rfl⟩
  obtain ⟨p2, hp2⟩ : ∃ q, q = w.heap.size + 1 := ⟨_, rfl⟩
  rw [← hp2, ← hp1]
  have HP1 := Lib.hid (show Blk (((w.alloc (.cells #[.int .i64 0, .slice none 0 0, .int .i64 0, .int .i64 0, .slice none 0 0, .int .i64 0, .int .i64 0] 121)).alloc (.cells #[.int .i64 0, .slice none 0 0, .int .i64 0, .int .i64 0, .slice none 0 0, .int .i64 0, .int .i64 0] 121)).drew) p1 121 #[.int .i64 0, .slice none 0 0, .int .i64 0, .int .i64 0, .slice none 0 0, .int .i64 0, .int .i64 0] from Blk.drew (Blk.alloc (by rw [hp1]; exact Blk.new w _ _) _))
  have HP2 := Lib.hid (show Blk (((w.alloc (.cells #[.int .i64 0, .slice none 0 0, .int .i64 0, .int .i64 0, .slice none 0 0, .int .i64 0, .int .i64 0] 121)).alloc (.cells #[.int .i64 0, .slice none 0 0, .int .i64 0, .int .i64 0, .slice none 0 0, .int .i64 0, .int .i64 0] 121)).drew) p2 121 #[.int .i64 0, .slice none 0 0, .int .i64 0, .int .i64 0, .slice none 0 0, .int .i64 0, .int .i64 0] from Blk.drew (heap_new' _ _ _ (by rw [hp2, World.size_alloc])))
  have HFS := Lib.hid (show Fut w (((w.alloc (.cells #[.int .i64 0, .slice none 0 0, .int .i64 0, .int .i64 0, .slice none 0 0, .int .i64 0, .int .i64 0] 121)).alloc (.cells #[.int .i64 0, .slice none 0 0, .int .i64 0, .int .i64 0, .slice none 0 0, .int .i64 0, .int .i64 0] 121)).drew) from (((Fut.refl w).alloc _).alloc _).drew)
  have HL1 := Lib.hid (show w.heap.size ≤ p1 from by omega)
  have HL2 := Lib.hid (show w.heap.size ≤ p2 from by omega)
  have HNE := Lib.hid (show p2 ≠ p1 from by omega)
  clear hp1 hp2
  generalize ((w.alloc (.cells #[.int .i64 0, .slice none 0 0, .int .i64 0, .int .i64 0, .slice none 0 0, .int .i64 0, .int .i64 0] 121)).alloc (.cells #[.int .i64 0, .slice none 0 0, .int .i64 0, .int .i64 0, .slice none 0 0, .int .i64 0, .int .i64 0] 121)).drew = ws at *
  refine wpG_o rfl rfl (fun K hK => ?_)
  have u0 := HP1.out.cell (i := 0) rfl
  have f0 := HP1.out.fz 0
  have u1 := HP1.out.cell (i := 1) rfl
  have f1 := HP1.out.fz 1
  have u2 := HP1.out.cell (i := 2) rfl
  have f2 := HP1.out.fz 2
  have u3 := HP1.out.cell (i := 3) rfl
  have f3 := HP1.out.fz 3
  have u4 := HP1.out.cell (i := 4) rfl
  have f4 := HP1.out.fz 4
  have u5 := HP1.out.cell (i := 5) rfl
  have f5 := HP1.out.fz 5
  have u6 := HP1.out.cell (i := 6) rfl
  have f6 := HP1.out.fz 6
  go_simp
  refine hK _ _ (.inr ((relS S).trans (futS_set _ _ _ (hSo _ HL1.out)) ((relS S).trans (futS_set _ _ _ (hSo _ HL1.out)) ((relS S).trans (futS_set _ _ _ (hSo _ HL1.out)) ((relS S).trans (futS_set _ _ _ (hSo _ HL1.out)) ((relS S).trans (futS_set _ _ _ (hSo _ HL1.out)) ((relS S).trans (futS_set _ _ _ (hSo _ HL1.out)) (futS_set _ _ _ (hSo _ HL1.out))))))))) ?_
  clear hK K u0 f0 u1 f1 u2 f2 u3 f3 u4 f4 u5 f5 u6 f6
  have HR1 := Lib.hid (show Blk (((((((ws.setCell ⟨p1, 0, none⟩ (.int .i64 xd.e)).setCell ⟨p1, 1, none⟩ (.slice xd.A xd.k.length xd.c)).setCell ⟨p1, 2, none⟩ (.int .i64 xc)).setCell ⟨p1, 3, none⟩ (.int .i64 xs)).setCell ⟨p1, 4, none⟩ (.slice xA xr.length xo)).setCell ⟨p1, 5, none⟩ (.int .i64 xh)).setCell ⟨p1, 6, none⟩ (.int .i64 xt)) p1 121 #[.int .i64 xd.e, .slice xd.A xd.k.length xd.c, .int .i64 xc, .int .i64 xs, .slice xA xr.length xo, .int .i64 xh, .int .i64 xt] from ((((((HP1.out.set 0 _).set 1 _).set 2 _).set 3 _).set 4 _).set 5 _).set 6 _)
  have HR2 := Lib.hid (show Blk (((((((ws.setCell ⟨p1, 0, none⟩ (.int .i64 xd.e)).setCell ⟨p1, 1, none⟩ (.slice xd.A xd.k.length xd.c)).setCell ⟨p1, 2, none⟩ (.int .i64 xc)).setCell ⟨p1, 3, none⟩ (.int .i64 xs)).setCell ⟨p1, 4, none⟩ (.slice xA xr.length xo)).setCell ⟨p1, 5, none⟩ (.int .i64 xh)).setCell ⟨p1, 6, none⟩ (.int .i64 xt)) p2 121 #[.int .i64 0, .slice none 0 0, .int .i64 0, .int .i64 0, .slice none 0 0, .int .i64 0, .int .i64 0] from ((((((HP2.out.setOther (a := ⟨p1, 0, none⟩) HNE.out _).setOther (a := ⟨p1, 1, none⟩) HNE.out _).setOther (a := ⟨p1, 2, none⟩) HNE.out _).setOther (a := ⟨p1, 3, none⟩) HNE.out _).setOther (a := ⟨p1, 4, none⟩) HNE.out _).setOther (a := ⟨p1, 5, none⟩) HNE.out _).setOther (a := ⟨p1, 6, none⟩) HNE.out _)
  have HF2 := Lib.hid (show Fut w (((((((ws.setCell ⟨p1, 0, none⟩ (.int .i64 xd.e)).setCell ⟨p1, 1, none⟩ (.slice xd.A xd.k.length xd.c)).setCell ⟨p1, 2, none⟩ (.int .i64 xc)).setCell ⟨p1, 3, none⟩ (.int .i64 xs)).setCell ⟨p1, 4, none⟩ (.slice xA xr.length xo)).setCell ⟨p1, 5, none⟩ (.int .i64 xh)).setCell ⟨p1, 6, none⟩ (.int .i64 xt)) from ((((((HFS.out.setCell (p := ⟨p1, 0, none⟩) HL1.out _).setCell (p := ⟨p1, 1, none⟩) HL1.out _).setCell (p := ⟨p1, 2, none⟩) HL1.out _).setCell (p := ⟨p1, 3, none⟩) HL1.out _).setCell (p := ⟨p1, 4, none⟩) HL1.out _).setCell (p := ⟨p1, 5, none⟩) HL1.out _).setCell (p := ⟨p1, 6, none⟩) HL1.out _)
  generalize (((((((ws.setCell ⟨p1, 0, none⟩ (.int .i64 xd.e)).setCell ⟨p1, 1, none⟩ (.slice xd.A xd.k.length xd.c)).setCell ⟨p1, 2, none⟩ (.int .i64 xc)).setCell ⟨p1, 3, none⟩ (.int .i64 xs)).setCell ⟨p1, 4, none⟩ (.slice xA xr.length xo)).setCell ⟨p1, 5, none⟩ (.int .i64 xh)).setCell ⟨p1, 6, none⟩ (.int .i64 xt)) = wt at *
  clear HP1 HP2 HFS
  refine wpG_o rfl rfl (fun K hK => ?_)
  have u0 := HR2.out.cell (i := 0) rfl
  have f0 := HR2.out.fz 0
  have u1 := HR2.out.cell (i := 1) rfl
  have f1 := HR2.out.fz 1
  have u2 := HR2.out.cell (i := 2) rfl
  have f2 := HR2.out.fz 2
  have u3 := HR2.out.cell (i := 3) rfl
  have f3 := HR2.out.fz 3
  have u4 := HR2.out.cell (i := 4) rfl
  have f4 := HR2.out.fz 4
  have u5 := HR2.out.cell (i := 5) rfl
  have f5 := HR2.out.fz 5
  have u6 := HR2.out.cell (i := 6) rfl
  have f6 := HR2.out.fz 6
  go_simp
  refine hK _ _ (.inr ((relS S).trans (futS_set _ _ _ (hSo _ HL2.out)) ((relS S).trans (futS_set _ _ _ (hSo _ HL2.out)) ((relS S).trans (futS_set _ _ _ (hSo _ HL2.out)) ((relS S).trans (futS_set _ _ _ (hSo _ HL2.out)) ((relS S).trans (futS_set _ _ _ (hSo _ HL2.out)) ((relS S).trans (futS_set _ _ _ (hSo _ HL2.out)) (futS_set _ _ _ (hSo _ HL2.out))))))))) ?_
  clear hK K u0 f0 u1 f1 u2 f2 u3 f3 u4 f4 u5 f5 u6 f6
  have HT2 := Lib.hid (show Blk (((((((wt.setCell ⟨p2, 0, none⟩ (.int .i64 yd.e)).setCell ⟨p2, 1, none⟩ (.slice yd.A yd.k.length yd.c)).setCell ⟨p2, 2, none⟩ (.int .i64 yc)).setCell ⟨p2, 3, none⟩ (.int .i64 ys)).setCell ⟨p2, 4, none⟩ (.slice yA yr.length yo)).setCell ⟨p2, 5, none⟩ (.int .i64 yh)).setCell ⟨p2, 6, none⟩ (.int .i64 yt)) p2 121 #[.int .i64 yd.e, .slice yd.A yd.k.length yd.c, .int .i64 yc, .int .i64 ys, .slice yA yr.length yo, .int .i64 yh, .int .i64 yt] from ((((((HR2.out.set 0 _).set 1 _).set 2 _).set 3 _).set 4 _).set 5 _).set 6 _)
  have HT1 := Lib.hid (show Blk (((((((wt.setCell ⟨p2, 0, none⟩ (.int .i64 yd.e)).setCell ⟨p2, 1, none⟩ (.slice yd.A yd.k.length yd.c)).setCell ⟨p2, 2, none⟩ (.int .i64 yc)).setCell ⟨p2, 3, none⟩ (.int .i64 ys)).setCell ⟨p2, 4, none⟩ (.slice yA yr.length yo)).setCell ⟨p2, 5, none⟩ (.int .i64 yh)).setCell ⟨p2, 6, none⟩ (.int .i64 yt)) p1 121 #[.int .i64 xd.e, .slice xd.A xd.k.length xd.c, .int .i64 xc, .int .i64 xs, .slice xA xr.length xo, .int .i64 xh, .int .i64 xt] from ((((((HR1.out.setOther (a := ⟨p2, 0, none⟩) (Ne.symm HNE.out) _).setOther (a := ⟨p2, 1, none⟩) (Ne.symm HNE.out) _).setOther (a := ⟨p2, 2, none⟩) (Ne.symm HNE.out) _).setOther (a := ⟨p2, 3, none⟩) (Ne.symm HNE.out) _).setOther (a := ⟨p2, 4, none⟩) (Ne.symm HNE.out) _).setOther (a := ⟨p2, 5, none⟩) (Ne.symm HNE.out) _).setOther (a := ⟨p2, 6, none⟩) (Ne.symm HNE.out) _)
  have HFZ := Lib.hid (show Fut w (((((((wt.setCell ⟨p2, 0, none⟩ (.int .i64 yd.e)).setCell ⟨p2, 1, none⟩ (.slice yd.A yd.k.length yd.c)).setCell ⟨p2, 2, none⟩ (.int .i64 yc)).setCell ⟨p2, 3, none⟩ (.int .i64 ys)).setCell ⟨p2, 4, none⟩ (.slice yA yr.length yo)).setCell ⟨p2, 5, none⟩ (.int .i64 yh)).setCell ⟨p2, 6, none⟩ (.int .i64 yt)) from ((((((HF2.out.setCell (p := ⟨p2, 0, none⟩) HL2.out _).setCell (p := ⟨p2, 1, none⟩) HL2.out _).setCell (p := ⟨p2, 2, none⟩) HL2.out _).setCell (p := ⟨p2, 3, none⟩) HL2.out _).setCell (p := ⟨p2, 4, none⟩) HL2.out _).setCell (p := ⟨p2, 5, none⟩) HL2.out _).setCell (p := ⟨p2, 6, none⟩) HL2.out _)
  generalize (((((((wt.setCell ⟨p2, 0, none⟩ (.int .i64 yd.e)).setCell ⟨p2, 1, none⟩ (.slice yd.A yd.k.length yd.c)).setCell ⟨p2, 2, none⟩ (.int .i64 yc)).setCell ⟨p2, 3, none⟩ (.int .i64 ys)).setCell ⟨p2, 4, none⟩ (.slice yA yr.length yo)).setCell ⟨p2, 5, none⟩ (.int .i64 yh)).setCell ⟨p2, 6, none⟩ (.int .i64 yt)) = wz at *
  clear HR1 HR2 HF2 HL1 HL2 HNE
  refine wpG_nil ?_
  clear hSl hSo x0 x1 a0 b0 a1 b1 a2 b2 a3 b3 a4 b4 a5 b5 a6 b6
  have x0 := cell_fut ((HQ.out.q.fut HFZ.out).cell (i := 0) rfl)
  have a0 := cell_fut (HT1.out.cell (i := 0) rfl)
  have b0 := cell_fut (HT2.out.cell (i := 0) rfl)
  have a1 := cell_fut (HT1.out.cell (i := 1) rfl)
  have b1 := cell_fut (HT2.out.cell (i := 1) rfl)
  have a2 := cell_fut (HT1.out.cell (i := 2) rfl)
  have b2 := cell_fut (HT2.out.cell (i := 2) rfl)
  have a3 := cell_fut (HT1.out.cell (i := 3) rfl)
  have b3 := cell_fut (HT2.out.cell (i := 3) rfl)
  have a4 := cell_fut (HT1.out.cell (i := 4) rfl)
  have b4 := cell_fut (HT2.out.cell (i := 4) rfl)
  have a5 := cell_fut (HT1.out.cell (i := 5) rfl)
  have b5 := cell_fut (HT2.out.cell (i := 5) rfl)
  have a6 := cell_fut (HT1.out.cell (i := 6) rfl)
  have b6 := cell_fut (HT2.out.cell (i := 6) rfl)
  go_wp2_with fail
  refine wp_region_M o_pqueue_Queue_kbest_candidate_before_2 (by kernel_rfl) (by kernel_rfl) (by intro c a d v w h; cases d <;> exact h) ?_; unfold o_pqueue_Queue_kbest_candidate_before_2
  iterate 8 (refine wpF_h rfl rfl (fun K hK => ?_); go_simp; refine hK _ _ ?_; clear hK K)
  refine wpF_o rfl rfl (fun K hK => ?_)
  go_simp
  go_at_call 53
  refine (HC1.out _ (HFZ.out.trans (Fut.refl wz).drew)).mono ?_
  rintro r w1 ⟨rfl, hb1⟩
  refine hK _ _ (.inr hb1) ?_
  clear hK K
  obtain ⟨d1, o1, rfl⟩ := fut_of (show Fut wz w1 from (Fut.refl wz).drew.trans hb1)
  clear hb1
  refine wpF_nil ?_
  generalize hc1 : ltC L.E _ _ = l1 at HBF ⊢
  cases l1 with
  | true =>
   go_wp2_with fail
   go_ret
   refine ⟨?_, HFZ.out.trans (Fut.fut _ _ _)⟩
   rw [HBF.out]
   rfl
  | false =>
   go_wp2_with fail
   refine wp_region_M o_pqueue_Queue_kbest_candidate_before_4 (by kernel_rfl) (by kernel_rfl) (by intro c a d v w h; cases d <;> exact h) ?_; unfold o_pqueue_Queue_kbest_candidate_before_4
   iterate 8 (refine wpF_h rfl rfl (fun K hK => ?_); go_simp; refine hK _ _ ?_; clear hK K)
   refine wpF_o rfl rfl (fun K hK => ?_)
   go_simp
   go_at_call 53
   refine (HC2.out _ (HFZ.out.trans (Fut.fut _ _ _))).mono ?_
   rintro r w1 ⟨rfl, hb1⟩
   refine hK _ _ (.inr hb1) ?_
   clear hK K
   have hf1 : Fut wz w1 := (Fut.fut wz _ _).trans hb1
   clear hb1
   generalize hc2 : ltC L.E _ _ = l2 at HBF ⊢
   cases l2 with
   | true =>
    iterate 2 (refine wpF_h rfl rfl (fun K hK => ?_); go_simp; refine hK _ _ ?_; clear hK K)
    iterate 5 (refine wpF_hs2 rfl rfl (fun K hK => ?_); go_simp; refine hK _ _ ?_; clear hK K)
    iterate 2 (refine wpF_h rfl rfl (fun K hK => ?_); go_simp; refine hK _ _ ?_; clear hK K)
    refine wpF_nil ?_
    go_wp2_with fail
    go_ret
    refine ⟨?_, HFZ.out.trans hf1⟩
    rw [HBF.out]
    rfl
   | false =>
    iterate 9 (refine wpF_h rfl rfl (fun K hK => ?_); go_simp; refine hK _ _ ?_; clear hK K)
    refine wpF_nil ?_
    go_wp2_with fail
    go_ret
    refine ⟨?_, HFZ.out.trans hf1⟩
    rw [HBF.out]
    rfl
 ·
  go_simp
  refine hK _ _ (.inr ((relS S).of_fut ((Fut.refl _).alloc _))) ?_
  clear hK K
  refine wpG_o rfl rfl (fun K hK => ?_)
  go_simp
  refine hK _ _ (.inr ((relS S).of_fut ((Fut.refl _).alloc _))) ?_
  clear hK K
  obtain ⟨p2, hp2⟩ : ∃ q, q = w.heap.size := ⟨_, rfl⟩
  obtain ⟨p1, hp1⟩ : ∃ q, q = w.heap.size + 1 := ⟨_, rfl⟩
  rw [← hp1, ← hp2]
  have HP2 := Lib.hid (show Blk (((w.alloc (.cells #[.int .i64 0, .slice none 0 0, .int .i64 0, .int .i64 0, .slice none 0 0, .int .i64 0, .int .i64 0] 121)).alloc (.cells #[.int .i64 0, .slice none 0 0, .int .i64 0, .int .i64 0, .slice none 0 0, .int .i64 0, .int .i64 0] 121)).drew) p2 121 #[.int .i64 0, .slice none 0 0, .int .i64 0, .int .i64 0, .slice none 0 0, .int .i64 0, .int .i64 0] from Blk.drew (Blk.alloc (by rw [hp2]; exact Blk.new w _ _) _))
  have HP1 := Lib.hid (show Blk (((w.alloc (.cells #[.int .i64 0, .slice none 0 0, .int .i64 0, .int .i64 0, .slice none 0 0, .int .i64 0, .int .i64 0] 121)).alloc (.cells #[.int .i64 0, .slice none 0 0, .int .i64 0, .int .i64 0, .slice none 0 0, .int .i64 0, .int .i64 0] 121)).drew) p1 121 #[.int .i64 0, .slice none 0 0, .int .i64 0, .int .i64 0, .slice none 0 0, .int .i64 0, .int .i64 0] from Blk.drew (heap_new' _ _ _ (by rw [hp1, World.size_alloc])))
  have HFS := Lib.hid (show Fut w (((w.alloc (.cells #[.int .i64 0, .slice none 0 0, .int .i64 0, .int .i64 0, .slice none 0 0, .int .i64 0, .int .i64 0] 121)).alloc (.cells #[.int .i64 0, .slice none 0 0, .int .i64 0, .int .i64 0, .slice none 0 0, .int .i64 0, .int .i64 0] 121)).drew) from (((Fut.refl w).alloc _).alloc _).drew)
  have HL1 := Lib.hid (show w.heap.size ≤ p1 from by omega)
  have HL2 := Lib.hid (show w.heap.size ≤ p2 from by omega)
  have HNE := Lib.hid (show p2 ≠ p1 from by omega)
  clear hp1 hp2
  generalize ((w.alloc (.cells #[.int .i64 0, .slice none 0 0, .int .i64 0, .int .i64 0, .slice none 0 0, .int .i64 0, .int .i64 0] 121)).alloc (.cells #[.int .i64 0, .slice none 0 0, .int .i64 0, .int .i64 0, .slice none 0 0, .int .i64 0, .int .i64 0] 121)).drew = ws at *
  refine wpG_o rfl rfl (fun K hK => ?_)
  have u0 := HP1.out.cell (i := 0) rfl
  have f0 := HP1.out.fz 0
  have u1 := HP1.out.cell (i := 1) rfl
  have f1 := HP1.out.fz 1
  have u2 := HP1.out.cell (i := 2) rfl
  have f2 := HP1.out.fz 2
  have u3 := HP1.out.cell (i := 3) rfl
  have f3 := HP1.out.fz 3
  have u4 := HP1.out.cell (i := 4) rfl
  have f4 := HP1.out.fz 4
  have u5 := HP1.out.cell (i := 5) rfl
  have f5 := HP1.out.fz 5
  have u6 := HP1.out.cell (i := 6) rfl
  have f6 := HP1.out.fz 6
  go_simp
  refine hK _ _ (.inr ((relS S).trans (futS_set _ _ _ (hSo _ HL1.out)) ((relS S).trans (futS_set _ _ _ (hSo _ HL1.out)) ((relS S).trans (futS_set _ _ _ (hSo _ HL1.out)) ((relS S).trans (futS_set _ _ _ (hSo _ HL1.out)) ((relS S).trans (futS_set _ _ _ (hSo _ HL1.out)) ((relS S).trans (futS_set _ _ _ (hSo _ HL1.out)) (futS_set _ _ _ (hSo _ HL1.out))))))))) ?_
  clear hK K u0 f0 u1 f1 u2 f2 u3 f3 u4 f4 u5 f5 u6 f6
  have HR1 := Lib.hid (show Blk (((((((ws.setCell ⟨p1, 0, none⟩ (.int .i64 xd.e)).setCell ⟨p1, 1, none⟩ (.slice xd.A xd.k.length xd.c)).setCell ⟨p1, 2, none⟩ (.int .i64 xc)).setCell ⟨p1, 3, none⟩ (.int .i64 xs)).setCell ⟨p1, 4, none⟩ (.slice xA xr.length xo)).setCell ⟨p1, 5, none⟩ (.int .i64 xh)).setCell ⟨p1, 6, none⟩ (.int .i64 xt)) p1 121 #[.int .i64 xd.e, .slice xd.A xd.k.length xd.c, .int .i64 xc, .int .i64 xs, .slice xA xr.length xo, .int .i64 xh, .int .i64 xt] from ((((((HP1.out.set 0 _).set 1 _).set 2 _).set 3 _).set 4 _).set 5 _).set 6 _)
  have HR2 := Lib.hid (show Blk (((((((ws.setCell ⟨p1, 0, none⟩ (.int .i64 xd.e)).setCell ⟨p1, 1, none⟩ (.slice xd.A xd.k.length xd.c)).setCell ⟨p1, 2, none⟩ (.int .i64 xc)).setCell ⟨p1, 3, none⟩ (.int .i64 xs)).setCell ⟨p1, 4, none⟩ (.slice xA xr.length xo)).setCell ⟨p1, 5, none⟩ (.int .i64 xh)).setCell ⟨p1, 6, none⟩ (.int .i64 xt)) p2 121 #[.int .i64 0, .slice none 0 0, .int .i64 0, .int .i64 0, .slice none 0 0, .int .i64 0, .int .i64 0] from ((((((HP2.out.setOther (a := ⟨p1, 0, none⟩) HNE.out _).setOther (a := ⟨p1, 1, none⟩) HNE.out _).setOther (a := ⟨p1, 2, none⟩) HNE.out _).setOther (a := ⟨p1, 3, none⟩) HNE.out _).setOther (a := ⟨p1, 4, none⟩) HNE.out _).setOther (a := ⟨p1, 5, none⟩) HNE.out _).setOther (a := ⟨p1, 6, none⟩) HNE.out _)
  have HF2 := Lib.hid (show Fut w (((((((ws.setCell ⟨p1, 0, none⟩ (.int .i64 xd.e)).setCell ⟨p1, 1, none⟩ (.slice xd.A xd.k.length xd.c)).setCell ⟨p1, 2, none⟩ (.int .i64 xc)).setCell ⟨p1, 3, none⟩ (.int .i64 xs)).setCell ⟨p1, 4, none⟩ (.slice xA xr.length xo)).setCell ⟨p1, 5, none⟩ (.int .i64 xh)).setCell ⟨p1, 6, none⟩ (.int .i64 xt)) from ((((((HFS.out.setCell (p := ⟨p1, 0, none⟩) HL1.out _).setCell (p := ⟨p1, 1, none⟩) HL1.out _).setCell (p := ⟨p1, 2, none⟩) HL1.out _).setCell (p := ⟨p1, 3, none⟩) HL1.out _).setCell (p := ⟨p1, 4, none⟩) HL1.out _).setCell (p := ⟨p1, 5, none⟩) HL1.out _).setCell (p := ⟨p1, 6, none⟩) HL1.out _)
  generalize (((((((ws.setCell ⟨p1, 0, none⟩ (.int .i64 xd.e)).setCell ⟨p1, 1, none⟩ (.slice xd.A xd.k.length xd.c)).setCell ⟨p1, 2, none⟩ (.int .i64 xc)).setCell ⟨p1, 3, none⟩ (.int .i64 xs)).setCell ⟨p1, 4, none⟩ (.slice xA xr.length xo)).setCell ⟨p1, 5, none⟩ (.int .i64 xh)).setCell ⟨p1, 6, none⟩ (.int .i64 xt)) = wt at *
  clear HP1 HP2 HFS
  refine wpG_o rfl rfl (fun K hK => ?_)
  have u0 := HR2.out.cell (i := 0) rfl
  have f0 := HR2.out.fz 0
  have u1 := HR2.out.cell (i := 1) rfl
  have f1 := HR2.out.fz 1
  have u2 := HR2.out.cell (i := 2) rfl
  have f2 := HR2.out.fz 2
  have u3 := HR2.out.cell (i := 3) rfl
  have f3 := HR2.out.fz 3
  have u4 := HR2.out.cell (i := 4) rfl
  have f4 := HR2.out.fz 4
  have u5 := HR2.out.cell (i := 5) rfl
  have f5 := HR2.out.fz 5
  have u6 := HR2.out.cell (i := 6) rfl
  have f6 := HR2.out.fz 6
  go_simp
  refine hK _ _ (.inr ((relS S).trans (futS_set _ _ _ (hSo _ HL2.out)) ((relS S).trans (futS_set _ _ _ (hSo _ HL2.out)) ((relS S).trans (futS_set _ _ _ (hSo _ HL2.out)) ((relS S).trans (futS_set _ _ _ (hSo _ HL2.out)) ((relS S).trans (futS_set _ _ _ (hSo _ HL2.out)) ((relS S).trans (futS_set _ _ _ (hSo _ HL2.out)) (futS_set _ _ _ (hSo _ HL2.out))))))))) ?_
  clear hK K u0 f0 u1 f1 u2 f2 u3 f3 u4 f4 u5 f5 u6 f6
  have HT2 := Lib.hid (show Blk (((((((wt.setCell ⟨p2, 0, none⟩ (.int .i64 yd.e)).setCell ⟨p2, 1, none⟩ (.slice yd.A yd.k.length yd.c)).setCell ⟨p2, 2, none⟩ (.int .i64 yc)).setCell ⟨p2, 3, none⟩ (.int .i64 ys)).setCell ⟨p2, 4, none⟩ (.slice yA yr.length yo)).setCell ⟨p2, 5, none⟩ (.int .i64 yh)).setCell ⟨p2, 6, none⟩ (.int .i64 yt)) p2 121 #[.int .i64 yd.e, .slice yd.A yd.k.length yd.c, .int .i64 yc, .int .i64 ys, .slice yA yr.length yo, .int .i64 yh, .int .i64 yt] from ((((((HR2.out.set 0 _).set 1 _).set 2 _).set 3 _).set 4 _).set 5 _).set 6 _)
  have HT1 := Lib.hid (show Blk (((((((wt.setCell ⟨p2, 0, none⟩ (.int .i64 yd.e)).setCell ⟨p2, 1, none⟩ (.slice yd.A yd.k.length yd.c)).setCell ⟨p2, 2, none⟩ (.int .i64 yc)).setCell ⟨p2, 3, none⟩ (.int .i64 ys)).setCell ⟨p2, 4, none⟩ (.slice yA yr.length yo)).setCell ⟨p2, 5, none⟩ (.int .i64 yh)).setCell ⟨p2, 6, none⟩ (.int .i64 yt)) p1 121 #[.int .i64 xd.e, .slice xd.A xd.k.length xd.c, .int .i64 xc, .int .i64 xs, .slice xA xr.length xo, .int .i64 xh, .int .i64 xt] from ((((((HR1.out.setOther (a := ⟨p2, 0, none⟩) (Ne.symm HNE.out) _).setOther (a := ⟨p2, 1, none⟩) (Ne.symm HNE.out) _).setOther (a := ⟨p2, 2, none⟩) (Ne.symm HNE.out) _).setOther (a := ⟨p2, 3, none⟩) (Ne.symm HNE.out) _).setOther (a := ⟨p2, 4, none⟩) (Ne.symm HNE.out) _).setOther (a := ⟨p2, 5, none⟩) (Ne.symm HNE.out) _).setOther (a := ⟨p2, 6, none⟩) (Ne.symm HNE.out) _)
  have HFZ := Lib.hid (show Fut w (((((((wt.setCell ⟨p2, 0, none⟩ (.int .i64 yd.e)).setCell ⟨p2, 1, none⟩ (.slice yd.A yd.k.length yd.c)).setCell ⟨p2, 2, none⟩ (.int .i64 yc)).setCell ⟨p2, 3, none⟩ (.int .i64 ys)).setCell ⟨p2, 4, none⟩ (.slice yA yr.length yo)).setCell ⟨p2, 5, none⟩ (.int .i64 yh)).setCell ⟨p2, 6, none⟩ (.int .i64 yt)) from ((((((HF2.out.setCell (p := ⟨p2, 0, none⟩) HL2.out _).setCell (p := ⟨p2, 1, none⟩) HL2.out _).setCell (p := ⟨p2, 2, none⟩) HL2.out _).setCell (p := ⟨p2, 3, none⟩) HL2.out _).setCell (p := ⟨p2, 4, none⟩) HL2.out _).setCell (p := ⟨p2, 5, none⟩) HL2.out _).setCell (p := ⟨p2, 6, none⟩) HL2.out _)
  generalize (((((((wt.setCell ⟨p2, 0, none⟩ (.int .i64 yd.e)).setCell ⟨p2, 1, none⟩ (.slice yd.A yd.k.length yd.c)).setCell ⟨p2, 2, none⟩ (.int .i64 yc)).setCell ⟨p2, 3, none⟩ (.int .i64 ys)).setCell ⟨p2, 4, none⟩ (.slice yA yr.length yo)).setCell ⟨p2, 5, none⟩ (.int .i64 yh)).setCell ⟨p2, 6, none⟩ (.int .i64 yt)) = wz at *
  clear HR1 HR2 HF2 HL1 HL2 HNE
  refine wpG_nil ?_
  clear hSl hSo x0 x1 a0 b0 a1 b1 a2 b2 a3 b3 a4 b4 a5 b5 a6 b6
  have x0 := cell_fut ((HQ.out.q.fut HFZ.out).cell (i := 0) rfl)
  have a0 := cell_fut (HT1.out.cell (i := 0) rfl)
  have b0 := cell_fut (HT2.out.cell (i := 0) rfl)
  have a1 := cell_fut (HT1.out.cell (i := 1) rfl)
  have b1 := cell_fut (HT2.out.cell (i := 1) rfl)
  have a2 := cell_fut (HT1.out.cell (i := 2) rfl)
  have b2 := cell_fut (HT2.out.cell (i := 2) rfl)
  have a3 := cell_fut (HT1.out.cell (i := 3) rfl)
  have b3 := cell_fut (HT2.out.cell (i := 3) rfl)
  have a4 := cell_fut (HT1.out.cell (i := 4) rfl)
  have b4 := cell_fut (HT2.out.cell (i := 4) rfl)
  have a5 := cell_fut (HT1.out.cell (i := 5) rfl)
  have b5 := cell_fut (HT2.out.cell (i := 5) rfl)
  have a6 := cell_fut (HT1.out.cell (i := 6) rfl)
  have b6 := cell_fut (HT2.out.cell (i := 6) rfl)
  go_wp2_with fail
  refine wp_region_M o_pqueue_Queue_kbest_candidate_before_2 (by kernel_rfl) (by kernel_rfl) (by intro c a d v w h; cases d <;> exact h) ?_; unfold o_pqueue_Queue_kbest_candidate_before_2
  iterate 8 (refine wpF_h rfl rfl (fun K hK => ?_); go_simp; refine hK _ _ ?_; clear hK K)
  refine wpF_o rfl rfl (fun K hK => ?_)
  go_simp
  go_at_call 53
  refine (HC1.out _ (HFZ.out.trans (Fut.refl wz).drew)).mono ?_
  rintro r w1 ⟨rfl, hb1⟩
  refine hK _ _ (.inr hb1) ?_
  clear hK K
  obtain ⟨d1, o1, rfl⟩ := fut_of (show Fut wz w1 from (Fut.refl wz).drew.trans hb1)
  clear hb1
  refine wpF_nil ?_
  generalize hc1 : ltC L.E _ _ = l1 at HBF ⊢
  cases l1 with
  | true =>
   go_wp2_with fail
   go_ret
   refine ⟨?_, HFZ.out.trans (Fut.fut _ _ _)⟩
   rw [HBF.out]
   rfl
  | false =>
   go_wp2_with fail
   refine wp_region_M o_pqueue_Queue_kbest_candidate_before_4 (by kernel_rfl) (by kernel_rfl) (by intro c a d v w h; cases d <;> exact h) ?_; unfold o_pqueue_Queue_kbest_candidate_before_4
   iterate 8 (refine wpF_h rfl rfl (fun K hK => ?_); go_simp; refine hK _ _ ?_; clear hK K)
   refine wpF_o rfl rfl (fun K hK => ?_)
   go_simp
   go_at_call 53
   refine (HC2.out _ (HFZ.out.trans (Fut.fut _ _ _))).mono ?_
   rintro r w1 ⟨rfl, hb1⟩
   refine hK _ _ (.inr hb1) ?_
   clear hK K
   have hf1 : Fut wz w1 := (Fut.fut wz _ _).trans hb1
   clear hb1
   generalize hc2 : ltC L.E _ _ = l2 at HBF ⊢
   cases l2 with
   | true =>
    iterate 2 (refine wpF_h rfl rfl (fun K hK => ?_); go_simp; refine hK _ _ ?_; clear hK K)
    iterate 5 (refine wpF_hs2 rfl rfl (fun K hK => ?_); go_simp; refine hK _ _ ?_; clear hK K)
    iterate 2 (refine wpF_h rfl rfl (fun K hK => ?_); go_simp; refine hK _ _ ?_; clear hK K)
    refine wpF_nil ?_
    go_wp2_with fail
    go_ret
    refine ⟨?_, HFZ.out.trans hf1⟩
    rw [HBF.out]
    rfl
   | false =>
    iterate 9 (refine wpF_h rfl rfl (fun K hK => ?_); go_simp; refine hK _ _ ?_; clear hK K)
    refine wpF_nil ?_
    go_wp2_with fail
    go_ret
    refine ⟨?_, HFZ.out.trans hf1⟩
    rw [HBF.out]
    rfl
end Go.Proofs.YtajbmdjlfniofaaDoor
/-
  The enumeration's queue: swap.
-/
namespace Go.Proofs.YtajbmdjlfniofaaDoor
open Go.RowKit Go.Deep PK
attribute [local go_sem] Oper.lit Oper.litS fut_fut fut_drew World.cell?_alloc_some
attribute [local go_sem] World.frozen?_setCell
theorem own_drew {w : World} {B sz n : Nat} {E : TypeId} {v : Value} {xs : List Value} (h : w.ownsRow B E sz v n xs) : w.drew.ownsRow B E sz v n xs := h
theorem grown_drew {w w' : World} {row : Option Nat} (h : w.grownBy w' row) : w.grownBy w'.drew row := ⟨h.os, h.tape, h.output, h.size, h.block⟩
section
variable {L : LP} {F : Nat → Bool} {nd : Int} {cb : Nat} {w : World} {qb mb B : Nat} {v : Value} {H : Nat → EK} {m nx : Nat} {w1 w2 : World}
theorem QK.own' {G : Nat → EK} (h : QK L F nd cb w qb mb B v H m nx) (hf : Fut w w1) (hg : w1.grownBy w2 v.ownBlock) (ho : OwnK w2 B v G m) (hh : ∀ i, i < m → ∃ k, k < m ∧ G i = H k) : QK L F nd cb w2 qb mb B v G m nx := by
 have hlt : ∀ k, v.ownBlock = some k → B ≤ k := fun k hk => (World.ownsRow.lt h.own k hk).1
 have hne : ∀ b, b < B → some b ≠ v.ownBlock := fun b hb e => by have := hlt b e.symm; omega
 have hb1 : ∀ k, F k = true → k < w1.heap.size := fun k hk => Nat.lt_of_lt_of_le (h.fb k hk) hf.size
 have hk : KpF F w w2 := (KpF.of_fut h.fb hf).trans (KpF.of_grown hb1 (fun k hk => h.fo k hk) hg)
 refine ⟨(h.q.fut hf).grown hg (hne _ h.qB), (h.mp.fut hf).of_block (hg.block mb (h.mp.fut hf).lt (hne _ h.mB)), ho, h.qB, h.mB, Nat.le_trans h.sz (Nat.le_trans hf.size hg.size), fun i hi => ?_, h.nx1, h.mx, fun k hk => Nat.lt_of_lt_of_le (hb1 k hk) hg.size, h.fq, h.fm, h.fo, h.env.go hk, fun i hi => ?_, fun i hi => ?_⟩
 ·
  obtain ⟨k, hk, e⟩ := hh i hi
  rw [e]; exact h.hd k hk
 ·
  obtain ⟨k, hk1, e⟩ := hh i hi
  rw [e]; exact (h.tr k hk1).keep hk (fun _ e => e)
 ·
  obtain ⟨k, hk, e⟩ := hh i hi
  rw [e]; exact h.ok k hk
/-- the map was turned -/
theorem QK.mapped (h : QK L F nd cb w qb mb B v H m nx) (hg : w.grownBy w2 (some mb)) (hm : MPi w2 mb) : QK L F nd cb w2 qb mb B v H m nx := by
 have hlt : ∀ k, v.ownBlock = some k → B ≤ k := fun k hk => (World.ownsRow.lt h.own k hk).1
 have hk : KpF F w w2 := KpF.of_grown h.fb (fun k hk => by rw [← Option.some.inj hk]; exact h.fm) hg
 refine ⟨h.q.grown hg (fun e => h.ne (Option.some.inj e)), hm, World.ownsRow.kept h.own hg ?_, h.qB, h.mB, Nat.le_trans h.sz hg.size, h.hd, h.nx1, h.mx, fun k hk => Nat.lt_of_lt_of_le (h.fb k hk) hg.size, h.fq, h.fm, h.fo, h.env.go hk, fun i hi => (h.tr i hi).keep hk (fun _ e => e), h.ok⟩
 cases hv : v.ownBlock with
 | none => exact .inl rfl
 | some k =>
  right
  intro e
  have := hlt k hv
  have := h.mB
  have := Option.some.inj e
  omega
end
set_option maxHeartbeats 6400000 in
set_option maxRecDepth 4000 in
theorem swapK_any {L : LP} {F : Nat → Bool} {nd : Int} {cb : Nat} {w : World} {qb mb B : Nat} {v : Value} {H : Nat → EK} {m nx : Nat} (h : QK L F nd cb w qb mb B v H m nx) (i j : Nat) (hi : i < m) (hj : j < m) :
  Calls Tryd.prog 65 #[.pointer (some ⟨qb, 0, none⟩), .int .i64 (i : Int), .int .i64 (j : Int)] w fun r w' => r = .returned (.tuple #[]) ∧ QK L F nd cb w' qb mb B v (swp H i j) m nx ∧ FutS (SQ qb mb v) w w' := by
 have HQ := Lib.hid h
 obtain ⟨g, cap, rfl, hBg, hgl, hmc, hcap⟩ := h.own.form (by omega)
 have HBG := Lib.hid hBg
 have hm63 : m ≤ 9223372036854775807 := by have := h.nx1; have := h.mx; omega
 obtain ⟨i0, i1, i2, i3, i4, i5, i6⟩ := h.own.at hi
 obtain ⟨j0, j1, j2, j3, j4, j5, j6⟩ := h.own.at hj
 have x1 := cell_fut (h.q.cell (i := 1) rfl)
 have a0 := cell_fut i0
 have b0 := cell_fut j0
 have e0 := i0
 have f0 : w.frozen? ⟨g, i * 7, none⟩ = false := World.ownsRow.frozenAt h.own _
 have a1 := cell_fut i1
 have b1 := cell_fut j1
 have e1 := i1
 have f1 : w.frozen? ⟨g, i * 7 + 1, none⟩ = false := World.ownsRow.frozenAt h.own _
 have a2 := cell_fut i2
 have b2 := cell_fut j2
 have e2 := i2
 have f2 : w.frozen? ⟨g, i * 7 + 2, none⟩ = false := World.ownsRow.frozenAt h.own _
 have a3 := cell_fut i3
 have b3 := cell_fut j3
 have e3 := i3
 have f3 : w.frozen? ⟨g, i * 7 + 3, none⟩ = false := World.ownsRow.frozenAt h.own _
 have a4 := cell_fut i4
 have b4 := cell_fut j4
 have e4 := i4
 have f4 : w.frozen? ⟨g, i * 7 + 4, none⟩ = false := World.ownsRow.frozenAt h.own _
 have a5 := cell_fut i5
 have b5 := cell_fut j5
 have e5 := i5
 have f5 : w.frozen? ⟨g, i * 7 + 5, none⟩ = false := World.ownsRow.frozenAt h.own _
 have a6 := cell_fut i6
 have b6 := cell_fut j6
 have e6 := i6
 have f6 : w.frozen? ⟨g, i * 7 + 6, none⟩ = false := World.ownsRow.frozenAt h.own _
 have HO1 := Lib.hid (show OwnK (set7 w g i (H j)).drew B (.slice (some ⟨g, 0, none⟩) m cap) (upd H i (H j)) m ∧ w.grownBy (set7 w g i (H j)).drew (some g) from
  have h9 := OwnK.set h.own i (H j) hi
  ⟨own_drew h9.1, grown_drew h9.2⟩)
 clear h hBg hgl hmc hcap i0 j0 i1 j1 i2 j2 i3 j3 i4 j4 i5 j5 i6 j6
 go_enter Tryd.func65, Tryd.ntmps65
 go_wp2_with fail
 refine wp_region_M o_pqueue_Queue_kbest_candidate_swap_0 (by kernel_rfl) (by kernel_rfl) (by intro c a d v w h; cases d <;> exact h) ?_; unfold o_pqueue_Queue_kbest_candidate_swap_0
 iterate 25 (refine wpF_h rfl rfl (fun K hK => ?_); go_simp; refine hK _ _ ?_; clear hK K)
 refine wpF_ol rfl (by kernel_rfl) rfl (fun K hK => ?_)
 go_simp
 refine (show K _ (set7 w g i (H j)).drew from hK _ _ ?_)
 clear hK K x1 a0 b0 a1 b1 a2 b2 a3 b3 a4 b4 a5 b5 a6 b6 e0 f0 e1 f1 e2 f2 e3 f3 e4 f4 e5 f5 e6 f6
 generalize (set7 w g i (H j)).drew = w1 at *
 (refine wpF_h rfl rfl (fun K hK => ?_); go_simp; refine hK _ _ ?_; clear hK K)
 refine wpF_o rfl rfl (fun K hK => ?_)
 obtain ⟨j0, j1, j2, j3, j4, j5, j6⟩ := HO1.out.1.at hj
 have f0 : w1.frozen? ⟨g, j * 7, none⟩ = false := World.ownsRow.frozenAt HO1.out.1 _
 have f1 : w1.frozen? ⟨g, j * 7 + 1, none⟩ = false := World.ownsRow.frozenAt HO1.out.1 _
 have f2 : w1.frozen? ⟨g, j * 7 + 2, none⟩ = false := World.ownsRow.frozenAt HO1.out.1 _
 have f3 : w1.frozen? ⟨g, j * 7 + 3, none⟩ = false := World.ownsRow.frozenAt HO1.out.1 _
 have f4 : w1.frozen? ⟨g, j * 7 + 4, none⟩ = false := World.ownsRow.frozenAt HO1.out.1 _
 have f5 : w1.frozen? ⟨g, j * 7 + 5, none⟩ = false := World.ownsRow.frozenAt HO1.out.1 _
 have f6 : w1.frozen? ⟨g, j * 7 + 6, none⟩ = false := World.ownsRow.frozenAt HO1.out.1 _
 have HO2 := Lib.hid (HO1.out.1.set j (H i) hj)
 go_simp
 refine (show K _ (set7 w1 g j (H i)) from hK _ _ (.inl (by kernel_rfl)) ?_)
 clear hK K j0 f0 j1 f1 j2 f2 j3 f3 j4 f4 j5 f5 j6 f6
 generalize set7 w1 g j (H i) = w2 at *
 have HQ2 := Lib.hid (show QK L F nd cb w2 qb mb B (.slice (some ⟨g, 0, none⟩) m cap) (swp H i j) m nx from HQ.out.own' (Fut.refl w) (World.grownBy.trans HO1.out.2 HO2.out.2) HO2.out.1 (fun k hk => by
  by_cases e1 : k = j
  ·
   subst e1; exact ⟨i, hi, swp_right _ _ _⟩
  ·
   by_cases e2 : k = i
   ·
    subst e2; exact ⟨j, hj, swp_left _ _ _⟩
   ·
    exact ⟨k, hk, swp_other _ _ _ _ e2 e1⟩))
 have HF2 := Lib.hid (show FutS (SQ qb mb (.slice (some ⟨g, 0, none⟩) m cap)) w w2 from futS_grown (futS_grown (FutS.refl w) HO1.out.2 sq_g) HO2.out.2 sq_g)
 clear HO1 HO2 HQ
 refine wpF_nil ?_
 obtain ⟨S, hS⟩ : ∃ S : Nat → Bool, S = fun q => q == mb := ⟨_, rfl⟩
 have hSq : S qb = false := by rw [hS]; simp [HQ2.out.ne]
 have hSg : S g = false := by
  rw [hS]
  have := HQ2.out.mB
  have := HBG.out
  simp
  omega
 have HSM := Lib.hid (show S mb = true from by rw [hS]; simp)
 clear hS
 obtain ⟨i0, i1, i2, i3, i4, i5, i6⟩ := HQ2.out.own.at hi
 obtain ⟨j0, j1, j2, j3, j4, j5, j6⟩ := HQ2.out.own.at hj
 have x1 := cell_futS (HQ2.out.q.cell (i := 1) rfl) hSq
 have x2 := cell_futS (HQ2.out.q.cell (i := 2) rfl) hSq
 have a5 := cell_futS i5 hSg
 have b5 := cell_futS j5 hSg
 clear i0 j0 i1 j1 i2 j2 i3 j3 i4 j4 i5 j5 i6 j6 hSq hSg
 obtain ⟨ih, hih⟩ : ∃ z, z = (swp H i j i).hd := ⟨_, rfl⟩
 obtain ⟨jh, hjh⟩ : ∃ z, z = (swp H i j j).hd := ⟨_, rfl⟩
 rw [← hih] at a5
 rw [← hjh] at b5
 have HIH := Lib.hid (show 0 ≤ ih ∧ ih ≤ 1000000000000 from by have := HQ2.out.hd i hi; have := HQ2.out.nx1; rw [hih]; omega)
 have HJH := Lib.hid (show 0 ≤ jh ∧ jh ≤ 1000000000000 from by have := HQ2.out.hd j hj; have := HQ2.out.nx1; rw [hjh]; omega)
 clear hih hjh
 go_wp2_with fail
 refine wp_region_MG (relS S) o_pqueue_Queue_kbest_candidate_swap_1 (by kernel_rfl) (by kernel_rfl) (by intro c a d v w h; cases d <;> exact h) ?_; unfold o_pqueue_Queue_kbest_candidate_swap_1
 iterate 26 (refine wpS_h rfl rfl (fun K hK => ?_); go_simp; refine hK _ _ ?_; clear hK K)
 refine wpG_o rfl rfl (fun K hK => ?_)
 refine wp_ment (.tmp 35) (.tmp 43) rfl rfl (b := mb) HQ2.out.mp ih rfl HIH.out.1 HIH.out.2 ?_
 intro v3 st3 w3 hm3 hg3 hE3
 refine hK _ _ (.inr (FutS.grownS hg3 (fun k hk => by cases hk; exact HSM.out))) ?_
 clear hK K
 have HQ3 := Lib.hid ((HQ2.out.go (Fut.refl w2).drew).mapped hg3 hm3)
 have HF3 := Lib.hid (futS_grown HF2.out.drew hg3 sq_m)
 have HE3 := Lib.hid hE3
 clear hm3 hg3 hE3
 (refine wpS_h rfl rfl (fun K hK => ?_); go_simp; refine hK _ _ ?_; clear hK K)
 refine wpG_o rfl rfl (fun K hK => ?_)
 refine wp_mest (.tmp 35) (.tmp 59) (.tmp 56) rfl rfl st3 rfl HE3.out ?_
 intro w4 hm4 hg4
 refine hK _ _ (.inr (FutS.grownS hg4 (fun k hk => by cases hk; exact HSM.out))) ?_
 clear hK K
 have HQ4 := Lib.hid (HQ3.out.mapped hg4 hm4)
 have HF4 := Lib.hid (futS_grown HF3.out hg4 sq_m)
 clear hm4 hg4
 refine wpG_o rfl rfl (fun K hK => ?_)
 refine wp_ment (.tmp 47) (.tmp 55) rfl rfl (b := mb) HQ4.out.mp jh rfl HJH.out.1 HJH.out.2 ?_
 intro v5 st5 w5 hm5 hg5 hE5
 refine hK _ _ (.inr (FutS.grownS hg5 (fun k hk => by cases hk; exact HSM.out))) ?_
 clear hK K
 have HQ5 := Lib.hid (HQ4.out.mapped hg5 hm5)
 have HF5 := Lib.hid (futS_grown HF4.out hg5 sq_m)
 have HE5 := Lib.hid hE5
 clear hm5 hg5 hE5
 (refine wpS_h rfl rfl (fun K hK => ?_); go_simp; refine hK _ _ ?_; clear hK K)
 refine wpG_o rfl rfl (fun K hK => ?_)
 refine wp_mest (.tmp 47) (.tmp 61) (.tmp 57) rfl rfl st5 rfl HE5.out ?_
 intro w6 hm6 hg6
 refine hK _ _ (.inr (FutS.grownS hg6 (fun k hk => by cases hk; exact HSM.out))) ?_
 clear hK K
 have HQ6 := Lib.hid (HQ5.out.mapped hg6 hm6)
 have HF6 := Lib.hid (futS_grown HF5.out hg6 sq_m)
 clear hm6 hg6
 refine wpG_nil ?_
 go_wp2_with fail
 go_returns
 exact ⟨rfl, HQ6.out, HF6.out⟩
end Go.Proofs.YtajbmdjlfniofaaDoor
/-
  The enumeration's queue: up, down.
-/
namespace Go.Proofs.YtajbmdjlfniofaaDoor
open Go.RowKit Go.Deep PK
attribute [local go_sem] Oper.lit Oper.litS fut_fut fut_drew World.cell?_alloc_some
/-- what is so of each two of them -/
def PW (P : EK → EK → Prop) (m : Nat) (H : Nat → EK) : Prop := ∀ i j, i < m → j < m → i ≠ j → P (H i) (H j)
/-- the same elements in another order -/
def SameP (m : Nat) (H G : Nat → EK) : Prop := (∀ c, (∃ k, k < m ∧ H k = c) ↔ ∃ k, k < m ∧ G k = c) ∧ ∀ P, PW P m H → PW P m G
theorem SameP.refl (m : Nat) (H : Nat → EK) : SameP m H H := ⟨fun _ => Iff.rfl, fun _ h => h⟩
theorem PW.sw {P : EK → EK → Prop} {m i j : Nat} {H : Nat → EK} (h : PW P m H) (hi : i < m) (hj : j < m) : PW P m (swp H i j) := by
 have key : ∀ x, ∃ y, swp H i j x = H y ∧ (x < m → y < m) ∧ y = (if x = j then i else if x = i then j else x) := by
  intro x
  by_cases e1 : x = j
  ·
   subst e1; exact ⟨i, swp_right _ _ _, fun _ => hi, by rw [if_pos rfl]⟩
  ·
   by_cases e2 : x = i
   ·
    subst e2; exact ⟨j, swp_left _ _ _, fun _ => hj, by rw [if_neg e1, if_pos rfl]⟩
   ·
    exact ⟨x, swp_other _ _ _ _ e2 e1, fun h => h, by rw [if_neg e1, if_neg e2]⟩
 intro x y hx hy hxy
 obtain ⟨x', e1, e2, e3⟩ := key x
 obtain ⟨y', f1, f2, f3⟩ := key y
 rw [e1, f1]
 refine h x' y' (e2 hx) (f2 hy) (fun e => hxy ?_)
 rw [e3, f3] at e
 split at e <;> split at e <;> (try split at e) <;> (try split at e) <;> omega
theorem SameP.sw {m i j : Nat} {H G : Nat → EK} (h : SameP m H G) (hi : i < m) (hj : j < m) : SameP m H (swp G i j) :=
 ⟨fun c => (h.1 c).trans (swp_mem G hi hj c).symm, fun P hP => (h.2 P hP).sw hi hj⟩
theorem befK_step {E : List EE} {a b c : EK} (h1 : befK E b a = true) (h2 : befK E c a = false) : befK E c b = false := (befK_wo E).tr _ _ _ ((befK_wo E).asym _ _ h1) h2
theorem befK_both {E : List EE} {a b c : EK} (h1 : befK E b a = true) (h2 : befK E c b = true) : befK E c a = true := by
 cases h : befK E c a with
 | true => rfl
 | false =>
  have := (befK_wo E).tr _ _ _ ((befK_wo E).asym _ _ h1) h
  rw [this] at h2
  cases h2
set_option maxHeartbeats 3200000 in
theorem upK_any {L : LP} {F : Nat → Bool} {nd : Int} {cb : Nat} {w : World} {qb mb B : Nat} {v : Value} {H : Nat → EK} {m nx : Nat} (hL : L.OK) (h : QK L F nd cb w qb mb B v H m nx) (i0 : Nat) (hi : i0 < m) (hu : UpInv (befK L.E) H m i0) :
  Calls Tryd.prog 68 #[.pointer (some ⟨qb, 0, none⟩), .int .i64 (i0 : Int)] w fun r w' => r = .returned (.tuple #[]) ∧ (∃ H', QK L F nd cb w' qb mb B v H' m nx ∧ HeapOK (befK L.E) H' m ∧ SameP m H H') ∧ FutS (SQ qb mb v) w w' := by
 have HQ := Lib.hid h
 have HLO := Lib.hid hL
 have HU := Lib.hid hu
 have hmb : m ≤ 100000000000 := by have := h.nx1; have := h.mx; omega
 have HI0 := Lib.hid hi
 clear h hu hi hL
 go_enter Tryd.func68, Tryd.ntmps68
 go_wp2_with fail
 go_loopw [1] (fun x wr => ∃ (i : Nat) (H' : Nat → EK), i < m ∧ x = .int .i64 i ∧ Hid (QK L F nd cb wr qb mb B v H' m nx ∧ UpInv (befK L.E) H' m i ∧ SameP m H H') ∧ Hid (FutS (SQ qb mb v) w wr)) (fun x _ => (intOf x).toNat)
 case atStart => exact ⟨i0, H, HI0.out, rfl, Lib.hid ⟨HQ.out, HU.out, SameP.refl _ _⟩, Lib.hid (FutS.refl w)⟩
 case round =>
  obtain ⟨i, H', hi, rfl, HI, HF⟩ := hrel
  by_cases hi0 : i = 0
  ·
   subst hi0
   go_wp2_with fail
   go_returns
   exact ⟨rfl, ⟨H', HI.out.1, HI.out.2.1.stop (.inl rfl), HI.out.2.2⟩, HF.out⟩
  ·
   obtain ⟨p, hp⟩ : ∃ p, p = (i - 1) / 2 := ⟨_, rfl⟩
   have HP := Lib.hid hp
   have hpi : p < i := by omega
   have hi1 : 0 < i := by omega
   have hq : Int.tdiv ((i : Int) - 1) 2 = (p : Int) := by rw [show (i : Int) - 1 = ((i - 1 : Nat) : Int) by omega, hp]; exact Int.ofNat_tdiv _ _
   clear hp hi0
   have HBE := Lib.hid (beforeK_any HLO.out HI.out.1 i p hi (by omega))
   go_wp2_with fail
   refine HBE.out.mono ?_
   rintro r w1 ⟨rfl, hb1⟩
   have hq1 := HI.out.1.go (show Fut wr w1 from hb1)
   have HQ1 := Lib.hid hq1
   have HF1 := Lib.hid (HF.out.then (show Fut wr w1 from hb1))
   clear hq1 hb1
   generalize hbb : befK L.E (H' i) (H' p) = bb
   have HBB := Lib.hid hbb
   clear hbb
   cases bb with
   | true =>
    go_wp2_with fail
    refine (swapK_any HQ1.out i p hi (by omega)).mono ?_
    rintro r w2 ⟨rfl, hs1, hs2⟩
    have HS1 := Lib.hid hs1
    have HF2 := Lib.hid (HF1.out.trans hs2)
    clear hs1 hs2
    go_wp2_with fail
    refine ⟨⟨p, swp H' i p, by omega, rfl, Lib.hid ⟨HS1.out, ?_, HI.out.2.2.sw hi (by omega)⟩, HF2⟩, by simp [intOf]; omega⟩
    have h9 := HI.out.2.1.step (befK_wo L.E) (by omega) hi (by rw [← HP.out]; exact HBB.out)
    rw [← HP.out] at h9
    exact h9
   | false =>
    go_wp2_with fail
    go_returns
    exact ⟨rfl, ⟨H', HQ1.out, HI.out.2.1.stop (.inr (by rw [← HP.out]; exact HBB.out)), HI.out.2.2⟩, HF1.out⟩
set_option maxHeartbeats 6400000 in
theorem downK_any {L : LP} {F : Nat → Bool} {nd : Int} {cb : Nat} {w : World} {qb mb B : Nat} {v : Value} {H : Nat → EK} {m nx : Nat} (hL : L.OK) (h : QK L F nd cb w qb mb B v H m nx) (hd : DownInv (befK L.E) H m 0) :
  Calls Tryd.prog 66 #[.pointer (some ⟨qb, 0, none⟩), .int .i64 0] w fun r w' => r = .returned (.tuple #[]) ∧ (∃ H', QK L F nd cb w' qb mb B v H' m nx ∧ HeapOK (befK L.E) H' m ∧ SameP m H H') ∧ FutS (SQ qb mb v) w w' := by
 have HQ := Lib.hid h
 have HLO := Lib.hid hL
 have HD := Lib.hid hd
 have hmb : m ≤ 100000000000 := by have := h.nx1; have := h.mx; omega
 obtain ⟨VA, vc, hv, _⟩ := own_form h.own
 have HV := Lib.hid hv
 clear h hd hv hL
 go_enter Tryd.func66, Tryd.ntmps66
 go_wp2_with fail
 go_loopw [1] (fun x wr => ∃ (i : Nat) (H' : Nat → EK), (i = 0 ∨ i < m) ∧ x = .int .i64 i ∧ Hid (QK L F nd cb wr qb mb B v H' m nx ∧ DownInv (befK L.E) H' m i ∧ SameP m H H') ∧ Hid (FutS (SQ qb mb v) w wr)) (fun x _ => m - (intOf x).toNat)
 case atStart => exact ⟨0, H, .inl rfl, rfl, Lib.hid ⟨HQ.out, HD.out, SameP.refl _ _⟩, Lib.hid (FutS.refl w)⟩
 case round =>
  obtain ⟨i, H', hi, rfl, HI, HF⟩ := hrel
  have hib : i ≤ 100000000000 := by omega
  go_wp2_with fail
  obtain ⟨wo, rfl⟩ : ∃ x, x = wr := ⟨_, rfl⟩
  go_loopw [4, 5] (fun l k wr => ∃ (lk kk : Nat), l = .int .i64 lk ∧ k = .int .i64 kk ∧ 2 * i + 1 ≤ kk ∧ kk ≤ 2 * i + 3 ∧ (lk = i ∨ lk < m) ∧ Hid (QK L F nd cb wr qb mb B v H' m nx) ∧ Hid (FutS (SQ qb mb v) w wr) ∧ Hid ((lk = i ∨ ((lk - 1) / 2 = i ∧ 0 < lk ∧ befK L.E (H' lk) (H' i) = true)) ∧ ∀ j, 2 * i + 1 ≤ j → j < kk → j < m → befK L.E (H' j) (H' lk) = false)) (fun _ k _ => 2 * i + 3 - (intOf k).toNat)
  case atStart => exact ⟨i, 2 * i + 1, rfl, by first | rfl | (congr 1; omega), Nat.le_refl _, by omega, .inl rfl, Lib.hid HI.out.1, HF, Lib.hid ⟨.inl rfl, fun j h1 h2 => by omega⟩⟩
  case round =>
   obtain ⟨lk, kk, rfl, rfl, hk1, hk2, hlk, HQ1, HF1, HJ⟩ := hrel
   have hkb : kk ≤ 1000000000000 := by omega
   have hq1 := HQ1.out.q.cell (i := 1) rfl
   rw [HV.out] at hq1
   by_cases hc : kk ≤ 2 * i + 2 ∧ kk < m
   ·
    obtain ⟨hc1, hc2⟩ := hc
    have HBE := Lib.hid (beforeK_any HLO.out HQ1.out kk lk hc2 (by omega))
    go_wp2_with fail
    refine HBE.out.mono ?_
    rintro r w1 ⟨rfl, hb1⟩
    have HQ2 := Lib.hid (HQ1.out.go (show Fut wr w1 from hb1))
    have HF2 := Lib.hid (HF1.out.then (show Fut wr w1 from hb1))
    clear hb1
    generalize hbb : befK L.E (H' kk) (H' lk) = bb
    have HBB := Lib.hid hbb
    clear hbb
    cases bb with
    | true =>
     go_wp2_with fail
     refine ⟨⟨kk, kk + 1, rfl, by go_num, by omega, by omega, .inr hc2, HQ2, HF2, Lib.hid ⟨.inr ⟨by omega, by omega, ?_⟩, fun j h1 h2 h3 => ?_⟩⟩, by simp [intOf]; omega⟩
     ·
      rcases HJ.out.1 with h9 | ⟨_, _, h9⟩
      ·
       have := HBB.out; rw [h9] at this; exact this
      ·
       exact befK_both h9 HBB.out
     ·
      by_cases e : j = kk
      ·
       subst e; exact (befK_wo L.E).irr _
      ·
       exact befK_step HBB.out (HJ.out.2 j h1 (by omega) h3)
    | false =>
     go_wp2_with fail
     refine ⟨⟨lk, kk + 1, rfl, by go_num, by omega, by omega, hlk, HQ2, HF2, Lib.hid ⟨HJ.out.1, fun j h1 h2 h3 => ?_⟩⟩, by simp [intOf]; omega⟩
     by_cases e : j = kk
     ·
      subst e; exact HBB.out
     ·
      exact HJ.out.2 j h1 (by omega) h3
   ·
    have hall : ∀ j, 0 < j → j < m → (j - 1) / 2 = i → befK L.E (H' j) (H' lk) = false := fun j h1 h2 h3 => HJ.out.2 j (by omega) (by omega) h2
    have HALL := Lib.hid hall
    clear hall
    have hcc : (kk ≤ 2 * i + 2 ∧ m ≤ kk) ∨ 2 * i + 2 < kk := by omega
    clear hc
    by_cases hli : lk = i
    ·
     subst hli
     rcases hcc with ⟨hc1, hc2⟩ | hc1
     all_goals
      go_wp2_with fail
      go_returns
      exact ⟨rfl, ⟨H', HQ1.out, HI.out.2.1.stop HALL.out, HI.out.2.2⟩, HF1.out⟩
    ·
     have HLI := Lib.hid hli
     have hl2 : (((lk : Nat) : Int) = (i : Int)) = False := eq_false (by omega)
     have hl3 : (((lk : Nat) : Int) == (i : Int)) = false := by simp; omega
     have hlm : lk < m := by omega
     have hjj : (lk - 1) / 2 = i ∧ 0 < lk ∧ befK L.E (H' lk) (H' i) = true := HJ.out.1.resolve_left hli
     have HJJ := Lib.hid hjj
     clear hli hjj
     have him : i < m := by have := HJJ.out.1; have := HJJ.out.2.1; omega
     rcases hcc with ⟨hc1, hc2⟩ | hc1
     all_goals
      go_wp2_with fail
      refine (swapK_any HQ1.out i lk him hlm).mono ?_
      rintro r w2 ⟨rfl, hs1, hs2⟩
      have HS1 := Lib.hid hs1
      have HF2 := Lib.hid (HF1.out.trans hs2)
      clear hs1 hs2
      go_wp2_with fail
      refine ⟨⟨lk, swp H' i lk, .inr hlm, rfl, Lib.hid ⟨HS1.out, HI.out.2.1.step (befK_wo L.E) HJJ.out.2.1 hlm HJJ.out.1 HJJ.out.2.2 HALL.out, HI.out.2.2.sw him hlm⟩, HF2⟩, by have := HJJ.out.1; have := HJJ.out.2.1; simp [intOf]; omega⟩
end Go.Proofs.YtajbmdjlfniofaaDoor
/-
  The enumeration's queue: Push.
-/
namespace Go.Proofs.YtajbmdjlfniofaaDoor
open Go.RowKit Go.Deep PK
attribute [local go_sem] Oper.lit Oper.litS fut_fut fut_drew World.cell?_alloc_some
attribute [local go_sem] World.frozen?_setCell
theorem info_enK : (Tryd.prog.info? 121).map (fun i => (i.zero, i.size, i.bytes)) = some (some (.agg #[.int .i64 0, .slice none 0 0, .int .i64 0, .int .i64 0, .slice none 0 0, .int .i64 0, .int .i64 0]), 7, 88) := by kernel_rfl
theorem RdC.mono {F G : Nat → Bool} {w : World} {c : CI} (h : RdC F w c) (hFG : ∀ k, F k = true → G k = true) : RdC G w c := h.keep (KpF.refl _ _) hFG
/-- more is known to lie still -/
theorem QK.frz {L : LP} {F : Nat → Bool} {nd : Int} {cb : Nat} {w : World} {qb mb B : Nat} {v : Value} {H : Nat → EK} {m nx : Nat} {G : Nat → Bool} (h : QK L F nd cb w qb mb B v H m nx) (hFG : ∀ k, F k = true → G k = true) (hb : ∀ k, G k = true → k < w.heap.size) (hq : G qb = false) (hm : G mb = false) (ho : ∀ k, v.ownBlock = some k → G k = false) : QK L G nd cb w qb mb B v H m nx :=
 ⟨h.q, h.mp, h.own, h.qB, h.mB, h.sz, h.hd, h.nx1, h.mx, hb, hq, hm, ho, h.env.mono hFG, fun i hi => (h.tr i hi).mono hFG, h.ok⟩
theorem updK_mem {m : Nat} {H : Nat → EK} {e : EK} (c : EK) : (∃ k, k < m + 1 ∧ upd H m e k = c) ↔ c = e ∨ ∃ k, k < m ∧ H k = c := by
 constructor
 ·
  rintro ⟨k, hk, h⟩
  by_cases e1 : k = m
  ·
   subst e1; rw [upd_same] at h; exact .inl h.symm
  ·
   rw [upd_other _ _ _ _ e1] at h; exact .inr ⟨k, by omega, h⟩
 ·
  rintro (h | ⟨k, hk, h⟩)
  ·
   exact ⟨m, by omega, by rw [upd_same]; exact h.symm⟩
  ·
   exact ⟨k, by omega, by rw [upd_other _ _ _ _ (by omega)]; exact h⟩
theorem PW.upd {P : EK → EK → Prop} {m : Nat} {H : Nat → EK} {e : EK} (h : PW P m H) (h1 : ∀ i, i < m → P (H i) e ∧ P e (H i)) : PW P (m + 1) (upd H m e) := by
 intro i j hi hj hij
 by_cases e1 : i = m
 ·
  subst e1
  rw [upd_same, upd_other _ _ _ _ (fun e => hij e.symm)]
  exact (h1 j (by omega)).2
 ·
  rw [upd_other _ _ _ _ e1]
  by_cases e2 : j = m
  ·
   subst e2
   rw [upd_same]
   exact (h1 i (by omega)).1
  ·
   rw [upd_other _ _ _ _ e2]
   exact h i j (by omega) (by omega) hij
set_option maxHeartbeats 6400000 in
set_option maxRecDepth 4000 in
theorem pushK_any {L : LP} {F : Nat → Bool} {nd : Int} {cb : Nat} {w : World} {qb mb B : Nat} {v : Value} {H : Nat → EK} {m nx : Nat} (hL : L.OK) (h : QK L F nd cb w qb mb B v H m nx) (hh : HeapOK (befK L.E) H m) (hnx : nx < 100000000000) (x : CI) (hxr : RdC F w x) (hxo : okC L nd x) :
  Calls Tryd.prog 64 #[.pointer (some ⟨qb, 0, none⟩), cK x] w fun r w' => (∃ u, r = .returned u) ∧ (∃ v' H', QK L F nd cb w' qb mb B v' H' (m + 1) (nx + 1) ∧ HeapOK (befK L.E) H' (m + 1) ∧ (∀ c, (∃ k, k < m + 1 ∧ H' k = c) ↔ c = ⟨x, nx, nx⟩ ∨ ∃ k, k < m ∧ H k = c) ∧ (∀ P, PW P m H → (∀ i, i < m → P (H i) ⟨x, nx, nx⟩ ∧ P ⟨x, nx, nx⟩ (H i)) → PW P (m + 1) H') ∧ (∃ g cap, v' = .slice (some ⟨g, 0, none⟩) (m + 1) cap ∧ (v.ownBlock = some g ∨ w.heap.size ≤ g))) ∧ FutS (SQ qb mb v) w w' := by
 have HOK := Lib.hid hxo
 have HRC0 := Lib.hid hxr
 obtain ⟨xd, ⟨xc, xs⟩, xr, xA, xo⟩ := x
 have HLO := Lib.hid hL
 have HQ := Lib.hid h
 have HH := Lib.hid hh
 have hmx : m ≤ nx := h.mx
 obtain ⟨VA, vc, hv, _⟩ := own_form h.own
 have HV := Lib.hid hv
 have HF0 := Lib.hid (show Fut w (w.alloc (.cells #[.int .i64 xd.e, .slice xd.A xd.k.length xd.c, .int .i64 xc, .int .i64 xs, .slice xA xr.length xo] 66)) from (Fut.refl w).alloc _)
 have HQ0 := Lib.hid (h.go HF0.out)
 have HB0 := Lib.hid (show Blk (w.alloc (.cells #[.int .i64 xd.e, .slice xd.A xd.k.length xd.c, .int .i64 xc, .int .i64 xs, .slice xA xr.length xo] 66)) w.heap.size 66 #[.int .i64 xd.e, .slice xd.A xd.k.length xd.c, .int .i64 xc, .int .i64 xs, .slice xA xr.length xo] from Blk.new w _ _)
 have x0 := cell_fut (HQ0.out.q.cell (i := 1) rfl)
 rw [hv] at x0
 have x1 := cell_fut (HQ0.out.q.cell (i := 3) rfl)
 clear h hh hv hxr hxo hL
 go_enter Tryd.func64, Tryd.ntmps64
 go_wp2_with fail
 generalize w.alloc (.cells #[.int .i64 xd.e, .slice xd.A xd.k.length xd.c, .int .i64 xc, .int .i64 xs, .slice xA xr.length xo] 66) = wa at *
 obtain ⟨xb, hxb⟩ : ∃ q, q = w.heap.size := ⟨_, rfl⟩
 rw [← hxb] at HB0 ⊢
 have HXB := Lib.hid hxb
 clear hxb
 refine wp_region_M o_pqueue_Queue_kbest_candidate_Push_1 (by kernel_rfl) (by kernel_rfl) (by intro c a d v w h; cases d <;> exact h) ?_; unfold o_pqueue_Queue_kbest_candidate_Push_1
 iterate 11 (refine wpF_h rfl rfl (fun K hK => ?_); go_simp; refine hK _ _ ?_; clear hK K)
 refine wpF_nil ?_
 clear x0 x1
 replace HQ0 := Lib.hid (show QK L F nd cb wa.drew qb mb B v H m nx from HQ0.out.go (Fut.refl wa).drew)
 replace HB0 := Lib.hid (show Blk wa.drew xb 66 #[.int .i64 xd.e, .slice xd.A xd.k.length xd.c, .int .i64 xc, .int .i64 xs, .slice xA xr.length xo] from HB0.out.drew)
 replace HF0 := Lib.hid (show Fut w wa.drew from HF0.out.drew)
 generalize wa.drew = wa at *
 go_wp2_with fail
 obtain ⟨S, hS⟩ : ∃ S : Nat → Bool, S = fun q => v.ownBlock == some q := ⟨_, rfl⟩
 have hlt9 := fun k hk => (World.ownsRow.lt HQ0.out.own k hk)
 have hSB : ∀ k, k < B → S k = false := fun k hk => by
  rw [hS]
  cases e : (v.ownBlock == some k) with
  | false => exact e
  | true => have := (hlt9 k (by simpa using e)).1; omega
 have hSX : S xb = false := by
  rw [hS]
  cases e : (v.ownBlock == some xb) with
  | false => exact e
  | true =>
   have := (World.ownsRow.lt HQ.out.own xb (by simpa using e)).2
   have := HXB.out
   omega
 have HSV := Lib.hid (show ∀ k, v.ownBlock = some k → S k = true from fun k hk => by rw [hS]; simp [hk])
 have x0 : ∀ f d o, (futS wa S f d o).cell? ⟨qb, 1, none⟩ = some (.slice VA m vc) := cell_futS (by rw [← HV.out]; exact HQ0.out.q.cell (i := 1) rfl) (hSB _ HQ0.out.qB)
 have x1 := cell_futS (HQ0.out.q.cell (i := 4) rfl) (hSB _ HQ0.out.qB)
 have y0 := cell_futS (HB0.out.cell (i := 0) rfl) hSX
 have y1 := cell_futS (HB0.out.cell (i := 1) rfl) hSX
 have y2 := cell_futS (HB0.out.cell (i := 2) rfl) hSX
 have y3 := cell_futS (HB0.out.cell (i := 3) rfl) hSX
 have y4 := cell_futS (HB0.out.cell (i := 4) rfl) hSX
 clear hlt9 hSB hSX hS
 refine wp_region_MG (relS S) o_pqueue_Queue_kbest_candidate_Push_2 (by kernel_rfl) (by kernel_rfl) (by intro c a d v w h; cases d <;> exact h) ?_; unfold o_pqueue_Queue_kbest_candidate_Push_2
 iterate 12 (refine wpS_h rfl rfl (fun K hK => ?_); go_simp; refine hK _ _ ?_; clear hK K)
 refine wpG_o rfl rfl (fun K hK => ?_)
 go_simp
 go_at_K
 refine hK _ _ (.inr ((relS S).of_fut ((Fut.refl _).alloc _))) ?_
 clear hK K x0 x1 y0 y1 y2 y3 y4
 obtain ⟨wc, hwc⟩ : ∃ wc, wc = (wa.alloc (.cells #[.int .i64 xd.e, .slice xd.A xd.k.length xd.c, .int .i64 xc, .int .i64 xs, .slice xA xr.length xo, .int .i64 (nx : Int), .int .i64 (nx : Int)] 121)).drew := ⟨_, rfl⟩
 have HQC := Lib.hid (show QK L F nd cb wc qb mb B v H m nx from by rw [hwc]; exact HQ0.out.go ((Fut.refl wa).alloc _).drew)
 have HNB := Lib.hid (show wc.heap[wa.heap.size]? = some (.cells #[.int .i64 xd.e, .slice xd.A xd.k.length xd.c, .int .i64 xc, .int .i64 xs, .slice xA xr.length xo, .int .i64 (nx : Int), .int .i64 (nx : Int)] 121 (0, 0)) from by rw [hwc]; exact heap_new' _ _ _ rfl)
 have HFC := Lib.hid (show Fut w wc from by rw [hwc]; exact HF0.out.trans ((Fut.refl wa).alloc _).drew)
 have HRC := Lib.hid (show RdC F wc ⟨xd, ⟨xc, xs⟩, xr, xA, xo⟩ from HRC0.out.keep (KpF.of_fut HQ.out.fb HFC.out) (fun _ e => e))
 rw [show (wa.alloc (.cells #[.int .i64 xd.e, .slice xd.A xd.k.length xd.c, .int .i64 xc, .int .i64 xs, .slice xA xr.length xo, .int .i64 (nx : Int), .int .i64 (nx : Int)] 121)).drew = wc from hwc.symm]
 clear hwc
 refine wpG_o rfl rfl (fun K hK => ?_)
 refine wp_push 113 121 7 88 _ Tryd.underlying113 info_enK rfl (by decide) (by decide) (.tmp 20) (.tmp 28) rfl B (.slice VA m vc) m (entK H m) rfl (by rw [← HV.out]; exact HQC.out.own) wa.heap.size [.int .i64 xd.e, .slice xd.A xd.k.length xd.c, .int .i64 xc, .int .i64 xs, .slice xA xr.length xo, .int .i64 (nx : Int), .int .i64 (nx : Int)] rfl HNB.out rfl (by simp [Value.oneCell']) (by omega) HQC.out.sz ?_
 intro g cap wd h1 h2 h3
 rw [← HV.out] at h2 h3
 have HSV3 := Lib.hid (show v.ownBlock = some g ∨ w.heap.size ≤ g from h3.imp id (fun e => by rw [e]; exact HFC.out.size))
 have HSV2 := Lib.hid (show ∃ g' cap', (Value.slice (some ⟨g, 0, none⟩) (m + 1) cap) = .slice (some ⟨g', 0, none⟩) (m + 1) cap' ∧ (v.ownBlock = some g' ∨ w.heap.size ≤ g') from ⟨g, cap, rfl, HSV3.out⟩)
 have HFG := Lib.hid (show F g = false from by
  rcases HSV3.out with h9 | h9
  ·
   exact HQ.out.fo g h9
  ·
   cases e : F g with
   | false => rfl
   | true => have := HQ.out.fb g e; omega)
 refine hK _ _ (.inr ((FutS.refl _).grown h2 (fun k hk => .inl (HSV.out k hk)))) ?_
 clear hK K
 have HOD := Lib.hid (show OwnK wd B (.slice (some ⟨g, 0, none⟩) (m + 1) cap) (upd H m ⟨⟨xd, ⟨xc, xs⟩, xr, xA, xo⟩, nx, nx⟩) (m + 1) from by
  show wd.ownsRow B 121 7 _ _ _
  rw [entK_succ]
  exact h1)
 have hltv : ∀ k, v.ownBlock = some k → B ≤ k := fun k hk => (World.ownsRow.lt HQC.out.own k hk).1
 have hnev : ∀ b, b < B → some b ≠ v.ownBlock := fun b hb e => by have := hltv b e.symm; omega
 have HQB := Lib.hid (HQC.out.q.grown h2 (hnev _ HQC.out.qB))
 have HMB := Lib.hid (show MPi wd mb from HQC.out.mp.of_block (h2.block mb HQC.out.mp.lt (hnev _ HQC.out.mB)))
 have HFD := Lib.hid (show FutS (SQ qb mb v) w wd from (FutS.of HFC.out).grown h2 (fun k hk => .inl (by simp [SQ, hk])))
 have HSZ := Lib.hid (show B ≤ wd.heap.size from Nat.le_trans HQC.out.sz h2.size)
 have HKD := Lib.hid (show KpF F wc wd from KpF.of_grown HQC.out.fb (fun k hk => HQC.out.fo k hk) h2)
 have HSD := Lib.hid h2.size
 clear h1 h2 h3 hltv hnev
 iterate 2 (refine wpS_h rfl rfl (fun K hK => ?_); go_simp; refine hK _ _ ?_; clear hK K)
 refine wpG_ol rfl (by kernel_rfl) rfl (fun K hK => ?_)
 have u1 := HQB.out.cell (i := 1) rfl
 have f1 := HQB.out.fz 1
 go_simp
 refine hK _ _ ?_
 clear hK K u1 f1
 have hgB : B ≤ g := ((World.ownsRow.lt HOD.out) g rfl).1
 have HQE := Lib.hid (HQB.out.set 1 (.slice (some ⟨g, 0, none⟩) (m + 1) cap))
 have HME := Lib.hid (show MPi (wd.setCell ⟨qb, 1, none⟩ (.slice (some ⟨g, 0, none⟩) (m + 1) cap)) mb from HMB.out.setCell (Ne.symm HQ.out.ne) _)
 have HOE := Lib.hid (show OwnK (wd.setCell ⟨qb, 1, none⟩ (.slice (some ⟨g, 0, none⟩) (m + 1) cap)) B (.slice (some ⟨g, 0, none⟩) (m + 1) cap) (upd H m ⟨⟨xd, ⟨xc, xs⟩, xr, xA, xo⟩, nx, nx⟩) (m + 1) from World.ownsRow.kept HOD.out (grown_set wd ⟨qb, 1, none⟩ _) (.inr (by simp only [Value.ownBlock]; intro e; have := Option.some.inj e; have := HQC.out.qB; omega)))
 have HFE := Lib.hid (show FutS (SQ qb mb v) w (wd.setCell ⟨qb, 1, none⟩ (.slice (some ⟨g, 0, none⟩) (m + 1) cap)) from HFD.out.setCell (a := ⟨qb, 1, none⟩) (.inl sq_q) _)
 have HSE := Lib.hid (show B ≤ (wd.setCell ⟨qb, 1, none⟩ (.slice (some ⟨g, 0, none⟩) (m + 1) cap)).heap.size from by rw [World.size_setCell]; exact HSZ.out)
 have HKE := Lib.hid (show KpF F wc (wd.setCell ⟨qb, 1, none⟩ (.slice (some ⟨g, 0, none⟩) (m + 1) cap)) from HKD.out.trans (KpF.of_grown (fun k hk => Nat.lt_of_lt_of_le (HQC.out.fb k hk) HSD.out) (fun k hk => by cases hk; exact HQC.out.fq) (grown_set wd ⟨qb, 1, none⟩ _)))
 have HSE2 := Lib.hid (show wc.heap.size ≤ (wd.setCell ⟨qb, 1, none⟩ (.slice (some ⟨g, 0, none⟩) (m + 1) cap)).heap.size from by rw [World.size_setCell]; exact HSD.out)
 generalize wd.setCell ⟨qb, 1, none⟩ (.slice (some ⟨g, 0, none⟩) (m + 1) cap) = we at *
 clear HQB HMB HOD HFD HSZ HKD HSD
 refine wpG_nil ?_
 have u2 := HQE.out.cell (i := 2) rfl
 go_wp2_with (at_mapUpdate; refine wpList_mput rfl (.tmp 35) (.tmp 36) (.tmp 37) rfl rfl (b := mb) HME.out nx rfl (by omega) (by omega) ?_; intro wf hm5 hg5)
 have HQF := Lib.hid (HQE.out.grown hg5 (fun e => HQ.out.ne (Option.some.inj e)))
 have HOF := Lib.hid (show OwnK wf B (.slice (some ⟨g, 0, none⟩) (m + 1) cap) (upd H m ⟨⟨xd, ⟨xc, xs⟩, xr, xA, xo⟩, nx, nx⟩) (m + 1) from World.ownsRow.kept HOE.out hg5 (.inr (by simp only [Value.ownBlock]; intro e; have := Option.some.inj e; have := HQC.out.mB; omega)))
 have HFF := Lib.hid (futS_grown HFE.out hg5 sq_m)
 have HSF := Lib.hid (Nat.le_trans HSE.out hg5.size)
 have HMF := Lib.hid hm5
 have HKF := Lib.hid (show KpF F wc wf from HKE.out.trans (KpF.of_grown (fun k hk => Nat.lt_of_lt_of_le (HQC.out.fb k hk) HSE2.out) (fun k hk => by cases hk; exact HQC.out.fm) hg5))
 have HSF2 := Lib.hid (Nat.le_trans HSE2.out hg5.size)
 clear u2 HQE HME HOE HFE HSE hm5 hg5 HKE HSE2
 have u3 := HQF.out.cell (i := 3) rfl
 have u4 := HQF.out.cell (i := 4) rfl
 have e3 := HQF.out.cell (i := 3) rfl
 have f3 := HQF.out.fz 3
 have wnx : IntKind.i64.wrap ((nx : Int) + 1) = (nx : Int) + 1 := by rw [IntKind.wrap_i64]; omega
 obtain ⟨S, hS⟩ : ∃ S : Nat → Bool, S = fun q => q == qb := ⟨_, rfl⟩
 have HSQ := Lib.hid (show S qb = true from by rw [hS]; simp)
 clear hS
 have HQG := Lib.hid (HQF.out.set 3 (.int .i64 ((nx : Int) + 1))).drew
 have HG1 := Lib.hid (show wf.grownBy (wf.setCell ⟨qb, 3, none⟩ (.int .i64 ((nx : Int) + 1))).drew (some qb) from by have h9 := grown_set wf ⟨qb, 3, none⟩ (.int .i64 ((nx : Int) + 1)); exact ⟨h9.os, h9.tape, h9.output, h9.size, h9.block⟩)
 have HG0 := Lib.hid (show FutS S wf.drew (wf.setCell ⟨qb, 3, none⟩ (.int .i64 ((nx : Int) + 1))).drew from FutS.grownS (w := wf.drew) ⟨HG1.out.os, HG1.out.tape, HG1.out.output, HG1.out.size, HG1.out.block⟩ (fun k hk => by cases hk; exact HSQ.out))
 go_wp2_with fail
 refine wp_region_MG (relS S) o_push4 (by kernel_rfl) (by kernel_rfl) (by intro c a d v w h; cases d <;> exact h) ?_; unfold o_push4
 iterate 8 (refine wpS_h rfl rfl (fun K hK => ?_); go_simp; refine hK _ _ ?_; clear hK K)
 refine wpG_two' rfl rfl (fun K hK => ?_) (fun K hK => ?_)
 ·
  go_simp
  refine hK _ _ (.inr (FutS.refl _)) ?_
  clear hK K
  (refine wpS_h rfl rfl (fun K hK => ?_); go_simp; refine hK _ _ ?_; clear hK K)
  refine wpG_o rfl rfl (fun K hK => ?_)
  go_simp
  refine hK _ _ (.inr (FutS.refl _)) ?_
  clear hK K
  iterate 3 (refine wpS_h rfl rfl (fun K hK => ?_); go_simp; refine hK _ _ ?_; clear hK K)
  clear u3 u4
  refine wpG_o rfl rfl (fun K hK => ?_)
  go_simp
  go_at_K
  refine (show K _ (wf.setCell ⟨qb, 3, none⟩ (.int .i64 ((nx : Int) + 1))).drew from hK _ _ (.inr HG0.out) ?_)
  clear hK K e3 f3
  generalize (wf.setCell ⟨qb, 3, none⟩ (.int .i64 ((nx : Int) + 1))).drew = wg at *
  iterate 2 (refine wpS_h rfl rfl (fun K hK => ?_); go_simp; refine hK _ _ ?_; clear hK K)
  refine wpG_o rfl rfl (fun K hK => ?_)
  have e4 := HQG.out.cell (i := 4) rfl
  have f4 := HQG.out.fz 4
  go_simp
  refine (show K _ (wg.setCell ⟨qb, 4, none⟩ (.int .i64 ((nx : Int) + 1))) from hK _ _ (.inr (FutS.grownS (grown_set wg ⟨qb, 4, none⟩ _) (fun k hk => by cases hk; exact HSQ.out))) ?_)
  clear hK K e4 f4
  have HQH := Lib.hid (HQG.out.set 4 (.int .i64 ((nx : Int) + 1)))
  have HG2 := Lib.hid (HG1.out.trans (grown_set wg ⟨qb, 4, none⟩ (.int .i64 ((nx : Int) + 1))))
  generalize wg.setCell ⟨qb, 4, none⟩ (.int .i64 ((nx : Int) + 1)) = wh at *
  clear HQG HG1 HQF
  have HKH := Lib.hid (show KpF F wf wh from KpF.of_grown (fun k hk => Nat.lt_of_lt_of_le (HQC.out.fb k hk) HSF2.out) (fun k hk => by cases hk; exact HQC.out.fq) HG2.out)
  have HQS := Lib.hid (show QK L F nd cb wh qb mb B (.slice (some ⟨g, 0, none⟩) (m + 1) cap) (upd H m ⟨⟨xd, ⟨xc, xs⟩, xr, xA, xo⟩, nx, nx⟩) (m + 1) (nx + 1) from
   ⟨by simpa using HQH.out, HMF.out.of_block (HG2.out.block mb HMF.out.lt (fun e => HQ.out.ne (Option.some.inj e).symm)), World.ownsRow.kept HOF.out HG2.out (.inr (by simp only [Value.ownBlock]; intro e; have := Option.some.inj e; have := HQC.out.qB; omega)), HQC.out.qB, HQC.out.mB, Nat.le_trans HSF.out HG2.out.size, fun i hi => by
    by_cases e : i = m
    ·
     subst e; rw [upd_same]; simp only; omega
    ·
     rw [upd_other _ _ _ _ e]; have := HQC.out.hd i (by omega); omega, by omega, by omega, fun k hk => Nat.lt_of_lt_of_le (HQC.out.fb k hk) (Nat.le_trans HSF2.out HG2.out.size), HQC.out.fq, HQC.out.fm, fun k hk => by cases hk; exact HFG.out, HQC.out.env.go (HKF.out.trans HKH.out), fun i hi => by
    by_cases e : i = m
    ·
     subst e; rw [upd_same]; exact HRC.out.keep (HKF.out.trans HKH.out) (fun _ e => e)
    ·
     rw [upd_other _ _ _ _ e]; exact (HQC.out.tr i (by omega)).keep (HKF.out.trans HKH.out) (fun _ e => e), fun i hi => by
    by_cases e : i = m
    ·
     subst e; rw [upd_same]; exact HOK.out
    ·
     rw [upd_other _ _ _ _ e]; exact HQC.out.ok i (by omega)⟩)
  have HFH := Lib.hid (show FutS (SQ qb mb v) w wh from HFF.out.grown HG2.out (fun k hk => .inl (by cases hk; exact sq_q)))
  clear HQH HOF HFF HSF HMF HG2
  refine wpG_nil ?_
  go_wp2_with fail
  refine (upK_any HLO.out HQS.out m (by omega) (HeapOK.push HH.out _)).mono ?_
  rintro r w9 ⟨rfl, ⟨H', hs1, hs2, hs3⟩, hs4⟩
  have HR := Lib.hid (And.intro hs1 (And.intro hs2 (And.intro hs3 hs4)))
  clear hs1 hs2 hs3 hs4
  go_wp2_with fail
  go_ret
  refine ⟨⟨_, rfl⟩, ⟨_, H', HR.out.1, HR.out.2.1, fun c => ?_, fun P h1 h2 => HR.out.2.2.1.2 P (PW.upd h1 h2), HSV2.out⟩, HFH.out.then' HR.out.2.2.2 (sq_row HSV3.out)⟩
  rw [← HR.out.2.2.1.1 c]
  exact updK_mem c
 ·
  go_simp
  refine hK _ _ (.inr (FutS.refl _)) ?_
  clear hK K
  (refine wpS_h rfl rfl (fun K hK => ?_); go_simp; refine hK _ _ ?_; clear hK K)
  refine wpG_o rfl rfl (fun K hK => ?_)
  go_simp
  refine hK _ _ (.inr (FutS.refl _)) ?_
  clear hK K
  iterate 3 (refine wpS_h rfl rfl (fun K hK => ?_); go_simp; refine hK _ _ ?_; clear hK K)
  clear u3 u4
  refine wpG_o rfl rfl (fun K hK => ?_)
  go_simp
  go_at_K
  refine (show K _ (wf.setCell ⟨qb, 3, none⟩ (.int .i64 ((nx : Int) + 1))).drew from hK _ _ (.inr HG0.out) ?_)
  clear hK K e3 f3
  generalize (wf.setCell ⟨qb, 3, none⟩ (.int .i64 ((nx : Int) + 1))).drew = wg at *
  iterate 2 (refine wpS_h rfl rfl (fun K hK => ?_); go_simp; refine hK _ _ ?_; clear hK K)
  refine wpG_o rfl rfl (fun K hK => ?_)
  have e4 := HQG.out.cell (i := 4) rfl
  have f4 := HQG.out.fz 4
  go_simp
  refine (show K _ (wg.setCell ⟨qb, 4, none⟩ (.int .i64 ((nx : Int) + 1))) from hK _ _ (.inr (FutS.grownS (grown_set wg ⟨qb, 4, none⟩ _) (fun k hk => by cases hk; exact HSQ.out))) ?_)
  clear hK K e4 f4
  have HQH := Lib.hid (HQG.out.set 4 (.int .i64 ((nx : Int) + 1)))
  have HG2 := Lib.hid (HG1.out.trans (grown_set wg ⟨qb, 4, none⟩ (.int .i64 ((nx : Int) + 1))))
  generalize wg.setCell ⟨qb, 4, none⟩ (.int .i64 ((nx : Int) + 1)) = wh at *
  clear HQG HG1 HQF
  have HKH := Lib.hid (show KpF F wf wh from KpF.of_grown (fun k hk => Nat.lt_of_lt_of_le (HQC.out.fb k hk) HSF2.out) (fun k hk => by cases hk; exact HQC.out.fq) HG2.out)
  have HQS := Lib.hid (show QK L F nd cb wh qb mb B (.slice (some ⟨g, 0, none⟩) (m + 1) cap) (upd H m ⟨⟨xd, ⟨xc, xs⟩, xr, xA, xo⟩, nx, nx⟩) (m + 1) (nx + 1) from
   ⟨by simpa using HQH.out, HMF.out.of_block (HG2.out.block mb HMF.out.lt (fun e => HQ.out.ne (Option.some.inj e).symm)), World.ownsRow.kept HOF.out HG2.out (.inr (by simp only [Value.ownBlock]; intro e; have := Option.some.inj e; have := HQC.out.qB; omega)), HQC.out.qB, HQC.out.mB, Nat.le_trans HSF.out HG2.out.size, fun i hi => by
    by_cases e : i = m
    ·
     subst e; rw [upd_same]; simp only; omega
    ·
     rw [upd_other _ _ _ _ e]; have := HQC.out.hd i (by omega); omega, by omega, by omega, fun k hk => Nat.lt_of_lt_of_le (HQC.out.fb k hk) (Nat.le_trans HSF2.out HG2.out.size), HQC.out.fq, HQC.out.fm, fun k hk => by cases hk; exact HFG.out, HQC.out.env.go (HKF.out.trans HKH.out), fun i hi => by
    by_cases e : i = m
    ·
     subst e; rw [upd_same]; exact HRC.out.keep (HKF.out.trans HKH.out) (fun _ e => e)
    ·
     rw [upd_other _ _ _ _ e]; exact (HQC.out.tr i (by omega)).keep (HKF.out.trans HKH.out) (fun _ e => e), fun i hi => by
    by_cases e : i = m
    ·
     subst e; rw [upd_same]; exact HOK.out
    ·
     rw [upd_other _ _ _ _ e]; exact HQC.out.ok i (by omega)⟩)
  have HFH := Lib.hid (show FutS (SQ qb mb v) w wh from HFF.out.grown HG2.out (fun k hk => .inl (by cases hk; exact sq_q)))
  clear HQH HOF HFF HSF HMF HG2
  refine wpG_nil ?_
  go_wp2_with fail
  refine (upK_any HLO.out HQS.out m (by omega) (HeapOK.push HH.out _)).mono ?_
  rintro r w9 ⟨rfl, ⟨H', hs1, hs2, hs3⟩, hs4⟩
  have HR := Lib.hid (And.intro hs1 (And.intro hs2 (And.intro hs3 hs4)))
  clear hs1 hs2 hs3 hs4
  go_wp2_with fail
  go_ret
  refine ⟨⟨_, rfl⟩, ⟨_, H', HR.out.1, HR.out.2.1, fun c => ?_, fun P h1 h2 => HR.out.2.2.1.2 P (PW.upd h1 h2), HSV2.out⟩, HFH.out.then' HR.out.2.2.2 (sq_row HSV3.out)⟩
  rw [← HR.out.2.2.1.1 c]
  exact updK_mem c
end Go.Proofs.YtajbmdjlfniofaaDoor
/-
  The enumeration's queue: Pop.
-/
namespace Go.Proofs.YtajbmdjlfniofaaDoor
open Go.RowKit Go.Deep PK
attribute [local go_sem] Oper.lit Oper.litS fut_fut fut_drew World.cell?_alloc_some
attribute [local go_sem] World.frozen?_setCell
theorem QK.setOther {L : LP} {F : Nat → Bool} {nd : Int} {cb : Nat} {w : World} {qb mb B : Nat} {v : Value} {H : Nat → EK} {m nx : Nat} (h : QK L F nd cb w qb mb B v H m nx) {a : Addr} (ha : ∀ k, SQ qb mb v k = true → k ≠ a.block) (hF : F a.block = false) (u : Value) : QK L F nd cb (w.setCell a u) qb mb B v H m nx := by
 have hk : KpF F w (w.setCell a u) := KpF.of_grown h.fb (fun k hk => by cases hk; exact hF) (grown_set w a u)
 refine ⟨h.q.setOther (ha _ sq_q) u, h.mp.setCell (ha _ sq_m) u, World.ownsRow.kept h.own (grown_set w a u) ?_, h.qB, h.mB, by rw [World.size_setCell]; exact h.sz, h.hd, h.nx1, h.mx, fun k hk => by rw [World.size_setCell]; exact h.fb k hk, h.fq, h.fm, h.fo, h.env.go hk, fun i hi => (h.tr i hi).keep hk (fun _ e => e), h.ok⟩
 cases hv : v.ownBlock with
 | none => exact .inl rfl
 | some k =>
  right
  intro e
  exact ha k (by simp [SQ, hv]) (Option.some.inj e)
theorem popK_res : Tryd.f57.results = #[.cell 2 66, .tmp 3] := by kernel_rfl
abbrev cK0 : Value := .agg #[.int .i64 0, .slice none 0 0, .int .i64 0, .int .i64 0, .slice none 0 0]
theorem PW.pop {P : EK → EK → Prop} {m : Nat} {H : Nat → EK} (h : PW P m H) (hm : 0 < m) : PW P (m - 1) (swp H 0 (m - 1)) ∧ ∀ k, k < m - 1 → P (swp H 0 (m - 1) k) (H 0) ∧ P (H 0) (swp H 0 (m - 1) k) := by
 have h2 := h.sw (i := 0) (j := m - 1) hm (by omega)
 refine ⟨fun i j hi hj hij => h2 i j (by omega) (by omega) hij, fun k hk => ?_⟩
 have e : swp H 0 (m - 1) (m - 1) = H 0 := swp_right _ _ _
 rw [← e]
 exact ⟨h2 k (m - 1) (by omega) (by omega) (by omega), h2 (m - 1) k (by omega) (by omega) (by omega)⟩
set_option maxHeartbeats 6400000 in
set_option maxRecDepth 4000 in
theorem popK_any {L : LP} {F : Nat → Bool} {nd : Int} {cb : Nat} {w : World} {qb mb B : Nat} {v : Value} {H : Nat → EK} {m nx : Nat} (hL : L.OK) (h : QK L F nd cb w qb mb B v H m nx) (hh : HeapOK (befK L.E) H m) :
  Calls Tryd.prog 57 #[.pointer (some ⟨qb, 0, none⟩)] w fun r w' => ((m = 0 ∧ r = .returned (.tuple #[cK0, .bool false]) ∧ QK L F nd cb w' qb mb B v H m nx) ∨
   (0 < m ∧ r = .returned (.tuple #[cK (H 0).c, .bool true]) ∧ ∃ v' H', QK L F nd cb w' qb mb B v' H' (m - 1) nx ∧ HeapOK (befK L.E) H' (m - 1) ∧ (∀ c, (∃ k, k < m ∧ H k = c) ↔ c = H 0 ∨ ∃ k, k < m - 1 ∧ H' k = c) ∧ (∀ P, PW P m H → PW P (m - 1) H' ∧ ∀ k, k < m - 1 → P (H' k) (H 0) ∧ P (H 0) (H' k)) ∧ v'.ownBlock = v.ownBlock)) ∧ FutS (SQ qb mb v) w w' := by
 have HLO := Lib.hid hL
 have HQ := Lib.hid h
 have HH := Lib.hid hh
 have hmx : m ≤ nx := h.mx
 have hnx1 : nx ≤ 100000000000 := h.nx1
 have HF0 := Lib.hid (show Fut w (w.alloc (.cells #[.int .i64 0, .slice none 0 0, .int .i64 0, .int .i64 0, .slice none 0 0] 66)) from (Fut.refl w).alloc _)
 have HQ0 := Lib.hid (h.go HF0.out)
 have HR0 := Lib.hid (show Blk (w.alloc (.cells #[.int .i64 0, .slice none 0 0, .int .i64 0, .int .i64 0, .slice none 0 0] 66)) w.heap.size 66 #[.int .i64 0, .slice none 0 0, .int .i64 0, .int .i64 0, .slice none 0 0] from Blk.new w _ _)
 obtain ⟨rb, hrb⟩ : ∃ q, q = w.heap.size := ⟨_, rfl⟩
 have HRB := Lib.hid hrb
 clear h hh hL
 by_cases hm : m = 0
 ·
  subst hm
  obtain ⟨VA, vc, hv, _⟩ := own_form HQ0.out.own
  have x0 := HQ0.out.q.cell (i := 1) rfl
  rw [hv] at x0
  clear hv
  go_enter Tryd.func57, Tryd.ntmps57
  go_wp2_with fail
  generalize w.alloc (.cells #[.int .i64 0, .slice none 0 0, .int .i64 0, .int .i64 0, .slice none 0 0] 66) = wa at *
  rw [← HRB.out] at HR0 ⊢
  clear hrb x0
  refine bodyPost_ret (res_cell2 popK_res _ _ rb _ _ _ _ rfl (HR0.out.alloc _) Tryd.underlying66 rfl (by kernel_rfl)) rfl ?_
  exact ⟨⟨rfl, HQ0.out.go ((Fut.refl wa).alloc _)⟩, FutS.of (HF0.out.alloc _)⟩
 ·
  obtain ⟨l, hl⟩ : ∃ l, m = l + 1 := ⟨m - 1, by omega⟩
  have hlm : (m : Int) - 1 = (l : Int) := by omega
  have HLM := Lib.hid hl
  have hm0 : 0 < m := by omega
  have wlm : IntKind.i64.wrap ((m : Int) - 1) = (l : Int) := by rw [IntKind.wrap_i64]; omega
  have hlb : l ≤ 100000000000 := by omega
  have hm9 : m - 1 = l := by omega
  obtain ⟨g, cap, rfl, hBg, hgl, hmc, hcap⟩ := HQ.out.own.form (by omega)
  have HBG := Lib.hid hBg
  have klc : l ≤ cap := by omega
  have wl2 : IntKind.i64.wrap (l : Int) = (l : Int) := by rw [IntKind.wrap_i64]; omega
  have x0 := HQ0.out.q.cell (i := 1) rfl
  obtain ⟨a0, a1, a2, a3, a4, a5, a6⟩ := HQ0.out.own.at (i := 0) (by omega)
  simp only [Nat.zero_mul, Nat.zero_add] at a0 a1 a2 a3 a4 a5 a6
  obtain ⟨e0, he0⟩ : ∃ z, z = H 0 := ⟨_, rfl⟩
  rw [← he0] at a0 a1 a2 a3 a4 a5 a6
  have HE0 := Lib.hid he0
  have hhd : 0 ≤ e0.hd ∧ e0.hd ≤ 1000000000000 := by have := HQ.out.hd 0 (by omega); rw [he0]; omega
  obtain ⟨⟨xd, ⟨xc, xs⟩, xr, xA, xo⟩, xh, xt⟩ := e0
  simp only at a0 a1 a2 a3 a4 a5 a6 hhd
  have HEH := Lib.hid hhd
  clear he0 hl hBg hgl hmc hcap hhd
  go_enter Tryd.func57, Tryd.ntmps57
  go_wp2_with fail
  generalize w.alloc (.cells #[.int .i64 0, .slice none 0 0, .int .i64 0, .int .i64 0, .slice none 0 0] 66) = wa at *
  rw [← HRB.out] at HR0 ⊢
  clear hrb
  obtain ⟨S, hS⟩ : ∃ S : Nat → Bool, S = fun q => decide (wa.heap.size ≤ q) := ⟨_, rfl⟩
  have hSl : ∀ q, q < wa.heap.size → S q = false := fun q hq => by rw [hS]; exact decide_eq_false (by omega)
  have HSO := Lib.hid (show ∀ q, wa.heap.size ≤ q → S q = true from fun q hq => by rw [hS]; exact decide_eq_true hq)
  clear hS
  have x0 := cell_futS x0 (hSl _ HQ0.out.q.lt)
  have a0 := cell_futS a0 (hSl _ (World.block_lt_of_cell? _ _ a0))
  have a1 := cell_futS a1 (hSl _ (World.block_lt_of_cell? _ _ a1))
  have a2 := cell_futS a2 (hSl _ (World.block_lt_of_cell? _ _ a2))
  have a3 := cell_futS a3 (hSl _ (World.block_lt_of_cell? _ _ a3))
  have a4 := cell_futS a4 (hSl _ (World.block_lt_of_cell? _ _ a4))
  have a5 := cell_futS a5 (hSl _ (World.block_lt_of_cell? _ _ a5))
  have a6 := cell_futS a6 (hSl _ (World.block_lt_of_cell? _ _ a6))
  clear hSl
  refine wp_region_MG (relS S) o_pqueue_Queue_kbest_candidate_Pop_3 (by kernel_rfl) (by kernel_rfl) (by intro c a d v w h; cases d <;> exact h) ?_; unfold o_pqueue_Queue_kbest_candidate_Pop_3
  iterate 12 (refine wpS_h rfl rfl (fun K hK => ?_); go_simp; refine hK _ _ ?_; clear hK K)
  refine wpG_o rfl rfl (fun K hK => ?_)
  go_simp
  refine hK _ _ (.inr ((relS S).of_fut ((Fut.refl _).alloc _))) ?_
  clear hK K x0 a0 a1 a2 a3 a4 a5 a6
  obtain ⟨p, hp⟩ : ∃ q, q = wa.heap.size := ⟨_, rfl⟩
  rw [← hp]
  have HP := Lib.hid (show Blk (wa.alloc (.cells #[.int .i64 0, .slice none 0 0, .int .i64 0, .int .i64 0, .slice none 0 0, .int .i64 0, .int .i64 0] 121)).drew p 121 #[.int .i64 0, .slice none 0 0, .int .i64 0, .int .i64 0, .slice none 0 0, .int .i64 0, .int .i64 0] from by rw [hp]; exact (Blk.new wa _ _).drew)
  have HSP := Lib.hid (show S p = true from HSO.out p (by omega))
  have HPL := Lib.hid (show wa.heap.size ≤ p from by omega)
  have HFS := Lib.hid (show Fut wa (wa.alloc (.cells #[.int .i64 0, .slice none 0 0, .int .i64 0, .int .i64 0, .slice none 0 0, .int .i64 0, .int .i64 0] 121)).drew from ((Fut.refl wa).alloc _).drew)
  clear hp
  generalize (wa.alloc (.cells #[.int .i64 0, .slice none 0 0, .int .i64 0, .int .i64 0, .slice none 0 0, .int .i64 0, .int .i64 0] 121)).drew = ws at *
  refine wpG_o rfl rfl (fun K hK => ?_)
  have u0 := HP.out.cell (i := 0) rfl
  have f0 := HP.out.fz 0
  have u1 := HP.out.cell (i := 1) rfl
  have f1 := HP.out.fz 1
  have u2 := HP.out.cell (i := 2) rfl
  have f2 := HP.out.fz 2
  have u3 := HP.out.cell (i := 3) rfl
  have f3 := HP.out.fz 3
  have u4 := HP.out.cell (i := 4) rfl
  have f4 := HP.out.fz 4
  have u5 := HP.out.cell (i := 5) rfl
  have f5 := HP.out.fz 5
  have u6 := HP.out.cell (i := 6) rfl
  have f6 := HP.out.fz 6
  go_simp
  refine hK _ _ (.inr ((relS S).trans (futS_set _ _ _ HSP.out) ((relS S).trans (futS_set _ _ _ HSP.out) ((relS S).trans (futS_set _ _ _ HSP.out) ((relS S).trans (futS_set _ _ _ HSP.out) ((relS S).trans (futS_set _ _ _ HSP.out) ((relS S).trans (futS_set _ _ _ HSP.out) (futS_set _ _ _ HSP.out)))))))) ?_
  clear hK K u0 f0 u1 f1 u2 f2 u3 f3 u4 f4 u5 f5 u6 f6
  have HP2 := Lib.hid (show Blk (((((((ws.setCell ⟨p, 0, none⟩ (.int .i64 xd.e)).setCell ⟨p, 1, none⟩ (.slice xd.A xd.k.length xd.c)).setCell ⟨p, 2, none⟩ (.int .i64 xc)).setCell ⟨p, 3, none⟩ (.int .i64 xs)).setCell ⟨p, 4, none⟩ (.slice xA xr.length xo)).setCell ⟨p, 5, none⟩ (.int .i64 xh)).setCell ⟨p, 6, none⟩ (.int .i64 xt)) p 121 #[.int .i64 xd.e, .slice xd.A xd.k.length xd.c, .int .i64 xc, .int .i64 xs, .slice xA xr.length xo, .int .i64 xh, .int .i64 xt] from ((((((HP.out.set 0 _).set 1 _).set 2 _).set 3 _).set 4 _).set 5 _).set 6 _)
  have HFZ := Lib.hid (show Fut wa (((((((ws.setCell ⟨p, 0, none⟩ (.int .i64 xd.e)).setCell ⟨p, 1, none⟩ (.slice xd.A xd.k.length xd.c)).setCell ⟨p, 2, none⟩ (.int .i64 xc)).setCell ⟨p, 3, none⟩ (.int .i64 xs)).setCell ⟨p, 4, none⟩ (.slice xA xr.length xo)).setCell ⟨p, 5, none⟩ (.int .i64 xh)).setCell ⟨p, 6, none⟩ (.int .i64 xt)) from ((((((HFS.out.setCell (p := ⟨p, 0, none⟩) HPL.out _).setCell (p := ⟨p, 1, none⟩) HPL.out _).setCell (p := ⟨p, 2, none⟩) HPL.out _).setCell (p := ⟨p, 3, none⟩) HPL.out _).setCell (p := ⟨p, 4, none⟩) HPL.out _).setCell (p := ⟨p, 5, none⟩) HPL.out _).setCell (p := ⟨p, 6, none⟩) HPL.out _)
  generalize (((((((ws.setCell ⟨p, 0, none⟩ (.int .i64 xd.e)).setCell ⟨p, 1, none⟩ (.slice xd.A xd.k.length xd.c)).setCell ⟨p, 2, none⟩ (.int .i64 xc)).setCell ⟨p, 3, none⟩ (.int .i64 xs)).setCell ⟨p, 4, none⟩ (.slice xA xr.length xo)).setCell ⟨p, 5, none⟩ (.int .i64 xh)).setCell ⟨p, 6, none⟩ (.int .i64 xt)) = wz at *
  clear HP HFS HSP HSO
  (refine wpS_h rfl rfl (fun K hK => ?_); go_simp; refine hK _ _ ?_; clear hK K)
  refine wpG_nil ?_
  have HQZ := Lib.hid (HQ0.out.go HFZ.out)
  have HRZ := Lib.hid (HR0.out.fut HFZ.out)
  have HFW := Lib.hid (show FutS (SQ qb mb (.slice (some ⟨g, 0, none⟩) m cap)) w wz from FutS.of (HF0.out.trans HFZ.out))
  have HFR := Lib.hid (show F rb = false from by
   cases e : F rb with
   | false => rfl
   | true => have := HQ.out.fb rb e; have := HRB.out; omega)
  have HPN := Lib.hid (show ∀ k, SQ qb mb (.slice (some ⟨g, 0, none⟩) m cap) k = true → k ≠ p ∧ k ≠ rb from fun k hk => by
   have h1 : k < w.heap.size := by
    simp only [SQ, Value.ownBlock, Bool.or_eq_true, beq_iff_eq, Option.some.injEq] at hk
    rcases hk with (rfl | rfl) | rfl
    ·
     exact HQ.out.q.lt
    ·
     exact HQ.out.mp.lt
    ·
     exact (World.ownsRow.lt HQ.out.own _ rfl).2
   have h2 := HRB.out
   have h3 := HPL.out
   have h4 := HF0.out.size
   exact ⟨by omega, by omega⟩)
  clear HR0 HQ0 HPL
  go_wp2_with fail
  have hsw := swapK_any HQZ.out 0 l (by omega) (by omega)
  refine Calls.mono hsw ?_
  clear hsw
  rintro r w1 ⟨rfl, hs1, hs2⟩
  have HS1 := Lib.hid hs1
  have HP3 := Lib.hid (HP2.out.futS hs2 (by cases e : SQ qb mb (.slice (some ⟨g, 0, none⟩) m cap) p with | false => rfl | true => exact absurd rfl (HPN.out _ e).1))
  have HR3 := Lib.hid (HRZ.out.futS hs2 (by cases e : SQ qb mb (.slice (some ⟨g, 0, none⟩) m cap) rb with | false => rfl | true => exact absurd rfl (HPN.out _ e).2))
  have HF1 := Lib.hid (HFW.out.trans hs2)
  clear hs1 hs2 HP2 HRZ HFW
  have x1 := HS1.out.q.cell (i := 1) rfl
  have f1 := HS1.out.q.fz 1
  go_wp2_with fail
  have HQ2 := Lib.hid (HS1.out.q.set 1 (.slice (some ⟨g, 0, none⟩) l cap))
  have HG2 := Lib.hid (grown_set w1 ⟨qb, 1, none⟩ (.slice (some ⟨g, 0, none⟩) l cap))
  have HK2 := Lib.hid (show KpF F w1 (w1.setCell ⟨qb, 1, none⟩ (.slice (some ⟨g, 0, none⟩) l cap)) from KpF.of_grown HS1.out.fb (fun k hk => by cases hk; exact HS1.out.fq) HG2.out)
  have HMS := Lib.hid (HS1.out.mp.setCell (a := ⟨qb, 1, none⟩) (Ne.symm HS1.out.ne) (.slice (some ⟨g, 0, none⟩) l cap))
  have HO2 := Lib.hid (show OwnK (w1.setCell ⟨qb, 1, none⟩ (.slice (some ⟨g, 0, none⟩) l cap)) B (.slice (some ⟨g, 0, none⟩) l cap) (swp H 0 l) l from by
   have h9 := HS1.out.own
   rw [HLM.out] at h9
   exact World.ownsRow.kept (OwnK.cut h9) (grown_set w1 ⟨qb, 1, none⟩ _) (.inr (by simp only [Value.ownBlock]; intro e; have := Option.some.inj e; have := HS1.out.qB; have := HBG.out; omega)))
  have HP4 := Lib.hid (HP3.out.setOther (a := ⟨qb, 1, none⟩) (fun e => (HPN.out qb sq_q).1 e.symm) (.slice (some ⟨g, 0, none⟩) l cap))
  have HR4 := Lib.hid (HR3.out.setOther (a := ⟨qb, 1, none⟩) (fun e => (HPN.out qb sq_q).2 e.symm) (.slice (some ⟨g, 0, none⟩) l cap))
  have HF2 := Lib.hid (futS_grown HF1.out HG2.out sq_q)
  clear HP3 HR3 HF1 x1 f1
  generalize w1.setCell ⟨qb, 1, none⟩ (.slice (some ⟨g, 0, none⟩) l cap) = w2 at *
  have HQS2 := Lib.hid (show QK L F nd cb w2 qb mb B (.slice (some ⟨g, 0, none⟩) l cap) (swp H 0 l) l nx from ⟨HQ2.out, HMS.out, HO2.out, HS1.out.qB, HS1.out.mB, Nat.le_trans HS1.out.sz HG2.out.size, fun i hi => HS1.out.hd i (by omega), hnx1, by omega, fun k hk => Nat.lt_of_lt_of_le (HS1.out.fb k hk) HG2.out.size, HS1.out.fq, HS1.out.fm, HS1.out.fo, HS1.out.env.go HK2.out, fun i hi => (HS1.out.tr i (by omega)).keep HK2.out (fun _ e => e), fun i hi => HS1.out.ok i (by omega)⟩)
  clear HQ2 HMS HO2 HG2 HK2
  have x2 := cell_fut (HQS2.out.q.cell (i := 2) rfl)
  have y5 := cell_fut (HP4.out.cell (i := 5) rfl)
  refine wp_region_M o_pqueue_Queue_kbest_candidate_Pop_6 (by kernel_rfl) (by kernel_rfl) (by intro c a d v w h; cases d <;> exact h) ?_; unfold o_pqueue_Queue_kbest_candidate_Pop_6
  iterate 6 (refine wpF_h rfl rfl (fun K hK => ?_); go_simp; refine hK _ _ ?_; clear hK K)
  refine wpF_ol rfl (by kernel_rfl) rfl (fun K hK => ?_)
  refine wp_mdel (.tmp 42) (.tmp 44) rfl rfl (b := mb) HQS2.out.mp xh rfl HEH.out.1 HEH.out.2 ?_
  intro w3 hm3 hg3
  refine hK _ _ ?_
  clear hK K x2 y5
  have hg3' : w2.grownBy w3 (some mb) := ⟨hg3.os, hg3.tape, hg3.output, hg3.size, hg3.block⟩
  have HQS3 := Lib.hid (HQS2.out.mapped hg3' hm3)
  have HF3 := Lib.hid (futS_grown HF2.out hg3' sq_m)
  have HP5 := Lib.hid (HP4.out.grown hg3' (fun e => (HPN.out mb sq_m).1 (Option.some.inj e).symm))
  have HR5 := Lib.hid (HR4.out.grown hg3' (fun e => (HPN.out mb sq_m).2 (Option.some.inj e).symm))
  clear hm3 hg3 hg3' HQS2 HF2 HP4 HR4
  refine wpF_nil ?_
  go_wp2_with fail
  have hdn := HeapOK.pop HH.out hm0
  rw [hm9] at hdn
  refine (downK_any HLO.out HQS3.out hdn).mono ?_
  clear hdn
  rintro r w4 ⟨rfl, ⟨H', hd1, hd2, hd3⟩, hd4⟩
  have hsq : ∀ k, SQ qb mb (.slice (some ⟨g, 0, none⟩) l cap) k = SQ qb mb (.slice (some ⟨g, 0, none⟩) m cap) k := fun k => rfl
  have HP6 := Lib.hid (HP5.out.futS hd4 (by cases e : SQ qb mb (.slice (some ⟨g, 0, none⟩) l cap) p with | false => rfl | true => exact absurd rfl (HPN.out _ (by rw [← hsq]; exact e)).1))
  have HR6 := Lib.hid (HR5.out.futS hd4 (by cases e : SQ qb mb (.slice (some ⟨g, 0, none⟩) l cap) rb with | false => rfl | true => exact absurd rfl (HPN.out _ (by rw [← hsq]; exact e)).2))
  have HD1 := Lib.hid (And.intro hd1 (And.intro hd2 hd3))
  have HF4 := Lib.hid (HF3.out.trans (hd4.mono (fun k hk => .inl (by rw [← hsq]; exact hk))))
  clear hd1 hd2 hd3 hd4 hsq HP5 HR5 HF3 HQS3
  have t0 := HP6.out.cell (i := 0) rfl
  have t1 := HP6.out.cell (i := 1) rfl
  have t2 := HP6.out.cell (i := 2) rfl
  have t3 := HP6.out.cell (i := 3) rfl
  have t4 := HP6.out.cell (i := 4) rfl
  have r0 := HR6.out.cell (i := 0) rfl
  have f0 := HR6.out.fz 0
  have r1 := HR6.out.cell (i := 1) rfl
  have f1 := HR6.out.fz 1
  have r2 := HR6.out.cell (i := 2) rfl
  have f2 := HR6.out.fz 2
  have r3 := HR6.out.cell (i := 3) rfl
  have f3 := HR6.out.fz 3
  have r4 := HR6.out.cell (i := 4) rfl
  have f4 := HR6.out.fz 4
  have HRR := Lib.hid (((((HR6.out.set 0 (.int .i64 xd.e)).set 1 (.slice xd.A xd.k.length xd.c)).set 2 (.int .i64 xc)).set 3 (.int .i64 xs)).set 4 (.slice xA xr.length xo))
  go_wp2_with fail
  refine bodyPost_ret (res_cell2 popK_res _ _ rb _ _ _ _ rfl HRR.out Tryd.underlying66 rfl (by kernel_rfl)) rfl ?_
  have HPN2 := Lib.hid (show ∀ k, SQ qb mb (.slice (some ⟨g, 0, none⟩) l cap) k = true → k ≠ rb from fun k hk => (HPN.out k hk).2)
  refine ⟨.inr ⟨hm0, ?_, .slice (some ⟨g, 0, none⟩) l cap, H', ?_, ?_, fun c => ?_, fun P hP => ?_, rfl⟩, ((((HF4.out.setCell (a := ⟨rb, 0, none⟩) (.inr (by rw [HRB.out]; exact Nat.le_refl _)) _).setCell (a := ⟨rb, 1, none⟩) (.inr (by rw [HRB.out]; exact Nat.le_refl _)) _).setCell (a := ⟨rb, 2, none⟩) (.inr (by rw [HRB.out]; exact Nat.le_refl _)) _).setCell (a := ⟨rb, 3, none⟩) (.inr (by rw [HRB.out]; exact Nat.le_refl _)) _).setCell (a := ⟨rb, 4, none⟩) (.inr (by rw [HRB.out]; exact Nat.le_refl _)) _⟩
  ·
   rw [← HE0.out]
   rfl
  ·
   rw [hm9]
   exact ((((HD1.out.1.setOther (a := ⟨rb, 0, none⟩) HPN2.out HFR.out _).setOther (a := ⟨rb, 1, none⟩) HPN2.out HFR.out _).setOther (a := ⟨rb, 2, none⟩) HPN2.out HFR.out _).setOther (a := ⟨rb, 3, none⟩) HPN2.out HFR.out _).setOther (a := ⟨rb, 4, none⟩) HPN2.out HFR.out _
  ·
   rw [hm9]; exact HD1.out.2.1
  ·
   rw [pop_mem H hm0 c, hm9, HD1.out.2.2.1 c]
  ·
   have h9 := hP.pop hm0
   rw [hm9] at h9 ⊢
   refine ⟨HD1.out.2.2.2 P h9.1, fun k hk => ?_⟩
   obtain ⟨k', hk', e⟩ := (HD1.out.2.2.1 (H' k)).2 ⟨k, hk, rfl⟩
   rw [← e]
   exact h9.2 k' hk'
end Go.Proofs.YtajbmdjlfniofaaDoor
