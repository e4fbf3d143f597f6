/-
  Texts joined: Hypergraphs: how one lies in memory; its validity as plain mathematics; Blocks of cells of the call's own: what they hold, what keeps it; Values of derivations in memory; Less, Combine; Combine, as the program and as the reference have it; Rows of values; the value that a hyperedge offers (the solver's combine); One element appended to a slice of the call's own; the reference's Tails.
-/
import Derived.Test.YtajbmdjlfniofaaDoorBA
import Derived.Test.YtajbmdjlfniofaaDoorBB
import Derived.Test.YtajbmdjlfniofaaDoorProg
import Derived.Handy
import Derived.Deep.RegionHeld
import Derived.LoopTactic
import Derived.WalkKit
import Derived.WalkSpells
import Derived.WalkLawsBesides
import Derived.BigQuiet
import Derived.Deep.Heap
import Derived.Laws.Rows
import Derived.Laws.AppendOwn
import Derived.Maps.Own
import Derived.Deep.OwnRows
import Derived.Deep.AppendLies
/-
  Hypergraphs: how one lies in memory; its validity as plain mathematics.
-/
namespace Go.Proofs.YtajbmdjlfniofaaDoor
open Go.RowKit
attribute [local go_sem] Oper.lit fut_fut fut_drew World.cell?_alloc_some
/-- a hyperedge, and where its tails lie -/
structure EI where
 h : Int
 t : List Int
 c : Int
 l0 : Int
 l1 : Int
 A : Option Addr
 k : Nat
def encE (e : EI) : List Value := [.int .i64 e.h, .slice e.A e.t.length e.k, .int .i64 e.c, .int .i64 e.l0, .int .i64 e.l1]
def RdE (w : World) (A : Option Addr) (es : List EI) : Prop := RdS w A 5 encE es ∧ ∀ e ∈ es, Rd1 w e.A (.int .i64 ·) e.t ∧ e.t.length ≤ maxLen
theorem RdE.fut {w w' : World} {A : Option Addr} {es : List EI} (h : RdE w A es) (hf : Fut w w') : RdE w' A es :=
 ⟨h.1.fut hf, fun e he => ⟨(h.2 e he).1.fut hf, (h.2 e he).2⟩⟩
abbrev hv (N : Int) (A : Option Addr) (n c : Nat) : Value := .agg #[.int .i64 N, .slice A n c]
def inB' (N x : Int) : Bool := decide (0 ≤ x) && decide (x < N)
def okE (N : Int) (e : EI) : Bool := inB' N e.h && decide (0 ≤ e.c) && decide (e.c ≤ 1099511627776) && e.t.all (inB' N)
def validB (N : Int) (es : List EI) : Bool := decide (1 ≤ N) && decide (N ≤ 1048576) && es.all (okE N)
def smallB (N : Int) (es : List EI) : Bool := decide (N ≤ 30) && decide (es.length ≤ 60) && es.all (fun e => decide (e.t.length ≤ 4)) && validB N es

theorem take_all {α : Type} {p : α → Bool} {l : List α} {k : Nat} {x : α} (h : (l.take k).all p = true) (hx : l[k]? = some x) (hp : p x = true) : (l.take (k + 1)).all p = true := by
 rw [List.take_add_one, hx, List.all_append, h]; simp [hp]
theorem all_not {α : Type} {p : α → Bool} {l : List α} {k : Nat} {x : α} (hx : l[k]? = some x) (hp : p x = false) : l.all p = false :=
 List.all_eq_false.2 ⟨x, List.mem_of_getElem? hx, by simp [hp]⟩
theorem all_take {α : Type} {p : α → Bool} {l : List α} {k : Nat} (h : (l.take k).all p = true) (hk : l.length ≤ k) : l.all p = true := by
 rwa [List.take_of_length_le hk] at h
theorem get_lt {α : Type} {l : List α} {k n : Nat} (hl : l.length = n) (hk : k < n) : ∃ x, l[k]? = some x := ⟨_, List.getElem?_eq_getElem (by omega)⟩
/-- the same, in plain mathematics -/
def toEE (e : EI) : PK.EE := ⟨e.h.toNat, e.t.map Int.toNat, e.c⟩
abbrev EEs (es : List EI) : List PK.EE := es.map toEE
theorem okE_parts {N : Int} {e : EI} (h : okE N e = true) : 0 ≤ e.h ∧ e.h < N ∧ 0 ≤ e.c ∧ e.c ≤ 1099511627776 ∧ ∀ t ∈ e.t, 0 ≤ t ∧ t < N := by
 simp only [okE, inB', Bool.and_eq_true, decide_eq_true_eq, List.all_eq_true] at h
 exact ⟨h.1.1.1.1, h.1.1.1.2, h.1.1.2, h.1.2, fun t ht => h.2 t ht⟩
theorem validB_parts {N : Int} {es : List EI} (h : validB N es = true) : 1 ≤ N ∧ N ≤ 1048576 ∧ ∀ e ∈ es, okE N e = true := by
 simp only [validB, Bool.and_eq_true, decide_eq_true_eq, List.all_eq_true] at h
 exact ⟨h.1.1, h.1.2, h.2⟩
theorem EEs_ok {N : Int} {es : List EI} (h : validB N es = true) : ∀ e ∈ EEs es, PK.okE e := by
 intro e he
 obtain ⟨x, hx, rfl⟩ := List.mem_map.1 he
 obtain ⟨_, _, h3, h4, _⟩ := okE_parts ((validB_parts h).2.2 x hx)
 exact ⟨h3, h4⟩
end Go.Proofs.YtajbmdjlfniofaaDoor
/-
  Blocks of cells of the call's own: what they hold, what keeps it.
-/
namespace Go.Proofs.YtajbmdjlfniofaaDoor
open Go.RowKit Go.Deep
theorem heap_new' (w : World) (o : Obj) (b : Nat) (h : b = w.heap.size) : (w.alloc o).heap[b]? = some o := by subst h; exact heap_alloc_new _ _
theorem grown_set (w : World) (a : Addr) (u : Value) : w.grownBy (w.setCell a u) (some a.block) :=
 ⟨rfl, rfl, rfl, by simp [World.setCell], fun k _ hk => Below.heap_setCell w a u k (fun e => hk (by rw [e]))⟩
/-- block b of w: cells cs, none of them frozen -/
def Blk (w : World) (b : Nat) (t : TypeId) (cs : Array Value) : Prop := w.heap[b]? = some (.cells cs t (0, 0))
section
variable {w w' : World} {b : Nat} {t : TypeId} {cs : Array Value}
theorem Blk.cell (h : Blk w b t cs) {i : Nat} {v : Value} (hi : cs[i]? = some v) : w.cell? ⟨b, i, none⟩ = some v := (cell_of_row w b i _ _ _ h).trans hi
theorem Blk.fz (h : Blk w b t cs) (i : Nat) : w.frozen? ⟨b, i, none⟩ = false := by unfold Blk at h; unfold World.frozen?; rw [h]; simp
theorem Blk.lt (h : Blk w b t cs) : b < w.heap.size := (Array.getElem?_eq_some_iff.1 h).1
theorem Blk.fut (h : Blk w b t cs) (hf : Fut w w') : Blk w' b t cs := (hf.block b h.lt).trans h
theorem Blk.set (h : Blk w b t cs) (i : Nat) (v : Value) : Blk (w.setCell ⟨b, i, none⟩ v) b t (cs.setIfInBounds i v) := by
 unfold Blk at *
 simp [World.setCell, Array.getElem?_modify, h]
theorem Blk.setOther (h : Blk w b t cs) {a : Addr} (ha : b ≠ a.block) (v : Value) : Blk (w.setCell a v) b t cs := (blk_setCell_other _ _ _ _ ha).trans h
theorem Blk.alloc (h : Blk w b t cs) (o : Obj) : Blk (w.alloc o) b t cs := h.fut ((Fut.refl w).alloc o)
theorem Blk.drew (h : Blk w b t cs) : Blk w.drew b t cs := h
theorem Blk.new (w : World) (t : TypeId) (cs : Array Value) : Blk (w.alloc (.cells cs t)) w.heap.size t cs := heap_new' _ _ _ rfl
theorem Blk.grown {row : Option Nat} (h : Blk w b t cs) (hg : w.grownBy w' row) (hb : some b ≠ row) : Blk w' b t cs := (hg.block b h.lt hb).trans h
theorem Blk.futS {S : Nat → Bool} (h : Blk w b t cs) (hf : FutS S w w') (hb : S b = false) : Blk w' b t cs := (hf.block b h.lt hb).trans h
end
theorem futS_set {S : Nat → Bool} (w : World) (a : Addr) (v : Value) (h : S a.block = true) : FutS S w (w.setCell a v) :=
 ⟨rfl, rfl, rfl, by simp [World.setCell], fun k _ hk => blk_setCell_other _ _ _ _ (fun e => by rw [e, h] at hk; cases hk)⟩
/-! ### what a world leaves as it was -/
theorem FutS.cell {S : Nat → Bool} {w w' : World} (h : FutS S w w') {a : Addr} {v : Value} (hc : w.cell? a = some v) (hS : S a.block = false) : w'.cell? a = some v :=
 (World.cell?_of_block (h.block a.block (World.block_lt_of_cell? w a hc) hS)).trans hc
theorem FutS.refl {S : Nat → Bool} (w : World) : FutS S w w := (relS S).refl w
theorem FutS.trans {S : Nat → Bool} {a b c : World} (h : FutS S a b) (k : FutS S b c) : FutS S a c := (relS S).trans h k
theorem FutS.of {S : Nat → Bool} {a b : World} (k : Fut a b) : FutS S a b := (relS S).of_fut k
theorem FutS.then {S : Nat → Bool} {a b c : World} (h : FutS S a b) (k : Fut b c) : FutS S a c := (relS S).trans h ((relS S).of_fut k)
theorem FutS.alloc {S : Nat → Bool} {w w' : World} (h : FutS S w w') (o : Obj) : FutS S w (w'.alloc o) := h.then ((Fut.refl _).alloc o)
theorem FutS.drew {S : Nat → Bool} {w w' : World} (h : FutS S w w') : FutS S w w'.drew := h.then (Fut.refl _).drew
theorem FutS.grown {S : Nat → Bool} {w w' w'' : World} {row : Option Nat} (h : FutS S w w') (hg : w'.grownBy w'' row) (hr : ∀ k, row = some k → S k = true ∨ w.heap.size ≤ k) : FutS S w w'' :=
 ⟨hg.os.trans h.os, hg.tape.trans h.tape, hg.output.trans h.output, Nat.le_trans h.size hg.size, fun k hk hs =>
  (hg.block k (Nat.lt_of_lt_of_le hk h.size) (fun e => by
   rcases hr k e.symm with h1 | h1
   ·
    rw [h1] at hs; cases hs
   ·
    omega)).trans (h.block k hk hs)⟩
theorem FutS.setCell {S : Nat → Bool} {w w' : World} (h : FutS S w w') {a : Addr} (ha : S a.block = true ∨ w.heap.size ≤ a.block) (u : Value) : FutS S w (w'.setCell a u) :=
 h.grown (grown_set w' a u) (fun k hk => by rw [← Option.some.inj hk]; exact ha)
theorem FutS.fut {S : Nat → Bool} {w0 w w' : World} (h : FutS S w w') (h0 : Fut w0 w) (hS : ∀ k, S k = true → w0.heap.size ≤ k) : Fut w0 w' :=
 ⟨h.os.trans h0.os, h.tape.trans h0.tape, h.output.trans h0.output, Nat.le_trans h0.size h.size, fun k hk =>
  (h.block k (Nat.lt_of_lt_of_le hk h0.size) (by
   cases e : S k with
   | false => rfl
   | true => have := hS k e; omega)).trans (h0.block k hk)⟩
/-- what is changed is elsewhere -/
theorem FutS.mono {S T : Nat → Bool} {w w' : World} (h : FutS S w w') (hST : ∀ k, S k = true → T k = true ∨ w.heap.size ≤ k) : FutS T w w' :=
 ⟨h.os, h.tape, h.output, h.size, fun k hk hT => h.block k hk (by
  cases e : S k with
  | false => rfl
  | true =>
   rcases hST k e with h1 | h1
   ·
    rw [h1] at hT; cases hT
   ·
    omega)⟩
theorem FutS.grownS {S : Nat → Bool} {w w' : World} {row : Option Nat} (hg : w.grownBy w' row) (hr : ∀ k, row = some k → S k = true) : FutS S w w' :=
 (FutS.refl w).grown hg (fun k hk => .inl (hr k hk))
end Go.Proofs.YtajbmdjlfniofaaDoor
/-
  Values of derivations in memory; Less, Combine.
-/
namespace Go.Proofs.YtajbmdjlfniofaaDoor
open Go.RowKit PK
attribute [local go_sem] Oper.lit Oper.litS fut_fut fut_drew World.cell?_alloc_some
abbrev vv (a : VV) : Value := .agg #[.int .i64 a.c, .int .i64 a.s]
def encV (a : VV) : List Value := [.int .i64 a.c, .int .i64 a.s]
abbrev cv (n : Int) (a : VV) : Value := .agg #[.int .i64 n, .int .i64 a.c, .int .i64 a.s]
set_option maxHeartbeats 1600000 in
theorem less_any (a b : VV) (w : World) : Calls Tryd.prog 39 #[vv a, vv b] w fun e w' => e = .returned (.bool (ltV a b)) ∧ Below w.heap.size w w' := by
 obtain ⟨ac, a2⟩ := a
 obtain ⟨bc, b2⟩ := b
 go_enter Tryd.func39, Tryd.ntmps39
 go_wp2
 all_goals
  go_returns
  refine ⟨?_, ((Fut.refl _).alloc _).alloc _⟩
  first | rfl | (simp_all [ltV]; try omega)
set_option maxHeartbeats 1600000 in
theorem rless_any (a b : VV) (w : World) : Calls Tryd.prog 27 #[vv a, vv b] w fun e w' => e = .returned (.bool (ltV a b)) ∧ Below w.heap.size w w' := by
 obtain ⟨ac, a2⟩ := a
 obtain ⟨bc, b2⟩ := b
 go_enter Tryd.func27, Tryd.ntmps27
 go_wp2
 all_goals
  go_returns
  refine ⟨?_, ((Fut.refl _).alloc _).alloc _⟩
  first | rfl | (simp_all [ltV]; try omega)
theorem cless_any (n m : Int) (a b : VV) (w : World) : Calls Tryd.prog 38 #[cv n a, cv m b] w fun e w' => e = .returned (.bool (ltV a b)) ∧ Below w.heap.size w w' := by
 obtain ⟨ac, a2⟩ := a
 obtain ⟨bc, b2⟩ := b
 go_enter Tryd.func38, Tryd.ntmps38
 go_wp2_with fail
 refine (less_any ⟨ac, a2⟩ ⟨bc, b2⟩ _).mono ?_
 rintro e w1 ⟨rfl, hb⟩
 have hb' := Lib.hid (show Fut w w1 from (((Fut.refl _).alloc _).alloc _).trans hb)
 go_wp2_with fail
 go_ret
 exact ⟨rfl, hb'.out⟩
theorem comb_res : Tryd.f51.results = #[.cell 4 37] := by kernel_rfl
theorem rcomb_res : Tryd.f26.results = #[.cell 4 37] := by kernel_rfl
theorem minG {p q : Int} : (if p < q then p else q) = min p q := by split <;> omega
/-- the values so far -/
def foldV (cost : Int) (l : List VV) : Int × Int := l.foldl combG (cost, 1)
theorem foldV_succ {cost : Int} {l : List VV} {j : Nat} {v : VV} (h : l[j]? = some v) : foldV cost (l.take (j + 1)) = combG (foldV cost (l.take j)) v := by
 unfold foldV
 rw [List.take_add_one, h, List.foldl_append]; rfl
theorem foldV_bd {cost : Int} {l : List VV} (hc : 0 ≤ cost ∧ cost ≤ INF) (hl : ∀ v ∈ l, okV v) (j : Nat) : (0 ≤ (foldV cost (l.take j)).1 ∧ (foldV cost (l.take j)).1 ≤ INF) ∧ 0 ≤ (foldV cost (l.take j)).2 ∧ (foldV cost (l.take j)).2 ≤ INF := by
 have := fold_bd (l.take j) (cost, 1) (fun v hv => hl v (List.mem_of_mem_take hv)) hc.1 hc.2 (by simp) (show (1 : Int) ≤ INF by unfold INF; decide)
 unfold foldV
 simp only at this
 omega
end Go.Proofs.YtajbmdjlfniofaaDoor
/-
  Combine, as the program and as the reference have it.
-/
namespace Go.Proofs.YtajbmdjlfniofaaDoor
open Go.RowKit PK
attribute [local go_sem] Oper.lit Oper.litS fut_fut fut_drew World.cell?_alloc_some
attribute [local go_sem] World.frozen?_setCell
set_option maxHeartbeats 3200000 in
theorem combine_any (cost : Int) (A : Option Addr) (n c : Nat) (l : List VV) (w : World) (hl : l.length = n) (hn : n ≤ maxLen) (hc : 0 ≤ cost ∧ cost ≤ INF) (hok : ∀ v ∈ l, okV v) (hR : RdS w A 2 encV l) :
  Calls Tryd.prog 51 #[.int .i64 cost, .slice A n c] w fun e w' => e = .returned (vv (comb cost l)) ∧ Below w.heap.size w w' := by
 have hn' : n ≤ 9223372036854775807 := hn
 have HR := Lib.hid hR
 have HL := Lib.hid hl
 have HK := Lib.hid hok
 have HC := Lib.hid hc
 have c1 : 0 ≤ cost := hc.1
 have c2 : cost ≤ 1099511627776 := hc.2
 have c3 : min cost 1099511627776 = cost := by omega
 clear hR hl hn hok hc
 go_enter Tryd.func51, Tryd.ntmps51
 go_wp2_with fail
 have HW := Lib.hid (show Fut w ((w.alloc (.cells #[.int .i64 0, .int .i64 0] 37)).alloc (.cells #[.int .i64 cost, .int .i64 1] 37)) from ((Fut.refl w).alloc _).alloc _)
 have HZ := Lib.hid (show Blk ((w.alloc (.cells #[.int .i64 0, .int .i64 0] 37)).alloc (.cells #[.int .i64 cost, .int .i64 1] 37)) w.heap.size 37 #[.int .i64 0, .int .i64 0] from (Blk.new w _ _).alloc _)
 have HO := Lib.hid (show Blk ((w.alloc (.cells #[.int .i64 0, .int .i64 0] 37)).alloc (.cells #[.int .i64 cost, .int .i64 1] 37)) (w.heap.size + 1) 37 #[.int .i64 cost, .int .i64 1] from heap_new' _ _ _ (by simp only [World.size_alloc]))
 generalize (w.alloc (.cells #[.int .i64 0, .int .i64 0] 37)).alloc (.cells #[.int .i64 cost, .int .i64 1] 37) = wb at *
 go_loopw [13] (fun i wr => ∃ j : Nat, j ≤ n ∧ i = .int .i64 j ∧ Hid (Blk wr (w.heap.size + 1) 37 #[.int .i64 (foldV cost (l.take j)).1, .int .i64 (foldV cost (l.take j)).2] ∧ Blk wr w.heap.size 37 #[.int .i64 0, .int .i64 0] ∧ Fut w wr)) (fun i _ => n - (intOf i).toNat)
 case atStart => exact ⟨0, Nat.zero_le _, rfl, Lib.hid ⟨HO.out, HZ.out, HW.out⟩⟩
 case round =>
  obtain ⟨j, hj, rfl, HI⟩ := hrel
  obtain ⟨hb1, hb2, hF⟩ := HI.out
  have hbd := foldV_bd HC.out HK.out j
  have HBD := Lib.hid hbd
  obtain ⟨⟨p1, p2⟩, p3, p4⟩ := hbd
  clear HI
  by_cases hlt : j < n
  ·
   obtain ⟨x, hx⟩ := get_lt HL.out hlt
   have HS := Lib.hid (show Hid (foldV cost (l.take (j + 1)) = combG (foldV cost (l.take j)) x) from Lib.hid (foldV_succ hx))
   have hxo := HK.out x (List.mem_of_getElem? hx)
   obtain ⟨b, o, rfl, hc'⟩ := HR.out j x hx
   obtain ⟨xc, xs⟩ := x
   obtain ⟨x1, x2, x3, x4, _⟩ := hxo
   simp only at x1 x2 x3 x4
   unfold INF at *
   have e0 := hF.cell (hc' 0 _ (by decide) rfl)
   have e1 := hF.cell (hc' 1 _ (by decide) rfl)
   simp only [Nat.add_zero] at e0
   clear hx hc'
   generalize foldV cost (l.take j) = p at *
   obtain ⟨pa, pb⟩ := p
   simp only at *
   have g0 := hb1.cell (i := 0) rfl
   have g1 := hb1.cell (i := 1) rfl
   have g2 : ∀ o : Obj, (wr.alloc o).frozen? ⟨w.heap.size + 1, 0, none⟩ = false := fun o => (hb1.alloc o).fz 0
   have g3 : ∀ o : Obj, (wr.alloc o).frozen? ⟨w.heap.size + 1, 1, none⟩ = false := fun o => (hb1.alloc o).fz 1
   have HB1 := Lib.hid hb1
   have HB2 := Lib.hid hb2
   have HF := Lib.hid hF
   clear hb1 hb2 hF
   have HP := Lib.hid (And.intro p1 (And.intro p2 (And.intro p3 (And.intro p4 (And.intro x1 (And.intro x2 (And.intro x3 x4)))))))
   by_cases k1 : 1099511627776 < pa + xc
   all_goals by_cases k2 : 1099511627776 < pb + xs
   all_goals
    go_wp2_with fail
    refine ⟨⟨j + 1, by omega, by go_num, Lib.hid ⟨?_, ?_, ?_⟩⟩, by simp [intOf]; omega⟩
    ·
     rw [HS.out.out]
     have h9 := ((HB1.out.alloc (.cells #[.int .i64 xc, .int .i64 xs] 37)).set 0 (.int .i64 (min (pa + xc) 1099511627776))).set 1 (.int .i64 (min (pb + xs) 1099511627776))
     simp only [combG, INF]
     first
      | (rw [show min (pa + xc) 1099511627776 = pa + xc by omega, show min (pb + xs) 1099511627776 = pb + xs by omega] at h9 ⊢; exact h9)
      | (rw [show min (pa + xc) 1099511627776 = pa + xc by omega, show min (pb + xs) 1099511627776 = 1099511627776 by omega] at h9 ⊢; exact h9)
      | (rw [show min (pa + xc) 1099511627776 = 1099511627776 by omega, show min (pb + xs) 1099511627776 = pb + xs by omega] at h9 ⊢; exact h9)
      | (rw [show min (pa + xc) 1099511627776 = 1099511627776 by omega, show min (pb + xs) 1099511627776 = 1099511627776 by omega] at h9 ⊢; exact h9)
    ·
     exact ((HB2.out.alloc (.cells #[.int .i64 xc, .int .i64 xs] 37)).setOther (a := ⟨w.heap.size + 1, 0, none⟩) (by simp only; omega) _).setOther (a := ⟨w.heap.size + 1, 1, none⟩) (by simp only; omega) _
    ·
     exact ((HF.out.alloc (.cells #[.int .i64 xc, .int .i64 xs] 37)).setCell (p := ⟨w.heap.size + 1, 0, none⟩) (by simp only; omega) _).setCell (p := ⟨w.heap.size + 1, 1, none⟩) (by simp only; omega) _
  ·
   have hjn : l.take j = l := List.take_of_length_le (by rw [HL.out]; omega)
   have hcm : comb cost l = if 1099511627776 ≤ (foldV cost (l.take j)).1 then top else ⟨(foldV cost (l.take j)).1, (foldV cost (l.take j)).2⟩ := by rw [hjn]; rfl
   have HM := Lib.hid hcm
   clear hcm hjn
   unfold INF at *
   generalize foldV cost (l.take j) = p at *
   obtain ⟨pa, pb⟩ := p
   simp only at *
   have g0 := hb1.cell (i := 0) rfl
   have g1 := hb1.cell (i := 1) rfl
   have g4 := hb2.cell (i := 0) rfl
   have g5 := hb2.cell (i := 1) rfl
   have g2 := hb2.fz 0
   have g3 := hb2.fz 1
   have HB2 := Lib.hid hb2
   have HF := Lib.hid hF
   clear hb1 hb2 hF
   by_cases k1 : pa = 1099511627776
   ·
    subst k1
    go_wp2_with fail
    refine bodyPost_ret (results_cell_row comb_res _ _ w.heap.size _ _ _ _ rfl ((HB2.out.set 0 (.int .i64 1099511627776)).set 1 (.int .i64 0)) Tryd.underlying37 rfl (by kernel_rfl)) rfl ?_
    rw [HM.out]
    exact ⟨rfl, (HF.out.setCell (p := ⟨w.heap.size, 0, none⟩) (by simp only; omega) _).setCell (p := ⟨w.heap.size, 1, none⟩) (by simp only; omega) _⟩
   ·
    have k2 : ¬ 1099511627776 ≤ pa := by omega
    go_wp2_with fail
    refine bodyPost_ret (results_cell_row comb_res _ _ w.heap.size _ _ _ _ rfl ((HB2.out.set 0 (.int .i64 pa)).set 1 (.int .i64 pb)) Tryd.underlying37 rfl (by kernel_rfl)) rfl ?_
    rw [HM.out, if_neg (by omega)]
    exact ⟨rfl, (HF.out.setCell (p := ⟨w.heap.size, 0, none⟩) (by simp only; omega) _).setCell (p := ⟨w.heap.size, 1, none⟩) (by simp only; omega) _⟩
set_option maxHeartbeats 3200000 in
theorem rcombine_any (cost : Int) (A : Option Addr) (n c : Nat) (l : List VV) (w : World) (hl : l.length = n) (hn : n ≤ maxLen) (hc : 0 ≤ cost ∧ cost ≤ INF) (hok : ∀ v ∈ l, okV v) (hR : RdS w A 2 encV l) :
  Calls Tryd.prog 26 #[.int .i64 cost, .slice A n c] w fun e w' => e = .returned (vv (comb cost l)) ∧ Below w.heap.size w w' := by
 have hn' : n ≤ 9223372036854775807 := hn
 have HR := Lib.hid hR
 have HL := Lib.hid hl
 have HK := Lib.hid hok
 have HC := Lib.hid hc
 clear hR hl hn hok hc
 go_enter Tryd.func26, Tryd.ntmps26
 go_wp2_with fail
 have HW := Lib.hid (show Fut w (w.alloc (.cells #[.int .i64 0, .int .i64 0] 37)) from (Fut.refl w).alloc _)
 have HZ := Lib.hid (show Blk (w.alloc (.cells #[.int .i64 0, .int .i64 0] 37)) w.heap.size 37 #[.int .i64 0, .int .i64 0] from Blk.new w _ _)
 generalize w.alloc (.cells #[.int .i64 0, .int .i64 0] 37) = wb at *
 go_loopw [5, 6, 7] (fun x y i wr => ∃ j : Nat, j ≤ n ∧ i = .int .i64 j ∧ (∃ p : Int × Int, x = .int .i64 p.1 ∧ y = .int .i64 p.2 ∧ Hid (p = foldV cost (l.take j))) ∧ Fut wb wr) (fun _ _ i _ => n - (intOf i).toNat)
 case atStart => exact ⟨0, Nat.zero_le _, rfl, ⟨(cost, 1), rfl, rfl, Lib.hid rfl⟩, Fut.refl _⟩
 case round =>
  obtain ⟨j, hj, rfl, ⟨⟨pa, pb⟩, rfl, rfl, HP⟩, hF⟩ := hrel
  have hbd := foldV_bd HC.out HK.out j
  rw [← HP.out] at hbd
  obtain ⟨⟨p1, p2⟩, p3, p4⟩ := hbd
  simp only at p1 p2 p3 p4
  unfold INF at *
  by_cases hlt : j < n
  ·
   obtain ⟨x, hx⟩ := get_lt HL.out hlt
   have hs := foldV_succ (cost := cost) hx
   rw [← HP.out] at hs
   have HS := Lib.hid (show Hid (foldV cost (l.take (j + 1)) = combG (pa, pb) x) from Lib.hid hs)
   have hxo := HK.out x (List.mem_of_getElem? hx)
   obtain ⟨b, o, rfl, hc'⟩ := HR.out j x hx
   obtain ⟨xc, xs⟩ := x
   obtain ⟨x1, x2, x3, x4, _⟩ := hxo
   simp only at x1 x2 x3 x4
   unfold INF at *
   have e0 := cell_fut ((HW.out.trans hF).cell (hc' 0 _ (by decide) rfl))
   have e1 := cell_fut ((HW.out.trans hF).cell (hc' 1 _ (by decide) rfl))
   simp only [Nat.add_zero] at e0
   have HF := Lib.hid hF
   clear hx hc' hs hF
   have wr1 : IntKind.i64.wrap (pa + xc) = pa + xc := by simp [IntKind.wrap, IntKind.signed, IntKind.bits]; omega
   have wr2 : IntKind.i64.wrap (pb + xs) = pb + xs := by simp [IntKind.wrap, IntKind.signed, IntKind.bits]; omega
   go_wp2_with fail
   refine wp_region_M o_emendateref29_Combine_5 (by kernel_rfl) (by kernel_rfl) (by intro c a d v w h; cases d <;> exact h) ?_; unfold o_emendateref29_Combine_5
   iterate 18 (refine wpF_h rfl rfl (fun K hK => ?_); go_simp; refine hK _ _ ?_; clear hK K)
   refine wpF_nil ?_
   go_wp2_with fail
   have v1 : (if 1099511627776 < pa + xc then 1099511627776 else pa + xc) = min (pa + xc) 1099511627776 := by split <;> omega
   have v2 : (if 1099511627776 < pb + xs then 1099511627776 else pb + xs) = min (pb + xs) 1099511627776 := by split <;> omega
   simp only [v1, v2]
   exact ⟨⟨j + 1, by omega, by go_num, ⟨combG (pa, pb) ⟨xc, xs⟩, rfl, rfl, Lib.hid HS.out.out.symm⟩, HF.out.drew⟩, by simp [intOf]; omega⟩
  ·
   have hjn : l.take j = l := List.take_of_length_le (by rw [HL.out]; omega)
   have hcm : comb cost l = if 1099511627776 ≤ pa then top else ⟨pa, pb⟩ := by
    have h9 := HP.out
    rw [hjn] at h9
    unfold comb
    unfold foldV at h9
    rw [← h9]; rfl
   have HM := Lib.hid hcm
   clear hcm hjn HP
   have hb2 := HZ.out.fut hF
   have g4 := hb2.cell (i := 0) rfl
   have g5 := hb2.cell (i := 1) rfl
   have g2 := hb2.fz 0
   have g3 := hb2.fz 1
   have HB2 := Lib.hid hb2
   have HF := Lib.hid hF
   clear hb2 hF
   by_cases k1 : 1099511627776 ≤ pa
   ·
    go_wp2_with fail
    refine bodyPost_ret (results_cell_row rcomb_res _ _ w.heap.size _ _ _ _ rfl ((HB2.out.set 0 (.int .i64 1099511627776)).set 1 (.int .i64 0)) Tryd.underlying37 rfl (by kernel_rfl)) rfl ?_
    rw [HM.out, if_pos k1]
    exact ⟨rfl, ((HW.out.trans HF.out).setCell (p := ⟨w.heap.size, 0, none⟩) (by simp only; omega) _).setCell (p := ⟨w.heap.size, 1, none⟩) (by simp only; omega) _⟩
   ·
    go_wp2_with fail
    refine bodyPost_ret (results_cell_row rcomb_res _ _ w.heap.size _ _ _ _ rfl ((HB2.out.set 0 (.int .i64 pa)).set 1 (.int .i64 pb)) Tryd.underlying37 rfl (by kernel_rfl)) rfl ?_
    rw [HM.out, if_neg (by omega)]
    exact ⟨rfl, ((HW.out.trans HF.out).setCell (p := ⟨w.heap.size, 0, none⟩) (by simp only; omega) _).setCell (p := ⟨w.heap.size, 1, none⟩) (by simp only; omega) _⟩
end Go.Proofs.YtajbmdjlfniofaaDoor
/-
  Rows of values; the value that a hyperedge offers (the solver's combine).
-/
namespace Go.Proofs.YtajbmdjlfniofaaDoor
open Go.RowKit Go.Deep PK
attribute [local go_sem] Oper.lit Oper.litS fut_fut fut_drew World.cell?_alloc_some
attribute [local go_sem] World.frozen?_setCell
theorem info_vv : (Tryd.prog.info? 37).map (fun i => (i.zero, i.size, i.bytes)) = some (some (.agg #[.int .i64 0, .int .i64 0]), 2, 16) := by kernel_rfl
theorem info_int : (Tryd.prog.info? 3).map (fun i => (i.zero, i.size, i.bytes)) = some (some (.int .i64 0), 1, 8) := by kernel_rfl
theorem info_bool : (Tryd.prog.info? 4).map (fun i => (i.zero, i.size, i.bytes)) = some (some (.bool false), 1, 1) := by kernel_rfl
theorem info_sl : (Tryd.prog.info? 46).map (fun i => (i.zero, i.size, i.bytes)) = some (some (.slice none 0 0), 1, 24) := by kernel_rfl
/-- a row of values, cell by cell -/
def cellV (V : Nat → VV) (k : Nat) : Value := if k % 2 = 0 then .int .i64 (V (k / 2)).c else .int .i64 (V (k / 2)).s
abbrev RowV (w : World) (b n : Nat) (V : Nat → VV) : Prop := w.rowIs b 37 (n * 2) (cellV V)
section
variable {w w' : World} {b n : Nat} {V : Nat → VV}
theorem RowV.c (h : RowV w b n V) {i : Nat} (hi : i < n) : w.cell? ⟨b, i * 2, none⟩ = some (.int .i64 (V i).c) := by
 have := h.cell (i := i * 2) (by omega)
 rw [this]
 unfold cellV
 rw [if_pos (by omega), show i * 2 / 2 = i by omega]
theorem RowV.s (h : RowV w b n V) {i : Nat} (hi : i < n) : w.cell? ⟨b, i * 2 + 1, none⟩ = some (.int .i64 (V i).s) := by
 have := h.cell (i := i * 2 + 1) (by omega)
 rw [this]
 unfold cellV
 rw [if_neg (by omega), show (i * 2 + 1) / 2 = i by omega]
theorem RowV.set (h : RowV w b n V) (i : Nat) (x : VV) : RowV ((w.setCell ⟨b, i * 2, none⟩ (.int .i64 x.c)).setCell ⟨b, i * 2 + 1, none⟩ (.int .i64 x.s)) b n (upd V i x) := by
 refine ((World.rowIs.set h (i * 2) (.int .i64 x.c)).set (i * 2 + 1) (.int .i64 x.s)).congr (fun k hk => ?_)
 by_cases e1 : k = i * 2 + 1
 ·
  subst e1
  rw [if_pos rfl]
  unfold cellV
  rw [if_neg (by omega), show (i * 2 + 1) / 2 = i by omega, upd_same]
 ·
  rw [if_neg e1]
  by_cases e2 : k = i * 2
  ·
   subst e2
   rw [if_pos rfl]
   unfold cellV
   rw [if_pos (by omega), show i * 2 / 2 = i by omega, upd_same]
  ·
   rw [if_neg e2]
   unfold cellV
   rw [upd_other _ _ _ _ (show k / 2 ≠ i by omega)]
theorem RowV.fut (h : RowV w b n V) (hf : Fut w w') : RowV w' b n V := h.of_block (hf.block b h.lt)
theorem RowV.congr' {W : Nat → VV} (h : RowV w b n V) (e : ∀ i, i < n → V i = W i) : RowV w b n W :=
 World.rowIs.congr h (fun k hk => by unfold cellV; rw [e (k / 2) (by omega)])
theorem RowV.rd (h : RowV w b n V) : RdS w (some ⟨b, 0, none⟩) 2 encV ((List.range n).map V) := by
 intro i a hi
 rw [List.getElem?_map] at hi
 obtain ⟨k, hk, rfl⟩ := Option.map_eq_some_iff.1 hi
 have hlt := (List.getElem?_eq_some_iff.1 hk).1
 rw [List.length_range] at hlt
 rw [List.getElem?_range hlt] at hk
 obtain rfl := Option.some.inj hk
 refine ⟨b, 0, rfl, fun j u hj hu => ?_⟩
 match j, hj with
 | 0, _ =>
  simp only [encV, List.getElem?_cons_zero, Option.some.injEq] at hu
  subst hu
  have := h.c hlt
  simpa using this
 | 1, _ =>
  simp only [encV, List.getElem?_cons_succ, List.getElem?_cons_zero, Option.some.injEq] at hu
  subst hu
  have := h.s hlt
  simpa using this
end
/-- make of values -/
theorem run_make_vv (n : Nat) (hn : n ≤ 1000000000000) (w : World) : (Instr.makeSlice 56 (.int .i64 (n : Int)) (.int .i64 (n : Int))).run Tryd.prog w = .ok (.slice (some ⟨w.heap.size, 0, none⟩) n n) (w.alloc (.cells (madeCells #[.int .i64 0, .int .i64 0] (n * 2)) 37)) := by
 obtain ⟨i, hi, hzz⟩ := Option.map_eq_some_iff.1 info_vv
 simp only [Prod.mk.injEq] at hzz
 obtain ⟨hz, hs, hb⟩ := hzz
 have hr := run_make (P := Tryd.prog) w 56 37 i _ Tryd.underlying56 hi hz .i64 .i64 n n (by omega) (Int.le_refl _) (by rw [hb]; omega) (by omega)
 simp only [Int.toNat_natCast, hs] at hr
 exact hr
theorem rowV_made (w : World) (n : Nat) : RowV (w.alloc (.cells (madeCells #[.int .i64 0, .int .i64 0] (n * 2)) 37)) w.heap.size n (fun _ => ⟨0, 0⟩) := by
 refine ⟨_, blk_alloc_new _ _, size_madeCells _ _, fun k hk => ?_⟩
 unfold cellV
 have h2 : k % 2 = 0 ∨ k % 2 = 1 := by omega
 rcases h2 with h2 | h2 <;> simp [madeCells, hk, h2]
theorem scomb_res : Tryd.f43.results = #[.cell 4 37] := by kernel_rfl
set_option maxHeartbeats 3200000 in
theorem scomb_any (sb vb N : Nat) (V : Nat → VV) (e : EI) (w : World) (hs : w.cell? ⟨sb, 2, none⟩ = some (.slice (some ⟨vb, 0, none⟩) N N)) (hv : RowV w vb N V) (_hN : N ≤ 1048576) (hV : ∀ v, okV (V v)) (hc : 0 ≤ e.c ∧ e.c ≤ INF)
  (ht : ∀ t ∈ e.t, 0 ≤ t ∧ t < (N : Int)) (hl : e.t.length ≤ 1000000) (hR : Rd1 w e.A (.int .i64 ·) e.t) :
  Calls Tryd.prog 43 #[.pointer (some ⟨sb, 0, none⟩), .agg #[.int .i64 e.h, .slice e.A e.t.length e.k, .int .i64 e.c, .int .i64 e.l0, .int .i64 e.l1]] w fun r w' => r = .returned (vv (ev V (toEE e))) ∧ Below w.heap.size w w' := by
 obtain ⟨xh, xt, xc, xl0, xl1, xA, xk⟩ := e
 simp only at hc ht hl hR ⊢
 obtain ⟨n, hn⟩ : ∃ n, n = xt.length := ⟨_, rfl⟩
 rw [← hn] at hl ⊢
 have HR := Lib.hid hR
 have HT := Lib.hid ht
 have HVk := Lib.hid hV
 have HC := Lib.hid hc
 have HN := Lib.hid hn
 have hn63 : n ≤ 9223372036854775807 := by omega
 have hmk := run_make_vv n (by omega)
 have HW := Lib.hid (show Fut w ((w.alloc (.cells #[.int .i64 xh, .slice xA n xk, .int .i64 xc, .int .i64 xl0, .int .i64 xl1] 49)).alloc (.cells #[.int .i64 0, .int .i64 0] 37)) from ((Fut.refl w).alloc _).alloc _)
 clear hR ht hV hc hn
 go_enter Tryd.func43, Tryd.ntmps43
 go_wp2_with fail
 obtain ⟨wb, hwb⟩ : ∃ wb, wb = (((w.alloc (.cells #[.int .i64 xh, .slice xA n xk, .int .i64 xc, .int .i64 xl0, .int .i64 xl1] 49)).alloc (.cells #[.int .i64 0, .int .i64 0] 37)).alloc (.cells (madeCells #[.int .i64 0, .int .i64 0] (n * 2)) 37)) := ⟨_, rfl⟩
 have HF := Lib.hid (show Fut w wb from by rw [hwb]; exact HW.out.alloc _)
 have HZ := Lib.hid (show Blk wb (w.heap.size + 1) 37 #[.int .i64 0, .int .i64 0] from by rw [hwb]; exact Blk.alloc (heap_new' _ _ _ (by simp only [World.size_alloc])) _)
 have HE := Lib.hid (show wb.cell? ⟨w.heap.size, 2, none⟩ = some (.int .i64 xc) from by rw [hwb]; (repeat (first | exact (cell_al_new _ _ _ _ _ _ (by first | rfl | (simp only [World.size_alloc]))).trans rfl | refine (cell_al_old _ _ _ (by first | omega | (simp only [World.size_alloc]; omega))).trans ?_)))
 have HL := Lib.hid (show RowV wb (w.heap.size + 1 + 1) n (fun _ => ⟨0, 0⟩) from by
  rw [hwb]
  have := rowV_made ((w.alloc (.cells #[.int .i64 xh, .slice xA n xk, .int .i64 xc, .int .i64 xl0, .int .i64 xl1] 49)).alloc (.cells #[.int .i64 0, .int .i64 0] 37)) n
  simp only [World.size_alloc] at this ⊢
  exact this)
 rw [← hwb]
 clear hwb hmk
 have HS := Lib.hid hs
 have HV := Lib.hid hv
 clear hs hv
 go_loopw [15] (fun i wr => ∃ j : Nat, j ≤ n ∧ i = .int .i64 j ∧ Hid (RowV wr (w.heap.size + 1 + 1) n (fun k => if k < j then V (xt.getD k 0).toNat else ⟨0, 0⟩) ∧ Blk wr (w.heap.size + 1) 37 #[.int .i64 0, .int .i64 0] ∧ wr.cell? ⟨w.heap.size, 2, none⟩ = some (.int .i64 xc) ∧ Fut w wr)) (fun i _ => n - (intOf i).toNat)
 case atStart => exact ⟨0, Nat.zero_le _, rfl, Lib.hid ⟨HL.out, HZ.out, HE.out, HF.out⟩⟩
 case round =>
  obtain ⟨j, hj, rfl, HI⟩ := hrel
  obtain ⟨hrow, hz, he, hF⟩ := HI.out
  clear HI
  by_cases hlt : j < n
  ·
   obtain ⟨x, hx⟩ := get_lt HN.out.symm hlt
   have hxr := HT.out x (List.mem_of_getElem? hx)
   obtain ⟨t, rfl⟩ : ∃ t : Nat, x = t := ⟨x.toNat, by omega⟩
   have htN : t < N := by omega
   obtain ⟨b, o, rfl, hc'⟩ := HR.out j _ hx
   have g0 := hF.cell hc'
   have g1 := hF.cell HS.out
   have g2 := (HV.out.fut hF).c htN
   have g3 := (HV.out.fut hF).s htN
   have g4 := hrow.c hlt
   have g5 := hrow.s hlt
   have g6 := World.rowIs.frozen hrow (j * 2)
   have g7 := World.rowIs.frozen hrow (j * 2 + 1)
   have HX := Lib.hid hx
   have HRW := Lib.hid hrow
   have HZ2 := Lib.hid hz
   have HE2 := Lib.hid he
   have HF2 := Lib.hid hF
   clear hx hc' hrow hz he hF hxr
   go_wp2_with fail
   refine ⟨⟨j + 1, by omega, by go_num, Lib.hid ⟨?_, ?_, ?_, ?_⟩⟩, by simp [intOf]; omega⟩
   ·
    refine (HRW.out.set j (V t)).congr' (fun k hk => ?_)
    by_cases e1 : k = j
    ·
     subst e1
     rw [upd_same, if_pos (by omega), List.getD_eq_getElem?_getD, HX.out]; rfl
    ·
     rw [upd_other _ _ _ _ e1]
     by_cases e2 : k < j
     ·
      rw [if_pos e2, if_pos (by omega)]
     ·
      rw [if_neg e2, if_neg (by omega)]
   ·
    exact (HZ2.out.setOther (a := ⟨w.heap.size + 1 + 1, j * 2, none⟩) (by simp only; omega) _).setOther (a := ⟨w.heap.size + 1 + 1, j * 2 + 1, none⟩) (by simp only; omega) _
   ·
    exact (World.cell?_setCell_far _ ⟨w.heap.size + 1 + 1, j * 2 + 1, none⟩ _ _ (by simp only; omega)).trans ((World.cell?_setCell_far _ ⟨w.heap.size + 1 + 1, j * 2, none⟩ _ _ (by simp only; omega)).trans HE2.out)
   ·
    exact (HF2.out.setCell (p := ⟨w.heap.size + 1 + 1, j * 2, none⟩) (by simp only; omega) _).setCell (p := ⟨w.heap.size + 1 + 1, j * 2 + 1, none⟩) (by simp only; omega) _
  ·
   have hjn : j = n := by omega
   have hls : (List.range n).map (fun k => if k < j then V (xt.getD k 0).toNat else (⟨0, 0⟩ : VV)) = (xt.map Int.toNat).map V := by
    apply List.ext_getElem?
    intro k
    rw [List.getElem?_map, List.getElem?_map, List.getElem?_map]
    by_cases hk : k < n
    ·
     obtain ⟨x, hx⟩ := get_lt HN.out.symm hk
     rw [List.getElem?_range hk, hx]
     simp [show k < j by omega, List.getD_eq_getElem?_getD, hx]
    ·
     rw [List.getElem?_eq_none (by simp; omega), List.getElem?_eq_none (by rw [← HN.out]; omega)]; rfl
   have hrd := hrow.rd
   rw [hls] at hrd
   have hok : ∀ v ∈ (xt.map Int.toNat).map V, okV v := fun v hv => by
    obtain ⟨t, _, rfl⟩ := List.mem_map.1 hv
    exact HVk.out t
   have HCO := Lib.hid (combine_any xc (some ⟨w.heap.size + 1 + 1, 0, none⟩) n n ((xt.map Int.toNat).map V) wr (by rw [List.length_map, List.length_map, HN.out]) (by unfold maxLen; omega) HC.out hok hrd)
   generalize hcv : comb xc ((xt.map Int.toNat).map V) = z at HCO
   have HCV := Lib.hid hcv
   obtain ⟨zc, zs⟩ := z
   have HZ2 := Lib.hid hz
   have HF2 := Lib.hid hF
   clear hls hrd hok hrow hz hF hcv
   go_wp2_with fail
   refine HCO.out.mono ?_
   rintro r w1 ⟨rfl, hb⟩
   have f1 : Fut wr w1 := hb
   have hz1 := HZ2.out.fut f1
   have g4 := hz1.cell (i := 0) rfl
   have g5 := hz1.cell (i := 1) rfl
   have g2 := hz1.fz 0
   have g3 := hz1.fz 1
   have HZ3 := Lib.hid hz1
   have HF3 := Lib.hid (HF2.out.trans f1)
   clear hb f1 hz1
   go_wp2_with fail
   refine bodyPost_ret (results_cell_row scomb_res _ _ (w.heap.size + 1) _ _ _ _ rfl ((HZ3.out.set 0 (.int .i64 zc)).set 1 (.int .i64 zs)) Tryd.underlying37 rfl (by kernel_rfl)) rfl ?_
   exact ⟨by rw [show ev V (toEE ⟨xh, xt, xc, xl0, xl1, xA, xk⟩) = ⟨zc, zs⟩ from HCV.out]; rfl, (HF3.out.setCell (p := ⟨w.heap.size + 1, 0, none⟩) (by simp only; omega) _).setCell (p := ⟨w.heap.size + 1, 1, none⟩) (by simp only; omega) _⟩
end Go.Proofs.YtajbmdjlfniofaaDoor
/-
  One element appended to a slice of the call's own; the reference's Tails.
-/
namespace Go.Proofs.YtajbmdjlfniofaaDoor
open Go.RowKit Go.Deep PK
attribute [local go_sem] Oper.lit Oper.litS fut_fut fut_drew World.cell?_alloc_some
section
variable {w : World} {o : Oper} {a : Act} {Q : Exit → Act → World → Prop}
theorem wp_push {K : Act → World → Prop} (T E : TypeId) (sz bytes : Nat) (zero : Value) (hT : Tryd.prog.underlying T = some (.slice E)) (hinfo : (Tryd.prog.info? E).map (fun i => (i.zero, i.size, i.bytes)) = some (some zero, sz, bytes)) (hzs : zero.cells.size = sz) (hsz : 0 < sz) (hby : bytes ≤ 100)
  (s x : Operand) (ho : o.op = .call { callee := .builtin .append, args := #[s, x], argTypes := #[T, T] })
  (base : Nat) (v : Value) (n : Nat) (xs : List Value) (hs : a.eval s = v) (hown : w.ownsRow base E sz v n xs) (b : Nat) (cs : List Value) (hx : a.eval x = .slice (some ⟨b, 0, none⟩) 1 1) (hb : w.heap[b]? = some (.cells cs.toArray E (0, 0))) (hcl : cs.length = sz) (h1 : ∀ u ∈ cs, u.oneCell' = true)
  (hn : n ≤ 1000000000000) (hbase : base ≤ w.heap.size)
  (h : ∀ g cap w', w'.ownsRow base E sz (.slice (some ⟨g, 0, none⟩) (n + 1) cap) (n + 1) (xs ++ cs) → w.grownBy w' v.ownBlock → (v.ownBlock = some g ∨ g = w.heap.size) → K (a.put o.dst (.slice (some ⟨g, 0, none⟩) (n + 1) cap)) w') : o.wp Tryd.prog a w K Q := by
 obtain ⟨i, hi, hzz⟩ := Option.map_eq_some_iff.1 hinfo
 simp only [Prod.mk.injEq] at hzz
 obtain ⟨hz, hs1, hb1⟩ := hzz
 refine wp_append_lies w s x T ho base E i zero sz bytes hT hi hz hs1 hb1 hzs hsz v n xs hs hown ⟨b, 0, none⟩ 1 1 cs hx (by omega) ?_ h1 (by decide) (by unfold maxLen; omega) ?_ hbase w.heap.size rfl (fun g cap w' h2 h3 h4 _ => h g cap w' h2 h3 h4)
 ·
  intro j u hj
  have h9 := World.news_of_block (cs := cs.toArray) hb
  exact h9 j u (by simpa using hj)
 ·
  have : (n + 1) * bytes ≤ (n + 1) * 100 := Nat.mul_le_mul_left _ hby
  omega
theorem wpList_push {ops : Array Oper} {rest : List Oper} (hgd : o.guard = none) (T E : TypeId) (sz bytes : Nat) (zero : Value) (hT : Tryd.prog.underlying T = some (.slice E)) (hinfo : (Tryd.prog.info? E).map (fun i => (i.zero, i.size, i.bytes)) = some (some zero, sz, bytes)) (hzs : zero.cells.size = sz) (hsz : 0 < sz) (hby : bytes ≤ 100)
  (s x : Operand) (ho : o.op = .call { callee := .builtin .append, args := #[s, x], argTypes := #[T, T] })
  (base : Nat) (v : Value) (n : Nat) (xs : List Value) (hs : a.eval s = v) (hown : w.ownsRow base E sz v n xs) (b : Nat) (cs : List Value) (hx : a.eval x = .slice (some ⟨b, 0, none⟩) 1 1) (hb : w.heap[b]? = some (.cells cs.toArray E (0, 0))) (hcl : cs.length = sz) (h1 : ∀ u ∈ cs, u.oneCell' = true)
  (hn : n ≤ 1000000000000) (hbase : base ≤ w.heap.size)
  (h : ∀ g cap w', w'.ownsRow base E sz (.slice (some ⟨g, 0, none⟩) (n + 1) cap) (n + 1) (xs ++ cs) → w.grownBy w' v.ownBlock → (v.ownBlock = some g ∨ g = w.heap.size) → wpList Tryd.prog ops Q rest (a.put o.dst (.slice (some ⟨g, 0, none⟩) (n + 1) cap)) w') : wpList Tryd.prog ops Q (o :: rest) a w :=
 wpList_plain hgd fun _ hK => wp_push T E sz bytes zero hT hinfo hzs hsz hby s x ho base v n xs hs hown b cs hx hb hcl h1 hn hbase fun g cap w' h2 h3 h4 => hK _ _ (h g cap w' h2 h3 h4)
end
theorem encV_len (a : VV) : (encV a).length = 2 := rfl
theorem own_form {w : World} {B sz n : Nat} {E : TypeId} {v : Value} {xs : List Value} (h : w.ownsRow B E sz v n xs) : ∃ A c, v = .slice A n c ∧ (A = none → n = 0) := by
 obtain ⟨_, ⟨hv, hn⟩ | ⟨g, cap, cur, hv, _⟩⟩ := h
 ·
  exact ⟨none, 0, by rw [hv, hn], fun _ => hn⟩
 ·
  exact ⟨_, _, hv, fun e => by cases e⟩
set_option maxHeartbeats 3200000 in
theorem rtails_any (vb N : Nat) (V : Nat → VV) (e : EI) (w : World) (hv : RowV w vb N V) (_hN : N ≤ 1048576)
  (ht : ∀ t ∈ e.t, 0 ≤ t ∧ t < (N : Int)) (hl : e.t.length ≤ 1000000) (hR : Rd1 w e.A (.int .i64 ·) e.t) :
  Calls Tryd.prog 45 #[.agg #[.int .i64 e.h, .slice e.A e.t.length e.k, .int .i64 e.c, .int .i64 e.l0, .int .i64 e.l1], .slice (some ⟨vb, 0, none⟩) N N] w fun r w' => (∃ A c, r = .returned (.slice A e.t.length c) ∧ RdS w' A 2 encV ((e.t.map Int.toNat).map V)) ∧ Below w.heap.size w w' := by
 obtain ⟨xh, xt, xc, xl0, xl1, xA, xk⟩ := e
 simp only at ht hl hR ⊢
 obtain ⟨n, hn⟩ : ∃ n, n = xt.length := ⟨_, rfl⟩
 rw [← hn] at hl ⊢
 have HT := Lib.hid ht
 have HN := Lib.hid hn
 have hn63 : n ≤ 9223372036854775807 := by omega
 have HW := Lib.hid (show Fut w (w.alloc (.cells #[.int .i64 xh, .slice xA n xk, .int .i64 xc, .int .i64 xl0, .int .i64 xl1] 49)) from (Fut.refl w).alloc _)
 have HR := Lib.hid (hR.fut HW.out)
 have HV := Lib.hid (hv.fut HW.out)
 have q1 : ∀ dd os, (fut (w.alloc (.cells #[.int .i64 xh, .slice xA n xk, .int .i64 xc, .int .i64 xl0, .int .i64 xl1] 49)) dd os).cell? ⟨w.heap.size, 1, none⟩ = some (.slice xA n xk) := cell_fut (by (repeat (first | exact (cell_al_new _ _ _ _ _ _ (by first | rfl | (simp only [World.size_alloc]))).trans rfl | refine (cell_al_old _ _ _ (by first | omega | (simp only [World.size_alloc]; omega))).trans ?_)))
 clear hR ht hn hv
 go_enter Tryd.func45, Tryd.ntmps45
 go_wp2_with fail
 have HB0 := Lib.hid (show w.heap.size + 1 ≤ (w.alloc (.cells #[.int .i64 xh, .slice xA n xk, .int .i64 xc, .int .i64 xl0, .int .i64 xl1] 49)).heap.size from by rw [World.size_alloc]; omega)
 generalize w.alloc (.cells #[.int .i64 xh, .slice xA n xk, .int .i64 xc, .int .i64 xl0, .int .i64 xl1] 49) = wb at *
 go_loopw [5, 6] (fun x i wr => ∃ j : Nat, j ≤ n ∧ i = .int .i64 j ∧ Hid (wr.ownsRow wb.heap.size 37 2 x j (((xt.take j).map (fun t => V t.toNat)).flatMap encV)) ∧ Fut wb wr) (fun _ i _ => n - (intOf i).toNat)
 case atStart => exact ⟨0, Nat.zero_le _, rfl, Lib.hid (World.ownsRow_nil _ _ _ _), Fut.refl _⟩
 case round =>
  obtain ⟨j, hj, rfl, HO, hF⟩ := hrel
  obtain ⟨dd, oo, rfl⟩ := fut_of hF
  by_cases hlt : j < n
  ·
   obtain ⟨y, hy⟩ := get_lt HN.out.symm hlt
   have hyr := HT.out y (List.mem_of_getElem? hy)
   obtain ⟨t, rfl⟩ : ∃ t : Nat, y = t := ⟨y.toNat, by omega⟩
   have htN : t < N := by omega
   obtain ⟨b, o, rfl, hc'⟩ := HR.out j _ hy
   have g0 := hF.cell hc'
   have g2 := (HV.out.fut hF).c htN
   have g3 := (HV.out.fut hF).s htN
   have HY := Lib.hid hy
   have HFF := Lib.hid hF
   clear hy hc' hyr hF
   obtain ⟨XA, Xc, rfl, _⟩ := own_form HO.out
   have hown := World.ownsRow.alloc HO.out (.cells #[.int .i64 (V t).c, .int .i64 (V t).s] 37)
   have hfo : Fut wb ((fut wb dd oo).alloc (.cells #[.int .i64 (V t).c, .int .i64 (V t).s] 37)) := HFF.out.alloc _
   have HOW := Lib.hid hown
   have HFO := Lib.hid hfo
   clear hown hfo
   go_wp2_with (at_builtin; refine wpList_push rfl 56 37 2 16 _ Tryd.underlying56 info_vv rfl (by decide) (by decide) (.tmp 14) (.tmp 23) rfl wb.heap.size (.slice XA j Xc) j _ rfl HOW.out (fut wb dd oo).heap.size [.int .i64 (V t).c, .int .i64 (V t).s] rfl (heap_new' _ _ _ rfl) rfl (by simp [Value.oneCell']) (by omega) HFO.out.size ?_; intro g cap w' h1 h2 h3)
   refine ⟨⟨j + 1, by omega, by go_num, Lib.hid ?_, Below.grown HFO.out h2 HFO.out.size (fun q hq => (World.ownsRow.lt HOW.out q hq).1)⟩, by simp [intOf]; omega⟩
   rw [List.take_add_one, HY.out, List.map_append, List.flatMap_append]
   exact h1
  ·
   have hjn : j = n := by omega
   have HJ := Lib.hid hjn
   have hl9 : xt.take j = xt := List.take_of_length_le (by rw [← HN.out]; omega)
   have HL9 := Lib.hid hl9
   obtain ⟨XA, Xc, rfl, _⟩ := own_form HO.out
   have HFF := Lib.hid hF
   clear hjn hl9 hF
   go_wp2_with fail
   go_ret
   refine ⟨⟨XA, Xc, by rw [HJ.out]; rfl, ?_⟩, HW.out.trans HFF.out⟩
   have h9 := HO.out
   rw [HL9.out] at h9
   have h8 := RdS.of_own (enc := encV) encV_len (by decide) h9
   rw [List.map_map]
   exact h8
end Go.Proofs.YtajbmdjlfniofaaDoor
