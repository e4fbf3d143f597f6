/-
  Derivations: how a tree lies in memory; Size and Equal of the reference.
-/
import Derived.Test.YtfaekfonemobcaaKyp
namespace Go.Proofs.Ytfaekfonemobcaa
open Go.RowKit
attribute [local go_sem] Oper.lit Oper.litS fut_fut fut_drew World.cell?_alloc_some
/-- a tree, and where the kids of each node lie -/
inductive DI where
  | node (e : Int) (A : Option Addr) (c : Nat) (k : List DI)
def DI.e : DI → Int
  | .node e _ _ _ => e
def DI.A : DI → Option Addr
  | .node _ A _ _ => A
def DI.c : DI → Nat
  | .node _ _ c _ => c
def DI.k : DI → List DI
  | .node _ _ _ k => k
theorem DI.ind {P : DI → Prop} (h : ∀ e A c k, (∀ d ∈ k, P d) → P (.node e A c k)) : ∀ d, P d
  | .node e A c k => h e A c k (fun d _hd => DI.ind h d)
termination_by d => SizeOf.sizeOf d
decreasing_by
  have := List.sizeOf_lt_of_mem _hd
  simp
  omega
def encD (d : DI) : List Value := [.int .i64 d.e, .slice d.A d.k.length d.c]
abbrev dv (d : DI) : Value := .agg #[.int .i64 d.e, .slice d.A d.k.length d.c]
mutual
def toDT : DI → PK.DT
  | .node e _ _ k => .node e (toDTs k)
def toDTs : List DI → List PK.DT
  | [] => []
  | d :: k => toDT d :: toDTs k
end
theorem toDTs_map : ∀ k, toDTs k = k.map toDT
  | [] => by rw [toDTs]; rfl
  | d :: k => by rw [toDTs, toDTs_map k]; rfl
theorem toDT_eq (e : Int) (A : Option Addr) (c : Nat) (k : List DI) : toDT (.node e A c k) = .node e (k.map toDT) := by rw [toDT, toDTs_map]
/-- the tree lies in memory -/
inductive RdD (w : World) : DI → Prop
  | mk {e : Int} {A : Option Addr} {c : Nat} {k : List DI} (hS : RdS w A 2 encD k) (hl : k.length ≤ maxLen) (hk : ∀ d ∈ k, RdD w d) : RdD w (.node e A c k)
theorem RdD.parts {w : World} {e : Int} {A : Option Addr} {c : Nat} {k : List DI} (h : RdD w (.node e A c k)) : RdS w A 2 encD k ∧ k.length ≤ maxLen ∧ ∀ d ∈ k, RdD w d := by
  cases h with
  | mk hS hl hk => exact ⟨hS, hl, hk⟩
theorem RdD.fut {w w' : World} {d : DI} (h : RdD w d) (hf : Fut w w') : RdD w' d := by
  induction d using DI.ind with
  | h e A c k ih =>
    obtain ⟨h1, h2, h3⟩ := h.parts
    exact .mk (h1.fut hf) h2 (fun x hx => ih x hx (h3 x hx))
set_option maxHeartbeats 1600000 in
theorem size_any (d : DI) : ∀ w, RdD w d → Calls Try.prog 24 #[dv d] w fun r w' => (∃ m, r = .returned (.int .i64 m)) ∧ Below w.heap.size w w' := by
  induction d using DI.ind with
  | h e A c k ih =>
    intro w hR
    obtain ⟨hS, hkl, hK⟩ := hR.parts
    have HS := Lib.hid hS
    have HK := Lib.hid hK
    have HI := Lib.hid ih
    obtain ⟨n, hn⟩ : ∃ n, k.length = n := ⟨_, rfl⟩
    have hn63 : n ≤ 9223372036854775807 := hn ▸ hkl
    have HL := Lib.hid hn
    simp only [dv, DI.e, DI.A, DI.c, DI.k, hn]
    clear hS hK hR ih hkl hn
    have q1 : ∀ dd os, (fut (w.alloc (.cells #[.int .i64 e, .slice A n c] 27)) dd os).cell? ⟨w.heap.size, 1, none⟩ = some (.slice A n c) := cell_fut (by (repeat (first | exact (cell_al_new _ _ _ _ _ _ (by first | rfl | (simp only [World.size_alloc]))).trans rfl | refine (cell_al_old _ _ _ (by first | omega | (simp only [World.size_alloc]; omega))).trans ?_)))
    have HF := Lib.hid (show Fut w (w.alloc (.cells #[.int .i64 e, .slice A n c] 27)) from (Fut.refl w).alloc _)
    go_enter Try.func24, Try.ntmps24
    go_wp2_with fail
    generalize w.alloc (.cells #[.int .i64 e, .slice A n c] 27) = wb at *
    go_loopw [3, 4] (fun x i wr => ∃ j : Nat, j ≤ n ∧ i = .int .i64 j ∧ (∃ m, x = .int .i64 m) ∧ Fut wb wr) (fun _ i _ => n - (intOf i).toNat)
    case atStart => exact ⟨0, Nat.zero_le _, rfl, ⟨1, rfl⟩, Fut.refl _⟩
    case round =>
      obtain ⟨j, hj, rfl, ⟨m, rfl⟩, hF⟩ := hrel
      obtain ⟨dd, oo, rfl⟩ := fut_of hF
      have HF2 := Lib.hid hF
      by_cases hlt : j < n
      · obtain ⟨x, hx⟩ := get_lt HL.out hlt
        obtain ⟨b, o, rfl, hc⟩ := HS.out j x hx
        have HM := Lib.hid (List.mem_of_getElem? hx)
        have c0 := hF.cell (HF.out.cell (hc 0 _ (by decide) rfl))
        have c1 := hF.cell (HF.out.cell (hc 1 _ (by decide) rfl))
        simp only [Nat.add_zero] at c0
        have HC := Lib.hid (HI.out x HM.out _ (((HK.out x HM.out).fut HF.out).fut hF))
        clear hx hc hF
        obtain ⟨xe, xA, xc, xk⟩ := x
        simp only [DI.e, DI.A, DI.c, DI.k] at c0 c1
        go_wp2_with fail
        refine HC.out.mono ?_
        rintro r w1 ⟨⟨m2, rfl⟩, hb⟩
        have f1 : Fut _ w1 := hb
        have HF3 := Lib.hid (HF2.out.trans f1)
        clear hb f1
        go_wp2_with fail
        exact ⟨⟨j + 1, by omega, by go_num, ⟨_, rfl⟩, HF3.out⟩, by simp [intOf]; omega⟩
      · go_wp2_with fail
        go_ret
        exact ⟨⟨m, rfl⟩, HF.out.trans (Fut.fut _ _ _)⟩
end Go.Proofs.Ytfaekfonemobcaa
