/-
  What the laws ask of a case: that it is small.
-/
import Derived.Test.YtfaekfonemobcaaD13
import Derived.Test.YtfaekfonemobcaaD14
namespace Go.Proofs.Ytfaekfonemobcaa
open Go.RowKit Go.Deep PK
attribute [local go_sem] Oper.lit Oper.litS fut_fut fut_drew World.cell?_alloc_some
def Fair (N : Int) (es : List EI) : Prop := smallB N es = true ∧ ∃ V, Sol (EEs es) V ∧ ∀ i, (V i).s ≤ 1000
set_option maxHeartbeats 6400000 in
theorem fair_any (N : Int) (A : Option Addr) (n c : Nat) (es : List EI) (root : Int) (a b d : DI) (w : World) (hl : es.length = n) (hn : n ≤ maxLen) (hR : RdE w A es) (ha : RdD w a) (hb : RdD w b) (hd : RdD w d) :
    Calls Try.prog 11 #[xv N A n c root a b d] w fun r w' => (∃ q, r = .returned (.bool q) ∧ (q = true → Fair N es)) ∧ Below w.heap.size w w' := by
  have HSH := Lib.hid (fun w' (hf : Fut w w') => short_any N A n c es hl hn w' (hR.fut hf))
  have HSA := Lib.hid (fun w' (hf : Fut w w') => size_any a w' (ha.fut hf))
  have HSB := Lib.hid (fun w' (hf : Fut w w') => size_any b w' (hb.fut hf))
  have HSD := Lib.hid (fun w' (hf : Fut w w') => size_any d w' (hd.fut hf))
  clear hl hn hR ha hb hd
  obtain ⟨ae, aA, ac, ak⟩ := a
  obtain ⟨be, bA, bc, bk⟩ := b
  obtain ⟨de, dA, dc, dk⟩ := d
  simp only [xv, dv, DI.e, DI.A, DI.c, DI.k] at *
  generalize ak.length = am at *
  generalize bk.length = bm at *
  generalize dk.length = dm at *
  obtain ⟨wb, hwb⟩ : ∃ wb, wb = w.alloc (.cells #[.int .i64 N, .slice A n c, .int .i64 root, .int .i64 ae, .slice aA am ac, .int .i64 be, .slice bA bm bc, .int .i64 de, .slice dA dm dc] 29) := ⟨_, rfl⟩
  have HF := Lib.hid (show Fut w wb from by rw [hwb]; exact (Fut.refl w).alloc _)
  have HB := Lib.hid (show Blk wb w.heap.size 29 #[.int .i64 N, .slice A n c, .int .i64 root, .int .i64 ae, .slice aA am ac, .int .i64 be, .slice bA bm bc, .int .i64 de, .slice dA dm dc] from by rw [hwb]; exact heap_new' _ _ _ rfl)
  go_enter Try.func11, Try.ntmps11
  go_wp2_with fail
  rw [← hwb]
  clear hwb
  refine (HSH.out _ HF.out).mono ?_
  rintro r w1 ⟨⟨q, rfl, hq⟩, hb⟩
  have HF1 := Lib.hid (show Fut wb w1 from hb)
  have HQ := Lib.hid hq
  clear hb hq
  cases q with
  | false =>
    go_wp2_with fail
    go_ret
    exact ⟨⟨false, rfl, fun h => by cases h⟩, HF.out.trans HF1.out⟩
  | true =>
    have q3 := (HB.out.fut HF1.out).cell (i := 3) rfl
    have q4 := (HB.out.fut HF1.out).cell (i := 4) rfl
    go_wp2_with fail
    refine (HSA.out _ (HF.out.trans HF1.out)).mono ?_
    rintro r w2 ⟨⟨m, rfl⟩, hb⟩
    have HF2 := Lib.hid (HF1.out.trans (show Fut w1 w2 from hb))
    clear hb q3 q4
    have hFl := Lib.hid (HQ.out (by first | rfl | trivial))
    by_cases h1 : m ≤ 100
    · have q5 := (HB.out.fut HF2.out).cell (i := 5) rfl
      have q6 := (HB.out.fut HF2.out).cell (i := 6) rfl
      go_wp2_with fail
      refine (HSB.out _ (HF.out.trans HF2.out)).mono ?_
      rintro r w3 ⟨⟨m2, rfl⟩, hb⟩
      have HF3 := Lib.hid (HF2.out.trans (show Fut w2 w3 from hb))
      clear hb q5 q6
      by_cases h2 : m2 ≤ 100
      · have q7 := (HB.out.fut HF3.out).cell (i := 7) rfl
        have q8 := (HB.out.fut HF3.out).cell (i := 8) rfl
        go_wp2_with fail
        refine (HSD.out _ (HF.out.trans HF3.out)).mono ?_
        rintro r w4 ⟨⟨m3, rfl⟩, hb⟩
        have HF4 := Lib.hid (HF3.out.trans (show Fut w3 w4 from hb))
        clear hb q7 q8
        go_wp2_with fail
        go_ret
        exact ⟨⟨_, rfl, fun _ => hFl.out⟩, HF.out.trans HF4.out⟩
      · go_wp2_with fail
        go_ret
        exact ⟨.inl rfl, HF.out.trans HF3.out⟩
    · go_wp2_with fail
      go_ret
      exact ⟨.inl rfl, HF.out.trans HF2.out⟩
end Go.Proofs.Ytfaekfonemobcaa
