/-
  The lexer: all tokens.
-/
import Derived.Test.YtlgpacpebjechaaGreatDoorLx2
import Derived.Deep.AppendLies
import Derived.Deep.OwnRows
namespace Go.Proofs.YtlgpacpebjechaaGreatDoor
open Go.RowKit Go.Deep PLX
attribute [local go_sem] Oper.lit Oper.litS fut_fut fut_drew World.cell?_alloc_some
structure TK where
  k : Int
  a : Nat
  s : ByteArray
  l : Nat
abbrev encT (t : TK) : List Value := tokv t.k t.a t.s t.l
def TK.tok (t : TK) : Tok := ⟨t.k, t.a, bl t.s, t.l⟩
theorem encT_len (t : TK) : (encT t).length = 4 := rfl
theorem info_tok : (Tryz.prog.info? 48).map (fun i => (i.zero, i.size, i.bytes)) = some (some (.agg #[.int .i64 0, .int .i64 0, .string ⟨#[]⟩, .int .i64 0]), 4, 40) := by kernel_rfl
/-- the slice value v owns a row of tokens -/
def OwnT (w : World) (B : Nat) (v : Value) (xs : List TK) : Prop := w.ownsRow B 48 4 v xs.length (xs.flatMap encT)
theorem OwnT.nil (w : World) (B : Nat) : OwnT w B (.slice none 0 0) [] := World.ownsRow_nil _ _ _ _
theorem OwnT.alloc {w : World} {B : Nat} {v : Value} {xs : List TK} (h : OwnT w B v xs) (o : Obj) : OwnT (w.alloc o) B v xs := World.ownsRow.alloc h o
theorem OwnT.lt {w : World} {B : Nat} {v : Value} {xs : List TK} (h : OwnT w B v xs) : ∀ k, v.ownBlock = some k → B ≤ k ∧ k < w.heap.size := World.ownsRow.lt h
theorem OwnT.form {w : World} {B : Nat} {v : Value} {xs : List TK} (h : OwnT w B v xs) : ∃ A c, v = .slice A xs.length c := by
  unfold OwnT World.ownsRow at h
  obtain ⟨_, h | ⟨g, cap, cur, hv, _⟩⟩ := h
  · obtain ⟨hv, hn⟩ := h
    cases xs with
    | nil => exact ⟨none, 0, hv⟩
    | cons x xs => simp at hn
  · exact ⟨_, _, hv⟩
theorem OwnT.base {w : World} {B B' : Nat} {v : Value} {xs : List TK} (h : OwnT w B v xs) (hB : B' ≤ B) : OwnT w B' v xs := by
  refine ⟨h.1, ?_⟩
  rcases h.2 with hn | ⟨g, cap, cur, rfl, hb, hg, rest⟩
  · exact .inl hn
  · exact .inr ⟨g, cap, cur, rfl, Nat.le_trans hB hb, hg, rest⟩
theorem OwnT.rd {w : World} {B : Nat} {A : Option Addr} {n c : Nat} {xs : List TK} (h : OwnT w B (.slice A n c) xs) : RdS w A 4 encT xs := by
  obtain ⟨A', c', e⟩ := h.form
  have e1 : n = xs.length := by simp only [Value.slice.injEq] at e; exact e.2.1
  subst e1
  exact RdS.of_own encT_len (by decide) h
theorem OwnT.fut {w w' : World} {B : Nat} {v : Value} {xs : List TK} (h : OwnT w B v xs) (hf : Fut w w') : OwnT w' B v xs := by
  refine ⟨h.1, ?_⟩
  rcases h.2 with hn | ⟨g, cap, cur, rfl, hb, hg, rest⟩
  · exact .inl hn
  · exact .inr ⟨g, cap, cur, rfl, hb, (hf.block g (Array.getElem?_eq_some_iff.1 hg).1).trans hg, rest⟩
section
variable {w : World} {ops : Array Oper} {rest : List Oper} {o : Oper} {a : Act} {Q : Exit → Act → World → Prop}
/-- one token is appended to a slice of the call's own -/
theorem wpList_pushT (hgd : o.guard = none) (s x : Operand) (ho : o.op = .call { callee := .builtin .append, args := #[s, x], argTypes := #[34, 34] })
    (B : Nat) (v : Value) (T : List TK) (hs : a.eval s = v) (hown : OwnT w B v T) (b : Nat) (t : TK) (hx : a.eval x = .slice (some ⟨b, 0, none⟩) 1 1) (hb : w.heap[b]? = some (.cells (encT t).toArray 48 (0, 0)))
    (hlen : T.length ≤ 100000000000) (hB : B ≤ w.heap.size)
    (h : ∀ g cap w', OwnT w' B (.slice (some ⟨g, 0, none⟩) (T.length + 1) cap) (T ++ [t]) → w.grownBy w' v.ownBlock → (v.ownBlock = some g ∨ g = w.heap.size) → wpList Tryz.prog ops Q rest (a.put o.dst (.slice (some ⟨g, 0, none⟩) (T.length + 1) cap)) w') :
    wpList Tryz.prog ops Q (o :: rest) a w := by
  obtain ⟨i1, ki, kz0, kz1, kz2⟩ := info_parts info_tok
  refine wpList_append_lies _ hgd s x 34 ho B 48 i1 _ 4 40 Tryz.underlying34 ki kz0 kz1 kz2 rfl (by decide) v T.length (T.flatMap encT) hs hown ⟨b, 0, none⟩ 1 1 (encT t) hx rfl ?_ ?_ (by decide) ?_ ?_ hB w.heap.size rfl ?_
  · exact World.news_of_block hb
  · intro u hu
    simp only [List.mem_cons, List.not_mem_nil, or_false] at hu
    rcases hu with rfl | rfl | rfl | rfl <;> rfl
  · unfold maxLen; omega
  · omega
  · intro g cap w' h1 h2 h3 _
    refine h g cap w' ?_ h2 h3
    unfold OwnT
    simpa using h1
end
theorem bl_extract (s : ByteArray) (i j : Nat) (_hj : j ≤ s.size) : bl (s.extract i j) = ((bl s).drop i).take (j - i) := by
  unfold bl
  rw [ByteArray.data_extract, Array.toList_extract, ← List.map_drop, ← List.map_take]
theorem size_extract (s : ByteArray) (i j : Nat) (hj : j ≤ s.size) : (s.extract i j).size = j - i := by
  rw [ByteArray.size_extract]; omega
/-- the next token -/
def nextT (D : DA) (s : ByteArray) (at_ : Nat) : TK := ⟨(scan D.au 0 ((bl s).drop at_) 0 (-1) 1).1, at_, s.extract at_ (at_ + (scan D.au 0 ((bl s).drop at_) 0 (-1) 1).2.1), (scan D.au 0 ((bl s).drop at_) 0 (-1) 1).2.2⟩
theorem nextT_size (D : DA) (s : ByteArray) (at_ : Nat) (h : at_ < s.size) : 1 ≤ (nextT D s at_).s.size ∧ at_ + (nextT D s at_).s.size ≤ s.size ∧ (nextT D s at_).s.size = (scan D.au 0 ((bl s).drop at_) 0 (-1) 1).2.1 := by
  have h1 := scan_size D.au ((bl s).drop at_) 0 0 (-1) 1 (Nat.le_refl _) (.inr rfl)
  rw [List.length_drop, bl_len] at h1
  have h2 : (nextT D s at_).s.size = (scan D.au 0 ((bl s).drop at_) 0 (-1) 1).2.1 := by
    show (s.extract at_ (at_ + (scan D.au 0 ((bl s).drop at_) 0 (-1) 1).2.1)).size = _
    rw [size_extract _ _ _ (by omega)]; omega
  omega
theorem nextT_tok (D : DA) (s : ByteArray) (at_ : Nat) (h : at_ < s.size) : (nextT D s at_).tok = PLX.tok D.au at_ ((bl s).drop at_) := by
  have h1 := nextT_size D s at_ h
  unfold TK.tok PLX.tok
  congr 1
  show bl (s.extract at_ (at_ + (scan D.au 0 ((bl s).drop at_) 0 (-1) 1).2.1)) = _
  rw [bl_extract _ _ _ (by omega), Nat.add_sub_cancel_left]
theorem nextT_look (D : DA) (s : ByteArray) (at_ : Nat) : (nextT D s at_).l ≤ s.size + 1 := by
  have := (scan_look D.au ((bl s).drop at_) 0 0 (-1) 1).2
  rw [List.length_drop, bl_len] at this
  show (scan D.au 0 ((bl s).drop at_) 0 (-1) 1).2.2 ≤ _
  omega
def small (s : ByteArray) (L : List TK) : Prop := ∀ t ∈ L, t.a ≤ s.size ∧ t.l ≤ s.size + 1 ∧ t.s.size ≤ s.size ∧ -1 ≤ t.k
set_option maxHeartbeats 6400000 in
theorem lex_any (p : DP) (D : DA) (hD : D.OK) (s : ByteArray) (w : World) (hs : s.size ≤ 1000000) (hR : RdA w p D) :
    Calls Tryz.prog 8 #[dval p D.n, .string s] w fun e w' => ∃ (L : List TK) (A : Option Addr) (c : Nat), e = .returned (.slice A L.length c) ∧ Lx D.au 0 (bl s) (L.map TK.tok) ∧ L.length ≤ s.size ∧ OwnT w' w.heap.size (.slice A L.length c) L ∧ Fut w w' := by
  have HR := Lib.hid hR
  have HD := Lib.hid hD
  clear hR hD
  obtain ⟨n, hn⟩ : ∃ n, D.n = n := ⟨_, rfl⟩
  have HON := Lib.hid (fun (wy : World) (at_ : Nat) (hat : at_ < s.size) (hR : RdA wy p D) => one_any p D HD.out s at_ wy hs hat hR)
  rw [hn] at HON ⊢
  clear hn
  have HF0 := Lib.hid ((Fut.refl w).alloc (.cells #[.slice (some ⟨p.C, 0, none⟩) 256 p.cc, .slice (some ⟨p.N, 0, none⟩) n p.cn, .slice (some ⟨p.A, 0, none⟩) n p.ca] 30))
  have HB0 := Lib.hid (show Blk (w.alloc (.cells #[.slice (some ⟨p.C, 0, none⟩) 256 p.cc, .slice (some ⟨p.N, 0, none⟩) n p.cn, .slice (some ⟨p.A, 0, none⟩) n p.ca] 30)) w.heap.size 30 #[.slice (some ⟨p.C, 0, none⟩) 256 p.cc, .slice (some ⟨p.N, 0, none⟩) n p.cn, .slice (some ⟨p.A, 0, none⟩) n p.ca] from Blk.new _ _ _)
  go_enter Tryz.func8, Tryz.ntmps8
  go_wp2_with fail
  go_loopw [5, 6] (fun v i wr => ∃ (at_ : Nat) (L : List TK), i = .int .i64 at_ ∧ at_ ≤ s.size ∧ Hid (Outs D.au (bl s) at_ (L.map TK.tok)) ∧ Hid (L.length ≤ at_) ∧ Hid (OwnT wr (w.heap.size + 1) v L) ∧ Hid (Fut (w.alloc (.cells #[.slice (some ⟨p.C, 0, none⟩) 256 p.cc, .slice (some ⟨p.N, 0, none⟩) n p.cn, .slice (some ⟨p.A, 0, none⟩) n p.ca] 30)) wr)) (fun _ i _ => s.size - (intOf i).toNat)
  case atStart => exact ⟨0, [], rfl, Nat.zero_le _, Lib.hid ⟨rfl, fun us hu => by simpa using hu⟩, Lib.hid (Nat.le_refl _), Lib.hid (OwnT.nil _ _), Lib.hid (Fut.refl _)⟩
  case round =>
    obtain ⟨at_, L, rfl, hat, HO, HLL, HOW, HF⟩ := hrel
    by_cases hlt : at_ < s.size
    · have hb := HB0.out.fut HF.out
      have b0 := hb.cell (i := 0) rfl
      have b1 := hb.cell (i := 1) rfl
      have b2 := hb.cell (i := 2) rfl
      clear hb
      have hlt1 : ((at_ : Int) < s.size) = True := eq_true (by omega)
      have hN := nextT_size D s at_ hlt
      have HTK := Lib.hid (nextT_tok D s at_ hlt)
      have HST := Lib.hid (Outs.step D.au HO.out (by rw [bl_len]; exact hlt))
      obtain ⟨T, hT⟩ : ∃ T, nextT D s at_ = T := ⟨_, rfl⟩
      have HC := Lib.hid (show Calls Tryz.prog 17 #[dval p n, .string s, .int .i64 at_] wr fun e w' => e = .returned (.agg #[.int .i64 T.k, .int .i64 T.a, .string T.s, .int .i64 T.l]) ∧ Fut wr w' from by
        have := HON.out wr at_ hlt ((HR.out.fut HF0.out).fut HF.out)
        rw [← hT]; exact this)
      rw [hT] at hN HTK
      clear hT
      obtain ⟨h1, h2, _⟩ := hN
      have HT := Lib.hid (show T.tok.text.length = T.s.size from bl_len _)
      rw [← HTK.out] at HST
      rw [HT.out] at HST
      go_wp2_with fail
      refine HC.out.mono ?_
      rintro e w1 ⟨rfl, hf1⟩
      have HF1 := Lib.hid (HF.out.trans hf1)
      have hf1s := hf1.size
      have HOW1 := Lib.hid (((HOW.out.fut hf1).alloc (.cells #[.int .i64 T.k, .int .i64 T.a, .string T.s, .int .i64 T.l] 48)).alloc (.cells #[.int .i64 T.k, .int .i64 T.a, .string T.s, .int .i64 T.l] 48))
      clear hf1 HC HON b0 b1 b2
      have hsz : w.heap.size + 1 ≤ w1.heap.size := by have := HF1.out.size; rw [World.size_alloc] at this; exact this
      go_wp2_with (refine wpList_pushT rfl (.tmp 16) (.tmp 18) rfl (w.heap.size + 1) u5 L rfl HOW1.out (w1.heap.size + 1) T rfl (heap_new' _ _ _ (by simp only [World.size_alloc])) (by have := HLL.out; omega) (by simp only [World.size_alloc]; omega) ?_)
      intro g cap w' k1 k2 k3
      have hbT : Blk ((w1.alloc (.cells #[.int .i64 T.k, .int .i64 T.a, .string T.s, .int .i64 T.l] 48)).alloc (.cells #[.int .i64 T.k, .int .i64 T.a, .string T.s, .int .i64 T.l] 48)) w1.heap.size 48 #[.int .i64 T.k, .int .i64 T.a, .string T.s, .int .i64 T.l] := (Blk.new _ _ _).alloc _
      have hne : some w1.heap.size ≠ u5.ownBlock := fun e => by
        have h4 := (HOW.out.lt _ e.symm).2
        have h5 := HF1.out.size
        have h6 := HF.out.size
        have h7 : wr.heap.size ≤ w1.heap.size := hf1s
        omega
      have c2 := (hbT.grown k2 hne).cell (i := 2) rfl
      have HOW2 := Lib.hid k1
      have HF2 := Lib.hid (Below.grown ((HF1.out.alloc (.cells #[.int .i64 T.k, .int .i64 T.a, .string T.s, .int .i64 T.l] 48)).alloc (.cells #[.int .i64 T.k, .int .i64 T.a, .string T.s, .int .i64 T.l] 48)) k2 (by simp only [World.size_alloc]; omega) (fun kk hkk => by rw [World.size_alloc]; exact (HOW.out.lt kk hkk).1))
      clear k1 k2 k3 hbT hne
      have hwr : IntKind.i64.wrap ((at_ : Int) + T.s.size) = (at_ : Int) + T.s.size := by rw [IntKind.wrap_i64]; omega
      go_wp2_with fail
      refine ⟨⟨at_ + T.s.size, L ++ [T], by go_num, h2, Lib.hid ?_, Lib.hid ?_, HOW2, HF2⟩, by simp [intOf]; omega⟩
      · rw [List.map_append]; exact HST.out
      · have := HLL.out
        rw [List.length_append, List.length_singleton]; omega
    · have hlt1 : ((at_ : Int) < s.size) = False := eq_false (by omega)
      have hae : at_ = s.size := by omega
      obtain ⟨A, c, rfl⟩ := HOW.out.form
      go_wp2_with fail
      go_ret
      refine ⟨L, A, c, rfl, ?_, by have := HLL.out; omega, HOW.out.base (Nat.le_succ _), HF0.out.trans HF.out⟩
      have h1 := HO.out.2 [] (by rw [hae, List.drop_eq_nil_of_le (by rw [bl_len]; exact Nat.le_refl _)]; exact .nil _)
      rw [List.append_nil] at h1
      exact h1
end Go.Proofs.YtlgpacpebjechaaGreatDoor
