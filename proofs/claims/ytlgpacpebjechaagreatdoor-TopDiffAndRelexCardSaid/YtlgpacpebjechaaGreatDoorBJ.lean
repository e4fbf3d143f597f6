/-
  Texts joined: dfa.wide: numbers as bytes, eight each; What the evaluator knows by itself: dfa.wide.
-/
import Derived.Test.YtlgpacpebjechaaGreatDoorLb
import Derived.Test.YtlgpacpebjechaaGreatDoorOrders
import Derived.Test.YtlgpacpebjechaaGreatDoorBB
import Derived.Test.YtlgpacpebjechaaGreatDoorBF
import Derived.Test.YtlgpacpebjechaaGreatDoorBI
import Derived.Laws.BytesString
import Derived.Laws.BytesArg
import Derived.Laws.Cells
import Derived.Handy
import Derived.Deep.RegionHeld
import Derived.LoopTactic
import Derived.WalkSpells
/-
  dfa.wide: numbers as bytes, eight each.
-/
namespace Go.Proofs.YtlgpacpebjechaaGreatDoor
open Go.RowKit
attribute [local go_sem] Oper.lit Oper.litS fut_fut fut_drew World.cell?_alloc_some
abbrev bv (x : Nat) : Value := .int .u8 (x : Int)
theorem info_u8 : (Tryz.prog.info? 5).map (fun i => (i.zero, i.size, i.bytes)) = some (some (.int .u8 0), 1, 1) := by kernel_rfl
def OwnB (w : World) (B : Nat) (v : Value) (xs : List Nat) : Prop := w.ownsRow B 5 1 v xs.length (xs.map bv)
theorem OwnB.nil (w : World) (B : Nat) : OwnB w B (.slice none 0 0) [] := World.ownsRow_nil _ _ _ _
theorem OwnB.alloc {w : World} {B : Nat} {v : Value} {xs : List Nat} (h : OwnB w B v xs) (o : Obj) : OwnB (w.alloc o) B v xs := World.ownsRow.alloc h o
theorem OwnB.lt {w : World} {B : Nat} {v : Value} {xs : List Nat} (h : OwnB w B v xs) : ∀ k, v.ownBlock = some k → B ≤ k ∧ k < w.heap.size := World.ownsRow.lt h
theorem OwnB.rd {w : World} {B : Nat} {A : Option Addr} {n c : Nat} {xs : List Nat} (h : OwnB w B (.slice A n c) xs) : n = xs.length ∧ Rd1 w A bv xs := by
  have h0 := h
  unfold OwnB World.ownsRow at h
  obtain ⟨_, h | ⟨g, cap, cur, hv, _⟩⟩ := h
  · obtain ⟨hv, hn⟩ := h
    injection hv with h1 h2 h3
    cases xs with
    | nil => exact ⟨by simp [h2], Rd1.nil⟩
    | cons x xs => simp at hn
  · injection hv with h1 h2 h3
    subst h2
    exact ⟨rfl, Rd1.of_own (f := bv) (l := xs) h0⟩
theorem OwnB.form {w : World} {B : Nat} {v : Value} {xs : List Nat} (h : OwnB w B v xs) : ∃ A c, v = .slice A xs.length c ∧ (A = none ∧ xs = [] ∨ ∃ g, A = some ⟨g, 0, none⟩) := by
  unfold OwnB World.ownsRow at h
  obtain ⟨_, h | ⟨g, cap, cur, hv, _⟩⟩ := h
  · obtain ⟨hv, hn⟩ := h
    cases xs with
    | nil => exact ⟨none, 0, hv, .inl ⟨rfl, rfl⟩⟩
    | cons x xs => simp at hn
  · exact ⟨_, _, hv, .inr ⟨g, rfl⟩⟩
section
variable {w : World} {ops : Array Oper} {rest : List Oper} {o : Oper} {a : Act} {Q : Exit → Act → World → Prop}
/-- one byte is appended to a slice of the call's own -/
theorem wpList_pushB (hgd : o.guard = none) (s x : Operand) (ho : o.op = .call { callee := .builtin .append, args := #[s, x], argTypes := #[165, 165] })
    (B : Nat) (v : Value) (T : List Nat) (hs : a.eval s = v) (hown : OwnB w B v T) (b t : Nat) (hx : a.eval x = .slice (some ⟨b, 0, none⟩) 1 1) (hb : w.heap[b]? = some (.cells #[bv t] 5 (0, 0)))
    (hlen : T.length ≤ 17000000000000) (hB : B ≤ w.heap.size)
    (h : ∀ g cap w', OwnB w' B (.slice (some ⟨g, 0, none⟩) (T.length + 1) cap) (T ++ [t]) → w.grownBy w' v.ownBlock → (v.ownBlock = some g ∨ g = w.heap.size) → wpList Tryz.prog ops Q rest (a.put o.dst (.slice (some ⟨g, 0, none⟩) (T.length + 1) cap)) w') :
    wpList Tryz.prog ops Q (o :: rest) a w := by
  obtain ⟨i1, ki, kz0, kz1, kz2⟩ := info_parts info_u8
  refine wpList_append_lies _ hgd s x 165 ho B 5 i1 (.int .u8 0) 1 1 Tryz.underlying165 ki kz0 kz1 kz2 rfl (by decide) v T.length (T.map bv) hs hown ⟨b, 0, none⟩ 1 1 [bv t] hx rfl ?_ ?_ (by decide) ?_ ?_ hB w.heap.size rfl ?_
  · exact World.news_of_block (cs := #[bv t]) hb
  · intro u hu; simp only [List.mem_singleton] at hu; subst hu; rfl
  · unfold maxLen; omega
  · omega
  · intro g cap w' h1 h2 h3 _
    refine h g cap w' ?_ h2 h3
    unfold OwnB
    simpa using h1
end
abbrev iv (z : Int) : Value := .int .i64 z
noncomputable def wideZ (zs : List Int) : List Nat := zs.flatMap fun z => (List.range 8).map (Ev.byteOf z)
theorem wideZ_succ (zs : List Int) (j : Nat) (z : Int) (h : zs[j]? = some z) : wideZ (zs.take (j + 1)) = wideZ (zs.take j) ++ (List.range 8).map (Ev.byteOf z) := by
  unfold wideZ
  rw [List.take_add_one, h]
  simp
theorem wideZ_len (zs : List Int) : (wideZ zs).length = 8 * zs.length := by
  induction zs with
  | nil => rfl
  | cons z zs ih => 
    have : wideZ (z :: zs) = (List.range 8).map (Ev.byteOf z) ++ wideZ zs := rfl
    rw [this, List.length_append, ih]
    simp; omega
theorem byteOf_int (z : Int) (k : Nat) : z / 2 ^ (8 * k) % 256 = ((Ev.byteOf z k : Nat) : Int) := by
  have key : ∀ (m : Nat), ((Nat.shiftRight m (Nat.mul 8 k) : Nat) : Int) = (m : Int) / 2 ^ (8 * k) := fun m => by
    show ((m >>> (8 * k) : Nat) : Int) = _
    rw [Nat.shiftRight_eq_div_pow]
    push_cast
    rfl
  cases z with
  | ofNat m =>
    show (m : Int) / 2 ^ (8 * k) % 256 = ((Nat.mod (Nat.shiftRight m (Nat.mul 8 k)) 256 : Nat) : Int)
    rw [← key]
    show _ = (((Nat.shiftRight m (Nat.mul 8 k)) % 256 : Nat) : Int)
    omega
  | negSucc m =>
    show Int.negSucc m / 2 ^ (8 * k) % 256 = ((Nat.sub 255 (Nat.mod (Nat.shiftRight m (Nat.mul 8 k)) 256) : Nat) : Int)
    have h2 : (0 : Int) < 2 ^ (8 * k) := Int.pow_pos (by decide)
    have e : Int.negSucc m / 2 ^ (8 * k) = -((m : Int) / 2 ^ (8 * k)) - 1 := by
      rw [Int.negSucc_ediv m h2]
      have : Int.ediv (m : Int) (2 ^ (8 * k)) = (m : Int) / 2 ^ (8 * k) := rfl
      omega
    rw [e, ← key]
    show _ = ((255 - (Nat.shiftRight m (Nat.mul 8 k)) % 256 : Nat) : Int)
    omega
theorem wide_len2 (zs : List Int) (j k : Nat) (z : Int) (h : j ≤ zs.length) : (wideZ (zs.take j) ++ (List.range k).map (Ev.byteOf z)).length = 8 * j + k := by
  rw [List.length_append, wideZ_len]
  simp
  omega
theorem wide_str {w wr : World} {A : Option Addr} {n c : Nat} {xs : List Nat} (h : OwnB wr w.heap.size (.slice A n c) xs) : ∀ dst, Tryz.prog.underlying dst = some .string → (convert 165 dst (.slice A n c)).run Tryz.prog wr = .ok (.string (Ev.bs xs)) wr := by
  intro dst hd
  obtain ⟨hn, hR⟩ := h.rd
  obtain ⟨A', c', hA, hh⟩ := h.form
  have hA1 : A = A' := by simp only [Value.slice.injEq] at hA; exact hA.1
  subst hA1
  clear hA
  rcases hh with ⟨rfl, rfl⟩ | ⟨g, rfl⟩
  · rw [run_convert_bytes_nil wr 165 5 Tryz.underlying165 Tryz.underlying5 _ _ dst hd]
    rfl
  · have hnil : (xs.map (fun (x : Nat) => (x : Int))).length = n := by simpa using hn.symm
    have := run_convert_bytes_arg (P := Tryz.prog) wr 165 5 Tryz.underlying165 Tryz.underlying5 g 0 n c (xs.map (fun (x : Nat) => (x : Int))) hnil (fun i hi => ?_) dst hd
    · rw [this]
      have e : strOfNums (xs.map (fun (x : Nat) => (x : Int))) = Ev.bs xs := by
        unfold strOfNums Ev.bs
        rw [List.map_map]
        congr 2
      rw [e]
    · obtain ⟨x, hx⟩ : ∃ x, xs[i]? = some x := ⟨_, List.getElem?_eq_getElem (by omega)⟩
      obtain ⟨b, o, e, hcell⟩ := hR i x hx
      simp only [Option.some.injEq, Addr.mk.injEq] at e
      obtain ⟨rfl, rfl, _⟩ := e
      rw [hcell]
      simp [List.getD, hx]
set_option maxHeartbeats 3200000 in
theorem wide_any (A : Option Addr) (n c : Nat) (zs : List Int) (w : World) (hl : zs.length = n) (hn : n ≤ 1000) (hR : Rd1 w A iv zs) :
    Calls Tryz.prog 118 #[.slice A n c] w fun e w' => e = .returned (.string (Ev.bs (wideZ zs))) ∧ Below w.heap.size w w' := by
  have HR := Lib.hid hR
  have HL := Lib.hid hl
  clear hR hl
  go_enter Tryz.func118, Tryz.ntmps118
  go_wp2_with fail
  go_loopw [3, 9] (fun s i wr => ∃ (j : Nat), j ≤ n ∧ i = .int .i64 j ∧ Hid (OwnB wr w.heap.size s (wideZ (zs.take j))) ∧ Fut w wr) (fun _ i _ => n - (intOf i).toNat)
  case atStart => exact ⟨0, Nat.zero_le _, rfl, Lib.hid (OwnB.nil _ _), Fut.refl _⟩
  case round =>
    obtain ⟨j, hj, rfl, hO, hF⟩ := hrel
    obtain ⟨XA, Xc, hX0, hX⟩ := hO.out.form
    have hlX : (wideZ (zs.take j)).length = 8 * j := by
      rw [wideZ_len, List.length_take, HL.out]; omega
    rw [hlX] at hX0
    subst hX0
    clear hlX
    by_cases hlt : j < n
    · obtain ⟨z, hz⟩ := get_lt HL.out hlt
      obtain ⟨b, o, rfl, hc⟩ := HR.out j z hz
      have HZ := Lib.hid hz
      have c0 := hF.cell hc
      clear hz hc hX
      have HFF := Lib.hid hF
      clear hF
      go_wp2_with fail
      obtain ⟨wo, rfl⟩ : ∃ x, x = wr := ⟨_, rfl⟩
      clear c0
      go_loopw [3, 13] (fun s i wr => ∃ (k : Nat), k ≤ 8 ∧ i = .int .i64 k ∧ Hid (OwnB wr w.heap.size s (wideZ (zs.take j) ++ (List.range k).map (Ev.byteOf z))) ∧ Hid (Fut w wr)) (fun _ i _ => 8 - (intOf i).toNat)
      case atStart => exact ⟨0, by omega, rfl, Lib.hid (by simpa using hO.out), HFF⟩
      case round =>
        obtain ⟨k, hk, rfl, hO2, HF2⟩ := hrel
        obtain ⟨YA, Yc, hY0, hY⟩ := hO2.out.form
        rw [wide_len2 zs j k z (by rw [HL.out]; omega)] at hY0
        subst hY0
        clear hY
        by_cases hk8 : k < 8
        · have hbv := byteOf_int z k
          have HO3 := Lib.hid (hO2.out.alloc (.cells #[bv (Ev.byteOf z k)] 5))
          go_wp2_with (refine wpList_pushB rfl (.tmp 16) (.tmp 22) rfl w.heap.size (.slice YA (8 * j + k) Yc) (wideZ (zs.take j) ++ (List.range k).map (Ev.byteOf z)) rfl HO3.out wr.heap.size (Ev.byteOf z k) rfl (heap_alloc_new _ _) ?_ ?_ ?_)
          · rw [wide_len2 zs j k z (by rw [HL.out]; omega)]; omega
          · have := HF2.out.size
            rw [World.size_alloc]; omega
          intro g cap w' h1 h2 h3
          have hlX : (wideZ (zs.take j)).length = 8 * j := by rw [wideZ_len, List.length_take, HL.out]; omega
          simp only [hlX] at h1 ⊢
          clear hlX
          have HO4 := Lib.hid h1
          have HF4 := Lib.hid (show Fut w w' from Below.grown (HF2.out.alloc (.cells #[bv (Ev.byteOf z k)] 5)) h2 (by have := HF2.out.size; rw [World.size_alloc]; omega) (fun kk hkk => (hO2.out.lt kk hkk).1))
          clear h1 h2 h3 hbv
          go_wp2_with fail
          refine ⟨⟨k + 1, by omega, by go_num, Lib.hid ?_, HF4⟩, by simp [intOf]; omega⟩
          rw [List.range_succ, List.map_append]
          exact HO4.out
        · have hk9 : k = 8 := by omega
          subst hk9
          go_wp2_with fail
          have h8 := hO2.out
          rw [← wideZ_succ zs j z HZ.out] at h8
          exact ⟨⟨j + 1, by omega, by go_num, Lib.hid h8, HF2.out⟩, by simp [intOf]; omega⟩
    · have hjn : j = n := by omega
      subst hjn
      have htk : zs.take j = zs := List.take_of_length_le (by rw [HL.out]; omega)
      have HO5 := hO.out
      rw [htk] at HO5
      have hcv := wide_str HO5
      clear hO HO5 hX htk
      go_wp2_with fail
      go_ret
      exact ⟨rfl, hF⟩
end Go.Proofs.YtlgpacpebjechaaGreatDoor
/-
  What the evaluator knows by itself: dfa.wide.
-/
namespace Go.Proofs.YtlgpacpebjechaaGreatDoor
open Go.RowKit Go.Deep Go.Sort
namespace Ev
theorem wideL_eq : ∀ m : List Int, wideL m = wideZ m
  | [] => rfl
  | n :: m => by
    show byte8 n (wideL m) = wideZ (n :: m)
    rw [wideL_eq m]
    rfl
theorem byteOf_lt (n : Int) (j : Nat) : byteOf n j < 256 := by
  cases n with
  | ofNat m => exact Nat.mod_lt _ (by decide)
  | negSucc m =>
    show Nat.sub 255 _ < 256
    have : Nat.sub 255 (Nat.mod (Nat.shiftRight m (Nat.mul 8 j)) 256) = 255 - Nat.mod (Nat.shiftRight m (Nat.mul 8 j)) 256 := rfl
    omega
theorem wideZ_lt (m : List Int) : ∀ x ∈ wideZ m, x < 256 := by
  intro x hx
  obtain ⟨z, _, hx⟩ := List.mem_flatMap.1 hx
  obtain ⟨j, _, rfl⟩ := List.mem_map.1 hx
  exact byteOf_lt z j
theorem intsOf_eq : ∀ {l : List AV} {m : List Int}, intsOf l = some m → l = m.map (fun n => AV.int .i64 n)
  | [], m, h => by
    have h : some [] = some m := h
    injection h with h
    subst h
    rfl
  | x :: l, m, h => by
    have h : onInt x none (fun j n => iff (kbeq j .i64) none (onOpt (intsOf l) none (fun r => some (n :: r)))) = some m := h
    cases x <;> first
      | (cases h; done)
      | skip
    rename_i j n _
    have h : iff (kbeq j .i64) none (onOpt (intsOf l) none (fun r => some (n :: r))) = some m := h
    cases hk : kbeq j .i64 with
    | false => rw [hk] at h; cases h
    | true =>
      rw [hk] at h
      have := kbeq_eq hk
      subst this
      have h : onOpt (intsOf l) none (fun r => some (n :: r)) = some m := h
      cases hr : intsOf l with
      | none => rw [hr] at h; cases h
      | some r =>
        rw [hr] at h
        have h : some (n :: r) = some m := h
        injection h with h
        subst h
        rw [intsOf_eq hr]
        rfl
theorem Go.of_below {σ : Sg} {N : Nat} {h : Hp} {w w' : World} (hr : HR σ N h w) (hb : Below w.heap.size w w') : Go σ N h w σ h w' :=
  hr.grow hb.os hb.tape hb.output hb.size (fun g hg => hb.block g hg)
theorem iWide_ok : IntrOK Tryz.prog 118 iWide := by
  intro cf hcf args h k hn
  refine ⟨⟨_, _, Tryz.func118, by kernel_rfl, rfl⟩, fun σ N vs w hr hR => ?_⟩
  have hn0 : one args .no (fun x => onSlice x .no (k (.str []) h) .no .no (fun b o n _ => iff (Nat.ble n 1000) .no (onOpt (readn (asRow (hget h b)) n o) .no (fun l => onOpt (intsOf l) .no (fun m => k (.str (wideL m)) h))))) ≠ .no := hn
  obtain ⟨x, rfl⟩ : ∃ x, args = [x] := by
    rcases args with _ | ⟨x, _ | ⟨y, l⟩⟩ <;> first
      | exact ⟨_, rfl⟩
      | exact absurd rfl hn0
  have hn1 : onSlice x .no (k (.str []) h) .no .no (fun b o n _ => iff (Nat.ble n 1000) .no (onOpt (readn (asRow (hget h b)) n o) .no (fun l => onOpt (intsOf l) .no (fun m => k (.str (wideL m)) h)))) ≠ .no := hn0
  cases hR with
  | cons _ u _ us h1 h2 =>
    cases h2
    cases x <;> first
      | exact absurd rfl hn1
      | skip
    · rename_i b o n q0
      have hn2 : iff (Nat.ble n 1000) .no (onOpt (readn (asRow (hget h b)) n o) .no (fun l => onOpt (intsOf l) .no (fun m => k (.str (wideL m)) h))) ≠ .no := hn1
      have hle := iff_ne hn2
      rw [hle] at hn2
      have hn3 : onOpt (readn (asRow (hget h b)) n o) .no (fun l => onOpt (intsOf l) .no (fun m => k (.str (wideL m)) h)) ≠ .no := hn2
      obtain ⟨l, hl⟩ := onOpt_ne hn3
      rw [hl] at hn3
      obtain ⟨m, hm⟩ := onOpt_ne (v := intsOf l) hn3
      have hop : iWide cf [.slice b o n q0] h k = k (.str (wideL m)) h := by
        show iff (Nat.ble n 1000) .no (onOpt (readn (asRow (hget h b)) n o) .no (fun l => onOpt (intsOf l) .no (fun m => k (.str (wideL m)) h))) = _
        rw [hle, hl]
        show onOpt (intsOf l) .no (fun m => k (.str (wideL m)) h) = _
        rw [hm]
        rfl
      rw [bleN, decide_eq_true_eq] at hle
      obtain ⟨g, q, hg, rfl⟩ := R_slice h1
      have el := intsOf_eq hm
      obtain ⟨e1, e2⟩ := readn_eq _ _ _ _ hl
      have hlen : m.length = n := by rw [← e1, el]; simp
      refine (wide_any (some ⟨g, o, none⟩) n (q - q0) m w hlen hle (fun i z hz => ⟨g, o, rfl, ?_⟩)).mono ?_
      · have hli : l[i]? = some (.int .i64 z) := by rw [el, List.getElem?_map, hz]; rfl
        obtain ⟨g', q', u, hg', hu, hRu⟩ := hr.cell (e2 i _ hli)
        rw [hg] at hg'; injection hg' with hg'; injection hg' with e3 e4; subst e3
        rw [hu, R_int hRu]
      · rintro e w' ⟨rfl, hb⟩
        refine ⟨_, h, σ, _, hop, Go.of_below hr hb, ?_, rfl⟩
        rw [wideL_eq]
        exact .str _ (wideZ_lt m)
    · have hop : iWide cf [.nils] h k = k (.str []) h := rfl
      rw [R_nils h1]
      refine (wide_any none 0 0 [] w rfl (by omega) Rd1.nil).mono ?_
      rintro e w' ⟨rfl, hb⟩
      exact ⟨_, h, σ, _, hop, Go.of_below hr hb, .str [] (fun c hc => by simp at hc), rfl⟩
end Ev
end Go.Proofs.YtlgpacpebjechaaGreatDoor
