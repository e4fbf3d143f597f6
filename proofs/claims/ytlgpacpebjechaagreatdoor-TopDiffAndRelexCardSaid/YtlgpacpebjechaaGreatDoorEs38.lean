/-
  What the evaluator knows by itself: the sorted keys of a set of numbers.
-/
import Derived.Test.YtlgpacpebjechaaGreatDoorBJ
namespace Go.Proofs.YtlgpacpebjechaaGreatDoor
open Go.RowKit Go.Deep Go.Sort Go.Maps Go.Shelf
namespace Ev
theorem sortsA (m : Nat) : AnyZI.SortsIn Tryz.prog Tryz.sortedA_ren Fence.wide m :=
  ⟨fun blk off cap ss W hH hblk hsz => callsIn_wide.2 (Tryz.slices_Sort_int blk off cap ss W hH hblk hsz),
   fun p cap W => callsIn_wide.2 (Tryz.slices_Sort_int_none p cap W)⟩
theorem sorted_any {H : Type} (g b nn : Nat) (D0 : DataW H) (R : Value → Option (DataW H × List MemPlace)) (w : World) (hg : g < w.heap.size) (hm : w.cell? ⟨g, 0, none⟩ = some (.map (some b))) (hown : w.ownsMap Tryz.prog 3 R b nn D0) (hmax : Maps.size D0 ≤ 1000) :
    Calls Tryz.prog 81 #[.func (.func 111) #[] #[.pointer (some ⟨g, 0, none⟩)]] w fun e w' => ∃ (v : Value) (ss : List Int), e = .returned v ∧ ss.Perm (intKeys D0) ∧
      w'.ownsRow w.heap.size 3 1 v ss.length ((ss.mergeSort (fun x y => decide (x ≤ y))).map encZ) ∧ (v = .slice none 0 0 ↔ ss = []) ∧ Below w.heap.size w w' := by
  refine (callsIn_wide (n := 6)).1 ?_
  have hseq : SeqGives Fence.wide 3 Tryz.prog 111 #[.pointer (some ⟨g, 0, none⟩)] encZ (fun ss => ss.Perm (intKeys D0)) (Maps.size D0) w :=
    AnyZI.keys_gives (ρ := Tryz.keysA_ren) { Tryz.keysA with } Fence.wide _ trivial rfl (by omega) g b nn D0 _ hg hm hown
  exact AnyZI.sorted_in Tryz.sortedA Fence.wide 6 trivial trivial trivial trivial rfl (by omega) (sortsA _) (enters_of Tryz.func110 (by kernel_rfl) rfl) 111 #[.pointer (some ⟨g, 0, none⟩)] trivial (enters_of Tryz.func111 (by kernel_rfl) rfl) _ _ (Nat.le_trans hmax (by decide)) (by omega) _ hseq
/-! the keys -/
theorem insert_perm {H : Type} (x : Lit × DataW H) : ∀ l : List (Lit × DataW H), (DataW.insert x l).Perm (x :: l)
  | [] => List.Perm.refl _
  | y :: r => by
    unfold DataW.insert
    split
    · exact List.Perm.refl _
    · exact ((insert_perm x r).cons y).trans (List.Perm.swap x y r)
theorem foldr_perm {H : Type} : ∀ l : List (Lit × DataW H), (l.foldr DataW.insert []).Perm l
  | [] => List.Perm.refl _
  | x :: l => (insert_perm x _).trans ((foldr_perm l).cons x)
def R0 : Value → Option (DataW Unit × List MemPlace) := fun _ => some (.nil, [])
theorem rd_int {x : MapEntry} {m : Nat} (hk : x.key = .int .i64 (Int.ofNat m)) (hm : m ≤ 1000000) : Go.WideElems.rd Tryz.prog 3 R0 x = some (.int .i64 (Int.ofNat m), .nil) := by
  unfold Go.WideElems.rd
  have hw : (Lit.int .i64 (Int.ofNat m)).wf = true := by
    have h1 : IntKind.i64.min = -9223372036854775808 := by decide
    have h2 : IntKind.i64.max = 9223372036854775807 := by decide
    simp only [Lit.wf, h1, h2, Bool.and_eq_true, decide_eq_true_eq, Int.ofNat_eq_natCast]
    omega
  have : keyOf Tryz.prog 3 x.key = some (.int .i64 (Int.ofNat m)) := by
    rw [hk]
    simp [keyOf, Tryz.underlying3, mapKey]
    exact hw
  rw [this]
  rfl
theorem keysI_ok {σ : Sg} : ∀ {es : List (AV × AV)} {ms : List MapEntry}, EsOK σ es ms → ∀ {ks : List Int}, keysI es = some ks → (∀ x ∈ ms, ∃ y, Go.WideElems.rd Tryz.prog 3 R0 x = some y) ∧ ms.map (fun x => Go.intOf (Go.WideElems.rg Tryz.prog 3 R0 x).1) = ks ∧ ms.length = ks.length
  | _, _, .nil, ks, h => by
    have h : some [] = some ks := h
    injection h with h
    subst h
    exact ⟨fun x hx => (by cases hx), rfl, rfl⟩
  | _, _, .cons e m es ms h1 h2 h3, ks, h => by
    have h : onInt e.1 none (fun j n => iff (kbeq j .i64) none (Int.rec (motive := fun _ => Option (List Int)) (fun m => iff (Nat.ble m 1000000) none (onOpt (keysI es) none (fun r => some (.ofNat m :: r)))) (fun _ => none) n)) = some ks := h
    cases he : e.1 <;> rw [he] at h h1 <;> first
      | (cases h; done)
      | skip
    rename_i j n
    have h : iff (kbeq j .i64) none (Int.rec (motive := fun _ => Option (List Int)) (fun m => iff (Nat.ble m 1000000) none (onOpt (keysI es) none (fun r => some (.ofNat m :: r)))) (fun _ => none) n) = some ks := h
    cases hk : kbeq j .i64 with
    | false => rw [hk] at h; cases h
    | true =>
      rw [hk] at h
      have := kbeq_eq hk
      subst this
      cases n with
      | negSucc n => cases h
      | ofNat n =>
        have h : iff (Nat.ble n 1000000) none (onOpt (keysI es) none (fun r => some (.ofNat n :: r))) = some ks := h
        cases hn : Nat.ble n 1000000 with
        | false => rw [hn] at h; cases h
        | true =>
          rw [hn] at h
          rw [bleN, decide_eq_true_eq] at hn
          have h : onOpt (keysI es) none (fun r => some (.ofNat n :: r)) = some ks := h
          cases hr : keysI es with
          | none => rw [hr] at h; cases h
          | some r =>
            rw [hr] at h
            have h : some (Int.ofNat n :: r) = some ks := h
            injection h with h
            subst h
            obtain ⟨h4, h5, h6⟩ := keysI_ok h3 hr
            have hrd := rd_int (R_int h1) hn
            refine ⟨fun x hx => ?_, ?_, by simp [h6]⟩
            · rcases List.mem_cons.1 hx with rfl | hx
              · exact ⟨_, hrd⟩
              · exact h4 x hx
            · rw [List.map_cons, h5]
              unfold Go.WideElems.rg
              rw [hrd]
              rfl
theorem srt_perm : ∀ l : List Int, (srt l).Perm l
  | [] => List.Perm.refl _
  | x :: l => by
    have h1 : ∀ r : List Int, (ins x r).Perm (x :: r) := by
      intro r
      induction r with
      | nil => exact List.Perm.refl _
      | cons y r ih =>
        show (iff (ile x y) (y :: ins x r) (x :: y :: r)).Perm _
        cases ile x y with
        | true => exact List.Perm.refl _
        | false => exact (ih.cons y).trans (List.Perm.swap x y r)
    exact (h1 (srt l)).trans ((srt_perm l).cons x)
theorem ile_dec (a b : Int) : ile a b = decide (a ≤ b) := by
  cases a <;> cases b
  · rename_i a b
    show Nat.ble a b = _
    rw [bleN]; simp
  · rename_i a b
    show false = _
    rw [eq_comm, decide_eq_false_iff_not]; simp only [Int.ofNat_eq_natCast]; omega
  · rename_i a b
    show true = _
    rw [eq_comm, decide_eq_true_eq]; simp only [Int.ofNat_eq_natCast]; omega
  · rename_i a b
    show Nat.ble b a = _
    rw [bleN]
    by_cases h : b ≤ a
    · rw [decide_eq_true h, eq_comm, decide_eq_true_eq]; omega
    · rw [decide_eq_false h, eq_comm, decide_eq_false_iff_not]; omega
theorem ins_sorted (x : Int) : ∀ r : List Int, r.Pairwise (fun a b => a ≤ b) → (ins x r).Pairwise (fun a b => a ≤ b) ∧ ∀ z ∈ ins x r, z = x ∨ z ∈ r
  | [], _ => ⟨by show [x].Pairwise _; simp, fun z hz => by have hz : z ∈ [x] := hz; simpa using hz⟩
  | y :: r, h => by
    have hd : ins x (y :: r) = iff (ile x y) (y :: ins x r) (x :: y :: r) := rfl
    rw [hd, ile_dec]
    obtain ⟨h1, h2⟩ := List.pairwise_cons.1 h
    by_cases hxy : x ≤ y
    · rw [decide_eq_true hxy]
      refine ⟨List.pairwise_cons.2 ⟨fun z hz => ?_, h⟩, fun z hz => (by have hz : z ∈ x :: y :: r := hz; simpa using hz)⟩
      rcases List.mem_cons.1 hz with rfl | hz
      · exact hxy
      · have := h1 z hz; omega
    · rw [decide_eq_false hxy]
      obtain ⟨h3, h4⟩ := ins_sorted x r h2
      refine ⟨List.pairwise_cons.2 ⟨fun z hz => ?_, h3⟩, fun z hz => ?_⟩
      · rcases h4 z hz with rfl | hz
        · omega
        · exact h1 z hz
      · rcases List.mem_cons.1 hz with rfl | hz
        · exact .inr List.mem_cons_self
        · rcases h4 z hz with rfl | hz
          · exact .inl rfl
          · exact .inr (List.mem_cons_of_mem _ hz)
theorem srt_sorted : ∀ l : List Int, (srt l).Pairwise (fun a b => a ≤ b)
  | [] => List.Pairwise.nil
  | x :: l => (ins_sorted x (srt l) (srt_sorted l)).1
theorem mergeSort_srt {ss ks : List Int} (h : ss.Perm ks) : ss.mergeSort (fun x y => decide (x ≤ y)) = srt ks := by
  have tr : ∀ a b c : Int, leI a b = true → leI b c = true → leI a c = true := fun a b c h1 h2 => by simp only [leI, decide_eq_true_eq] at *; exact Int.le_trans h1 h2
  have to : ∀ a b : Int, (leI a b || leI b a) = true := fun a b => by simp only [leI, Bool.or_eq_true, decide_eq_true_eq]; exact Int.le_total a b
  refine List.Perm.eq_of_pairwise (le := fun a b => leI a b = true) (fun a b _ _ h1 h2 => ?_) (List.pairwise_mergeSort tr to ss) ((srt_sorted ks).imp (fun {a b} hab => by simpa [leI] using hab)) (((List.mergeSort_perm ss leI).trans h).trans (srt_perm ks).symm)
  simp only [leI, decide_eq_true_eq] at h1 h2
  exact Int.le_antisymm h1 h2
theorem avs_eq : ∀ l : List Int, avs l = l.map (fun n => AV.int .i64 n)
  | [] => rfl
  | n :: l => by
    show AV.int .i64 n :: avs l = _
    rw [avs_eq l]; rfl
theorem map_own {σ : Sg} {es : List (AV × AV)} {ms : Array MapEntry} {n : Nat} {ks : List Int} {w : World} {b : Nat} (hb : w.heap[b]? = some (.map ms n)) (hes : EsOK σ es ms.toList) (hst : MapKept.Stamped ms n) (hk : keysI es = some ks) (hn : ks.length ≤ 1000) :
    ∃ D0 : DataW Unit, w.ownsMap Tryz.prog 3 R0 b ks.length D0 ∧ (intKeys D0).Perm ks ∧ Maps.size D0 ≤ 1000 := by
  obtain ⟨h1, h2, h3⟩ := keysI_ok hes hk
  rw [Array.length_toList] at h3
  have h4 : (ms.toList.map (Go.WideElems.rg Tryz.prog 3 R0)).map (fun p : Lit × DataW Unit => Go.intOf p.1) = ks := by simp only [List.map_map, Function.comp_def]; exact h2
  have h5 : (ms.toList.map (Go.WideElems.rg Tryz.prog 3 R0)).length = ks.length := by rw [List.length_map, Array.length_toList, h3]
  refine ⟨.map ((ms.toList.map (Go.WideElems.rg Tryz.prog 3 R0)).foldr DataW.insert []), ⟨ms, n, hb, ⟨Nat.le_trans (by omega) (show 1000 ≤ maxLen by decide), hst, h1⟩, by omega, rfl⟩, ?_⟩
  clear h1 h2
  generalize ms.toList.map (Go.WideElems.rg Tryz.prog 3 R0) = L at h4 h5 ⊢
  have hp := foldr_perm L
  refine ⟨?_, ?_⟩
  · rw [← h4]
    exact hp.map _
  · show List.length _ ≤ 1000
    rw [hp.length_eq]
    omega
theorem iSorted_ok : IntrOK Tryz.prog 81 iSorted := by
  intro cf hcf args h k hn
  refine ⟨⟨_, _, Tryz.func81, by kernel_rfl, rfl⟩, fun σ N vs w hr hR => ?_⟩
  obtain ⟨x, rfl⟩ : ∃ x, args = [x] := by
    rcases args with _ | ⟨x, _ | ⟨y, l⟩⟩ <;> first
      | exact ⟨_, rfl⟩
      | exact absurd rfl hn
  obtain ⟨f, a, q, rfl⟩ := onFn_ne (v := x) hn
  have hf := iff_ne (b := Nat.beq f 111) hn
  rw [beqN, decide_eq_true_eq] at hf
  subst hf
  cases a with
  | cons a0 a1 => exact absurd rfl hn
  | nil =>
    obtain ⟨y, rfl⟩ : ∃ y, q = [y] := by
      rcases q with _ | ⟨x, _ | ⟨y, l⟩⟩ <;> first
        | exact ⟨_, rfl⟩
        | exact absurd rfl hn
    obtain ⟨b, o, rfl⟩ := onPtr_ne (v := y) hn
    have ho := iff_ne (b := Nat.beq o 0) hn
    rw [beqN, decide_eq_true_eq] at ho
    subst ho
    have hn1 : onOpt (Tr.get (asRow (hget h b)) 0) .no (fun m => onMap m .no .no (fun b => onMapB (hget h b) .no (fun es _ =>
      iff (Nat.ble (lenE es) 1000) .no (onOpt (keysI es) .no (fun ks => List.rec (motive := fun _ => Res) (k .nils h)
        (fun _ _ _ => trk (avs (srt ks)) 0 .nil (fun n tr => hnew h (.row 1 n tr) (fun b h => k (.slice b 0 n 0) h))) ks))))) ≠ .no := hn
    obtain ⟨m, hm⟩ := onOpt_ne hn1
    rw [hm] at hn1
    obtain ⟨bm, rfl⟩ := onMap_ne (v := m) hn1
    obtain ⟨es, n, hmb⟩ := onMapB_ne (v := hget h bm) hn1
    have hn2 : onMapB (hget h bm) .no (fun es _ =>
      iff (Nat.ble (lenE es) 1000) .no (onOpt (keysI es) .no (fun ks => List.rec (motive := fun _ => Res) (k .nils h)
        (fun _ _ _ => trk (avs (srt ks)) 0 .nil (fun n tr => hnew h (.row 1 n tr) (fun b h => k (.slice b 0 n 0) h))) ks))) ≠ .no := hn1
    rw [hmb] at hn2
    have hle := iff_ne (b := Nat.ble (lenE es) 1000) hn2
    have hn3 : iff (Nat.ble (lenE es) 1000) .no (onOpt (keysI es) .no (fun ks => List.rec (motive := fun _ => Res) (k .nils h)
        (fun _ _ _ => trk (avs (srt ks)) 0 .nil (fun n tr => hnew h (.row 1 n tr) (fun b h => k (.slice b 0 n 0) h))) ks)) ≠ .no := hn2
    rw [hle] at hn3
    obtain ⟨ks, hks⟩ := onOpt_ne (v := keysI es) hn3
    have hop : iSorted cf [.fn 111 [] [.ptr b 0]] h k = List.rec (motive := fun _ => Res) (k .nils h) (fun _ _ _ => trk (avs (srt ks)) 0 .nil (fun n tr => hnew h (.row 1 n tr) (fun b h => k (.slice b 0 n 0) h))) ks := by
      show onOpt (Tr.get (asRow (hget h b)) 0) .no (fun m => onMap m .no .no (fun b => onMapB (hget h b) .no (fun es _ =>
        iff (Nat.ble (lenE es) 1000) .no (onOpt (keysI es) .no (fun ks => List.rec (motive := fun _ => Res) (k .nils h)
          (fun _ _ _ => trk (avs (srt ks)) 0 .nil (fun n tr => hnew h (.row 1 n tr) (fun b h => k (.slice b 0 n 0) h))) ks))))) = _
      rw [hm]
      show onMapB (hget h bm) .no (fun es _ =>
        iff (Nat.ble (lenE es) 1000) .no (onOpt (keysI es) .no (fun ks => List.rec (motive := fun _ => Res) (k .nils h)
          (fun _ _ _ => trk (avs (srt ks)) 0 .nil (fun n tr => hnew h (.row 1 n tr) (fun b h => k (.slice b 0 n 0) h))) ks))) = _
      rw [hmb]
      show iff (Nat.ble (lenE es) 1000) Res.no (onOpt (keysI es) Res.no _) = _
      rw [hle, hks]
      rfl
    clear hn hn1 hn2 hn3
    rw [bleN, decide_eq_true_eq, lenE_eq] at hle
    cases hR with
    | cons _ u _ us h1 h2 =>
      cases h2
      obtain ⟨vs1, ws1, h3, h4, rfl⟩ := R_fn h1
      cases h3
      cases h4 with
      | cons _ u1 _ us1 h5 h6 =>
        cases h6
        obtain ⟨g, q, hg, rfl⟩ := R_ptr h5
        obtain ⟨g', q', um, hg', hcell, hRm⟩ := hr.cell hm
        rw [hg] at hg'; injection hg' with hg'; injection hg' with e1 e2; subst e1
        obtain ⟨gm, qm, hgm, rfl⟩ := R_map hRm
        have hblk := hr.blk bm
        rw [hmb] at hblk
        obtain ⟨g2, q2, ms, hg2, _, hms, hes, hst⟩ := hblk
        rw [hgm] at hg2; injection hg2 with hg2; injection hg2 with e3 e4; subst e3
        have hkl : ks.length = es.length := by rw [← (keysI_ok hes hks).2.2, hes.len]
        obtain ⟨D0, hown, hperm, hsz⟩ := map_own hms hes hst hks (by omega)
        refine (sorted_any g gm ks.length D0 R0 w (World.block_lt_of_cell? w _ hcell) hcell hown hsz).mono ?_
        rintro e w' ⟨v, ss, rfl, hp, hrow, hnil, hb⟩
        rw [mergeSort_srt (hp.trans hperm)] at hrow
        have hsl : ss.length = ks.length := (hp.trans hperm).length_eq
        cases hks0 : ks with
        | nil =>
          subst hks0
          rw [List.length_nil] at hsl
          have := hnil.2 (List.eq_nil_of_length_eq_zero hsl)
          subst this
          exact ⟨.nils, h, σ, _, hop, Go.of_below hr hb, .nils, rfl⟩
        | cons z zs =>
          have hne : ss ≠ [] := fun e => by rw [e, hks0] at hsl; cases hsl
          rcases hrow.2 with ⟨hv, _⟩ | ⟨gb, cap, cur, rfl, hbase, hgb, r1, r2, r3, r4⟩
          · exact absurd (hnil.1 hv) hne
          · have hlen : (avs (srt ks)).length = ss.length := by rw [avs_eq, List.length_map, (srt_perm ks).length_eq, hsl]
            have hop2 : iSorted cf [.fn 111 [] [.ptr b 0]] h k = k (.slice h.n 0 (avs (srt ks)).length 0) ⟨HT.put h.n (.row 1 (avs (srt ks)).length (laid (avs (srt ks)) 0 .nil)) h.t, Pa.succ h.n⟩ := by
              rw [hop, hks0]
              show trk (avs (srt (z :: zs))) 0 .nil (fun n tr => hnew h (.row 1 n tr) (fun b h => k (.slice b 0 n 0) h)) = _
              rw [trk_eq, hnew_eq, Nat.zero_add]
            have hgo := Go.of_below hr hb
            have hRow : RowOK (σ.put h.n gb cap) (avs (srt ks)).length (laid (avs (srt ks)) 0 .nil) cur := by
              refine ⟨by rw [hlen, r3]; omega, fun i v hi => ?_⟩
              have h7 := laid_nil hi
              have hlt := (List.getElem?_eq_some_iff.1 h7).1
              refine ⟨hlt, ?_⟩
              rw [avs_eq, List.getElem?_map] at h7
              cases hz : (srt ks)[i]? with
              | none => rw [hz] at h7; cases h7
              | some zz =>
                rw [hz] at h7
                have h7 : some (AV.int .i64 zz) = some v := h7
                injection h7 with h7
                subst h7
                refine ⟨.int .i64 zz, ?_, .int _ _⟩
                have h8 := congrArg (fun l => l[i]?) r4
                simp only [List.getElem?_map, hz, Option.map_some] at h8
                rw [List.getElem?_take, if_pos (by omega), Array.getElem?_toList] at h8
                exact h8
            refine ⟨_, _, σ.put h.n gb cap, _, hop2, hr.new hgo _ rfl gb cap (fun b' q' hob e0 => ?_) hbase ⟨gb, cap, cur, 3, Sg.put_same _ _ _ _, Nat.le_trans hr.base hbase, hgb, .inr (by rw [r3]), hRow⟩, ?_, rfl⟩
            · obtain ⟨g6, q6, h6, h7⟩ := (hr.blk b').lt (fun e => by rw [e] at hob; cases hob)
              rw [h6] at e0; injection e0 with e0; injection e0 with e7 e8; omega
            · have := R.slice (σ := σ.put h.n gb cap) h.n 0 (avs (srt ks)).length 0 gb cap (Sg.put_same _ _ _ _)
              rw [hlen, Nat.sub_zero] at this
              rw [hlen]
              exact this
theorem owed : Owed := ⟨ok31, ok66, ok70, ok91, ok107, iWide_ok, iSorted_ok⟩
/-- THE EVALUATOR IS SOUND -/
theorem cf_sound (n : Nat) : CFOK Tryz.prog (callN fns intr n) := cf_ok owed n
end Ev
end Go.Proofs.YtlgpacpebjechaaGreatDoor
