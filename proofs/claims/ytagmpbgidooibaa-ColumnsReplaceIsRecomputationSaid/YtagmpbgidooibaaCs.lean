/-
  Plain laws of columns: a token sequence without its middle part; replacing columns.
-/
import Derived.Test.YtagmpbgidooibaaCq
import Derived.Test.YtagmpbgidooibaaC27
namespace Go.Proofs.Ytagmpbgidooibaa
section
variable {ks : List Int} {cs : List XX} {ins del : List Int} {rep : List RR} {s u : Int}
theorem ofK_append (a b : List Int) (c d : List XX) (h : c.length = a.length) (T : Nat) : ofK (a ++ b) (c ++ d) del rep u T = ofK a c del rep u T ++ ofK b d del rep u T := by
  have h1 := ofK_split (ks := a ++ b) (cs := c ++ d) (del := del) (rep := rep) (u := u) T a.length (by simp)
  rw [h1, List.take_left' rfl, List.take_left' h, List.drop_left' rfl, List.drop_left' h]
theorem of_old (h : ofE ks cs ins del rep s u = 0) (hl : cs.length = ks.length) {i k : Nat} (hik : i ≤ k) (hk : k ≤ ks.length) : ofE (ks.take i ++ ks.drop k) (cs.take i ++ cs.drop k) ins del rep s u = 0 := by
  obtain ⟨hp, _, hok, h60⟩ := ofE_zero h
  rw [ofE_good hp (.inr (by simp [hl])) (fun t ht => ?_), if_neg (by simp only [List.length_append, List.length_take, List.length_drop]; omega)]
  simp only [List.length_append, List.length_take, List.length_drop] at ht
  by_cases hti : t < i
  · have e1 : gi (ks.take i ++ ks.drop k) t = gi ks t := by
      unfold gi
      rw [List.getD_eq_getElem?_getD, List.getElem?_append_left (by rw [List.length_take]; omega), List.getElem?_take_of_lt hti, List.getD_eq_getElem?_getD]
    have e2 : cf (cs.take i ++ cs.drop k) t = cf cs t := by
      unfold cf
      rw [List.getElem?_append_left (by rw [List.length_take]; omega), List.getElem?_take_of_lt hti]
    rw [e1, e2]
    exact hok t (by omega)
  · have e0 : (ks.take i).length = i := by rw [List.length_take]; omega
    have e0' : (cs.take i).length = i := by rw [List.length_take]; omega
    have e1 : gi (ks.take i ++ ks.drop k) t = gi ks (k + (t - i)) := by
      unfold gi
      rw [List.getD_eq_getElem?_getD, List.getElem?_append_right (by omega), e0, List.getElem?_drop, List.getD_eq_getElem?_getD]
    have e2 : cf (cs.take i ++ cs.drop k) t = cf cs (k + (t - i)) := by
      unfold cf
      rw [List.getElem?_append_right (by omega), e0', List.getElem?_drop]
    rw [e1, e2]
    exact hok _ (by omega)
theorem of_mid (h : ofE ks cs ins del rep s u = 0) (hl : cs.length = ks.length) (i k : Nat) : ofE ((ks.take k).drop i) ((cs.take k).drop i) ins del rep s u = 0 :=
  of_drop (of_take h hl k) (by simp [hl]) i
theorem ofK_three (hl : cs.length = ks.length) {i k : Nat} (hik : i ≤ k) (hk : k ≤ ks.length) (T : Nat) : ofK ks cs del rep u T = ofK (ks.take i) (cs.take i) del rep u T ++ (ofK ((ks.take k).drop i) ((cs.take k).drop i) del rep u T ++ ofK (ks.drop k) (cs.drop k) del rep u T) := by
  rw [ofK_split T k hk, ofK_split (ks := ks.take k) (cs := cs.take k) T i (by rw [List.length_take]; omega), List.take_take, List.take_take, Nat.min_eq_left hik, List.append_assoc]
theorem ofK_len (T : Nat) : (ofK ks cs del rep u T).length = ks.length := by simp [ofK]
end
theorem key_take {a : List CC} {K : List Key} (h : a.map key = K) (i : Nat) : (a.take i).map key = K.take i := by rw [List.map_take, h]
theorem key_drop {a : List CC} {K : List Key} (h : a.map key = K) (i : Nat) : (a.drop i).map key = K.drop i := by rw [List.map_drop, h]
theorem repE_ok {cs ls : List CC} {ins : List Int} {s : Int} {fr od : Nat} (h1 : validI ins.length cs ins s = true) (h2 : ls.all (colB ins.length) = true) (h3 : fr + od ≤ cs.length) (h4 : cs.length - od + ls.length ≤ 60) : repE cs ins s fr od ls.length ls = 0 := by
  unfold repE
  rw [if_pos ⟨⟨h1, h2⟩, rfl⟩]
  unfold repN
  rw [if_neg (by omega), if_neg (by omega)]
theorem valid_all {T : Int} {cs : List CC} {ins : List Int} {s : Int} (h : validI T cs ins s = true) : cs.all (colB T) = true := ((validI_iff T cs ins s).1 h).2
/-- new columns put in -/
theorem rep_in {all old part : List CC} {K1 K2 K3 : List Key} (ha : all.map key = K1 ++ (K2 ++ K3)) (ho : old.map key = K1 ++ K3) (hp : part.map key = K2) : (repC old part K1.length 0).map key = all.map key := by
  unfold repC
  rw [Nat.add_zero, List.map_append, List.map_append, key_take ho, key_drop ho, hp, ha, List.take_left' rfl, List.drop_left' rfl]
/-- columns taken out -/
theorem rep_out {all old : List CC} {K1 K2 K3 : List Key} (ha : all.map key = K1 ++ (K2 ++ K3)) (ho : old.map key = K1 ++ K3) : (repC all [] K1.length K2.length).map key = old.map key := by
  unfold repC
  rw [List.nil_append, List.map_append, key_take ha, key_drop ha, ho, List.take_left' rfl, ← List.append_assoc, List.drop_left' (by rw [List.length_append])]
end Go.Proofs.Ytagmpbgidooibaa
