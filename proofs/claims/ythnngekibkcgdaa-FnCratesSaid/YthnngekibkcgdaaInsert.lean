/-
  The steps of a sorting by insertion, on lists of numbers. Plain.
-/
import Derived.Test.YthnngekibkcgdaaRing
import Derived.Test.YthnngekibkcgdaaKitR
namespace Go.Proofs.Ythnngekibkcgdaa
open Go.RowKit Ring
set_option linter.unusedVariables false

theorem ext_getD {xs ys : List Nat} (h : xs.length = ys.length) (hk : ∀ k, k < xs.length → xs.getD k 0 = ys.getD k 0) : xs = ys := by
  apply List.ext_getElem h
  intro k h1 h2
  have := hk k h1
  rwa [List.getD_eq_getElem?_getD, List.getElem?_eq_getElem h1, List.getD_eq_getElem?_getD, List.getElem?_eq_getElem h2] at this
theorem getD_app {xs ys : List Nat} {k : Nat} : (xs ++ ys).getD k 0 = if k < xs.length then xs.getD k 0 else ys.getD (k - xs.length) 0 := by
  rw [List.getD_eq_getElem?_getD, List.getElem?_append]
  split
  · rw [List.getD_eq_getElem?_getD]
  · rw [List.getD_eq_getElem?_getD]
theorem getD_set {xs : List Nat} {i k x : Nat} (hi : i < xs.length) : (xs.set i x).getD k 0 = if k = i then x else xs.getD k 0 := by
  rw [List.getD_eq_getElem?_getD, List.getElem?_set]
  by_cases e : i = k
  · subst e; rw [if_pos rfl, if_pos hi, if_pos rfl]; rfl
  · rw [if_neg e, if_neg (Ne.symm e), List.getD_eq_getElem?_getD]
theorem nums_set (l : List Nat) (k x : Nat) : (nums l).set k ((x : Nat) : Int) = nums (l.set k x) := by unfold nums; rw [List.map_set]
section
variable {S R : List Nat} {x j : Nat}
theorem ins_at (hj : j ≤ S.length) : (insAt S j x ++ R).getD j 0 = x := by
  rw [getD_app, if_pos (by rw [insAt_len]; omega), insAt_get hj, if_neg (by omega), if_pos rfl]
theorem ins_below (hj : j ≤ S.length) (h0 : 0 < j) : (insAt S j x ++ R).getD (j - 1) 0 = S.getD (j - 1) 0 := by
  rw [getD_app, if_pos (by rw [insAt_len]; omega), insAt_get hj, if_pos (by omega)]
theorem ins_swap (hj : j ≤ S.length) (h0 : 0 < j) : ((insAt S j x ++ R).set j (S.getD (j - 1) 0)).set (j - 1) x = insAt S (j - 1) x ++ R := by
  have hl := insAt_len S j x
  have hl2 := insAt_len S (j - 1) x
  refine ext_getD (by simp [hl, hl2]) fun k hk => ?_
  simp only [List.length_set, List.length_append, hl] at hk
  rw [getD_set (by simp [hl]; omega), getD_set (by simp [hl]; omega), getD_app, getD_app, hl, hl2, insAt_get hj, insAt_get (show j - 1 ≤ S.length by omega)]
  repeat' split
  all_goals first | (exfalso; omega) | rfl | (congr 1; omega) | (subst_vars; rfl)
/-- A shift: the place j gets what stood below it. -/
theorem ins_shift {y : Nat} (hj : j ≤ S.length) (h0 : 0 < j) : (insAt S j y ++ R).set j (S.getD (j - 1) 0) = insAt S (j - 1) (S.getD (j - 1) 0) ++ R := by
  have hl := insAt_len S j y
  have hl2 := insAt_len S (j - 1) (S.getD (j - 1) 0)
  refine ext_getD (by rw [List.length_set, List.length_append, List.length_append, hl, hl2]) fun k hk => ?_
  simp only [List.length_set, List.length_append, hl] at hk
  rw [getD_set (by simp [hl]; omega), getD_app, getD_app, hl, hl2, insAt_get hj, insAt_get (show j - 1 ≤ S.length by omega)]
  repeat' split
  all_goals first | (exfalso; omega) | rfl | (congr 1; omega) | (subst_vars; rfl)
theorem ins_put {y : Nat} (hj : j ≤ S.length) : (insAt S j y ++ R).set j x = insAt S j x ++ R := by
  have hl := insAt_len S j y
  have hl2 := insAt_len S j x
  refine ext_getD (by simp [hl, hl2]) fun k hk => ?_
  simp only [List.length_set, List.length_append, hl] at hk
  rw [getD_set (by simp [hl]; omega), getD_app, getD_app, hl, hl2, insAt_get hj, insAt_get hj]
  repeat' split
  all_goals first | (exfalso; omega) | rfl | (congr 1; omega) | (subst_vars; rfl)
theorem ins_end (S : List Nat) (x : Nat) : insAt S S.length x = S ++ [x] := by unfold insAt; simp
end
/-- The list behind i rounds. -/
def sortTo (lt : Nat → Nat → Bool) (l : List Nat) (i : Nat) : List Nat := srt lt (l.take i) ++ l.drop i
section
variable {lt : Nat → Nat → Bool} {l : List Nat} {i j : Nat}
theorem sortTo_len : (sortTo lt l i).length = l.length := by
  unfold sortTo; rw [List.length_append, srt_len, List.length_take, List.length_drop]; omega
theorem sortTo_one : sortTo lt l 1 = l := by
  unfold sortTo
  cases l with
  | nil => rfl
  | cons x l => simp [srt_one]
theorem sortTo_all (h : l.length ≤ i) : sortTo lt l i = srt lt l := by
  unfold sortTo; rw [List.take_of_length_le h, List.drop_of_length_le h, List.append_nil]
theorem take_srt_len (h : i ≤ l.length) : (srt lt (l.take i)).length = i := by rw [srt_len, List.length_take]; omega
theorem sortTo_in (h : i < l.length) : sortTo lt l i = insAt (srt lt (l.take i)) i (l.getD i 0) ++ l.drop (i + 1) := by
  have e := ins_end (srt lt (l.take i)) (l.getD i 0)
  rw [take_srt_len (by omega)] at e
  rw [e]
  unfold sortTo
  rw [List.drop_eq_getElem_cons h, List.getD_eq_getElem?_getD, List.getElem?_eq_getElem h]
  simp
theorem sortTo_out (h : i < l.length) {J : Nat} (hJ : posOf (lt (l.getD i 0)) (srt lt (l.take i)) i = J) : insAt (srt lt (l.take i)) J (l.getD i 0) ++ l.drop (i + 1) = sortTo lt l (i + 1) := by
  have e : l.take (i + 1) = l.take i ++ [l.getD i 0] := by
    rw [List.getD_eq_getElem?_getD, List.getElem?_eq_getElem h, List.take_succ_eq_append_getElem h]; rfl
  unfold sortTo
  rw [e, srt_snoc]
  unfold ins1
  rw [take_srt_len (by omega), hJ]
theorem srt_get (hj : j < l.length) (p : Nat → Prop) (hp : ∀ x ∈ l, p x) : p ((srt lt l).getD j 0) := by
  refine hp _ ((srt_mem lt l _).1 ?_)
  rw [List.getD_eq_getElem?_getD, List.getElem?_eq_getElem (by rw [srt_len]; exact hj)]
  exact List.getElem_mem _
end
end Go.Proofs.Ythnngekibkcgdaa
