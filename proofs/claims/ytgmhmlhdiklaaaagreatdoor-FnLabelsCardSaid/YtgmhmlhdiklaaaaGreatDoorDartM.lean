/-
  Texts of one kind, one behind the other: Insert DartW BefW InsW BitsLen. No conditions.
-/
import Derived.Test.YtgmhmlhdiklaaaaGreatDoorRing
import Derived.Test.YtgmhmlhdiklaaaaGreatDoorKitR
import Derived.Test.YtgmhmlhdiklaaaaGreatDoorDarts
import Derived.Test.YtgmhmlhdiklaaaaGreatDoorTurn
import Derived.Test.YtgmhmlhdiklaaaaGreatDoorSpecTurn
import Derived.Test.YtgmhmlhdiklaaaaGreatDoorRows
import Derived.Test.YtgmhmlhdiklaaaaGreatDoorKitC
/- Insert -/
namespace Go.Proofs.YtgmhmlhdiklaaaaGreatDoor
open Go.RowKit Ring
set_option linter.unusedVariables false

theorem ext_getD {xs ys : List Nat} (h : xs.length = ys.length) (hk : ∀ k, k < xs.length → xs.getD k 0 = ys.getD k 0) : xs = ys := by
  apply List.ext_getElem h
  intro k h1 h2
  have := hk k h1
  rwa [List.getD_eq_getElem?_getD, List.getElem?_eq_getElem h1, List.getD_eq_getElem?_getD, List.getElem?_eq_getElem h2] at this
theorem getD_app {xs ys : List Nat} {k : Nat} : (xs ++ ys).getD k 0 = if k < xs.length then xs.getD k 0 else ys.getD (k - xs.length) 0 := by
  rw [List.getD_eq_getElem?_getD, List.getElem?_append]
  split
  · rw [List.getD_eq_getElem?_getD]
  · rw [List.getD_eq_getElem?_getD]
theorem getD_set {xs : List Nat} {i k x : Nat} (hi : i < xs.length) : (xs.set i x).getD k 0 = if k = i then x else xs.getD k 0 := by
  rw [List.getD_eq_getElem?_getD, List.getElem?_set]
  by_cases e : i = k
  · subst e; rw [if_pos rfl, if_pos hi, if_pos rfl]; rfl
  · rw [if_neg e, if_neg (Ne.symm e), List.getD_eq_getElem?_getD]
theorem nums_set (l : List Nat) (k x : Nat) : (nums l).set k ((x : Nat) : Int) = nums (l.set k x) := by unfold nums; rw [List.map_set]
section
variable {S R : List Nat} {x j : Nat}
theorem ins_at (hj : j ≤ S.length) : (insAt S j x ++ R).getD j 0 = x := by
  rw [getD_app, if_pos (by rw [insAt_len]; omega), insAt_get hj, if_neg (by omega), if_pos rfl]
theorem ins_below (hj : j ≤ S.length) (h0 : 0 < j) : (insAt S j x ++ R).getD (j - 1) 0 = S.getD (j - 1) 0 := by
  rw [getD_app, if_pos (by rw [insAt_len]; omega), insAt_get hj, if_pos (by omega)]
theorem ins_swap (hj : j ≤ S.length) (h0 : 0 < j) : ((insAt S j x ++ R).set j (S.getD (j - 1) 0)).set (j - 1) x = insAt S (j - 1) x ++ R := by
  have hl := insAt_len S j x
  have hl2 := insAt_len S (j - 1) x
  refine ext_getD (by simp [hl, hl2]) fun k hk => ?_
  simp only [List.length_set, List.length_append, hl] at hk
  rw [getD_set (by simp [hl]; omega), getD_set (by simp [hl]; omega), getD_app, getD_app, hl, hl2, insAt_get hj, insAt_get (show j - 1 ≤ S.length by omega)]
  repeat' split
  all_goals first | (exfalso; omega) | rfl | (congr 1; omega) | (subst_vars; rfl)
/-- A shift: the place j gets what stood below it. -/
theorem ins_shift {y : Nat} (hj : j ≤ S.length) (h0 : 0 < j) : (insAt S j y ++ R).set j (S.getD (j - 1) 0) = insAt S (j - 1) (S.getD (j - 1) 0) ++ R := by
  have hl := insAt_len S j y
  have hl2 := insAt_len S (j - 1) (S.getD (j - 1) 0)
  refine ext_getD (by rw [List.length_set, List.length_append, List.length_append, hl, hl2]) fun k hk => ?_
  simp only [List.length_set, List.length_append, hl] at hk
  rw [getD_set (by simp [hl]; omega), getD_app, getD_app, hl, hl2, insAt_get hj, insAt_get (show j - 1 ≤ S.length by omega)]
  repeat' split
  all_goals first | (exfalso; omega) | rfl | (congr 1; omega) | (subst_vars; rfl)
theorem ins_put {y : Nat} (hj : j ≤ S.length) : (insAt S j y ++ R).set j x = insAt S j x ++ R := by
  have hl := insAt_len S j y
  have hl2 := insAt_len S j x
  refine ext_getD (by simp [hl, hl2]) fun k hk => ?_
  simp only [List.length_set, List.length_append, hl] at hk
  rw [getD_set (by simp [hl]; omega), getD_app, getD_app, hl, hl2, insAt_get hj, insAt_get hj]
  repeat' split
  all_goals first | (exfalso; omega) | rfl | (congr 1; omega) | (subst_vars; rfl)
theorem ins_end (S : List Nat) (x : Nat) : insAt S S.length x = S ++ [x] := by unfold insAt; simp
end
/-- The list behind i rounds. -/
def sortTo (lt : Nat → Nat → Bool) (l : List Nat) (i : Nat) : List Nat := srt lt (l.take i) ++ l.drop i
section
variable {lt : Nat → Nat → Bool} {l : List Nat} {i j : Nat}
theorem sortTo_len : (sortTo lt l i).length = l.length := by
  unfold sortTo; rw [List.length_append, srt_len, List.length_take, List.length_drop]; omega
theorem sortTo_one : sortTo lt l 1 = l := by
  unfold sortTo
  cases l with
  | nil => rfl
  | cons x l => simp [srt_one]
theorem sortTo_all (h : l.length ≤ i) : sortTo lt l i = srt lt l := by
  unfold sortTo; rw [List.take_of_length_le h, List.drop_of_length_le h, List.append_nil]
theorem take_srt_len (h : i ≤ l.length) : (srt lt (l.take i)).length = i := by rw [srt_len, List.length_take]; omega
theorem sortTo_in (h : i < l.length) : sortTo lt l i = insAt (srt lt (l.take i)) i (l.getD i 0) ++ l.drop (i + 1) := by
  have e := ins_end (srt lt (l.take i)) (l.getD i 0)
  rw [take_srt_len (by omega)] at e
  rw [e]
  unfold sortTo
  rw [List.drop_eq_getElem_cons h, List.getD_eq_getElem?_getD, List.getElem?_eq_getElem h]
  simp
theorem sortTo_out (h : i < l.length) {J : Nat} (hJ : posOf (lt (l.getD i 0)) (srt lt (l.take i)) i = J) : insAt (srt lt (l.take i)) J (l.getD i 0) ++ l.drop (i + 1) = sortTo lt l (i + 1) := by
  have e : l.take (i + 1) = l.take i ++ [l.getD i 0] := by
    rw [List.getD_eq_getElem?_getD, List.getElem?_eq_getElem h, List.take_succ_eq_append_getElem h]; rfl
  unfold sortTo
  rw [e, srt_snoc]
  unfold ins1
  rw [take_srt_len (by omega), hJ]
theorem srt_get (hj : j < l.length) (p : Nat → Prop) (hp : ∀ x ∈ l, p x) : p ((srt lt l).getD j 0) := by
  refine hp _ ((srt_mem lt l _).1 ?_)
  rw [List.getD_eq_getElem?_getD, List.getElem?_eq_getElem (by rw [srt_len]; exact hj)]
  exact List.getElem_mem _
end
end Go.Proofs.YtgmhmlhdiklaaaaGreatDoor

/- DartW -/
namespace Go.Proofs.YtgmhmlhdiklaaaaGreatDoor
open Go.RowKit
set_option linter.unusedVariables false

theorem orgI_even {L : Nat → Nat → Int} {x : Nat} (h : x % 2 = 0) : orgI L x = L (x / 2) 0 := if_pos h
theorem orgI_odd {L : Nat → Nat → Int} {x : Nat} (h : x % 2 = 1) : orgI L x = L (x / 2) 1 := if_neg (by omega)
theorem orgI_tw_even {L : Nat → Nat → Int} {x : Nat} (h : x % 2 = 0) : orgI L (tw x) = L (x / 2) 1 := by
  rw [orgI_odd (by rw [tw_even h]; omega), tw_half]
theorem orgI_tw_odd {L : Nat → Nat → Int} {x : Nat} (h : x % 2 = 1) : orgI L (tw x) = L (x / 2) 0 := by
  rw [orgI_even (by rw [tw_odd h]; omega), tw_half]
set_option maxHeartbeats 2000000 in
theorem impl_dartFrom (A : Option Addr) (n c : Nat) (P : Nat → Nat → Int) (B : Option Addr) (m d : Nat) (L : Nat → Nat → Int) (hnc : n ≤ c) (hcm : c ≤ 9223372036854775807) (hmd : m ≤ d) (hdm : d ≤ 9223372036854775807) (x : Nat) (hx : x < 2 * m) (hm20 : m ≤ 20) (w : World) (hr : Recs w 2 A n P) (hs : Recs w 2 B m L) :
    Calls Tryz.prog 59 #[.agg #[.slice A n c, .slice B m d], .int .i64 (x : Int)] w fun e w' => e = .returned (.int .i64 (orgI L x)) ∧ Ext w w' := by
  rcases Nat.mod_two_eq_zero_or_one x with q | q
  · have e1 : ((x : Nat) : Int) % 2 = 0 := by omega
    have e2 : ((x : Nat) : Int) / 2 = ((x / 2 : Nat) : Int) := by omega
    obtain ⟨k, hk⟩ : ∃ k, k = x / 2 := ⟨_, rfl⟩
    rw [← hk] at e2
    have hlt : k < m := by omega
    obtain ⟨bB, oB, rfl, hbB, c0, c1⟩ := hs.at2 hlt
    have k1 : (0 : Int) ≤ (k : Int) := by omega
    have k2 : (k : Int) < (m : Int) := by omega
    have HR := Lib.hid (orgI_even (L := L) q)
    rw [← hk] at HR
    clear hk q
    go_enter Tryz.func59, Tryz.ntmps59
    go_wp2
    go_ret
    exact ⟨ret_i HR.out.symm, by repeat (first | exact Ext.refl _ | apply Ext.wgr | apply Ext.drew | apply Ext.drewN | apply Ext.alloc)⟩
  · have e1 : ((x : Nat) : Int) % 2 = 1 := by omega
    have e2 : ((x : Nat) : Int) / 2 = ((x / 2 : Nat) : Int) := by omega
    obtain ⟨k, hk⟩ : ∃ k, k = x / 2 := ⟨_, rfl⟩
    rw [← hk] at e2
    have hlt : k < m := by omega
    obtain ⟨bB, oB, rfl, hbB, c0, c1⟩ := hs.at2 hlt
    have k1 : (0 : Int) ≤ (k : Int) := by omega
    have k2 : (k : Int) < (m : Int) := by omega
    have HR := Lib.hid (orgI_odd (L := L) q)
    rw [← hk] at HR
    clear hk q
    go_enter Tryz.func59, Tryz.ntmps59
    go_wp2
    go_ret
    exact ⟨ret_i HR.out.symm, by repeat (first | exact Ext.refl _ | apply Ext.wgr | apply Ext.drew | apply Ext.drewN | apply Ext.alloc)⟩
set_option maxHeartbeats 2000000 in
theorem spec_l05Ends (A : Option Addr) (n c : Nat) (P : Nat → Nat → Int) (B : Option Addr) (m d : Nat) (L : Nat → Nat → Int) (hnc : n ≤ c) (hcm : c ≤ 9223372036854775807) (hmd : m ≤ d) (hdm : d ≤ 9223372036854775807) (x : Nat) (hx : x < 2 * m) (hm20 : m ≤ 20) (w : World) (hr : Recs w 2 A n P) (hs : Recs w 2 B m L) :
    Calls Tryz.prog 44 #[.agg #[.slice A n c, .slice B m d], .int .i64 (x : Int)] w fun e w' => e = .returned (.tuple #[.int .i64 (orgI L x), .int .i64 (orgI L (tw x))]) ∧ Ext w w' := by
  rcases Nat.mod_two_eq_zero_or_one x with q | q
  · have e1 : ((x : Nat) : Int) % 2 = 0 := by omega
    have e2 : ((x : Nat) : Int) / 2 = ((x / 2 : Nat) : Int) := by omega
    obtain ⟨k, hk⟩ : ∃ k, k = x / 2 := ⟨_, rfl⟩
    rw [← hk] at e2
    have hlt : k < m := by omega
    obtain ⟨bB, oB, rfl, hbB, c0, c1⟩ := hs.at2 hlt
    have k1 : (0 : Int) ≤ (k : Int) := by omega
    have k2 : (k : Int) < (m : Int) := by omega
    have HR := orgI_even (L := L) q
    have HT := orgI_tw_even (L := L) q
    rw [← hk] at HR HT
    rw [HR, HT]
    clear HR HT hk q
    go_enter Tryz.func44, Tryz.ntmps44
    go_wp2
    first | refine wp_region_gr2 (by kernel_rfl) (by kernel_rfl) ?_ | refine wp_region_gr (by kernel_rfl) (by kernel_rfl) ?_
    repeat (go_big_quiet_step (fail))
    refine wpQuiet_nil ?_
    intro _ hw'
    obtain ⟨gq, hw''⟩ := hw'
    subst hw''
    go_wp2
    refine bodyPost_ret (res2 rfl _ _ _) rfl ⟨rfl, ?_⟩
    repeat (first | exact Ext.refl _ | apply Ext.wgr | apply Ext.drew | apply Ext.drewN | apply Ext.alloc)
  · have e1 : ((x : Nat) : Int) % 2 = 1 := by omega
    have e2 : ((x : Nat) : Int) / 2 = ((x / 2 : Nat) : Int) := by omega
    obtain ⟨k, hk⟩ : ∃ k, k = x / 2 := ⟨_, rfl⟩
    rw [← hk] at e2
    have hlt : k < m := by omega
    obtain ⟨bB, oB, rfl, hbB, c0, c1⟩ := hs.at2 hlt
    have k1 : (0 : Int) ≤ (k : Int) := by omega
    have k2 : (k : Int) < (m : Int) := by omega
    have HR := orgI_odd (L := L) q
    have HT := orgI_tw_odd (L := L) q
    rw [← hk] at HR HT
    rw [HR, HT]
    clear HR HT hk q
    go_enter Tryz.func44, Tryz.ntmps44
    go_wp2
    first | refine wp_region_gr2 (by kernel_rfl) (by kernel_rfl) ?_ | refine wp_region_gr (by kernel_rfl) (by kernel_rfl) ?_
    repeat (go_big_quiet_step (fail))
    refine wpQuiet_nil ?_
    intro _ hw'
    obtain ⟨gq, hw''⟩ := hw'
    subst hw''
    go_wp2
    refine bodyPost_ret (res2 rfl _ _ _) rfl ⟨rfl, ?_⟩
    repeat (first | exact Ext.refl _ | apply Ext.wgr | apply Ext.drew | apply Ext.drewN | apply Ext.alloc)

set_option maxHeartbeats 2000000 in
theorem impl_HalfPlane (a0 a1 b0 b1 : Int) (w : World) :
    Calls Tryz.prog 88 #[.agg #[.int .i64 a0, .int .i64 a1], .agg #[.int .i64 b0, .int .i64 b1]] w fun e w' => e = .returned (.int .i64 (hpV a0 a1 b0 b1)) ∧ Ext w w' := by
  by_cases h1 : a1 < b1
  · have HR : Hid (hpV a0 a1 b0 b1 = 0) := Lib.hid (if_pos (.inl h1))
    go_enter Tryz.func88, Tryz.ntmps88
    go_wp2
    go_ret
    exact ⟨ret_i HR.out.symm, by repeat (first | exact Ext.refl _ | apply Ext.wgr | apply Ext.drew | apply Ext.drewN | apply Ext.alloc)⟩
  by_cases h2 : b1 = a1
  · by_cases h3 : a0 < b0
    · have HR : Hid (hpV a0 a1 b0 b1 = 0) := Lib.hid (if_pos (.inr ⟨h2, h3⟩))
      subst h2
      go_enter Tryz.func88, Tryz.ntmps88
      go_wp2
      go_ret
      exact ⟨ret_i HR.out.symm, by repeat (first | exact Ext.refl _ | apply Ext.wgr | apply Ext.drew | apply Ext.drewN | apply Ext.alloc)⟩
    · have HR : Hid (hpV a0 a1 b0 b1 = 1) := Lib.hid (if_neg (by omega))
      subst h2
      go_enter Tryz.func88, Tryz.ntmps88
      go_wp2
      go_ret
      exact ⟨ret_i HR.out.symm, by repeat (first | exact Ext.refl _ | apply Ext.wgr | apply Ext.drew | apply Ext.drewN | apply Ext.alloc)⟩
  · have HR : Hid (hpV a0 a1 b0 b1 = 1) := Lib.hid (if_neg (by omega))
    go_enter Tryz.func88, Tryz.ntmps88
    go_wp2
    go_ret
    exact ⟨ret_i HR.out.symm, by repeat (first | exact Ext.refl _ | apply Ext.wgr | apply Ext.drew | apply Ext.drewN | apply Ext.alloc)⟩

set_option maxHeartbeats 2000000 in
theorem spec_HalfPlane (a0 a1 b0 b1 : Int) (w : World) :
    Calls Tryz.prog 89 #[.agg #[.int .i64 a0, .int .i64 a1], .agg #[.int .i64 b0, .int .i64 b1]] w fun e w' => e = .returned (.int .i64 (hpV a0 a1 b0 b1)) ∧ Ext w w' := by
  by_cases h1 : a1 < b1
  · have HR : Hid (hpV a0 a1 b0 b1 = 0) := Lib.hid (if_pos (.inl h1))
    go_enter Tryz.func89, Tryz.ntmps89
    go_wp2
    go_ret
    exact ⟨ret_i HR.out.symm, by repeat (first | exact Ext.refl _ | apply Ext.wgr | apply Ext.drew | apply Ext.drewN | apply Ext.alloc)⟩
  by_cases h2 : b1 = a1
  · by_cases h3 : a0 < b0
    · have HR : Hid (hpV a0 a1 b0 b1 = 0) := Lib.hid (if_pos (.inr ⟨h2, h3⟩))
      subst h2
      go_enter Tryz.func89, Tryz.ntmps89
      go_wp2
      go_ret
      exact ⟨ret_i HR.out.symm, by repeat (first | exact Ext.refl _ | apply Ext.wgr | apply Ext.drew | apply Ext.drewN | apply Ext.alloc)⟩
    · have HR : Hid (hpV a0 a1 b0 b1 = 1) := Lib.hid (if_neg (by omega))
      subst h2
      go_enter Tryz.func89, Tryz.ntmps89
      go_wp2
      go_ret
      exact ⟨ret_i HR.out.symm, by repeat (first | exact Ext.refl _ | apply Ext.wgr | apply Ext.drew | apply Ext.drewN | apply Ext.alloc)⟩
  · have HR : Hid (hpV a0 a1 b0 b1 = 1) := Lib.hid (if_neg (by omega))
    go_enter Tryz.func89, Tryz.ntmps89
    go_wp2
    go_ret
    exact ⟨ret_i HR.out.symm, by repeat (first | exact Ext.refl _ | apply Ext.wgr | apply Ext.drew | apply Ext.drewN | apply Ext.alloc)⟩

end Go.Proofs.YtgmhmlhdiklaaaaGreatDoor

/- BefW -/
namespace Go.Proofs.YtgmhmlhdiklaaaaGreatDoor
open Go.RowKit
set_option linter.unusedVariables false

theorem befV_lt {a0 a1 b0 b1 c0 c1 : Int} (h : hpV a0 a1 b0 b1 < hpV a0 a1 c0 c1) : befV a0 a1 b0 b1 c0 c1 = true := by unfold befV; simp [h]
theorem befV_gt {a0 a1 b0 b1 c0 c1 : Int} (h : hpV a0 a1 c0 c1 < hpV a0 a1 b0 b1) : befV a0 a1 b0 b1 c0 c1 = false := by
  have h1 : ¬ hpV a0 a1 b0 b1 < hpV a0 a1 c0 c1 := by omega
  have h2 : ¬ hpV a0 a1 b0 b1 = hpV a0 a1 c0 c1 := by omega
  unfold befV; simp [h1, h2]
theorem befV_eq {a0 a1 b0 b1 c0 c1 : Int} (h : hpV a0 a1 b0 b1 = hpV a0 a1 c0 c1) : befV a0 a1 b0 b1 c0 c1 = decide (0 < trn a0 a1 b0 b1 c0 c1) := by
  unfold befV; rw [h]; simp

set_option maxHeartbeats 4000000 in
theorem impl_IsBeforeAround (a0 a1 b0 b1 c0 c1 : Int) (ha0 : I64 a0) (ha1 : I64 a1) (hb0 : I64 b0) (hb1 : I64 b1) (hc0 : I64 c0) (hc1 : I64 c1) (ha : nodeB a0 a1 = true) (hb : nodeB b0 b1 = true) (hc : nodeB c0 c1 = true) (w : World) :
    Calls Tryz.prog 82 #[.agg #[.int .i64 a0, .int .i64 a1], .agg #[.int .i64 b0, .int .i64 b1], .agg #[.int .i64 c0, .int .i64 c1]] w fun e w' => e = .returned (.bool (befV a0 a1 b0 b1 c0 c1)) ∧ Ext w w' := by
  have h : (nodeB a0 a1 && nodeB b0 b1 && nodeB c0 c1) = true := by rw [ha, hb, hc]; rfl
  have HT : Hid (∀ W, Calls Tryz.prog 72 #[.agg #[.int .i64 a0, .int .i64 a1], .agg #[.int .i64 b0, .int .i64 b1], .agg #[.int .i64 c0, .int .i64 c1]] W fun e w' => e = .returned (.int .i64 (trn a0 a1 b0 b1 c0 c1)) ∧ Ext W w') := Lib.hid (fun W => by have q := impl_TurnOf a0 a1 b0 b1 c0 c1 ha0 ha1 hb0 hb1 hc0 hc1 W; rwa [show turnV a0 a1 b0 b1 c0 c1 = trn a0 a1 b0 b1 c0 c1 from if_pos h] at q)
  have HG := Lib.hid (@befV_gt a0 a1 b0 b1 c0 c1)
  have HL := Lib.hid (@befV_lt a0 a1 b0 b1 c0 c1)
  have HE := Lib.hid (@befV_eq a0 a1 b0 b1 c0 c1)
  clear ha hb hc
  generalize trn a0 a1 b0 b1 c0 c1 = z at HT HE
  go_enter Tryz.func82, Tryz.ntmps82
  go_wp2_with fail
  refine (impl_nodesOk _ 3 _ (pts3 a0 a1 b0 b1 c0 c1) (by omega) _ (Recs.lit3 (by simp) ha0 ha1 hb0 hb1 hc0 hc1)).mono ?_
  rintro e w2 ⟨rfl, x2⟩
  rw [nodesB3, h]
  have q00 := x2.cell (a := ⟨w.heap.size, 0, none⟩) (u := .int .i64 a0) (by simp [go_sem])
  have q01 := x2.cell (a := ⟨w.heap.size, 1, none⟩) (u := .int .i64 a1) (by simp [go_sem])
  have q10 := x2.cell (a := ⟨w.heap.size + 1, 0, none⟩) (u := .int .i64 b0) (by simp [go_sem])
  have q11 := x2.cell (a := ⟨w.heap.size + 1, 1, none⟩) (u := .int .i64 b1) (by simp [go_sem])
  have q20 := x2.cell (a := ⟨w.heap.size + 1 + 1, 0, none⟩) (u := .int .i64 c0) (by simp [go_sem])
  have q21 := x2.cell (a := ⟨w.heap.size + 1 + 1, 1, none⟩) (u := .int .i64 c1) (by simp [go_sem])
  have X2 := ((Ext.refl w).alloc _ |>.alloc _ |>.alloc _ |>.alloc _).trans x2
  clear x2
  go_wp2
  first | refine wp_region_gr2 (by kernel_rfl) (by kernel_rfl) ?_ | refine wp_region_gr (by kernel_rfl) (by kernel_rfl) ?_
  repeat (go_big_quiet_step ((go_at_call 88; exact gr_of (impl_HalfPlane _ _ _ _ _))))
  refine wpQuiet_nil ?_
  intro _ hw'
  obtain ⟨gq, hw''⟩ := hw'
  subst hw''
  have X3 : Ext w (wgr w2 gq) := X2.wgr gq
  replace q00 := (Ext.gr w2 gq).cell q00
  replace q01 := (Ext.gr w2 gq).cell q01
  replace q10 := (Ext.gr w2 gq).cell q10
  replace q11 := (Ext.gr w2 gq).cell q11
  replace q20 := (Ext.gr w2 gq).cell q20
  replace q21 := (Ext.gr w2 gq).cell q21
  generalize wgr w2 gq = w3 at *
  obtain ⟨x, hx⟩ : ∃ x, x = hpV a0 a1 b0 b1 := ⟨_, rfl⟩
  obtain ⟨y, hy⟩ : ∃ y, y = hpV a0 a1 c0 c1 := ⟨_, rfl⟩
  rw [← hx, ← hy] at HG HL HE ⊢
  have HX := Lib.hid hx
  have HY := Lib.hid hy
  clear hx hy
  rcases Int.lt_trichotomy x y with g | g | g
  · have HR := Lib.hid (HL.out g)
    go_wp2
    go_ret
    exact ⟨congrArg (fun z => Ending.returned (.bool z)) HR.out.symm, X3⟩
  · have HR := Lib.hid (HE.out g)
    subst g
    have g1 : ¬ x < x := by omega
    go_wp2_with fail
    refine (HT.out _).mono ?_
    rintro e w4 ⟨rfl, x4⟩
    go_wp2
    go_ret
    exact ⟨congrArg (fun z => Ending.returned (.bool z)) HR.out.symm, X3.trans x4⟩
  · have HR := Lib.hid (HG.out g)
    have g1 : ¬ x < y := by omega
    have g2 : decide (x = y) = false := by simp; omega
    go_wp2
    go_ret
    exact ⟨congrArg (fun z => Ending.returned (.bool z)) HR.out.symm, X3⟩
set_option maxHeartbeats 4000000 in
theorem spec_IsBeforeAround (a0 a1 b0 b1 c0 c1 : Int) (ha0 : I64 a0) (ha1 : I64 a1) (hb0 : I64 b0) (hb1 : I64 b1) (hc0 : I64 c0) (hc1 : I64 c1) (ha : nodeB a0 a1 = true) (hb : nodeB b0 b1 = true) (hc : nodeB c0 c1 = true) (w : World) :
    Calls Tryz.prog 84 #[.agg #[.int .i64 a0, .int .i64 a1], .agg #[.int .i64 b0, .int .i64 b1], .agg #[.int .i64 c0, .int .i64 c1]] w fun e w' => e = .returned (.bool (befV a0 a1 b0 b1 c0 c1)) ∧ Ext w w' := by
  have HA : Hid (∀ W, Calls Tryz.prog 63 #[.agg #[.int .i64 a0, .int .i64 a1]] W fun e w' => e = .returned (.bool true) ∧ Ext W w') := Lib.hid (fun W => by have := spec_NodeOk a0 a1 W; rwa [ha] at this)
  have HB : Hid (∀ W, Calls Tryz.prog 63 #[.agg #[.int .i64 b0, .int .i64 b1]] W fun e w' => e = .returned (.bool true) ∧ Ext W w') := Lib.hid (fun W => by have := spec_NodeOk b0 b1 W; rwa [hb] at this)
  have HC : Hid (∀ W, Calls Tryz.prog 63 #[.agg #[.int .i64 c0, .int .i64 c1]] W fun e w' => e = .returned (.bool true) ∧ Ext W w') := Lib.hid (fun W => by have := spec_NodeOk c0 c1 W; rwa [hc] at this)
  have HT := Lib.hid (fun W => spec_l02Turn a0 a1 b0 b1 c0 c1 ha hb hc W)
  have HG := Lib.hid (@befV_gt a0 a1 b0 b1 c0 c1)
  have HL := Lib.hid (@befV_lt a0 a1 b0 b1 c0 c1)
  have HE := Lib.hid (@befV_eq a0 a1 b0 b1 c0 c1)
  clear ha hb hc
  generalize trn a0 a1 b0 b1 c0 c1 = z at HT HE
  go_enter Tryz.func84, Tryz.ntmps84
  go_wp2_with fail
  refine (HA.out _).mono ?_
  rintro e w2 ⟨rfl, x2⟩
  have q00 := x2.cell (a := ⟨w.heap.size, 0, none⟩) (u := .int .i64 a0) (by simp [go_sem])
  have q01 := x2.cell (a := ⟨w.heap.size, 1, none⟩) (u := .int .i64 a1) (by simp [go_sem])
  have q10 := x2.cell (a := ⟨w.heap.size + 1, 0, none⟩) (u := .int .i64 b0) (by simp [go_sem])
  have q11 := x2.cell (a := ⟨w.heap.size + 1, 1, none⟩) (u := .int .i64 b1) (by simp [go_sem])
  have q20 := x2.cell (a := ⟨w.heap.size + 1 + 1, 0, none⟩) (u := .int .i64 c0) (by simp [go_sem])
  have q21 := x2.cell (a := ⟨w.heap.size + 1 + 1, 1, none⟩) (u := .int .i64 c1) (by simp [go_sem])
  have X2 := ((Ext.refl w).alloc _ |>.alloc _ |>.alloc _).trans x2
  clear x2
  go_wp2_with fail
  refine (HB.out _).mono ?_
  rintro e w3 ⟨rfl, x3⟩
  replace q00 := x3.cell q00
  replace q01 := x3.cell q01
  replace q10 := x3.cell q10
  replace q11 := x3.cell q11
  replace q20 := x3.cell q20
  replace q21 := x3.cell q21
  replace X2 := X2.trans x3
  clear x3
  go_wp2_with fail
  refine (HC.out _).mono ?_
  rintro e w4 ⟨rfl, x4⟩
  replace q00 := x4.cell q00
  replace q01 := x4.cell q01
  replace q10 := x4.cell q10
  replace q11 := x4.cell q11
  replace q20 := x4.cell q20
  replace q21 := x4.cell q21
  replace X2 := X2.trans x4
  clear x4 HA HB HC
  go_wp2
  first | refine wp_region_gr2 (by kernel_rfl) (by kernel_rfl) ?_ | refine wp_region_gr (by kernel_rfl) (by kernel_rfl) ?_
  repeat (go_big_quiet_step ((go_at_call 89; exact gr_of (spec_HalfPlane _ _ _ _ _))))
  refine wpQuiet_nil ?_
  intro _ hw'
  obtain ⟨gq, hw''⟩ := hw'
  subst hw''
  have X3 : Ext w (wgr w4 gq) := X2.wgr gq
  replace q00 := (Ext.gr w4 gq).cell q00
  replace q01 := (Ext.gr w4 gq).cell q01
  replace q10 := (Ext.gr w4 gq).cell q10
  replace q11 := (Ext.gr w4 gq).cell q11
  replace q20 := (Ext.gr w4 gq).cell q20
  replace q21 := (Ext.gr w4 gq).cell q21
  generalize wgr w4 gq = w5 at *
  rcases Int.lt_trichotomy (hpV a0 a1 b0 b1) (hpV a0 a1 c0 c1) with g | g | g
  · have HR := Lib.hid (HL.out g)
    have g2 : (hpV a0 a1 b0 b1 != hpV a0 a1 c0 c1) = true := by simp; omega
    go_wp2
    first | refine wp_region_gr2 (by kernel_rfl) (by kernel_rfl) ?_ | refine wp_region_gr (by kernel_rfl) (by kernel_rfl) ?_
    repeat (go_big_quiet_step ((go_at_call 89; exact gr_of (spec_HalfPlane _ _ _ _ _))))
    refine wpQuiet_nil ?_
    intro _ hw'
    obtain ⟨gq, hw''⟩ := hw'
    subst hw''
    go_wp2
    go_ret
    exact ⟨congrArg (fun z => Ending.returned (.bool z)) HR.out.symm, X3.wgr _⟩
  · have HR := Lib.hid (HE.out g)
    have g2 : (hpV a0 a1 b0 b1 != hpV a0 a1 c0 c1) = false := by simp [g]
    clear g
    go_wp2_with fail
    refine (HT.out _).mono ?_
    rintro e w6 ⟨rfl, x6⟩
    go_wp2
    go_ret
    exact ⟨congrArg (fun z => Ending.returned (.bool z)) HR.out.symm, X3.trans x6⟩
  · have HR := Lib.hid (HG.out g)
    have g1 : ¬ hpV a0 a1 b0 b1 < hpV a0 a1 c0 c1 := by omega
    have g2 : (hpV a0 a1 b0 b1 != hpV a0 a1 c0 c1) = true := by simp; omega
    go_wp2
    first | refine wp_region_gr2 (by kernel_rfl) (by kernel_rfl) ?_ | refine wp_region_gr (by kernel_rfl) (by kernel_rfl) ?_
    repeat (go_big_quiet_step ((go_at_call 89; exact gr_of (spec_HalfPlane _ _ _ _ _))))
    refine wpQuiet_nil ?_
    intro _ hw'
    obtain ⟨gq, hw''⟩ := hw'
    subst hw''
    go_wp2
    go_ret
    exact ⟨congrArg (fun z => Ending.returned (.bool z)) (Eq.trans (by simpa using g1) HR.out.symm), X3.wgr _⟩

end Go.Proofs.YtgmhmlhdiklaaaaGreatDoor

/- InsW -/
namespace Go.Proofs.YtgmhmlhdiklaaaaGreatDoor
open Go.RowKit Ring
set_option linter.unusedVariables false

set_option maxHeartbeats 8000000 in
set_option maxRecDepth 100000 in
theorem around_insertion (g0 g1 : Nat) (cf : Nat → Nat → Int) (pr : Nat → Prop) (wb : World)
    (HC : ∀ W, Ext wb W → ∀ x y : Nat, pr x → pr y → Calls Tryz.prog 81 #[.int .i64 (x : Int), .int .i64 (y : Int), .pointer (some ⟨g0, 0, none⟩), .pointer (some ⟨g1, 0, none⟩)] W fun e w' => e = .returned (.int .i64 (cf x y)) ∧ Ext W w')
    (G c : Nat) (l : List Nat) (hl : l.length ≤ 20) (hp : ∀ x ∈ l, pr x) (hb : ∀ x ∈ l, x < 1000) (w : World) (X : Ext wb w) (hm : Mine wb.heap.size w 3 (.slice (some ⟨G, 0, none⟩) l.length c) l.length (nums l)) :
    Calls Tryz.prog 61 #[.slice (some ⟨G, 0, none⟩) l.length c, .int .i64 0, .int .i64 (l.length : Int), .func (.func 81) #[] #[.pointer (some ⟨g0, 0, none⟩), .pointer (some ⟨g1, 0, none⟩)]] w fun e w' => e = .returned (.tuple #[]) ∧ Ext wb w' ∧ Mine wb.heap.size w' 3 (.slice (some ⟨G, 0, none⟩) l.length c) l.length (nums (srt (fun x y => decide (cf x y < 0)) l)) := by
  have hm1 : Mine wb.heap.size w 3 (.slice (some ⟨G, 0, none⟩) l.length c) l.length (nums (sortTo (fun x y => decide (cf x y < 0)) l 1)) := by rw [sortTo_one]; exact hm
  have HC' := Lib.hid HC
  have HP := Lib.hid hp
  have HBD := Lib.hid hb
  clear hm HC hp hb
  go_enter Tryz.func61, Tryz.ntmps61
  go_wp2
  go_loopw [8] (fun i wr => ∃ k : Nat, 1 ≤ k ∧ k ≤ l.length + 1 ∧ i = .int .i64 k ∧ Ext wb wr ∧ Mine wb.heap.size wr 3 (.slice (some ⟨G, 0, none⟩) l.length c) l.length (nums (sortTo (fun x y => decide (cf x y < 0)) l k))) (fun i _ => l.length + 1 - (intOf i).toNat)
  case atStart => exact ⟨1, by omega, by omega, rfl, X, hm1⟩
  case round =>
    clear hm1 X
    obtain ⟨k, hk1, hk2, rfl, X1, hm2⟩ := hrel
    by_cases hlt : k < l.length
    · have hxl : l.getD k 0 ∈ l := by rw [List.getD_eq_getElem?_getD, List.getElem?_eq_getElem hlt]; exact List.getElem_mem hlt
      have HOUT := Lib.hid (fun J (hJ : posOf ((fun x y => decide (cf x y < 0)) (l.getD k 0)) (srt (fun x y => decide (cf x y < 0)) (l.take k)) k = J) => sortTo_out (lt := fun x y => decide (cf x y < 0)) hlt hJ)
      have HX := Lib.hid (HP.out _ hxl)
      have hSl : (srt (fun x y => decide (cf x y < 0)) (l.take k)).length = k := take_srt_len (by omega)
      have HS : Hid (∀ q, q < k → pr ((srt (fun x y => decide (cf x y < 0)) (l.take k)).getD q 0)) := Lib.hid (fun q hq => srt_get (by rw [List.length_take]; omega) pr (fun y hy => HP.out y (List.mem_of_mem_take hy)))
      rw [sortTo_in hlt] at hm2
      have hRl : (l.drop (k + 1)).length = l.length - (k + 1) := List.length_drop
      generalize hS : srt (fun x y => decide (cf x y < 0)) (l.take k) = S at HOUT HS hSl hm2
      generalize l.getD k 0 = x at HOUT HX hm2
      generalize l.drop (k + 1) = R at HOUT hm2 hRl
      have k1 : (k : Int) < (l.length : Int) := by omega
      go_wp2
      go_loopw [9] (fun i3 wy => ∃ j : Nat, j ≤ k ∧ i3 = .int .i64 j ∧ Hid (posOf ((fun x y => decide (cf x y < 0)) x) S k = posOf ((fun x y => decide (cf x y < 0)) x) S j) ∧ Ext wb wy ∧ Mine wb.heap.size wy 3 (.slice (some ⟨G, 0, none⟩) l.length c) l.length (nums (insAt S j x ++ R))) (fun i3 _ => (intOf i3).toNat)
      case atStart => exact ⟨k, Nat.le_refl _, rfl, rfl, X1, hm2⟩
      case round =>
        clear X1 hm2
        obtain ⟨j, hj, rfl, HJ, Y, hm3⟩ := hrel
        have hjl : j < l.length := by omega
        have hjS : j ≤ S.length := by omega
        obtain ⟨hc1, hf1, _, _⟩ := hm3.at_ hjl
        rw [nums_ix, ins_at hjS] at hc1
        by_cases h0 : 0 < j
        · have hj1 : j - 1 < l.length := by omega
          obtain ⟨hc2, hf2, _, _⟩ := hm3.at_ hj1
          rw [nums_ix, ins_below hjS h0] at hc2
          have HPJ := HS.out (j - 1) (by omega)
          have HSW := Lib.hid (ins_swap (x := x) (R := R) hjS h0)
          have HPO : Hid (posOf ((fun x y => decide (cf x y < 0)) x) S j = if decide (cf x (S.getD (j - 1) 0) < 0) = true then posOf ((fun x y => decide (cf x y < 0)) x) S (j - 1) else j) := Lib.hid (by
            obtain ⟨q, rfl⟩ : ∃ q, j = q + 1 := ⟨j - 1, by omega⟩
            rfl)
          obtain ⟨p, hp⟩ : ∃ p, j = p + 1 := ⟨j - 1, by omega⟩
          subst hp
          rw [Nat.add_sub_cancel] at hc2 hf2 HPJ HSW HPO hj1
          have HCC := Lib.hid (fun W (Z : Ext wb W) => HC'.out W Z x (S.getD p 0) HX.out HPJ)
          have hyS := ins_below (x := x) (R := R) hjS h0
          rw [Nat.add_sub_cancel] at hyS
          generalize S.getD p 0 = y at hc2 HPJ HSW HPO HCC hyS
          obtain ⟨z, hz⟩ : ∃ z, z = cf x y := ⟨_, rfl⟩
          rw [← hz] at HPO HCC
          clear hz
          have d0 : decide ((p : Int) + 1 > 0) = true := decide_eq_true (by omega)
          have e1 : ((p : Int) + 1).toNat = p + 1 := by omega
          have e2 : (0 : Int) ≤ (p : Int) + 1 := by omega
          have e3 : (p : Int) + 1 < (l.length : Int) := by omega
          have e4 : (0 : Int) ≤ (p : Int) := by omega
          have e5 : (p : Int) < (l.length : Int) := by omega
          have e6 : IntKind.i64.wrap ((p : Int) + 1 - 1) = (p : Int) := by rw [IntKind.wrap_i64]; omega
          have e7 : IntKind.i64.wrap (p : Int) = (p : Int) := by rw [IntKind.wrap_i64]; omega
          by_cases hz : z < 0
          · have d1 : decide (z < 0) = true := by simpa using hz
            rw [if_pos d1] at HPO
            go_wp2
            first | refine wp_region_gr2 (by kernel_rfl) (by kernel_rfl) ?_ | refine wp_region_gr (by kernel_rfl) (by kernel_rfl) ?_
            repeat (go_big_quiet_step ((go_at_call 81; exact gr_of (HCC.out _ (by repeat (first | exact Y | apply Ext.wgr | apply Ext.drew | apply Ext.drewN | apply Ext.alloc))))))
            refine wpQuiet_nil ?_
            intro _ hw'
            obtain ⟨gq, hw''⟩ := hw'
            subst hw''
            have hm4 := hm3.gr gq
            have Y4 : Ext wb (wgr wr gq) := Y.wgr gq
            generalize wgr wr gq = wz at hm4 Y4 ⊢
            clear hm3 Y hc1 hf1 hc2 hf2
            obtain ⟨hc1, hf1, hgb, hgl⟩ := hm4.at_ hjl
            rw [nums_ix, ins_at hjS] at hc1
            obtain ⟨hc2, hf2, _, _⟩ := hm4.at_ hj1
            rw [nums_ix, hyS] at hc2
            go_wp2
            go_region
            have ix1 := hm4.ix_bd p
            rw [nums_ix, hyS] at ix1
            have ix2 := hm4.ix_bd (p + 1)
            rw [nums_ix, ins_at hjS] at ix2
            have hm5 := (hm4.stored hjl ix1).stored hj1 ix2
            rw [nums_set, nums_set, HSW.out] at hm5
            have Y5 := (((Y4.setCell (p := ⟨G, p + 1, none⟩) hgb (.int .i64 (y : Int))).setCell (p := ⟨G, p, none⟩) hgb (.int .i64 (x : Int))).drew)
            go_wp2
            go_roundw
            case rel => exact ⟨p, by omega, by go_num, HJ.trans HPO.out, Y5, hm5.drew⟩
            case measure => simp [intOf]
          · have d1 : decide (z < 0) = false := by simpa using hz
            rw [if_neg (by rw [d1]; simp)] at HPO
            have HO := Lib.hid (HOUT.out (p + 1) (HJ.trans HPO.out))
            go_wp2
            first | refine wp_region_gr2 (by kernel_rfl) (by kernel_rfl) ?_ | refine wp_region_gr (by kernel_rfl) (by kernel_rfl) ?_
            repeat (go_big_quiet_step ((go_at_call 81; exact gr_of (HCC.out _ (by repeat (first | exact Y | apply Ext.wgr | apply Ext.drew | apply Ext.drewN | apply Ext.alloc))))))
            refine wpQuiet_nil ?_
            intro _ hw'
            obtain ⟨gq, hw''⟩ := hw'
            subst hw''
            go_wp2
            go_roundw
            case rel => exact ⟨k + 1, by omega, by omega, by go_num, Y.wgr gq, by rw [← HO.out]; exact hm3.gr gq⟩
            case measure => simp [intOf]; omega
        · obtain rfl : j = 0 := by omega
          have d0 : decide ((0 : Int) > 0) = false := rfl
          have HO := Lib.hid (HOUT.out 0 HJ)
          go_wp2
          first | refine wp_region_gr2 (by kernel_rfl) (by kernel_rfl) ?_ | refine wp_region_gr (by kernel_rfl) (by kernel_rfl) ?_
          repeat (go_big_quiet_step (fail))
          refine wpQuiet_nil ?_
          intro _ hw'
          obtain ⟨gq, hw''⟩ := hw'
          subst hw''
          go_wp2
          go_roundw
          case rel => exact ⟨k + 1, by omega, by omega, by go_num, Y.wgr gq, by rw [← HO.out]; exact hm3.gr gq⟩
          case measure => simp [intOf]; omega
    · have he : sortTo (fun x y => decide (cf x y < 0)) l k = srt (fun x y => decide (cf x y < 0)) l := sortTo_all (by omega)
      rw [he] at hm2
      go_wp2
      go_end0
      exact ⟨rfl, X1, hm2⟩

set_option maxHeartbeats 2000000 in
set_option maxRecDepth 100000 in
theorem around_pdq (g0 g1 : Nat) (cf : Nat → Nat → Int) (pr : Nat → Prop) (wb : World)
    (HC : ∀ W, Ext wb W → ∀ x y : Nat, pr x → pr y → Calls Tryz.prog 81 #[.int .i64 (x : Int), .int .i64 (y : Int), .pointer (some ⟨g0, 0, none⟩), .pointer (some ⟨g1, 0, none⟩)] W fun e w' => e = .returned (.int .i64 (cf x y)) ∧ Ext W w')
    (G c : Nat) (l : List Nat) (hl : l.length ≤ 20) (hp : ∀ x ∈ l, pr x) (hb : ∀ x ∈ l, x < 1000) (w : World) (X : Ext wb w) (hm : Mine wb.heap.size w 3 (.slice (some ⟨G, 0, none⟩) l.length c) l.length (nums l)) (h12 : l.length ≤ 12) (lim : Int) :
    Calls Tryz.prog 86 #[.slice (some ⟨G, 0, none⟩) l.length c, .int .i64 0, .int .i64 (l.length : Int), .int .i64 lim, .func (.func 81) #[] #[.pointer (some ⟨g0, 0, none⟩), .pointer (some ⟨g1, 0, none⟩)]] w fun e w' => e = .returned (.tuple #[]) ∧ Ext wb w' ∧ Mine wb.heap.size w' 3 (.slice (some ⟨G, 0, none⟩) l.length c) l.length (nums (srt (fun x y => decide (cf x y < 0)) l)) := by
  have HI := Lib.hid (around_insertion g0 g1 cf pr wb HC G c l hl hp hb w X hm)
  clear HC hp hb hm
  have e1 : (l.length : Int) ≤ 12 := by omega
  go_enter Tryz.func86, Tryz.ntmps86
  go_wp2
  refine wp_loop_rounds 1 ?_
  rw [rounds_succ]
  go_wp2_with (go_at_call 61; refine HI.out.mono ?_; rintro e w' ⟨rfl, hx⟩)
  (try simp only [Exit.inBlock, Exit.then]); refine bodyPost_ret (results_none rfl _ _ _) rfl ?_
  exact ⟨rfl, hx⟩
set_option maxHeartbeats 2000000 in
set_option maxRecDepth 100000 in
theorem around_sort (g0 g1 : Nat) (cf : Nat → Nat → Int) (pr : Nat → Prop) (wb : World)
    (HC : ∀ W, Ext wb W → ∀ x y : Nat, pr x → pr y → Calls Tryz.prog 81 #[.int .i64 (x : Int), .int .i64 (y : Int), .pointer (some ⟨g0, 0, none⟩), .pointer (some ⟨g1, 0, none⟩)] W fun e w' => e = .returned (.int .i64 (cf x y)) ∧ Ext W w')
    (G c : Nat) (l : List Nat) (hl : l.length ≤ 20) (hp : ∀ x ∈ l, pr x) (hb : ∀ x ∈ l, x < 1000) (w : World) (X : Ext wb w) (hm : Mine wb.heap.size w 3 (.slice (some ⟨G, 0, none⟩) l.length c) l.length (nums l)) (h12 : l.length ≤ 12) (HLEN : ∀ (n : Nat) (W : World), n ≤ 12 → Calls Tryz.prog 87 #[.int .u64 n] W fun e w' => (∃ z : Int, e = .returned (.int .i64 z)) ∧ w' = W) :
    Calls Tryz.prog 80 #[.slice (some ⟨G, 0, none⟩) l.length c, .func (.func 81) #[] #[.pointer (some ⟨g0, 0, none⟩), .pointer (some ⟨g1, 0, none⟩)]] w fun e w' => e = .returned (.tuple #[]) ∧ Ext wb w' ∧ Mine wb.heap.size w' 3 (.slice (some ⟨G, 0, none⟩) l.length c) l.length (nums (srt (fun x y => decide (cf x y < 0)) l)) := by
  have HI := Lib.hid (fun lim => around_pdq g0 g1 cf pr wb HC G c l hl hp hb w X hm h12 lim)
  have HL := Lib.hid (HLEN l.length w h12)
  clear HC hp hb hm HLEN
  go_enter Tryz.func80, Tryz.ntmps80
  go_wp2_with (first | (go_at_call 87; refine HL.out.mono ?_; rintro e w' ⟨⟨z, rfl⟩, rfl⟩) | (go_at_call 86; refine (HI.out _).mono ?_; rintro e w' ⟨rfl, hx⟩))
  go_end0
  exact ⟨rfl, hx⟩

end Go.Proofs.YtgmhmlhdiklaaaaGreatDoor

/- BitsLen -/
namespace Go.Proofs.YtgmhmlhdiklaaaaGreatDoor
open Go.RowKit
set_option linter.unusedVariables false

set_option maxRecDepth 100000 in
set_option maxHeartbeats 4000000 in
theorem len64_small (n : Nat) (hn : n ≤ 12) (w : World) : Calls Tryz.prog 102 #[.int .u64 (n : Int)] w fun e w' => (∃ z : Int, e = .returned (.int .i64 z)) ∧ w' = w := by
  have h : n = 0 ∨ n = 1 ∨ n = 2 ∨ n = 3 ∨ n = 4 ∨ n = 5 ∨ n = 6 ∨ n = 7 ∨ n = 8 ∨ n = 9 ∨ n = 10 ∨ n = 11 ∨ n = 12 := by omega
  rcases h with rfl | rfl | rfl | rfl | rfl | rfl | rfl | rfl | rfl | rfl | rfl | rfl | rfl
  all_goals
    go_enter Tryz.func102, Tryz.ntmps102
    go_wp2
    go_ret
    exact ⟨⟨_, rfl⟩, rfl⟩
set_option maxRecDepth 100000 in
set_option maxHeartbeats 4000000 in
theorem len_small (n : Nat) (w : World) (hn : n ≤ 12) : Calls Tryz.prog 87 #[.int .u64 (n : Int)] w fun e w' => (∃ z : Int, e = .returned (.int .i64 z)) ∧ w' = w := by
  have H := Lib.hid (len64_small n hn w)
  go_enter Tryz.func87, Tryz.ntmps87
  go_wp2_with (go_at_call 102; refine H.out.mono ?_; rintro e w' ⟨⟨z, rfl⟩, rfl⟩)
  go_ret
  exact ⟨⟨_, rfl⟩, rfl⟩

end Go.Proofs.YtgmhmlhdiklaaaaGreatDoor
