/-
  Contracts of the functions of the whole year: the sum, the best month, the months above a number. No conditions.
-/
import Derived.Test.YtfenofkjnafjcaaWalkB
import Derived.Test.YtfenofkjnafjcaaInts
namespace Go.Proofs.Ytfenofkjnafjcaa
open Go.RowKit
set_option linter.unusedVariables false

theorem clear_bd (m x : Int) : -1 ≤ clear m x ∧ clear m x ≤ 990 := by
  unfold clear
  split
  · omega
  · rename_i h
    have hp := dayLen_pos h
    have hd := dayLen_bd m
    have hc := cloud_bd m x
    have hb := mul_bd hp hd.2 (by omega : 0 ≤ 100 - cloud m x) (by omega)
    omega
def year (x : Int) (k : Nat) : Int := psum (fun m => clear m x * 30) k
theorem year_bd (x : Int) (k : Nat) : -30 * (k : Int) ≤ year x k ∧ year x k ≤ 29700 * k :=
  psum_bd (fun m => by have := clear_bd m x; omega) k
theorem year_succ (x : Int) (k : Nat) : year x (k + 1) = year x k + clear k x * 30 := rfl
def yearMin (x : Int) : Int := if 0 ≤ x ∧ x ≤ 60 then year x 12 else -1
def best (x : Int) : Int := if 0 ≤ x ∧ x ≤ 60 then bestTo (fun m => clear m x) 12 else -1
def above (x y : Int) : List Int := if 0 ≤ x ∧ x ≤ 60 then pick 12 (fun m => decide (y ≤ clear m x)) else []
theorem above_yes {x y : Int} (h : 0 ≤ x ∧ x ≤ 60) : above x y = pick 12 (fun m => decide (y ≤ clear m x)) := if_pos h
theorem above_no {x y : Int} (h : ¬ (0 ≤ x ∧ x ≤ 60)) : above x y = [] := if_neg h
theorem above_len (x y : Int) : (above x y).length ≤ 12 := by
  unfold above
  split
  · exact pick_len _ _
  · simp

set_option maxHeartbeats 1000000 in
theorem impl_YearMinutes (x : Int) (w : World) :
    Calls Try.prog 25 #[.int .i64 x] w fun e w' => e = .returned (.int .i64 (yearMin x)) ∧ Ext w w' := by
  by_cases h : 0 ≤ x ∧ x ≤ 60
  · go_enter Try.func25, Try.ntmps25
    go_wp2_with (go_at_call 76; refine (within_yes _ _ _ h _).mono ?_; rintro e w' ⟨rfl, g, rfl⟩)
    go_loopw [3, 4] (fun s i wr => ∃ k : Nat, k ≤ 12 ∧ i = .int .i64 k ∧ s = .int .i64 (year x k) ∧ Ext w wr) (fun _ i _ => 12 - (intOf i).toNat)
    case atStart => exact ⟨0, by omega, rfl, rfl, Ext.gr w _⟩
    case round =>
      obtain ⟨k, hk, rfl, rfl, ⟨gx, rfl⟩⟩ := hrel
      have hb := year_bd x k
      have hc := clear_bd k x
      by_cases hlt : k < 12
      · go_wp2_with (go_at_call 30; refine (impl_ClearMinutes _ _ _).mono ?_; rintro e w' ⟨rfl, g, rfl⟩)
        go_roundw
        case rel => exact ⟨k + 1, by omega, by go_num, by rw [year_succ]; first | done | rfl | (rw [Int.mul_comm (clear k x) 30]), Ext.gr w _⟩
        case measure => simp [intOf]; omega
      · obtain rfl : k = 12 := by omega
        go_wp2
        go_ret
        exact ⟨ret_int (by rw [yearMin, if_pos h]), Ext.gr w _⟩
  · go_enter Try.func25, Try.ntmps25
    go_wp2_with (go_at_call 76; refine (within_no _ _ _ h _).mono ?_; rintro e w' ⟨rfl, g, rfl⟩)
    go_ret
    exact ⟨ret_int (by rw [yearMin, if_neg h]), Ext.gr w _⟩

set_option maxHeartbeats 1000000 in
theorem impl_BestMonth (x : Int) (w : World) :
    Calls Try.prog 27 #[.int .i64 x] w fun e w' => e = .returned (.int .i64 (best x)) ∧ Ext w w' := by
  by_cases h : 0 ≤ x ∧ x ≤ 60
  · go_enter Try.func27, Try.ntmps27
    go_wp2_with (go_at_call 76; refine (within_yes _ _ _ h _).mono ?_; rintro e w' ⟨rfl, g, rfl⟩)
    go_loopw [3, 4] (fun s i wr => ∃ k : Nat, 1 ≤ k ∧ k ≤ 12 ∧ i = .int .i64 k ∧ s = .int .i64 (bestTo (fun m => clear m x) k : Nat) ∧ Ext w wr) (fun _ i _ => 12 - (intOf i).toNat)
    case atStart => exact ⟨1, by omega, by omega, rfl, by rw [bestTo_one]; rfl, Ext.gr w _⟩
    case round =>
      obtain ⟨k, hk1, hk, rfl, rfl, ⟨gx, rfl⟩⟩ := hrel
      obtain ⟨b, hb⟩ : ∃ b, bestTo (fun m => clear m x) k = b := ⟨_, rfl⟩
      rw [hb]
      have HB := Lib.hid hb
      clear hb
      by_cases hlt : k < 12
      · by_cases hgt : clear b x < clear k x
        · go_wp2_with (go_at_call 30; refine (impl_ClearMinutes _ _ _).mono ?_; rintro e w' ⟨rfl, g, rfl⟩)
          go_roundw
          case rel => exact ⟨k + 1, by omega, by omega, by go_num, by rw [bestTo_yes (by rw [HB.out]; exact hgt)], Ext.gr w _⟩
          case measure => simp [intOf]; omega
        · go_wp2_with (go_at_call 30; refine (impl_ClearMinutes _ _ _).mono ?_; rintro e w' ⟨rfl, g, rfl⟩)
          go_roundw
          case rel => exact ⟨k + 1, by omega, by omega, by go_num, by rw [bestTo_no (by rw [HB.out]; omega), HB.out], Ext.gr w _⟩
          case measure => simp [intOf]; omega
      · obtain rfl : k = 12 := by omega
        go_wp2
        go_ret
        exact ⟨ret_int (by rw [best, if_pos h, HB.out]), Ext.gr w _⟩
  · go_enter Try.func27, Try.ntmps27
    go_wp2_with (go_at_call 76; refine (within_no _ _ _ h _).mono ?_; rintro e w' ⟨rfl, g, rfl⟩)
    go_ret
    exact ⟨ret_int (by rw [best, if_neg h]), Ext.gr w _⟩

set_option maxHeartbeats 2000000 in
theorem impl_MonthsAbove (x y : Int) (w : World) :
    Calls Try.prog 33 #[.int .i64 x, .int .i64 y] w (PostI w 3 (above x y).length (above x y)) := by
  have hm1 := Mine.nil_ w.heap.size w 3
  by_cases h : 0 ≤ x ∧ x ≤ 60
  · rw [above_yes h]
    go_enter Try.func33, Try.ntmps33
    go_wp2_with (go_at_call 76; refine (within_yes _ _ _ h _).mono ?_; rintro e w' ⟨rfl, g, rfl⟩)
    go_loopw [5, 6] (fun v i wr => ∃ k : Nat, k ≤ 12 ∧ i = .int .i64 k ∧ Ext w wr ∧ Mine w.heap.size wr 3 v (pick k fun m => decide (y ≤ clear m x)).length (pick k fun m => decide (y ≤ clear m x))) (fun _ i _ => 12 - (intOf i).toNat)
    case atStart => exact ⟨0, by omega, rfl, Ext.gr w _, hm1.gr _⟩
    case round =>
      clear hm1
      obtain ⟨k, hk, rfl, he, hm⟩ := hrel
      obtain ⟨gx, rfl⟩ := id he
      have hpl := pick_len k fun m => decide (y ≤ clear m x)
      by_cases hlt : k < 12
      · by_cases hy : y ≤ clear k x
        · have HP := Lib.hid (pick_yes (n := k) (p := fun m => decide (y ≤ clear m x)) (by simpa using hy))
          go_wp2_with (first | (go_at_call 30; refine (impl_ClearMinutes _ _ _).mono ?_; rintro e w3 ⟨rfl, x3⟩; have he3 := he.trans x3; have hm3 := hm.ext x3) | (at_builtin; refine append_int _ rfl _ _ rfl w.heap.size _ _ _ rfl (hm3.alloc _) (k : Int) _ rfl (cell_new1 (by simp)) (by unfold I64; omega) (by omega) (by rw [World.size_alloc]; have := he3.size; omega) ?_; intro v2 w2 hm2 hg2; have he2 := (hm3.alloc (.cells #[.int .i64 (k : Int)] 3)).fresh (he3.alloc (.cells #[.int .i64 (k : Int)] 3)) (Nat.le_refl _) hg2 rfl))
          go_roundw
          case rel => exact ⟨k + 1, by omega, by go_num, he2, by rw [HP.out]; simpa using hm2⟩
          case measure => simp [intOf]; omega
        · have HP := Lib.hid (pick_no (n := k) (p := fun m => decide (y ≤ clear m x)) (by simpa using hy))
          go_wp2_with (go_at_call 30; refine (impl_ClearMinutes _ _ _).mono ?_; rintro e w3 ⟨rfl, x3⟩; have he3 := he.trans x3; have hm3 := hm.ext x3)
          go_roundw
          case rel => exact ⟨k + 1, by omega, by go_num, he3, by rw [HP.out]; exact hm3⟩
          case measure => simp [intOf]; omega
      · obtain rfl : k = 12 := by omega
        obtain ⟨A', c', rfl, hc1, hc2⟩ := hm.form
        go_wp2
        go_ret
        exact ⟨A', c', rfl, hc1, hc2, hm, he⟩
  · rw [above_no h]
    go_enter Try.func33, Try.ntmps33
    go_wp2_with (go_at_call 76; refine (within_no _ _ _ h _).mono ?_; rintro e w' ⟨rfl, g, rfl⟩)
    go_ret
    exact ⟨none, 0, rfl, Nat.le_refl _, by omega, Mine.nil_ _ _ _, Ext.gr w _⟩

set_option maxHeartbeats 1000000 in
theorem spec_YearMinutes (x : Int) (w : World) :
    Calls Try.prog 24 #[.int .i64 x] w fun e w' => e = .returned (.int .i64 (yearMin x)) ∧ Ext w w' := by
  by_cases h : 0 ≤ x ∧ x ≤ 60
  · go_enter Try.func24, Try.ntmps24
    go_wp2_with (go_at_call 75; refine (l01In_yes _ _ _ h _).mono ?_; rintro e w' ⟨rfl, g, rfl⟩)
    go_loopw [3, 4] (fun s i wr => ∃ k : Nat, k ≤ 12 ∧ i = .int .i64 k ∧ s = .int .i64 (year x k) ∧ Ext w wr) (fun _ i _ => 12 - (intOf i).toNat)
    case atStart => exact ⟨0, by omega, rfl, rfl, Ext.gr w _⟩
    case round =>
      obtain ⟨k, hk, rfl, rfl, ⟨gx, rfl⟩⟩ := hrel
      have hb := year_bd x k
      have hc := clear_bd k x
      by_cases hlt : k < 12
      · go_wp2_with (go_at_call 79; refine (spec_ClearMinutes _ _ _).mono ?_; rintro e w' ⟨rfl, g, rfl⟩)
        go_roundw
        case rel => exact ⟨k + 1, by omega, by go_num, by rw [year_succ]; first | done | rfl | (rw [Int.mul_comm (clear k x) 30]), Ext.gr w _⟩
        case measure => simp [intOf]; omega
      · obtain rfl : k = 12 := by omega
        go_wp2
        go_ret
        exact ⟨ret_int (by rw [yearMin, if_pos h]), Ext.gr w _⟩
  · go_enter Try.func24, Try.ntmps24
    go_wp2_with (go_at_call 75; refine (l01In_no _ _ _ h _).mono ?_; rintro e w' ⟨rfl, g, rfl⟩)
    go_ret
    exact ⟨ret_int (by rw [yearMin, if_neg h]), Ext.gr w _⟩

set_option maxHeartbeats 1000000 in
theorem spec_BestMonth (x : Int) (w : World) :
    Calls Try.prog 26 #[.int .i64 x] w fun e w' => e = .returned (.int .i64 (best x)) ∧ Ext w w' := by
  by_cases h : 0 ≤ x ∧ x ≤ 60
  · go_enter Try.func26, Try.ntmps26
    go_wp2_with (go_at_call 75; refine (l01In_yes _ _ _ h _).mono ?_; rintro e w' ⟨rfl, g, rfl⟩)
    go_loopw [3, 4] (fun s i wr => ∃ k : Nat, 1 ≤ k ∧ k ≤ 12 ∧ i = .int .i64 k ∧ s = .int .i64 (bestTo (fun m => clear m x) k : Nat) ∧ Ext w wr) (fun _ i _ => 12 - (intOf i).toNat)
    case atStart => exact ⟨1, by omega, by omega, rfl, by rw [bestTo_one]; rfl, Ext.gr w _⟩
    case round =>
      obtain ⟨k, hk1, hk, rfl, rfl, ⟨gx, rfl⟩⟩ := hrel
      obtain ⟨b, hb⟩ : ∃ b, bestTo (fun m => clear m x) k = b := ⟨_, rfl⟩
      rw [hb]
      have HB := Lib.hid hb
      clear hb
      by_cases hlt : k < 12
      · by_cases hgt : clear b x < clear k x
        · go_wp2_with (go_at_call 79; refine (spec_ClearMinutes _ _ _).mono ?_; rintro e w' ⟨rfl, g, rfl⟩)
          go_roundw
          case rel => exact ⟨k + 1, by omega, by omega, by go_num, by rw [bestTo_yes (by rw [HB.out]; exact hgt)], Ext.gr w _⟩
          case measure => simp [intOf]; omega
        · go_wp2_with (go_at_call 79; refine (spec_ClearMinutes _ _ _).mono ?_; rintro e w' ⟨rfl, g, rfl⟩)
          go_roundw
          case rel => exact ⟨k + 1, by omega, by omega, by go_num, by rw [bestTo_no (by rw [HB.out]; omega), HB.out], Ext.gr w _⟩
          case measure => simp [intOf]; omega
      · obtain rfl : k = 12 := by omega
        go_wp2
        go_ret
        exact ⟨ret_int (by rw [best, if_pos h, HB.out]), Ext.gr w _⟩
  · go_enter Try.func26, Try.ntmps26
    go_wp2_with (go_at_call 75; refine (l01In_no _ _ _ h _).mono ?_; rintro e w' ⟨rfl, g, rfl⟩)
    go_ret
    exact ⟨ret_int (by rw [best, if_neg h]), Ext.gr w _⟩

set_option maxHeartbeats 2000000 in
theorem spec_MonthsAbove (x y : Int) (w : World) :
    Calls Try.prog 40 #[.int .i64 x, .int .i64 y] w (PostI w 3 (above x y).length (above x y)) := by
  have hm1 := Mine.lit0 w 3
  by_cases h : 0 ≤ x ∧ x ≤ 60
  · rw [above_yes h]
    go_enter Try.func40, Try.ntmps40
    go_wp2
    go_loopw [5, 6] (fun v i wr => ∃ k : Nat, k ≤ 12 ∧ i = .int .i64 k ∧ Ext w wr ∧ Mine w.heap.size wr 3 v (pick k fun m => decide (y ≤ clear m x)).length (pick k fun m => decide (y ≤ clear m x))) (fun _ i _ => 12 - (intOf i).toNat)
    case atStart => exact ⟨0, by omega, rfl, (Ext.refl w).alloc _, hm1⟩
    case round =>
      clear hm1
      obtain ⟨k, hk, rfl, he, hm⟩ := hrel
      obtain ⟨gx, rfl⟩ := id he
      have hpl := pick_len k fun m => decide (y ≤ clear m x)
      by_cases hlt : k < 12
      · by_cases hy : y ≤ clear k x
        · have HP := Lib.hid (pick_yes (n := k) (p := fun m => decide (y ≤ clear m x)) (by simpa using hy))
          go_wp2_with (first | (go_at_call 75; refine (l01In_yes _ _ _ h _).mono ?_; rintro e w1 ⟨rfl, x1⟩; have he1 := he.trans x1; have hm1 := hm.ext x1) | (go_at_call 79; refine (spec_ClearMinutes _ _ _).mono ?_; rintro e w3 ⟨rfl, x3⟩; have he3 := he1.trans x3; have hm3 := hm1.ext x3) | (at_builtin; refine append_int _ rfl _ _ rfl w.heap.size _ _ _ rfl (hm3.alloc _) (k : Int) _ rfl (cell_new1 (by simp)) (by unfold I64; omega) (by omega) (by rw [World.size_alloc]; have := he3.size; omega) ?_; intro v2 w2 hm2 hg2; have he2 := (hm3.alloc (.cells #[.int .i64 (k : Int)] 3)).fresh (he3.alloc (.cells #[.int .i64 (k : Int)] 3)) (Nat.le_refl _) hg2 rfl))
          go_roundw
          case rel => exact ⟨k + 1, by omega, by go_num, he2, by rw [HP.out]; simpa using hm2⟩
          case measure => simp [intOf]; omega
        · have HP := Lib.hid (pick_no (n := k) (p := fun m => decide (y ≤ clear m x)) (by simpa using hy))
          go_wp2_with (first | (go_at_call 75; refine (l01In_yes _ _ _ h _).mono ?_; rintro e w1 ⟨rfl, x1⟩; have he1 := he.trans x1; have hm1 := hm.ext x1) | (go_at_call 79; refine (spec_ClearMinutes _ _ _).mono ?_; rintro e w3 ⟨rfl, x3⟩; have he3 := he1.trans x3; have hm3 := hm1.ext x3))
          go_roundw
          case rel => exact ⟨k + 1, by omega, by go_num, he3, by rw [HP.out]; exact hm3⟩
          case measure => simp [intOf]; omega
      · obtain rfl : k = 12 := by omega
        obtain ⟨A', c', rfl, hc1, hc2⟩ := hm.form
        go_wp2
        go_ret
        exact ⟨A', c', rfl, hc1, hc2, hm, he⟩
  · rw [above_no h]
    go_enter Try.func40, Try.ntmps40
    go_wp2
    go_loopw [5, 6] (fun v i wr => v = .slice (some ⟨w.heap.size, 0, none⟩) 0 0 ∧ i = .int .i64 0 ∧ Ext w wr ∧ Mine w.heap.size wr 3 (.slice (some ⟨w.heap.size, 0, none⟩) 0 0) 0 []) (fun _ _ _ => 0)
    case atStart => exact ⟨rfl, rfl, (Ext.refl w).alloc _, hm1⟩
    case round =>
      clear hm1
      obtain ⟨rfl, rfl, he, hm⟩ := hrel
      go_wp2_with (go_at_call 75; refine (l01In_no _ _ _ h _).mono ?_; rintro e w1 ⟨rfl, x1⟩; have he1 := he.trans x1; have hm1 := hm.ext x1)
      go_ret
      exact ⟨some ⟨w.heap.size, 0, none⟩, 0, rfl, Nat.le_refl _, by omega, hm1, he1⟩

end Go.Proofs.Ytfenofkjnafjcaa
