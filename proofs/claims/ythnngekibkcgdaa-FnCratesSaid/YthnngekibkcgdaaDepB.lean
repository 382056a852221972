/-
  Contracts of the tests on a list of deposits. No conditions.
-/
import Derived.Test.YthnngekibkcgdaaDepA
import Derived.Deep.RegionHeld3
namespace Go.Proofs.Ythnngekibkcgdaa
open Go.RowKit
set_option linter.unusedVariables false

/-- Entry j of a list of deposits stands rightly behind those before it. -/
def depAt (f : Nat → Nat → Int) (j : Nat) : Bool :=
  ((inB (f j 0) 1 200 && inB (f j 1) 1 50) && inB (f j 2) 0 9999) && (decide (j = 0) || !decide (f j 2 < f (j - 1) 2)) && allB j (fun i => !decide (f i 0 = f j 0))
def depB (n : Nat) (f : Nat → Nat → Int) : Bool := decide (n ≤ 40) && allB n (depAt f)
def fstB (f : Nat → Nat → Int) (j : Nat) : Bool := (inB (f j 0) 1 200 && inB (f j 1) 1 50) && inB (f j 2) 0 9999
theorem depAt_a {f : Nat → Nat → Int} {j : Nat} (h : fstB f j = false) : depAt f j = false := by
  unfold fstB at h; unfold depAt; rw [h]; rfl
theorem depAt_b {f : Nat → Nat → Int} {j : Nat} (h : j ≠ 0) (k : f j 2 < f (j - 1) 2) : depAt f j = false := by
  unfold depAt; simp [h, k]
theorem depAt_c {f : Nat → Nat → Int} {j i : Nat} (hi : i < j) (k : f i 0 = f j 0) : depAt f j = false := by
  have : allB j (fun i => !decide (f i 0 = f j 0)) = false := allB_no hi (by simp [k])
  unfold depAt; rw [this, Bool.and_false]
theorem depAt_yes {f : Nat → Nat → Int} {j : Nat} (h : fstB f j = true) (k : j = 0 ∨ ¬ f j 2 < f (j - 1) 2) (q : ∀ i, i < j → f i 0 ≠ f j 0) : depAt f j = true := by
  have e1 : allB j (fun i => !decide (f i 0 = f j 0)) = true := allB_yes fun i hi => by simp [q i hi]
  unfold fstB at h
  unfold depAt
  rw [h, e1]
  rcases k with k | k <;> simp [k]
theorem depB_long {n : Nat} {f : Nat → Nat → Int} (h : ¬ n ≤ 40) : depB n f = false := by unfold depB; simp [h]
theorem depB_no {n j : Nat} {f : Nat → Nat → Int} (hj : j < n) (h : depAt f j = false) : depB n f = false := by unfold depB; rw [allB_no hj h, Bool.and_false]
theorem depB_yes {n : Nat} {f : Nat → Nat → Int} (h : n ≤ 40) (k : ∀ j, j < n → depAt f j = true) : depB n f = true := by unfold depB; rw [allB_yes k]; simp [h]

set_option maxRecDepth 100000 in
set_option maxHeartbeats 4000000 in
theorem impl_DepositsOk (A : Option Addr) (n c : Nat) (f : Nat → Nat → Int) (hnc : n ≤ c) (hcm : c ≤ 9223372036854775807) (w : World) (hr : Recs w 3 A n f) :
    Calls Try.prog 13 #[.slice A n c] w fun e w' => e = .returned (.bool (depB n f)) ∧ Ext w w' := by
  by_cases hbig : 40 < n
  · go_enter Try.func13, Try.ntmps13
    go_wp2
    go_ret
    exact ⟨(show Ending.returned (Value.bool false) = _ from by rw [depB_long (by omega)]), Ext.refl w⟩
  · go_enter Try.func13, Try.ntmps13
    go_wp2
    go_loopw [10] (fun i wr => ∃ j : Nat, j ≤ n ∧ i = .int .i64 j ∧ Ext w wr ∧ ∀ q, q < j → depAt f q = true) (fun i _ => n - (intOf i).toNat)
    case atStart => exact ⟨0, Nat.zero_le _, rfl, Ext.refl w, fun q hq => absurd hq (by omega)⟩
    case round =>
      obtain ⟨j, hj, rfl, ⟨gx, rfl⟩, hall⟩ := hrel
      have HALL := Lib.hid hall
      clear hall
      by_cases hlt : j < n
      · obtain ⟨b, o, rfl, hb, h0, h1, h2⟩ := hr.at3 hlt
        have HC := Lib.hid (fun W (X : Ext w W) => depositAt_any (some ⟨b, o, none⟩) j c f (f j 0) (by omega) W ((hr.take_ (by omega)).ext X))
        have HZ := Lib.hid (fdx_cases (fun i => decide (f i 0 = f j 0)) j)
        generalize fdx (fun i => decide (f i 0 = f j 0)) j = z at HC HZ
        cases a0 : inB (f j 0) 1 200
        · have HF := Lib.hid (show fstB f j = false by unfold fstB; rw [a0]; rfl)
          go_wp2
          first | refine wp_region_gr2 (by kernel_rfl) (by kernel_rfl) ?_ | refine wp_region_gr (by kernel_rfl) (by kernel_rfl) ?_
          repeat (go_big_quiet_step ((first | (go_at_call 26; exact gr_of (within_any _ _ _ _)) | (go_at_call 24; exact gr_of (HC.out _ (by repeat (first | exact Ext.refl _ | exact Ext.gr _ _ | apply Ext.wgr | apply Ext.drew | apply Ext.drewN | apply Ext.alloc)))))))
          refine wpQuiet_nil ?_
          intro _ hw'
          obtain ⟨gq, hw''⟩ := hw'
          subst hw''
          go_wp2
          go_ret
          exact ⟨(show Ending.returned (Value.bool false) = _ from by rw [depB_no hlt (depAt_a HF.out)]), by repeat (first | exact Ext.refl _ | exact Ext.gr _ _ | apply Ext.wgr | apply Ext.drew | apply Ext.drewN | apply Ext.alloc)⟩
        cases a1 : inB (f j 1) 1 50
        · have HF := Lib.hid (show fstB f j = false by unfold fstB; rw [a0, a1]; rfl)
          go_wp2
          first | refine wp_region_gr2 (by kernel_rfl) (by kernel_rfl) ?_ | refine wp_region_gr (by kernel_rfl) (by kernel_rfl) ?_
          repeat (go_big_quiet_step ((first | (go_at_call 26; exact gr_of (within_any _ _ _ _)) | (go_at_call 24; exact gr_of (HC.out _ (by repeat (first | exact Ext.refl _ | exact Ext.gr _ _ | apply Ext.wgr | apply Ext.drew | apply Ext.drewN | apply Ext.alloc)))))))
          refine wpQuiet_nil ?_
          intro _ hw'
          obtain ⟨gq, hw''⟩ := hw'
          subst hw''
          go_wp2
          go_ret
          exact ⟨(show Ending.returned (Value.bool false) = _ from by rw [depB_no hlt (depAt_a HF.out)]), by repeat (first | exact Ext.refl _ | exact Ext.gr _ _ | apply Ext.wgr | apply Ext.drew | apply Ext.drewN | apply Ext.alloc)⟩
        cases a2 : inB (f j 2) 0 9999
        · have HF := Lib.hid (show fstB f j = false by unfold fstB; rw [a0, a1, a2]; rfl)
          go_wp2
          first | refine wp_region_gr2 (by kernel_rfl) (by kernel_rfl) ?_ | refine wp_region_gr (by kernel_rfl) (by kernel_rfl) ?_
          repeat (go_big_quiet_step ((first | (go_at_call 26; exact gr_of (within_any _ _ _ _)) | (go_at_call 24; exact gr_of (HC.out _ (by repeat (first | exact Ext.refl _ | exact Ext.gr _ _ | apply Ext.wgr | apply Ext.drew | apply Ext.drewN | apply Ext.alloc)))))))
          refine wpQuiet_nil ?_
          intro _ hw'
          obtain ⟨gq, hw''⟩ := hw'
          subst hw''
          go_wp2
          go_ret
          exact ⟨(show Ending.returned (Value.bool false) = _ from by rw [depB_no hlt (depAt_a HF.out)]), by repeat (first | exact Ext.refl _ | exact Ext.gr _ _ | apply Ext.wgr | apply Ext.drew | apply Ext.drewN | apply Ext.alloc)⟩
        have HF := Lib.hid (show fstB f j = true by unfold fstB; rw [a0, a1, a2]; rfl)
        by_cases hj0 : j ≤ 0
        · have hz : decide (0 < j) = false := by simpa using hj0
          clear HZ HC
          have HC : Hid (∀ W, Ext w W → Calls Try.prog 24 #[.slice (some ⟨b, o, none⟩) 0 c, .int .i64 (f j 0)] W fun e w' => e = .returned (.int .i64 (-1)) ∧ Ext W w') := Lib.hid (fun W (X : Ext w W) => depositAt_any (some ⟨b, o, none⟩) 0 c f (f j 0) (by omega) W ((hr.take_ (by omega)).ext X))
          go_wp2
          first | refine wp_region_gr2 (by kernel_rfl) (by kernel_rfl) ?_ | refine wp_region_gr (by kernel_rfl) (by kernel_rfl) ?_
          repeat (go_big_quiet_step ((first | (go_at_call 26; exact gr_of (within_any _ _ _ _)) | (go_at_call 24; exact gr_of (HC.out _ (by repeat (first | exact Ext.refl _ | exact Ext.gr _ _ | apply Ext.wgr | apply Ext.drew | apply Ext.drewN | apply Ext.alloc)))))))
          refine wpQuiet_nil ?_
          intro _ hw'
          obtain ⟨gq, hw''⟩ := hw'
          subst hw''
          go_wp2
          go_roundw
          case rel =>
            refine ⟨j + 1, by omega, by go_num, by repeat (first | exact Ext.refl _ | exact Ext.gr _ _ | apply Ext.wgr | apply Ext.drew | apply Ext.drewN | apply Ext.alloc), fun q hq => ?_⟩
            by_cases e : q = j
            · subst e; exact depAt_yes HF.out (.inl (by omega)) (fun i hi => absurd hi (by omega))
            · exact HALL.out q (by omega)
          case measure => simp [intOf]; omega
        · have hz : decide (0 < j) = true := by simp; omega
          obtain ⟨_, _, hc1⟩ := hr.cell3 (k := j - 1) (by omega)
          have hc1' := ((Ext.gr w gx).alloc (.cells #[.int .i64 (f j 0), .int .i64 (f j 1), .int .i64 (f j 2)] 31)).cell hc1
          have n1 : (0 : Int) ≤ (j : Int) - 1 := by omega
          have n2 : ((j : Int) - 1).toNat = j - 1 := by omega
          have n3 : (j : Int) - 1 < n := by omega
          have n4 : IntKind.i64.wrap ((j : Int) - 1) = (j : Int) - 1 := IntWalk.i64_in _ ⟨by omega, by omega⟩
          by_cases hd : f j 2 < f (j - 1) 2
          · have hd1 : decide (f j 2 < f (j - 1) 2) = true := by simpa using hd
            go_wp2
            first | refine wp_region_gr2 (by kernel_rfl) (by kernel_rfl) ?_ | refine wp_region_gr (by kernel_rfl) (by kernel_rfl) ?_
            repeat (go_big_quiet_step ((first | (go_at_call 26; exact gr_of (within_any _ _ _ _)) | (go_at_call 24; exact gr_of (HC.out _ (by repeat (first | exact Ext.refl _ | exact Ext.gr _ _ | apply Ext.wgr | apply Ext.drew | apply Ext.drewN | apply Ext.alloc)))))))
            refine wpQuiet_nil ?_
            intro _ hw'
            obtain ⟨gq, hw''⟩ := hw'
            subst hw''
            go_wp2
            go_ret
            exact ⟨(show Ending.returned (Value.bool false) = _ from by rw [depB_no hlt (depAt_b (by omega) hd)]), by repeat (first | exact Ext.refl _ | exact Ext.gr _ _ | apply Ext.wgr | apply Ext.drew | apply Ext.drewN | apply Ext.alloc)⟩
          · have hd1 : decide (f j 2 < f (j - 1) 2) = false := by simpa using hd
            have HD := Lib.hid hd
            clear hd
            by_cases g : 0 ≤ z
            · have g1 : decide (0 ≤ z) = true := by simpa using g
              go_wp2
              first | refine wp_region_gr2 (by kernel_rfl) (by kernel_rfl) ?_ | refine wp_region_gr (by kernel_rfl) (by kernel_rfl) ?_
              repeat (go_big_quiet_step ((first | (go_at_call 26; exact gr_of (within_any _ _ _ _)) | (go_at_call 24; exact gr_of (HC.out _ (by repeat (first | exact Ext.refl _ | exact Ext.gr _ _ | apply Ext.wgr | apply Ext.drew | apply Ext.drewN | apply Ext.alloc)))))))
              refine wpQuiet_nil ?_
              intro _ hw'
              obtain ⟨gq, hw''⟩ := hw'
              subst hw''
              go_wp2
              go_ret
              exact ⟨(show Ending.returned (Value.bool false) = _ from by rw [depB_no hlt ((by rcases HZ.out with ⟨_, q⟩ | ⟨i, hi, hv, _⟩; omega; exact depAt_c hi (by simpa using hv)))]), by repeat (first | exact Ext.refl _ | exact Ext.gr _ _ | apply Ext.wgr | apply Ext.drew | apply Ext.drewN | apply Ext.alloc)⟩
            · have g1 : decide (0 ≤ z) = false := by simpa using g
              go_wp2
              first | refine wp_region_gr2 (by kernel_rfl) (by kernel_rfl) ?_ | refine wp_region_gr (by kernel_rfl) (by kernel_rfl) ?_
              repeat (go_big_quiet_step ((first | (go_at_call 26; exact gr_of (within_any _ _ _ _)) | (go_at_call 24; exact gr_of (HC.out _ (by repeat (first | exact Ext.refl _ | exact Ext.gr _ _ | apply Ext.wgr | apply Ext.drew | apply Ext.drewN | apply Ext.alloc)))))))
              refine wpQuiet_nil ?_
              intro _ hw'
              obtain ⟨gq, hw''⟩ := hw'
              subst hw''
              go_wp2
              go_roundw
              case rel =>
                refine ⟨j + 1, by omega, by go_num, by repeat (first | exact Ext.refl _ | exact Ext.gr _ _ | apply Ext.wgr | apply Ext.drew | apply Ext.drewN | apply Ext.alloc), fun q hq => ?_⟩
                by_cases e : q = j
                · subst e; exact depAt_yes HF.out (.inr (Int.not_lt.2 HD.out)) (by rcases HZ.out with ⟨hv, _⟩ | ⟨i, hi, hv, _, q⟩; exact (fun i hi => by simpa using hv i hi); omega)
                · exact HALL.out q (by omega)
              case measure => simp [intOf]; omega
      · obtain rfl : j = n := by omega
        go_wp2
        go_ret
        exact ⟨(show Ending.returned (Value.bool true) = _ from by rw [depB_yes (by omega) HALL.out]), Ext.gr w _⟩

set_option maxRecDepth 100000 in
set_option maxHeartbeats 4000000 in
theorem spec_DepositsOk (A : Option Addr) (n c : Nat) (f : Nat → Nat → Int) (hnc : n ≤ c) (hcm : c ≤ 9223372036854775807) (w : World) (hr : Recs w 3 A n f) :
    Calls Try.prog 41 #[.slice A n c] w fun e w' => e = .returned (.bool (depB n f)) ∧ Ext w w' := by
  go_enter Try.func41, Try.ntmps41
  go_wp2
  go_loopw [3] (fun i wr => ∃ j : Nat, j ≤ n ∧ i = .int .i64 j ∧ Ext w wr ∧ ∀ q, q < j → depAt f q = true) (fun i _ => n - (intOf i).toNat)
  case atStart => exact ⟨0, Nat.zero_le _, rfl, Ext.refl w, fun q hq => absurd hq (by omega)⟩
  case round =>
    obtain ⟨j, hj, rfl, ⟨gx, rfl⟩, hall⟩ := hrel
    have HALL := Lib.hid hall
    clear hall
    by_cases hlt : j < n
    · obtain ⟨b, o, rfl, hb, h0, h1, h2⟩ := hr.at3 hlt
      cases a0 : inB (f j 0) 1 200
      · have HF := Lib.hid (show fstB f j = false by unfold fstB; rw [a0]; rfl)
        go_wp2
        first | refine wp_region_gr2 (by kernel_rfl) (by kernel_rfl) ?_ | refine wp_region_gr (by kernel_rfl) (by kernel_rfl) ?_
        repeat (go_big_quiet_step ((go_at_call 55; exact gr_of (l01In_any _ _ _ _))))
        refine wpQuiet_nil ?_
        intro _ hw'
        obtain ⟨gq, hw''⟩ := hw'
        subst hw''
        go_wp2
        go_ret
        exact ⟨(show Ending.returned (Value.bool false) = _ from by rw [depB_no hlt (depAt_a HF.out)]), by repeat (first | exact Ext.refl _ | exact Ext.gr _ _ | apply Ext.wgr | apply Ext.drew | apply Ext.drewN | apply Ext.alloc)⟩
      cases a1 : inB (f j 1) 1 50
      · have HF := Lib.hid (show fstB f j = false by unfold fstB; rw [a0, a1]; rfl)
        go_wp2
        first | refine wp_region_gr2 (by kernel_rfl) (by kernel_rfl) ?_ | refine wp_region_gr (by kernel_rfl) (by kernel_rfl) ?_
        repeat (go_big_quiet_step ((go_at_call 55; exact gr_of (l01In_any _ _ _ _))))
        refine wpQuiet_nil ?_
        intro _ hw'
        obtain ⟨gq, hw''⟩ := hw'
        subst hw''
        go_wp2
        go_ret
        exact ⟨(show Ending.returned (Value.bool false) = _ from by rw [depB_no hlt (depAt_a HF.out)]), by repeat (first | exact Ext.refl _ | exact Ext.gr _ _ | apply Ext.wgr | apply Ext.drew | apply Ext.drewN | apply Ext.alloc)⟩
      cases a2 : inB (f j 2) 0 9999
      · have HF := Lib.hid (show fstB f j = false by unfold fstB; rw [a0, a1, a2]; rfl)
        go_wp2
        first | refine wp_region_gr2 (by kernel_rfl) (by kernel_rfl) ?_ | refine wp_region_gr (by kernel_rfl) (by kernel_rfl) ?_
        repeat (go_big_quiet_step ((go_at_call 55; exact gr_of (l01In_any _ _ _ _))))
        refine wpQuiet_nil ?_
        intro _ hw'
        obtain ⟨gq, hw''⟩ := hw'
        subst hw''
        go_wp2
        go_ret
        exact ⟨(show Ending.returned (Value.bool false) = _ from by rw [depB_no hlt (depAt_a HF.out)]), by repeat (first | exact Ext.refl _ | exact Ext.gr _ _ | apply Ext.wgr | apply Ext.drew | apply Ext.drewN | apply Ext.alloc)⟩
      have HF := Lib.hid (show fstB f j = true by unfold fstB; rw [a0, a1, a2]; rfl)
      by_cases hj0 : j ≤ 0
      · have hz : decide (0 < j) = false := by simpa using hj0
        go_wp2
        first | refine wp_region_gr2 (by kernel_rfl) (by kernel_rfl) ?_ | refine wp_region_gr (by kernel_rfl) (by kernel_rfl) ?_
        repeat (go_big_quiet_step ((go_at_call 55; exact gr_of (l01In_any _ _ _ _))))
        refine wpQuiet_nil ?_
        intro _ hw'
        obtain ⟨gq, hw''⟩ := hw'
        subst hw''
        go_wp2
        have HJ0 := Lib.hid hj0
        clear hj0 hz

        go_loopw [5] (fun i wr => ∃ q : Nat, q ≤ j ∧ i = .int .i64 q ∧ Ext ((wgr w gx).alloc (.cells #[.int .i64 (f j 0), .int .i64 (f j 1), .int .i64 (f j 2)] 31)) wr ∧ ∀ r, r < q → f r 0 ≠ f j 0) (fun i _ => j - (intOf i).toNat)
        case atStart => exact ⟨0, Nat.zero_le _, rfl, Ext.gr _ _, fun r hr => absurd hr (by omega)⟩
        case round =>
          obtain ⟨q, hq, rfl, ⟨gy, rfl⟩, hne⟩ := hrel
          have HNE := Lib.hid hne
          clear hne
          by_cases hql : q < j
          · have hqn : q < n := by omega
            obtain ⟨c0, _, _⟩ := hr.cell3 (k := q) hqn
            have c0' := ((Ext.gr w gx).alloc (.cells #[.int .i64 (f j 0), .int .i64 (f j 1), .int .i64 (f j 2)] 31)).cell c0
            by_cases hv : f q 0 = f j 0
            · have hv1 : (f q 0 == f j 0) = true := by simpa using hv
              have HV := Lib.hid hv
              clear hv
              go_wp2
              go_quiet (fail)
              go_wp2
              go_ret
              exact ⟨(show Ending.returned (Value.bool false) = _ from by rw [depB_no hlt (depAt_c hql HV.out)]), by repeat (first | exact Ext.refl _ | exact Ext.gr _ _ | apply Ext.wgr | apply Ext.drew | apply Ext.drewN | apply Ext.alloc)⟩
            · have hv1 : (f q 0 == f j 0) = false := by simpa using hv
              go_wp2
              go_quiet (fail)
              go_wp2
              go_roundw
              case rel =>
                refine ⟨q + 1, by omega, by go_num, by repeat (first | exact Ext.refl _ | exact Ext.gr _ _ | apply Ext.wgr | apply Ext.drew | apply Ext.drewN), fun r hr => ?_⟩
                by_cases e : r = q
                · subst e; exact hv
                · exact HNE.out r (by omega)
              case measure => simp [intOf]; omega
          · obtain rfl : q = j := by omega
            go_wp2
            go_roundw
            case rel =>
              refine ⟨q + 1, by omega, by go_num, by repeat (first | exact Ext.refl _ | exact Ext.gr _ _ | apply Ext.wgr | apply Ext.drew | apply Ext.drewN | apply Ext.alloc), fun r hr => ?_⟩
              by_cases e : r = q
              · subst e; exact depAt_yes HF.out (.inl (by have := HJ0.out; omega)) HNE.out
              · exact HALL.out r (by omega)
            case measure => simp [intOf]; omega

      · have hz : decide (0 < j) = true := by simp; omega
        obtain ⟨_, _, hc1⟩ := hr.cell3 (k := j - 1) (by omega)
        have hc1' := ((Ext.gr w gx).alloc (.cells #[.int .i64 (f j 0), .int .i64 (f j 1), .int .i64 (f j 2)] 31)).cell hc1
        have n1 : (0 : Int) ≤ (j : Int) - 1 := by omega
        have n2 : ((j : Int) - 1).toNat = j - 1 := by omega
        have n3 : (j : Int) - 1 < n := by omega
        have n4 : IntKind.i64.wrap ((j : Int) - 1) = (j : Int) - 1 := IntWalk.i64_in _ ⟨by omega, by omega⟩
        by_cases hd : f j 2 < f (j - 1) 2
        · have hd1 : decide (f j 2 < f (j - 1) 2) = true := by simpa using hd
          go_wp2
          first | refine wp_region_gr2 (by kernel_rfl) (by kernel_rfl) ?_ | refine wp_region_gr (by kernel_rfl) (by kernel_rfl) ?_
          repeat (go_big_quiet_step ((go_at_call 55; exact gr_of (l01In_any _ _ _ _))))
          refine wpQuiet_nil ?_
          intro _ hw'
          obtain ⟨gq, hw''⟩ := hw'
          subst hw''
          go_wp2
          go_ret
          exact ⟨(show Ending.returned (Value.bool false) = _ from by rw [depB_no hlt (depAt_b (by omega) hd)]), by repeat (first | exact Ext.refl _ | exact Ext.gr _ _ | apply Ext.wgr | apply Ext.drew | apply Ext.drewN | apply Ext.alloc)⟩
        · have hd1 : decide (f j 2 < f (j - 1) 2) = false := by simpa using hd
          have HD := Lib.hid hd
          clear hd
          go_wp2
          first | refine wp_region_gr2 (by kernel_rfl) (by kernel_rfl) ?_ | refine wp_region_gr (by kernel_rfl) (by kernel_rfl) ?_
          repeat (go_big_quiet_step ((go_at_call 55; exact gr_of (l01In_any _ _ _ _))))
          refine wpQuiet_nil ?_
          intro _ hw'
          obtain ⟨gq, hw''⟩ := hw'
          subst hw''
          go_wp2
          clear n1 n2 n3 n4

          go_loopw [5] (fun i wr => ∃ q : Nat, q ≤ j ∧ i = .int .i64 q ∧ Ext ((wgr w gx).alloc (.cells #[.int .i64 (f j 0), .int .i64 (f j 1), .int .i64 (f j 2)] 31)) wr ∧ ∀ r, r < q → f r 0 ≠ f j 0) (fun i _ => j - (intOf i).toNat)
          case atStart => exact ⟨0, Nat.zero_le _, rfl, Ext.gr _ _, fun r hr => absurd hr (by omega)⟩
          case round =>
            obtain ⟨q, hq, rfl, ⟨gy, rfl⟩, hne⟩ := hrel
            have HNE := Lib.hid hne
            clear hne
            by_cases hql : q < j
            · have hqn : q < n := by omega
              obtain ⟨c0, _, _⟩ := hr.cell3 (k := q) hqn
              have c0' := ((Ext.gr w gx).alloc (.cells #[.int .i64 (f j 0), .int .i64 (f j 1), .int .i64 (f j 2)] 31)).cell c0
              by_cases hv : f q 0 = f j 0
              · have hv1 : (f q 0 == f j 0) = true := by simpa using hv
                have HV := Lib.hid hv
                clear hv
                go_wp2
                go_quiet (fail)
                go_wp2
                go_ret
                exact ⟨(show Ending.returned (Value.bool false) = _ from by rw [depB_no hlt (depAt_c hql HV.out)]), by repeat (first | exact Ext.refl _ | exact Ext.gr _ _ | apply Ext.wgr | apply Ext.drew | apply Ext.drewN | apply Ext.alloc)⟩
              · have hv1 : (f q 0 == f j 0) = false := by simpa using hv
                go_wp2
                go_quiet (fail)
                go_wp2
                go_roundw
                case rel =>
                  refine ⟨q + 1, by omega, by go_num, by repeat (first | exact Ext.refl _ | exact Ext.gr _ _ | apply Ext.wgr | apply Ext.drew | apply Ext.drewN), fun r hr => ?_⟩
                  by_cases e : r = q
                  · subst e; exact hv
                  · exact HNE.out r (by omega)
                case measure => simp [intOf]; omega
            · obtain rfl : q = j := by omega
              go_wp2
              go_roundw
              case rel =>
                refine ⟨q + 1, by omega, by go_num, by repeat (first | exact Ext.refl _ | exact Ext.gr _ _ | apply Ext.wgr | apply Ext.drew | apply Ext.drewN | apply Ext.alloc), fun r hr => ?_⟩
                by_cases e : r = q
                · subst e; exact depAt_yes HF.out (.inr (Int.not_lt.2 HD.out)) HNE.out
                · exact HALL.out r (by omega)
              case measure => simp [intOf]; omega

    · obtain rfl : j = n := by omega
      by_cases hbig : 40 < j
      · have hb1 : decide ((j : Int) ≤ 40) = false := by simp; omega
        go_wp2
        go_ret
        exact ⟨(show Ending.returned (Value.bool false) = _ from by rw [depB_long (by omega)]), Ext.gr w _⟩
      · have hb1 : decide ((j : Int) ≤ 40) = true := by simp; omega
        go_wp2
        go_ret
        exact ⟨(show Ending.returned (Value.bool true) = _ from by rw [depB_yes (by omega) HALL.out]), Ext.gr w _⟩

end Go.Proofs.Ythnngekibkcgdaa
