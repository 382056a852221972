/-
  The law FnYear of the given program holds: for every input the Go function returns true and each argument reads afterwards as it read before. No conditions.
-/
import Derived.Test.YtfenofkjnafjcaaRows
import Derived.Test.YtfenofkjnafjcaaFacts
import Derived.Test.YtfenofkjnafjcaaYearLaw
import Derived.Test.YtfenofkjnafjcaaKitB
import Derived.Test.YtfenofkjnafjcaaKitD
namespace Go.Proofs.Ytfenofkjnafjcaa.fnYear
open Go.ChangeShapes Go.WideShapes Go.ChangeAt Go.RowKit
set_option linter.unusedVariables false
set_option maxHeartbeats 8000000 in
set_option maxRecDepth 100000 in
theorem walk (A : Option Addr) (n c : Nat) (f : Nat → Int) (hnc : n ≤ c) (hcm : c ≤ 9223372036854775807) (w : World) (hr : BRecs w A n f) :
    Calls Try.prog 6 #[.slice A n c] w fun e w' => e = .returned (.bool true) ∧ Ext w w' := by
  by_cases hbig : 1048576 < n
  · have hd : decide (1048576 < n) = true := by simpa using hbig
    go_enter Try.func6, Try.ntmps6
    go_wp2_with fail
    refine (big_any A n c (by omega) w).mono ?_
    rintro e w1 ⟨rfl, x1⟩
    go_wp2
    go_ret
    exact ⟨rfl, x1⟩
  · have hd : decide (1048576 < n) = false := by simpa using hbig
    go_enter Try.func6, Try.ntmps6
    go_wp2_with fail
    refine (big_any A n c (by omega) w).mono ?_
    rintro e w1 ⟨rfl, x1⟩
    clear hd
    go_wp2_with fail
    refine (at_any A n c f 0 (by omega) (by omega) (by omega) _ (hr.ext x1)).mono ?_
    rintro e w2 ⟨z1, rfl, p1, p2, x2⟩
    have X2 := x1.trans x2
    clear x1 x2
    go_wp2_with fail
    refine (at_any A n c f 1 (by omega) (by omega) (by omega) _ (hr.ext X2)).mono ?_
    rintro e w3 ⟨z2, rfl, q1, q2, x3⟩
    have X3 := X2.trans x3
    clear X2 x3 hr
    go_wp2_with fail
    have hx : 0 ≤ z1 % 60 ∧ z1 % 60 ≤ 59 := by omega
    have hm : 0 ≤ z2 % 12 ∧ z2 % 12 ≤ 11 := by omega
    generalize z1 % 60 = x at *
    generalize z2 % 12 = m at *
    clear p1 p2 q1 q2
    have g1 := clear_nonneg hm (x := x) (by omega)
    have g2 := clear_day hm (x := x) (by omega)
    have g3 := clear_mono hm hx
    have g4 := best_rng (x := x) (by omega)
    have g5 := best_max hm (x := x) (by omega)
    have g6 := cloud_mono hm hx
    have g7 := cloud_rng hm (x := x) (by omega)
    have g8 := clear_bd m x
    have G9 := Lib.hid (year_lt hx)
    have G10 := Lib.hid (above_has hm (y := clear m x) (x := x) (by omega) (by omega))
    have G11 := Lib.hid (above_has g4 (y := clear m x) (x := x) (by omega) g5)
    have hln := above_len x (clear m x)
    have G12 := Lib.hid (above_none x)
    have G13 := Lib.hid (show yearMin x = year x 12 from if_pos (by omega))
    go_wp2_with (first | (go_at_call 30; refine (impl_ClearMinutes _ _ _).mono ?_; rintro e w4 ⟨rfl, g, rfl⟩) | (go_at_call 27; refine (impl_BestMonth _ _).mono ?_; rintro e w4 ⟨rfl, g, rfl⟩) | (go_at_call 31; refine (impl_DayLength _ _).mono ?_; rintro e w4 ⟨rfl, g, rfl⟩) | (go_at_call 32; refine (impl_CloudShare _ _ _).mono ?_; rintro e w4 ⟨rfl, g, rfl⟩))
    go_loopw [7, 8] (fun v i wr => ∃ k : Nat, k ≤ 12 ∧ i = .int .i64 k ∧ v = .int .i64 (year x k) ∧ Ext w3 wr) (fun _ i _ => 12 - (intOf i).toNat)
    case atStart => exact ⟨0, by omega, rfl, rfl, Ext.gr w3 _⟩
    case round =>
      obtain ⟨k, hk, rfl, rfl, ⟨gx, rfl⟩⟩ := hrel
      have hb := year_bd x k
      have hc := clear_bd k x
      by_cases hlt : k < 12
      · go_wp2_with (go_at_call 30; refine (impl_ClearMinutes _ _ _).mono ?_; rintro e w4 ⟨rfl, g, rfl⟩)
        go_roundw
        case rel => exact ⟨k + 1, by omega, by go_num, by rw [year_succ, Int.mul_comm (clear k x) 30], Ext.gr w3 _⟩
        case measure => simp [intOf]; omega
      · obtain rfl : k = 12 := by omega
        go_wp2_with fail
        refine (impl_MonthsAbove x (clear m x) _).mono ?_
        rintro e w5 ⟨A5, c5, rfl, i5, j5, m5, x5⟩
        have X5 := (X3.trans (Ext.gr w3 gx)).trans x5
        have r5 := m5.recs
        clear x5
        go_wp2_with fail
        refine (impl_YearMinutes x _).mono ?_
        rintro e w6 ⟨rfl, x6⟩
        rw [G13.out]
        have he : (year x 12 == year x 12) = true := by simp
        have G9' := G9.out
        replace r5 := r5.ext x6
        replace X5 := X5.trans x6
        clear x6
        go_wp2_with fail
        refine (impl_YearMinutes _ _).mono ?_
        rintro e w7 ⟨rfl, x7⟩
        replace r5 := r5.ext x7
        replace X5 := X5.trans x7
        clear x7
        go_wp2_with fail
        refine (has_any _ _ _ _ _ (by omega) _ r5).mono ?_
        rintro e w8 ⟨rfl, x8⟩
        rw [G10.out]
        replace r5 := r5.ext x8
        replace X5 := X5.trans x8
        clear x8
        go_wp2_with fail
        refine (has_any _ _ _ _ _ (by omega) _ r5).mono ?_
        rintro e w9 ⟨rfl, x9⟩
        rw [G11.out]
        replace X5 := X5.trans x9
        clear x9 r5 m5
        have d5 := day_five
        go_wp2_with fail
        refine (impl_DayLength _ _).mono ?_
        rintro e w10 ⟨rfl, x10⟩
        replace X5 := X5.trans x10
        clear x10
        go_wp2_with fail
        refine (impl_MonthsAbove x 1000 _).mono ?_
        rintro e w11 ⟨A11, c11, rfl, i11, j11, m11, x11⟩
        rw [G12.out]
        replace X5 := X5.trans x11
        go_wp2
        go_ret
        exact ⟨rfl, X5⟩
theorem own : ownKnob Try.prog.godebug = none := by kernel_rfl
theorem laid : laidOutB Try.prog = true := fLaid
set_option maxRecDepth 100000 in
theorem lifted (os : Os) (started : os.Started) (H : Type) (enc : TypeId × Value → H) :
    ReturnsInHanded {} Try.checked os 6 .any (Rows.fnYearSpec.pre6 enc Try.prog Try.f6 Rows.fnYearRow.domain false) (Rows.fnYearSpec.post enc Try.prog Try.f6 false true false false) := by
  refine returnsInHanded_of_change (C := Try.checked) own started (by kernel_rfl) Try.func6
    (ChangeSpec.witness6 (enc := enc) (C := Try.checked) false ⟨#[], #[.slice none 0 0], []⟩ 8 (by kernel_rfl) (by kernel_rfl) (by kernel_rfl) (by kernel_rfl)) ?_
  intro W base args ds gs before hval0 hW hcnd _
  have hval : ∀ (j : Nat) t v, Try.f6.params[j]? = some t → args[j]? = some v → Value.okWide Try.prog W .any base t v := hval0
  have hW' := hW
  obtain ⟨p, q, hA0, hV, rfl, hfz, hnd⟩ := hW
  have hA : DataW.TrodAll enc Try.prog W 0 (fun _ => true) true Try.f6.params.toList args.toList ds p := hA0
  rw [Try.params6] at hA hval
  obtain ⟨v0, vs0, d0, ds0, p0, q0, hargs, rfl, rfl, h0, r0⟩ := trodAll_cons hA
  obtain ⟨rfl, rfl, rfl⟩ := trodAll_nil r0
  obtain rfl : args = #[v0] := by cases args; simp_all
  obtain ⟨rfl, rfl⟩ := trodVars_none hV
  obtain ⟨A0, n0, c0, f0, rfl, i0, j0, k0⟩ := openB Try.underlying29 Try.underlying5 (by kernel_rfl) (hval 0 29 v0 rfl rfl) h0
  clear hA0 hval0
  refine (walk A0 n0 c0 f0 i0 j0 W k0).mono fun e W' ⟨he, hg⟩ => ?_
  subst he
  exact ⟨_, rfl, post_law (tb := 4) laid (by kernel_rfl) (by kernel_rfl) Try.underlying4 hW' rfl rfl rfl rfl hg⟩
set_option maxHeartbeats 4000000 in
set_option maxRecDepth 100000 in
theorem facts : joinedFacts Try.checked.prog 6 Try.f6 Rows.fnYearSpec Rows.fnYearRow = true := by
  unfold joinedFacts
  repeat' (with_reducible refine and_intro ?_ ?_)
  all_goals first | with_reducible exact fMayEnter | (with_reducible refine fLifted _ ?_; rfl) | (with_reducible refine fMake _ ?_; rfl) | (with_reducible exact fLaid) | (as_aux_lemma => kernel_rfl)
theorem over : Rows.fnYearRow.holds Try.pinned (OpenSpec.ofChange Rows.fnYearSpec) :=
  OpenClaim.holds_of_wide 6 Try.f6 rfl rfl rfl rfl rfl rfl rfl ⟨rfl, rfl, rfl, rfl, rfl⟩ rfl rfl rfl rfl rfl (by kernel_rfl) Try.func6 facts
    (of_decide_eq_true (by kernel_rfl)) (by unfold Func.isWrapper; first | (rw [if_pos (by decide +kernel)]; kernel_rfl) | (rw [if_neg (by decide +kernel)]; exact ⟨rfl, rfl⟩))
    (fun os started H enc _ => lifted os started H enc)
theorem proved : Rows.FnYearSaid :=
  over
#print axioms proved
end Go.Proofs.Ytfenofkjnafjcaa.fnYear
