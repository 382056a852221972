/-
  The law FnExactBarsOk of the given program holds: for every input the Go function returns true and each argument reads afterwards as it read before. No conditions.
-/
import Derived.Test.YtehhciodikicbaaRows
import Derived.Test.YtehhciodikicbaaBars
import Derived.Test.YtehhciodikicbaaKitB
namespace Go.Proofs.Ytehhciodikicbaa.fnExactBarsOk
open Go.ChangeShapes Go.WideShapes Go.ChangeAt Go.RowKit
set_option linter.unusedVariables false
set_option maxHeartbeats 2000000 in
theorem walk (A : Option Addr) (n c : Nat) (f : Nat → Nat → Int) (hnc : n ≤ c) (hcm : c ≤ 9223372036854775807) (w : World) (hr : Recs w 1 A n f) :
    Calls Try.prog 5 #[.slice A n c] w fun e w' => e = .returned (.bool true) ∧ Ext w w' := by
  by_cases hbig : 1048576 < n
  · go_enter Try.func5, Try.ntmps5
    go_wp2
    go_ret
    exact ⟨rfl, Ext.refl w⟩
  · have X := Ext.refl w
    go_enter Try.func5, Try.ntmps5
    go_wp2_with fail
    refine (toIntS_any A n c f (by omega) _ hr).mono ?_
    rintro e w1 ⟨A1, c1, rfl, i1, j1, m1, x1⟩
    replace hr := hr.ext x1
    replace X := X.trans x1
    have r1 := m1.recs
    clear m1
    go_wp2_with fail
    refine (spec_BarsOk A1 n c1 _ (by omega) _ r1).mono ?_
    rintro e w2 ⟨rfl, x2⟩
    replace hr := hr.ext x2
    replace r1 := r1.ext x2
    replace X := X.trans x2
    clear r1
    go_wp2_with fail
    refine (toIntS_any A n c f (by omega) _ hr).mono ?_
    rintro e w3 ⟨A2, c2, rfl, i2, j2, m2, x3⟩
    replace hr := hr.ext x3
    replace X := X.trans x3
    have r2 := m2.recs
    clear m2
    go_wp2_with fail
    refine (impl_BarsOk A2 n c2 _ (by omega) _ r2).mono ?_
    rintro e w4 ⟨rfl, x4⟩
    replace hr := hr.ext x4
    replace r2 := r2.ext x4
    replace X := X.trans x4
    go_wp2_with fail
    refine (toIntS_any A n c f (by omega) _ hr).mono ?_
    rintro e w5 ⟨A3, c3, rfl, i3, j3, m3, x5⟩
    replace hr := hr.ext x5
    replace r2 := r2.ext x5
    replace X := X.trans x5
    have r3 := m3.recs
    clear m3
    go_wp2_with fail
    refine (eqIntS_yes A2 A3 n c2 c3 _ _ (by omega) _ r2 r3 (fun _ _ => rfl)).mono ?_
    rintro e w6 ⟨rfl, x6⟩
    replace hr := hr.ext x6
    replace r2 := r2.ext x6
    replace r3 := r3.ext x6
    replace X := X.trans x6
    go_wp2
    go_ret
    exact ⟨rfl, X⟩
theorem own : ownKnob Try.prog.godebug = none := by kernel_rfl
theorem laid : laidOutB Try.prog = true := by kernel_rfl
set_option maxRecDepth 100000 in
theorem lifted (os : Os) (started : os.Started) (H : Type) (enc : TypeId × Value → H) :
    ReturnsInHanded {} Try.checked os 5 .any (Rows.fnExactBarsOkSpec.pre6 enc Try.prog Try.f5 Rows.fnExactBarsOkRow.domain false) (Rows.fnExactBarsOkSpec.post enc Try.prog Try.f5 false true false false) := by
  refine returnsInHanded_of_change (C := Try.checked) own started (by kernel_rfl) Try.func5
    (ChangeSpec.witness6 (enc := enc) (C := Try.checked) false ⟨#[], #[.slice none 0 0], []⟩ 8 (by kernel_rfl) (by kernel_rfl) (by kernel_rfl) (by kernel_rfl)) ?_
  intro W base args ds gs before hval0 hW hcnd _
  have hval : ∀ (j : Nat) t v, Try.f5.params[j]? = some t → args[j]? = some v → Value.okWide Try.prog W .any base t v := hval0
  have hW' := hW
  obtain ⟨p, q, hA0, hV, rfl, hfz, hnd⟩ := hW
  have hA : DataW.TrodAll enc Try.prog W 0 (fun _ => true) true Try.f5.params.toList args.toList ds p := hA0
  rw [Try.params5] at hA hval
  obtain ⟨v0, vs0, d0, ds0, p0, q0, hargs, rfl, rfl, h0, r0⟩ := trodAll_cons hA
  obtain ⟨rfl, rfl, rfl⟩ := trodAll_nil r0
  obtain rfl : args = #[v0] := by cases args; simp_all
  obtain ⟨rfl, rfl⟩ := trodVars_none hV
  obtain ⟨A0, n0, c0, f0, rfl, i0, j0, k0⟩ := openI Try.underlying26 Try.underlying3 (by kernel_rfl) (hval 0 26 v0 rfl rfl) h0
  clear hA0 hval0
  refine (walk A0 n0 c0 f0 i0 j0 W k0).mono fun e W' ⟨he, hg⟩ => ?_
  subst he
  exact ⟨_, rfl, post_law (tb := 4) laid (by kernel_rfl) (by kernel_rfl) Try.underlying4 hW' rfl rfl rfl rfl hg⟩
theorem over : Rows.fnExactBarsOkRow.holds Try.pinned (OpenSpec.ofChange Rows.fnExactBarsOkSpec) :=
  OpenClaim.holds_of_wide 5 Try.f5 rfl rfl rfl rfl rfl rfl rfl ⟨rfl, rfl, rfl, rfl, rfl⟩ rfl rfl rfl rfl rfl (by kernel_rfl) Try.func5 (by kernel_rfl)
    (of_decide_eq_true (by kernel_rfl)) (by unfold Func.isWrapper; first | (rw [if_pos (by decide +kernel)]; kernel_rfl) | (rw [if_neg (by decide +kernel)]; exact ⟨rfl, rfl⟩))
    (fun os started H enc _ => lifted os started H enc)
theorem proved : Rows.FnExactBarsOkSaid :=
  over
#print axioms proved
end Go.Proofs.Ytehhciodikicbaa.fnExactBarsOk
