/-
  The law FnExactDepositsOk of the given program holds: for every input the Go function returns true and each argument reads afterwards as it read before. No conditions.
-/
import Derived.Test.YtfenofkjnafjcaaRows
import Derived.Test.YtfenofkjnafjcaaFacts
import Derived.Test.YtfenofkjnafjcaaDepB
import Derived.Test.YtfenofkjnafjcaaToDepositS
import Derived.Test.YtfenofkjnafjcaaEqDepositS
namespace Go.Proofs.Ytfenofkjnafjcaa.fnExactDepositsOk
open Go.ChangeShapes Go.WideShapes Go.ChangeAt Go.RowKit
set_option linter.unusedVariables false
set_option maxHeartbeats 4000000 in
theorem walk (A : Option Addr) (n c : Nat) (f : Nat → Nat → Int) (hnc : n ≤ c) (hcm : c ≤ 9223372036854775807) (w : World) (hr : Recs w 3 A n f) :
    Calls Try.prog 7 #[.slice A n c] w fun e w' => e = .returned (.bool true) ∧ Ext w w' := by
  by_cases hbig : 1048576 < n
  · go_enter Try.func7, Try.ntmps7
    go_wp2_with fail
    refine (szDepositS_any A n c 1048576 (by omega) (by omega) _).mono ?_
    rintro e w1 ⟨rfl, g, rfl⟩
    rw [if_pos (by omega)]
    go_wp2
    go_ret
    exact ⟨rfl, by repeat (first | exact Ext.refl _ | apply Ext.wgr | apply Ext.drew | apply Ext.drewN | apply Ext.alloc)⟩
  · go_enter Try.func7, Try.ntmps7
    go_wp2_with fail
    have X := Ext.refl w
    refine (szDepositS_any A n c 1048576 (by omega) (by omega) _).mono ?_
    rintro e w1 ⟨rfl, x1⟩
    replace X := X.trans x1
    rw [if_neg (by omega)]
    go_wp2_with fail
    have ba := X.size
    refine (toDepositS_any A n c f (by omega) _ (hr.ext X)).mono ?_
    rintro e w2 ⟨Aa, ca, rfl, ia, ja, ma, x2⟩
    replace X := X.trans x2
    go_wp2_with fail
    refine (spec_DepositsOk Aa n ca _ ia ja _ ma.recs).mono ?_
    rintro e w3 ⟨rfl, x3⟩
    replace ma := ma.ext x3
    replace X := X.trans x3
    clear ma
    go_wp2_with fail
    have bx := X.size
    refine (toDepositS_any A n c f (by omega) _ (hr.ext X)).mono ?_
    rintro e w4 ⟨Ax, cx, rfl, ix, jx, mx, x4⟩
    replace X := X.trans x4
    go_wp2_with fail
    refine (impl_DepositsOk Ax n cx _ ix jx _ mx.recs).mono ?_
    rintro e w5 ⟨rfl, x5⟩
    replace mx := mx.ext x5
    replace X := X.trans x5
    go_wp2_with fail
    have bt := X.size
    have ox_t := mx.old
    refine (toDepositS_any A n c f (by omega) _ (hr.ext X)).mono ?_
    rintro e w6 ⟨At, ct, rfl, it, jt, mt, x6⟩
    replace mx := mx.ext x6
    replace X := X.trans x6
    go_wp2_with fail
    refine (eqDepositS_yes Ax At n cx ct _ _ (by omega) _ mx.recs mt.recs (fun _ _ _ _ => rfl)).mono ?_
    rintro e w7 ⟨rfl, x7⟩
    replace mx := mx.ext x7
    replace mt := mt.ext x7
    replace X := X.trans x7
    go_wp2
    go_ret
    exact ⟨rfl, X⟩
theorem own : ownKnob Try.prog.godebug = none := by kernel_rfl
theorem laid : laidOutB Try.prog = true := fLaid
set_option maxRecDepth 100000 in
theorem lifted (os : Os) (started : os.Started) (H : Type) (enc : TypeId × Value → H) :
    ReturnsInHanded {} Try.checked os 7 .any (Rows.fnExactDepositsOkSpec.pre6 enc Try.prog Try.f7 Rows.fnExactDepositsOkRow.domain false) (Rows.fnExactDepositsOkSpec.post enc Try.prog Try.f7 false true false false) := by
  refine returnsInHanded_of_change (C := Try.checked) own started (by kernel_rfl) Try.func7
    (ChangeSpec.witness6 (enc := enc) (C := Try.checked) false ⟨#[], #[.slice none 0 0], []⟩ 8 (by kernel_rfl) (by kernel_rfl) (by kernel_rfl) (by kernel_rfl)) ?_
  intro W base args ds gs before hval0 hW hcnd _
  have hval : ∀ (j : Nat) t v, Try.f7.params[j]? = some t → args[j]? = some v → Value.okWide Try.prog W .any base t v := hval0
  have hW' := hW
  obtain ⟨p, q, hA0, hV, rfl, hfz, hnd⟩ := hW
  have hA : DataW.TrodAll enc Try.prog W 0 (fun _ => true) true Try.f7.params.toList args.toList ds p := hA0
  rw [Try.params7] at hA hval
  obtain ⟨v0, vs0, d0, ds0, p0, q0, hargs, rfl, rfl, h0, r0⟩ := trodAll_cons hA
  obtain ⟨rfl, rfl, rfl⟩ := trodAll_nil r0
  obtain rfl : args = #[v0] := by cases args; simp_all
  obtain ⟨rfl, rfl⟩ := trodVars_none hV
  obtain ⟨A0, n0, c0, f0, rfl, i0, j0, k0⟩ := openR Try.underlying34 Try.underlying52 (by kernel_rfl) (by kernel_rfl) (by kernel_rfl) (by decide) (hval 0 34 v0 rfl rfl) h0
  clear hA0 hval0
  refine (walk A0 n0 c0 f0 i0 j0 W k0).mono fun e W' ⟨he, hg⟩ => ?_
  subst he
  exact ⟨_, rfl, post_law (tb := 4) laid (by kernel_rfl) (by kernel_rfl) Try.underlying4 hW' rfl rfl rfl rfl hg⟩
set_option maxHeartbeats 4000000 in
set_option maxRecDepth 100000 in
theorem facts : joinedFacts Try.checked.prog 7 Try.f7 Rows.fnExactDepositsOkSpec Rows.fnExactDepositsOkRow = true := by
  unfold joinedFacts
  repeat' (with_reducible refine and_intro ?_ ?_)
  all_goals first | with_reducible exact fMayEnter | (with_reducible refine fLifted _ ?_; rfl) | (with_reducible refine fMake _ ?_; rfl) | (with_reducible exact fLaid) | (as_aux_lemma => kernel_rfl)
theorem over : Rows.fnExactDepositsOkRow.holds Try.pinned (OpenSpec.ofChange Rows.fnExactDepositsOkSpec) :=
  OpenClaim.holds_of_wide 7 Try.f7 rfl rfl rfl rfl rfl rfl rfl ⟨rfl, rfl, rfl, rfl, rfl⟩ rfl rfl rfl rfl rfl (by kernel_rfl) Try.func7 facts
    (of_decide_eq_true (by kernel_rfl)) (by unfold Func.isWrapper; first | (rw [if_pos (by decide +kernel)]; kernel_rfl) | (rw [if_neg (by decide +kernel)]; exact ⟨rfl, rfl⟩))
    (fun os started H enc _ => lifted os started H enc)
theorem proved : Rows.FnExactDepositsOkSaid :=
  over
#print axioms proved
end Go.Proofs.Ytfenofkjnafjcaa.fnExactDepositsOk
