/-
  The law FnExactCrateBound of the given program holds: for every input the Go function returns true and each argument reads afterwards as it read before. No conditions.
-/
import Derived.Test.YtfenofkjnafjcaaRows
import Derived.Test.YtfenofkjnafjcaaFacts
import Derived.Test.YtfenofkjnafjcaaCrateA
import Derived.Test.YtfenofkjnafjcaaKitB
namespace Go.Proofs.Ytfenofkjnafjcaa.fnExactCrateBound
open Go.ChangeShapes Go.WideShapes Go.ChangeAt Go.RowKit
set_option linter.unusedVariables false
set_option maxHeartbeats 4000000 in
theorem walk (A : Option Addr) (n c : Nat) (f : Nat → Nat → Int) (hnc : n ≤ c) (hcm : c ≤ 9223372036854775807) (l : Int) (hl : (-9223372036854775808 ≤ l ∧ l ≤ 9223372036854775807)) (w : World) (hr : Recs w 1 A n f) :
    Calls Try.prog 3 #[.slice A n c, .int .i64 l] w fun e w' => e = .returned (.bool true) ∧ Ext w w' := by
  by_cases hbig : 1048576 < n
  · go_enter Try.func3, Try.ntmps3
    go_wp2
    go_ret
    exact ⟨rfl, Ext.refl w⟩
  · have X := Ext.refl w
    go_enter Try.func3, Try.ntmps3
    go_wp2_with fail
    have ba := X.size
    refine (toIntS_any A n c f (by omega) _ (hr.ext X)).mono ?_
    rintro e w1 ⟨Aa, ca, rfl, ia, ja, ma, x1⟩
    replace X := X.trans x1
    go_wp2_with fail
    refine (spec_CrateBound Aa n ca _ l (by omega) _ ma.recs).mono ?_
    rintro e w2 ⟨rfl, x2⟩
    replace ma := ma.ext x2
    replace X := X.trans x2
    clear ma
    go_wp2_with fail
    have bx := X.size
    refine (toIntS_any A n c f (by omega) _ (hr.ext X)).mono ?_
    rintro e w3 ⟨Ax, cx, rfl, ix, jx, mx, x3⟩
    replace X := X.trans x3
    go_wp2_with fail
    refine (impl_CrateBound Ax n cx _ l (by omega) _ mx.recs).mono ?_
    rintro e w4 ⟨rfl, x4⟩
    replace mx := mx.ext x4
    replace X := X.trans x4
    go_wp2_with fail
    have bt := X.size
    have ox_t := mx.old
    refine (toIntS_any A n c f (by omega) _ (hr.ext X)).mono ?_
    rintro e w5 ⟨At, ct, rfl, it, jt, mt, x5⟩
    replace mx := mx.ext x5
    replace X := X.trans x5
    go_wp2_with fail
    refine (eqIntS_yes Ax At n cx ct _ _ (by omega) _ mx.recs mt.recs (fun _ _ => rfl)).mono ?_
    rintro e w6 ⟨rfl, x6⟩
    replace mx := mx.ext x6
    replace mt := mt.ext x6
    replace X := X.trans x6
    go_wp2
    go_ret
    exact ⟨rfl, X⟩
theorem own : ownKnob Try.prog.godebug = none := by kernel_rfl
theorem laid : laidOutB Try.prog = true := fLaid
set_option maxRecDepth 100000 in
theorem lifted (os : Os) (started : os.Started) (H : Type) (enc : TypeId × Value → H) :
    ReturnsInHanded {} Try.checked os 3 .any (Rows.fnExactCrateBoundSpec.pre6 enc Try.prog Try.f3 Rows.fnExactCrateBoundRow.domain false) (Rows.fnExactCrateBoundSpec.post enc Try.prog Try.f3 false true false false) := by
  refine returnsInHanded_of_change (C := Try.checked) own started (by kernel_rfl) Try.func3
    (ChangeSpec.witness6 (enc := enc) (C := Try.checked) false ⟨#[], #[.slice none 0 0, .int .i64 0], []⟩ 8 (by kernel_rfl) (by kernel_rfl) (by kernel_rfl) (by kernel_rfl)) ?_
  intro W base args ds gs before hval0 hW hcnd _
  have hval : ∀ (j : Nat) t v, Try.f3.params[j]? = some t → args[j]? = some v → Value.okWide Try.prog W .any base t v := hval0
  have hW' := hW
  obtain ⟨p, q, hA0, hV, rfl, hfz, hnd⟩ := hW
  have hA : DataW.TrodAll enc Try.prog W 0 (fun _ => true) true Try.f3.params.toList args.toList ds p := hA0
  rw [Try.params3] at hA hval
  obtain ⟨v0, vs0, d0, ds0, p0, q0, hargs, rfl, rfl, h0, r0⟩ := trodAll_cons hA
  obtain ⟨v1, vs1, d1, ds1, p1, q1, rfl, rfl, rfl, h1, r1⟩ := trodAll_cons r0
  obtain ⟨rfl, rfl, rfl⟩ := trodAll_nil r1
  obtain rfl : args = #[v0, v1] := by cases args; simp_all
  obtain ⟨rfl, rfl⟩ := trodVars_none hV
  obtain ⟨A0, n0, c0, f0, rfl, i0, j0, k0⟩ := openI Try.underlying22 Try.underlying3 (by kernel_rfl) (hval 0 22 v0 rfl rfl) h0
  obtain ⟨a1, rfl, rfl, rfl, w1⟩ := open_int Try.underlying3 (hval 1 3 v1 rfl rfl) h1
  clear hA0 hval0
  refine (walk A0 n0 c0 f0 i0 j0 a1 (wf64 w1) W k0).mono fun e W' ⟨he, hg⟩ => ?_
  subst he
  exact ⟨_, rfl, post_law (tb := 4) laid (by kernel_rfl) (by kernel_rfl) Try.underlying4 hW' rfl rfl rfl rfl hg⟩
set_option maxHeartbeats 4000000 in
set_option maxRecDepth 100000 in
theorem facts : joinedFacts Try.checked.prog 3 Try.f3 Rows.fnExactCrateBoundSpec Rows.fnExactCrateBoundRow = true := by
  unfold joinedFacts
  repeat' (with_reducible refine and_intro ?_ ?_)
  all_goals first | with_reducible exact fMayEnter | (with_reducible refine fLifted _ ?_; rfl) | (with_reducible refine fMake _ ?_; rfl) | (with_reducible exact fLaid) | (as_aux_lemma => kernel_rfl)
theorem over : Rows.fnExactCrateBoundRow.holds Try.pinned (OpenSpec.ofChange Rows.fnExactCrateBoundSpec) :=
  OpenClaim.holds_of_wide 3 Try.f3 rfl rfl rfl rfl rfl rfl rfl ⟨rfl, rfl, rfl, rfl, rfl⟩ rfl rfl rfl rfl rfl (by kernel_rfl) Try.func3 facts
    (of_decide_eq_true (by kernel_rfl)) (by unfold Func.isWrapper; first | (rw [if_pos (by decide +kernel)]; kernel_rfl) | (rw [if_neg (by decide +kernel)]; exact ⟨rfl, rfl⟩))
    (fun os started H enc _ => lifted os started H enc)
theorem proved : Rows.FnExactCrateBoundSaid :=
  over
#print axioms proved
end Go.Proofs.Ytfenofkjnafjcaa.fnExactCrateBound
