/-
  The law FnExactMonthsAbove of the given program holds: for every input the Go function returns true and each argument reads afterwards as it read before. No conditions.
-/
import Derived.Test.YtfenofkjnafjcaaRows
import Derived.Test.YtfenofkjnafjcaaFacts
import Derived.Test.YtfenofkjnafjcaaWalkD
import Derived.Test.YtfenofkjnafjcaaKitB
namespace Go.Proofs.Ytfenofkjnafjcaa.fnExactMonthsAbove
open Go.ChangeShapes Go.WideShapes Go.ChangeAt Go.RowKit
set_option linter.unusedVariables false
set_option maxHeartbeats 4000000 in
theorem walk (x : Int) (hx : (-9223372036854775808 ≤ x ∧ x ≤ 9223372036854775807)) (y : Int) (hy : (-9223372036854775808 ≤ y ∧ y ≤ 9223372036854775807)) (w : World) :
    Calls Try.prog 8 #[.int .i64 x, .int .i64 y] w fun e w' => e = .returned (.bool true) ∧ Ext w w' := by
  have X := Ext.refl w
  go_enter Try.func8, Try.ntmps8
  have hlen := above_len x y
  go_wp2_with fail
  have bu := X.size
  refine (spec_MonthsAbove x y _).mono ?_
  rintro e w1 ⟨Au, cu, rfl, iu, ju, mu, x1⟩
  replace X := X.trans x1
  go_wp2_with fail
  have bg := X.size
  have ou_g := mu.old
  refine (impl_MonthsAbove x y _).mono ?_
  rintro e w2 ⟨Ag, cg, rfl, ig, jg, mg, x2⟩
  replace mu := mu.ext x2
  replace X := X.trans x2
  go_wp2_with fail
  refine (eqIntS_yes Ag Au _ cg cu _ _ (by omega) _ mg.recs mu.recs (fun _ _ => rfl)).mono ?_
  rintro e w3 ⟨rfl, x3⟩
  replace mu := mu.ext x3
  replace mg := mg.ext x3
  replace X := X.trans x3
  go_wp2_with fail
  refine (markIntS_any _ Ag _ cg _ 1 (by omega) (by omega) _ mg).mono ?_
  rintro e w4 ⟨rfl, ng, g4⟩
  replace mu := mu.kept g4 (apart_old mg (Nat.le_refl _) ou_g)
  replace X := mg.ext_of X bg g4
  replace mg := ng
  go_wp2_with fail
  refine (heldIntS_yes Ag _ cg _ 1 (by omega) (by omega) _ mg.recs (fun j hj => tab_ix hj)).mono ?_
  rintro e w5 ⟨rfl, x5⟩
  replace mu := mu.ext x5
  replace mg := mg.ext x5
  replace X := X.trans x5
  go_wp2_with fail
  have bh := X.size
  have ou_h := mu.old
  have og_h := mg.old
  refine (impl_MonthsAbove x y _).mono ?_
  rintro e w6 ⟨Ah, ch, rfl, ih, jh, mh, x6⟩
  replace mu := mu.ext x6
  replace mg := mg.ext x6
  replace X := X.trans x6
  go_wp2_with fail
  refine (eqIntS_yes Ah Au _ ch cu _ _ (by omega) _ mh.recs mu.recs (fun _ _ => rfl)).mono ?_
  rintro e w7 ⟨rfl, x7⟩
  replace mu := mu.ext x7
  replace mg := mg.ext x7
  replace mh := mh.ext x7
  replace X := X.trans x7
  go_wp2_with fail
  refine (heldIntS_yes Ag _ cg _ 1 (by omega) (by omega) _ mg.recs (fun j hj => tab_ix hj)).mono ?_
  rintro e w8 ⟨rfl, x8⟩
  replace mu := mu.ext x8
  replace mg := mg.ext x8
  replace mh := mh.ext x8
  replace X := X.trans x8
  go_wp2
  go_ret
  exact ⟨rfl, X⟩
theorem own : ownKnob Try.prog.godebug = none := by kernel_rfl
theorem laid : laidOutB Try.prog = true := fLaid
set_option maxRecDepth 100000 in
theorem lifted (os : Os) (started : os.Started) (H : Type) (enc : TypeId × Value → H) :
    ReturnsInHanded {} Try.checked os 8 .any (Rows.fnExactMonthsAboveSpec.pre6 enc Try.prog Try.f8 Rows.fnExactMonthsAboveRow.domain false) (Rows.fnExactMonthsAboveSpec.post enc Try.prog Try.f8 false true false false) := by
  refine returnsInHanded_of_change (C := Try.checked) own started (by kernel_rfl) Try.func8
    (ChangeSpec.witness6 (enc := enc) (C := Try.checked) false ⟨#[], #[.int .i64 0, .int .i64 0], []⟩ 8 (by kernel_rfl) (by kernel_rfl) (by kernel_rfl) (by kernel_rfl)) ?_
  intro W base args ds gs before hval0 hW hcnd _
  have hval : ∀ (j : Nat) t v, Try.f8.params[j]? = some t → args[j]? = some v → Value.okWide Try.prog W .any base t v := hval0
  have hW' := hW
  obtain ⟨p, q, hA0, hV, rfl, hfz, hnd⟩ := hW
  have hA : DataW.TrodAll enc Try.prog W 0 (fun _ => true) true Try.f8.params.toList args.toList ds p := hA0
  rw [Try.params8] at hA hval
  obtain ⟨v0, vs0, d0, ds0, p0, q0, hargs, rfl, rfl, h0, r0⟩ := trodAll_cons hA
  obtain ⟨v1, vs1, d1, ds1, p1, q1, rfl, rfl, rfl, h1, r1⟩ := trodAll_cons r0
  obtain ⟨rfl, rfl, rfl⟩ := trodAll_nil r1
  obtain rfl : args = #[v0, v1] := by cases args; simp_all
  obtain ⟨rfl, rfl⟩ := trodVars_none hV
  obtain ⟨a0, rfl, rfl, rfl, w0⟩ := open_int Try.underlying3 (hval 0 3 v0 rfl rfl) h0
  obtain ⟨a1, rfl, rfl, rfl, w1⟩ := open_int Try.underlying3 (hval 1 3 v1 rfl rfl) h1
  clear hA0 hval0
  refine (walk a0 (wf64 w0) a1 (wf64 w1) W ).mono fun e W' ⟨he, hg⟩ => ?_
  subst he
  exact ⟨_, rfl, post_law (tb := 4) laid (by kernel_rfl) (by kernel_rfl) Try.underlying4 hW' rfl rfl rfl rfl hg⟩
set_option maxHeartbeats 4000000 in
set_option maxRecDepth 100000 in
theorem facts : joinedFacts Try.checked.prog 8 Try.f8 Rows.fnExactMonthsAboveSpec Rows.fnExactMonthsAboveRow = true := by
  unfold joinedFacts
  repeat' (with_reducible refine and_intro ?_ ?_)
  all_goals first | with_reducible exact fMayEnter | (with_reducible refine fLifted _ ?_; rfl) | (with_reducible refine fMake _ ?_; rfl) | (with_reducible exact fLaid) | (as_aux_lemma => kernel_rfl)
theorem over : Rows.fnExactMonthsAboveRow.holds Try.pinned (OpenSpec.ofChange Rows.fnExactMonthsAboveSpec) :=
  OpenClaim.holds_of_wide 8 Try.f8 rfl rfl rfl rfl rfl rfl rfl ⟨rfl, rfl, rfl, rfl, rfl⟩ rfl rfl rfl rfl rfl (by kernel_rfl) Try.func8 facts
    (of_decide_eq_true (by kernel_rfl)) (by unfold Func.isWrapper; first | (rw [if_pos (by decide +kernel)]; kernel_rfl) | (rw [if_neg (by decide +kernel)]; exact ⟨rfl, rfl⟩))
    (fun os started H enc _ => lifted os started H enc)
theorem proved : Rows.FnExactMonthsAboveSaid :=
  over
#print axioms proved
end Go.Proofs.Ytfenofkjnafjcaa.fnExactMonthsAbove
