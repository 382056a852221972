/-
  The law FnExactReplacedAfter of the given program holds: for every input the Go function returns true and each argument reads afterwards as it read before. No conditions.
-/
import Derived.Test.YtehhciodikicbaaRows
import Derived.Test.YtehhciodikicbaaRepl
import Derived.Test.YtehhciodikicbaaKitB
namespace Go.Proofs.Ytehhciodikicbaa.fnExactReplacedAfter
open Go.ChangeShapes Go.WideShapes Go.ChangeAt Go.RowKit
set_option linter.unusedVariables false
set_option maxHeartbeats 4000000 in
theorem walk (A : Option Addr) (n c : Nat) (f : Nat → Nat → Int) (hnc : n ≤ c) (hcm : c ≤ 9223372036854775807) (y : Int) (hy : (-9223372036854775808 ≤ y ∧ y ≤ 9223372036854775807)) (w : World) (hr : Recs w 1 A n f) :
    Calls Try.prog 8 #[.slice A n c, .int .i64 y] w fun e w' => e = .returned (.bool true) ∧ Ext w w' := by
  by_cases hbig : 1048576 < n
  · go_enter Try.func8, Try.ntmps8
    go_wp2
    go_ret
    exact ⟨rfl, Ext.refl w⟩
  · have X := Ext.refl w
    go_enter Try.func8, Try.ntmps8
    go_wp2_with fail
    have ba := X.size
    refine (toIntS_any A n c f (by omega) _ (hr.ext X)).mono ?_
    rintro e w1 ⟨Aa, ca, rfl, ia, ja, ma, x1⟩
    replace X := X.trans x1
    go_wp2_with fail
    have bu := X.size
    have oa_u := ma.old
    refine (spec_ReplacedAfter Aa n ca _ y (by omega) _ ma.recs).mono ?_
    rintro e w2 ⟨Au, cu, rfl, iu, ju, mu, x2⟩
    replace ma := ma.ext x2
    replace X := X.trans x2
    clear ma
    go_wp2_with fail
    have bx := X.size
    have ou_x := mu.old
    refine (toIntS_any A n c f (by omega) _ (hr.ext X)).mono ?_
    rintro e w3 ⟨Ax, cx, rfl, ix, jx, mx, x3⟩
    replace mu := mu.ext x3
    replace X := X.trans x3
    go_wp2_with fail
    have bg := X.size
    have ou_g := mu.old
    have ox_g := mx.old
    refine (impl_ReplacedAfter Ax n cx _ y (by omega) _ mx.recs).mono ?_
    rintro e w4 ⟨Ag, cg, rfl, ig, jg, mg, x4⟩
    replace mu := mu.ext x4
    replace mx := mx.ext x4
    replace X := X.trans x4
    go_wp2_with fail
    refine (eqIntS_yes Ag Au _ cg cu _ _ (by omega) _ mg.recs mu.recs (fun _ _ => rfl)).mono ?_
    rintro e w5 ⟨rfl, x5⟩
    replace mu := mu.ext x5
    replace mx := mx.ext x5
    replace mg := mg.ext x5
    replace X := X.trans x5
    go_wp2_with fail
    have bt := X.size
    have ou_t := mu.old
    have ox_t := mx.old
    have og_t := mg.old
    refine (toIntS_any A n c f (by omega) _ (hr.ext X)).mono ?_
    rintro e w6 ⟨At, ct, rfl, it, jt, mt, x6⟩
    replace mu := mu.ext x6
    replace mx := mx.ext x6
    replace mg := mg.ext x6
    replace X := X.trans x6
    go_wp2_with fail
    refine (eqIntS_yes Ax At n cx ct _ _ (by omega) _ mx.recs mt.recs (fun _ _ => rfl)).mono ?_
    rintro e w7 ⟨rfl, x7⟩
    replace mu := mu.ext x7
    replace mx := mx.ext x7
    replace mg := mg.ext x7
    replace mt := mt.ext x7
    replace X := X.trans x7
    clear mt
    go_wp2_with fail
    refine (markIntS_any _ Ax n cx _ 1 (by omega) (by omega) _ mx).mono ?_
    rintro e w8 ⟨rfl, nx, g8⟩
    replace mu := mu.kept g8 (apart_old mx (Nat.le_refl _) ou_x)
    replace mg := mg.kept g8 (apart_new mg (Nat.le_refl _) ox_g)
    replace X := mx.ext_of X bx g8
    replace mx := nx
    go_wp2_with fail
    refine (eqIntS_yes Ag Au _ cg cu _ _ (by omega) _ mg.recs mu.recs (fun _ _ => rfl)).mono ?_
    rintro e w9 ⟨rfl, x9⟩
    replace mu := mu.ext x9
    replace mx := mx.ext x9
    replace mg := mg.ext x9
    replace X := X.trans x9
    clear mx
    go_wp2_with fail
    refine (markIntS_any _ Ag _ cg _ 1 (by omega) (pick_room (by omega)) _ mg).mono ?_
    rintro e w10 ⟨rfl, ng, g10⟩
    replace mu := mu.kept g10 (apart_old mg (Nat.le_refl _) ou_g)
    replace X := mg.ext_of X bg g10
    replace mg := ng
    go_wp2_with fail
    refine (heldIntS_yes Ag _ cg _ 1 (by omega) (pick_room (by omega)) _ mg.recs (fun j hj => tab_ix hj)).mono ?_
    rintro e w11 ⟨rfl, x11⟩
    replace mu := mu.ext x11
    replace mg := mg.ext x11
    replace X := X.trans x11
    go_wp2_with fail
    have bs := X.size
    have ou_s := mu.old
    have og_s := mg.old
    refine (toIntS_any A n c f (by omega) _ (hr.ext X)).mono ?_
    rintro e w12 ⟨As, cs, rfl, is, js, ms, x12⟩
    replace mu := mu.ext x12
    replace mg := mg.ext x12
    replace X := X.trans x12
    go_wp2_with fail
    have bh := X.size
    have ou_h := mu.old
    have og_h := mg.old
    have os_h := ms.old
    refine (impl_ReplacedAfter As n cs _ y (by omega) _ ms.recs).mono ?_
    rintro e w13 ⟨Ah, ch, rfl, ih, jh, mh, x13⟩
    replace mu := mu.ext x13
    replace mg := mg.ext x13
    replace ms := ms.ext x13
    replace X := X.trans x13
    clear ms
    go_wp2_with fail
    refine (eqIntS_yes Ah Au _ ch cu _ _ (by omega) _ mh.recs mu.recs (fun _ _ => rfl)).mono ?_
    rintro e w14 ⟨rfl, x14⟩
    replace mu := mu.ext x14
    replace mg := mg.ext x14
    replace mh := mh.ext x14
    replace X := X.trans x14
    go_wp2_with fail
    refine (heldIntS_yes Ag _ cg _ 1 (by omega) (pick_room (by omega)) _ mg.recs (fun j hj => tab_ix hj)).mono ?_
    rintro e w15 ⟨rfl, x15⟩
    replace mu := mu.ext x15
    replace mg := mg.ext x15
    replace mh := mh.ext x15
    replace X := X.trans x15
    go_wp2
    go_ret
    exact ⟨rfl, X⟩
theorem own : ownKnob Try.prog.godebug = none := by kernel_rfl
theorem laid : laidOutB Try.prog = true := by kernel_rfl
set_option maxRecDepth 100000 in
theorem lifted (os : Os) (started : os.Started) (H : Type) (enc : TypeId × Value → H) :
    ReturnsInHanded {} Try.checked os 8 .any (Rows.fnExactReplacedAfterSpec.pre6 enc Try.prog Try.f8 Rows.fnExactReplacedAfterRow.domain false) (Rows.fnExactReplacedAfterSpec.post enc Try.prog Try.f8 false true false false) := by
  refine returnsInHanded_of_change (C := Try.checked) own started (by kernel_rfl) Try.func8
    (ChangeSpec.witness6 (enc := enc) (C := Try.checked) false ⟨#[], #[.slice none 0 0, .int .i64 0], []⟩ 8 (by kernel_rfl) (by kernel_rfl) (by kernel_rfl) (by kernel_rfl)) ?_
  intro W base args ds gs before hval0 hW hcnd _
  have hval : ∀ (j : Nat) t v, Try.f8.params[j]? = some t → args[j]? = some v → Value.okWide Try.prog W .any base t v := hval0
  have hW' := hW
  obtain ⟨p, q, hA0, hV, rfl, hfz, hnd⟩ := hW
  have hA : DataW.TrodAll enc Try.prog W 0 (fun _ => true) true Try.f8.params.toList args.toList ds p := hA0
  rw [Try.params8] at hA hval
  obtain ⟨v0, vs0, d0, ds0, p0, q0, hargs, rfl, rfl, h0, r0⟩ := trodAll_cons hA
  obtain ⟨v1, vs1, d1, ds1, p1, q1, rfl, rfl, rfl, h1, r1⟩ := trodAll_cons r0
  obtain ⟨rfl, rfl, rfl⟩ := trodAll_nil r1
  obtain rfl : args = #[v0, v1] := by cases args; simp_all
  obtain ⟨rfl, rfl⟩ := trodVars_none hV
  obtain ⟨A0, n0, c0, f0, rfl, i0, j0, k0⟩ := openI Try.underlying26 Try.underlying3 (by kernel_rfl) (hval 0 26 v0 rfl rfl) h0
  obtain ⟨a1, rfl, rfl, rfl, w1⟩ := open_int Try.underlying3 (hval 1 3 v1 rfl rfl) h1
  clear hA0 hval0
  refine (walk A0 n0 c0 f0 i0 j0 a1 (wf64 w1) W k0).mono fun e W' ⟨he, hg⟩ => ?_
  subst he
  exact ⟨_, rfl, post_law (tb := 4) laid (by kernel_rfl) (by kernel_rfl) Try.underlying4 hW' rfl rfl rfl rfl hg⟩
theorem over : Rows.fnExactReplacedAfterRow.holds Try.pinned (OpenSpec.ofChange Rows.fnExactReplacedAfterSpec) :=
  OpenClaim.holds_of_wide 8 Try.f8 rfl rfl rfl rfl rfl rfl rfl ⟨rfl, rfl, rfl, rfl, rfl⟩ rfl rfl rfl rfl rfl (by kernel_rfl) Try.func8 (by kernel_rfl)
    (of_decide_eq_true (by kernel_rfl)) (by unfold Func.isWrapper; first | (rw [if_pos (by decide +kernel)]; kernel_rfl) | (rw [if_neg (by decide +kernel)]; exact ⟨rfl, rfl⟩))
    (fun os started H enc _ => lifted os started H enc)
theorem proved : Rows.FnExactReplacedAfterSaid :=
  over
#print axioms proved
end Go.Proofs.Ytehhciodikicbaa.fnExactReplacedAfter
