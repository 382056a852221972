/-
  The law FnExactReturnOrder of the given program holds: for every input the Go function returns true and each argument reads afterwards as it read before. No conditions.
-/
import Derived.Test.YtgfnkmalecfhbaaRows
import Derived.Test.YtgfnkmalecfhbaaFacts
import Derived.Test.YtgfnkmalecfhbaaRoI
import Derived.Test.YtgfnkmalecfhbaaRoS
import Derived.Test.YtgfnkmalecfhbaaAddK
import Derived.Test.YtgfnkmalecfhbaaMarkDep
import Derived.Test.YtgfnkmalecfhbaaEqDepositS
namespace Go.Proofs.Ytgfnkmalecfhbaa.fnExactReturnOrder
open Go.ChangeShapes Go.WideShapes Go.ChangeAt Go.RowKit
set_option linter.unusedVariables false
theorem held_at {n j i : Nat} (hj : j < n) (hi : i < 3) : ix (tab (n * 3) fun k => (1 : Int) + k) (j * 3 + i) = 1 + (j : Int) * 3 + i := by
  rw [tab_ix (by omega)]
  omega
theorem roL_le {n : Nat} {f : Nat → Nat → Int} (hn : n ≤ 1048576) : (roL n f).length ≤ 41943040 := Nat.le_trans (roP_len n f _ _) (Nat.mul_le_mul (usL_le n f) hn)
set_option maxHeartbeats 8000000 in
theorem walk (A : Option Addr) (n c : Nat) (f : Nat → Nat → Int) (hnc : n ≤ c) (hcm : c ≤ 9223372036854775807) (w : World) (hr : Recs w 3 A n f) :
    Calls Try.prog 8 #[.slice A n c] w fun e w' => e = .returned (.bool true) ∧ Ext w w' := by
  by_cases hbig : 1048576 < n
  · go_enter Try.func8, Try.ntmps8
    go_wp2_with fail
    refine (szDepositS_any A n c 1048576 (by omega) (by omega) _).mono ?_
    rintro e w1 ⟨rfl, x1⟩
    rw [if_pos (by omega)]
    go_wp2
    go_ret
    exact ⟨rfl, x1⟩
  · have hN : (roL n (fun k j => ix (flat 3 n f) (k * 3 + j))).length ≤ 41943040 := roL_le (by omega)
    go_enter Try.func8, Try.ntmps8
    go_wp2_with fail
    refine (szDepositS_any A n c 1048576 (by omega) (by omega) _).mono ?_
    rintro e w0 ⟨rfl, X⟩
    rw [if_neg (by omega)]
    have hz0 : ¬ (1048576 : Int) - n < 0 := by omega
    go_wp2_with fail
    have bt := X.size
    refine (toDepositS_any A n c f (by omega) _ (hr.ext X)).mono ?_
    rintro e w1 ⟨At, ct, rfl, it, jt, mt, x1⟩
    replace X := X.trans x1
    go_wp2_with fail
    have bu := X.size
    have ot_u := mt.old
    refine (spec_ReturnOrder At n ct (fun k j => ix (flat 3 n f) (k * 3 + j)) it jt (noneS_cap mt) (by omega)  _ mt.recs).mono ?_
    rintro e w2 ⟨Au, cu, rfl, iu, ju, mu, x2⟩
    replace mt := mt.ext x2
    replace X := X.trans x2
    clear mt
    go_wp2_with fail
    have bv := X.size
    have ou_v := mu.old
    refine (toDepositS_any A n c f (by omega) _ (hr.ext X)).mono ?_
    rintro e w3 ⟨Av, cv, rfl, iv, jv, mv, x3⟩
    replace mu := mu.ext x3
    replace X := X.trans x3
    go_wp2_with fail
    have bg := X.size
    have ou_g := mu.old
    have ov_g := mv.old
    refine (impl_ReturnOrder Av n cv (fun k j => ix (flat 3 n f) (k * 3 + j)) iv jv (noneS_cap mv) (by omega)  _ mv.recs).mono ?_
    rintro e w4 ⟨Ag, cg, rfl, ig, jg, mg, x4⟩
    replace mu := mu.ext x4
    replace mv := mv.ext x4
    replace X := X.trans x4
    go_wp2_with fail
    refine (eqIntS_yes Ag Au (roL n (fun k j => ix (flat 3 n f) (k * 3 + j))).length cg cu _ _ (by omega) _ mg.recs mu.recs (fun _ _ => rfl)).mono ?_
    rintro e w5 ⟨rfl, x5⟩
    replace mu := mu.ext x5
    replace mv := mv.ext x5
    replace mg := mg.ext x5
    replace X := X.trans x5
    go_wp2_with fail
    have bt := X.size
    have ou_t := mu.old
    have ov_t := mv.old
    have og_t := mg.old
    refine (toDepositS_any A n c f (by omega) _ (hr.ext X)).mono ?_
    rintro e w6 ⟨At, ct, rfl, it, jt, mt, x6⟩
    replace mu := mu.ext x6
    replace mv := mv.ext x6
    replace mg := mg.ext x6
    replace X := X.trans x6
    go_wp2_with fail
    refine (eqDepositS_yes Av At n cv ct _ _ (by omega) _ mv.recs mt.recs (fun _ _ _ _ => rfl)).mono ?_
    rintro e w7 ⟨rfl, x7⟩
    replace mu := mu.ext x7
    replace mv := mv.ext x7
    replace mg := mg.ext x7
    replace mt := mt.ext x7
    replace X := X.trans x7
    clear mt
    go_wp2_with fail
    refine (markDepositS_any _ Av _ cv _ 1 (by omega) (by omega) _ mv).mono ?_
    rintro e w8 ⟨rfl, nv, g8⟩
    replace mu := mu.kept g8 (MineS.apartD mv (Nat.le_refl _) ou_v)
    replace mg := mg.kept g8 (apart_new mg (Nat.le_refl _) ov_g)
    replace X := mv.ext_of X bv g8
    replace mv := nv
    have hz1 : ¬ (1 : Int) + n * 3 < 0 := by omega
    clear mv
    go_wp2_with fail
    refine (eqIntS_yes Ag Au (roL n (fun k j => ix (flat 3 n f) (k * 3 + j))).length cg cu _ _ (by omega) _ mg.recs mu.recs (fun _ _ => rfl)).mono ?_
    rintro e w9 ⟨rfl, x9⟩
    replace mu := mu.ext x9
    replace mg := mg.ext x9
    replace X := X.trans x9
    go_wp2_with fail
    refine (markIntS_any _ Ag _ cg _ 1 (by omega) (by omega) _ mg).mono ?_
    rintro e w10 ⟨rfl, ng, g10⟩
    replace mu := mu.kept g10 (apart_old mg (Nat.le_refl _) ou_g)
    replace X := mg.ext_of X bg g10
    replace mg := ng
    go_wp2_with fail
    refine (heldIntS_yes Ag (roL n (fun k j => ix (flat 3 n f) (k * 3 + j))).length cg _ 1 (by omega) (by omega) _ mg.recs (fun j hj => tab_ix hj)).mono ?_
    rintro e w11 ⟨rfl, x11⟩
    replace mu := mu.ext x11
    replace mg := mg.ext x11
    replace X := X.trans x11
    have hz2 : ¬ (1 : Int) + ((roL n (fun k j => ix (flat 3 n f) (k * 3 + j))).length : Nat) < 0 := by omega
    go_wp2_with fail
    have bt := X.size
    have ou_t := mu.old
    have og_t := mg.old
    refine (toDepositS_any A n c f (by omega) _ (hr.ext X)).mono ?_
    rintro e w12 ⟨At, ct, rfl, it, jt, mt, x12⟩
    replace mu := mu.ext x12
    replace mg := mg.ext x12
    replace X := X.trans x12
    go_wp2_with fail
    have bh := X.size
    have ou_h := mu.old
    have og_h := mg.old
    have ot_h := mt.old
    refine (impl_ReturnOrder At n ct (fun k j => ix (flat 3 n f) (k * 3 + j)) it jt (noneS_cap mt) (by omega)  _ mt.recs).mono ?_
    rintro e w13 ⟨Ah, ch, rfl, ih, jh, mh, x13⟩
    replace mu := mu.ext x13
    replace mg := mg.ext x13
    replace mt := mt.ext x13
    replace X := X.trans x13
    clear mt
    go_wp2_with fail
    refine (eqIntS_yes Ah Au (roL n (fun k j => ix (flat 3 n f) (k * 3 + j))).length ch cu _ _ (by omega) _ mh.recs mu.recs (fun _ _ => rfl)).mono ?_
    rintro e w14 ⟨rfl, x14⟩
    replace mu := mu.ext x14
    replace mg := mg.ext x14
    replace mh := mh.ext x14
    replace X := X.trans x14
    go_wp2_with fail
    refine (heldIntS_yes Ag (roL n (fun k j => ix (flat 3 n f) (k * 3 + j))).length cg _ 1 (by omega) (by omega) _ mg.recs (fun j hj => tab_ix hj)).mono ?_
    rintro e w15 ⟨rfl, x15⟩
    replace mu := mu.ext x15
    replace mg := mg.ext x15
    replace mh := mh.ext x15
    replace X := X.trans x15
    go_wp2
    go_ret
    exact ⟨rfl, X⟩
theorem own : ownKnob Try.prog.godebug = none := by kernel_rfl
theorem laid : laidOutB Try.prog = true := fLaid
set_option maxRecDepth 100000 in
theorem lifted (os : Os) (started : os.Started) (H : Type) (enc : TypeId × Value → H) :
    ReturnsInHanded {} Try.checked os 8 .any (Rows.fnExactReturnOrderSpec.pre6 enc Try.prog Try.f8 Rows.fnExactReturnOrderRow.domain false) (Rows.fnExactReturnOrderSpec.post enc Try.prog Try.f8 false true false false) := by
  refine returnsInHanded_of_change (C := Try.checked) own started (by kernel_rfl) Try.func8
    (ChangeSpec.witness6 (enc := enc) (C := Try.checked) false ⟨#[], #[.slice none 0 0], []⟩ 8 (by kernel_rfl) (by kernel_rfl) (by kernel_rfl) (by kernel_rfl)) ?_
  intro W base args ds gs before hval0 hW hcnd _
  have hval : ∀ (j : Nat) t v, Try.f8.params[j]? = some t → args[j]? = some v → Value.okWide Try.prog W .any base t v := hval0
  have hW' := hW
  obtain ⟨p, q, hA0, hV, rfl, hfz, hnd⟩ := hW
  have hA : DataW.TrodAll enc Try.prog W 0 (fun _ => true) true Try.f8.params.toList args.toList ds p := hA0
  rw [Try.params8] at hA hval
  obtain ⟨v0, vs0, d0, ds0, p0, q0, hargs, rfl, rfl, h0, r0⟩ := trodAll_cons hA
  obtain ⟨rfl, rfl, rfl⟩ := trodAll_nil r0
  obtain rfl : args = #[v0] := by cases args; simp_all
  obtain ⟨rfl, rfl⟩ := trodVars_none hV
  obtain ⟨A0, n0, c0, f0, rfl, i0, j0, k0⟩ := openR Try.underlying22 Try.underlying24 (by kernel_rfl) (by kernel_rfl) (by kernel_rfl) (by decide) (hval 0 22 v0 rfl rfl) h0
  clear hA0 hval0
  refine (walk A0 n0 c0 f0 i0 j0 W k0).mono fun e W' ⟨he, hg⟩ => ?_
  subst he
  exact ⟨_, rfl, post_law (tb := 4) laid (by kernel_rfl) (by kernel_rfl) Try.underlying4 hW' rfl rfl rfl rfl hg⟩
set_option maxHeartbeats 4000000 in
set_option maxRecDepth 100000 in
theorem facts : joinedFacts Try.checked.prog 8 Try.f8 Rows.fnExactReturnOrderSpec Rows.fnExactReturnOrderRow = true := by
  unfold joinedFacts
  repeat' (with_reducible refine and_intro ?_ ?_)
  all_goals first | with_reducible exact fMayEnter | (with_reducible refine fLifted _ ?_; rfl) | (with_reducible refine fMake _ ?_; rfl) | (with_reducible exact fLaid) | (as_aux_lemma => kernel_rfl)
theorem over : Rows.fnExactReturnOrderRow.holds Try.pinned (OpenSpec.ofChange Rows.fnExactReturnOrderSpec) :=
  OpenClaim.holds_of_wide 8 Try.f8 rfl rfl rfl rfl rfl rfl rfl ⟨rfl, rfl, rfl, rfl, rfl⟩ rfl rfl rfl rfl rfl (by kernel_rfl) Try.func8 facts
    (of_decide_eq_true (by kernel_rfl)) (by unfold Func.isWrapper; first | (rw [if_pos (by decide +kernel)]; kernel_rfl) | (rw [if_neg (by decide +kernel)]; exact ⟨rfl, rfl⟩))
    (fun os started H enc _ => lifted os started H enc)
theorem proved : Rows.FnExactReturnOrderSaid :=
  over
#print axioms proved
end Go.Proofs.Ytgfnkmalecfhbaa.fnExactReturnOrder
