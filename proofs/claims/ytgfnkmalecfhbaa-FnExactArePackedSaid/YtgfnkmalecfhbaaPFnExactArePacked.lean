/-
  The law FnExactArePacked of the given program holds: for every input the Go function returns true and each argument reads afterwards as it read before. No conditions.
-/
import Derived.Test.YtgfnkmalecfhbaaRows
import Derived.Test.YtgfnkmalecfhbaaFacts
import Derived.Test.YtgfnkmalecfhbaaPkI
import Derived.Test.YtgfnkmalecfhbaaPkS
import Derived.Test.YtgfnkmalecfhbaaArgK
namespace Go.Proofs.Ytgfnkmalecfhbaa.fnExactArePacked
open Go.ChangeShapes Go.WideShapes Go.ChangeAt Go.RowKit
set_option linter.unusedVariables false
set_option maxHeartbeats 8000000 in
theorem walk0 (A : Option Addr) (n c : Nat) (f : Nat → Nat → Int) (hnc : n ≤ c) (hcm : c ≤ 9223372036854775807) (A2 : Option Addr) (N c2 : Nat) (l : Nat → List Int) (z : Nat → Int) (hNc : N ≤ c2) (hcm2 : c2 ≤ 9223372036854775807) (w : World) (hr : Recs w 1 A n f) (hs : Crs w A2 N l z) (hz : ∀ k, N ≤ k → l k = []) :
    Calls Try.prog 5 #[.slice A n c, .slice A2 N c2] w fun e w' => e = .returned (.bool true) ∧ Ext w w' := by
  have HZ := Lib.hid hz
  clear hz
  by_cases hbig : 1048576 < n
  · have hb2 : (1048576 : Int) < n := by omega
    go_enter Try.func5, Try.ntmps5
    go_wp2
    go_ret
    exact ⟨rfl, Ext.refl w⟩
  · have hb2 : ¬ (1048576 : Int) < n := by omega
    go_enter Try.func5, Try.ntmps5
    go_wp2_with fail
    refine (szCrateS_any A2 N c2 l z (by omega) _ hs).mono ?_
    rintro e w1 ⟨r, rfl, hsz, X⟩
    by_cases hneg : r < 0
    · go_wp2
      go_ret
      exact ⟨rfl, X⟩
    · obtain ⟨hr0, hr1, hN, hl0⟩ : 0 ≤ r ∧ r ≤ 1048576 ∧ N ≤ 1048576 ∧ ∀ k, k < N → (l k).length ≤ 1048576 := by
        rcases hsz with h | h
        · exact absurd h hneg
        · exact h
      have HL : Hid (∀ k, (l k).length ≤ 1048576) := Lib.hid fun k => by
        by_cases q : k < N
        · exact hl0 k q
        · rw [HZ.out k (by omega)]; simp
      clear hsz hl0
      go_wp2_with fail
      refine (toIntS_any A n c f (by omega) _ (hr.ext X)).mono ?_
      rintro e w2 ⟨At, ct, rfl, it, jt, mt, x2⟩
      replace X := X.trans x2
      have rt := mt.recs
      clear mt
      go_wp2_with fail
      refine (toCrateS_any A2 N c2 l z hN (fun k _ => HL.out k) _ (hs.ext X)).mono ?_
      rintro e w3 ⟨Ak, ck, rfl, ik, jk, mk, x3⟩
      replace X := X.trans x3
      replace rt := rt.ext x3
      have rk := mk.crs
      clear mk x2 x3
      go_wp2_with fail
      refine (spec_ArePacked At n ct _ Ak N ck l z (by omega) hN HL.out _ rt rk).mono ?_
      rintro e w4 ⟨rfl, x4⟩
      replace X := X.trans x4
      clear rt rk x4
      go_wp2_with fail
      refine (toIntS_any A n c f (by omega) _ (hr.ext X)).mono ?_
      rintro e w5 ⟨Av, cv, rfl, iv, jv, mv, x5⟩
      replace X := X.trans x5
      have rv := mv.recs
      clear mv x5
      go_wp2_with fail
      refine (toCrateS_any A2 N c2 l z hN (fun k _ => HL.out k) _ (hs.ext X)).mono ?_
      rintro e w6 ⟨Au, cu, rfl, iu, ju, mu, x6⟩
      replace X := X.trans x6
      replace rv := rv.ext x6
      have ru := mu.crs
      clear mu x6
      go_wp2_with fail
      refine (impl_ArePacked Av n cv _ Au N cu l z (by omega) hN HL.out _ rv ru).mono ?_
      rintro e w7 ⟨rfl, x7⟩
      replace X := X.trans x7
      replace rv := rv.ext x7
      replace ru := ru.ext x7
      clear x7
      go_wp2_with fail
      refine (toIntS_any A n c f (by omega) _ (hr.ext X)).mono ?_
      rintro e w8 ⟨At, ct, rfl, it, jt, mt, x8⟩
      replace X := X.trans x8
      replace rv := rv.ext x8
      replace ru := ru.ext x8
      have rt := mt.recs
      clear mt x8
      go_wp2_with fail
      refine (eqIntS_yes Av At n cv ct _ _ (by omega) _ rv rt (fun _ _ => rfl)).mono ?_
      rintro e w9 ⟨rfl, x9⟩
      replace X := X.trans x9
      replace ru := ru.ext x9
      clear rv rt x9
      go_wp2_with fail
      refine (toCrateS_any A2 N c2 l z hN (fun k _ => HL.out k) _ (hs.ext X)).mono ?_
      rintro e wa ⟨Ak, ck, rfl, ik, jk, mk, xa⟩
      replace X := X.trans xa
      replace ru := ru.ext xa
      have rk := mk.crs
      clear mk xa
      go_wp2_with fail
      refine (eqCrateS_yes Au Ak N cu ck l z (by omega) _ ru rk).mono ?_
      rintro e wb ⟨rfl, xb⟩
      replace X := X.trans xb
      go_wp2
      go_ret
      exact ⟨rfl, X⟩
theorem walk (A : Option Addr) (n c : Nat) (f : Nat → Nat → Int) (hnc : n ≤ c) (hcm : c ≤ 9223372036854775807) (A2 : Option Addr) (N c2 : Nat) (l : Nat → List Int) (z : Nat → Int) (hNc : N ≤ c2) (hcm2 : c2 ≤ 9223372036854775807) (w : World) (hr : Recs w 1 A n f) (hs : Crs w A2 N l z) :
    Calls Try.prog 5 #[.slice A n c, .slice A2 N c2] w fun e w' => e = .returned (.bool true) ∧ Ext w w' :=
  walk0 A n c f hnc hcm A2 N c2 _ _ hNc hcm2 w hr hs.upt (fun k hk => if_neg (by omega))
theorem own : ownKnob Try.prog.godebug = none := by kernel_rfl
theorem laid : laidOutB Try.prog = true := fLaid
set_option maxRecDepth 100000 in
theorem lifted (os : Os) (started : os.Started) (H : Type) (enc : TypeId × Value → H) :
    ReturnsInHanded {} Try.checked os 5 .any (Rows.fnExactArePackedSpec.pre6 enc Try.prog Try.f5 Rows.fnExactArePackedRow.domain false) (Rows.fnExactArePackedSpec.post enc Try.prog Try.f5 false true false false) := by
  refine returnsInHanded_of_change (C := Try.checked) own started (by kernel_rfl) Try.func5
    (ChangeSpec.witness6 (enc := enc) (C := Try.checked) false ⟨#[], #[.slice none 0 0, .slice none 0 0], []⟩ 8 (by kernel_rfl) (by kernel_rfl) (by kernel_rfl) (by kernel_rfl)) ?_
  intro W base args ds gs before hval0 hW hcnd _
  have hval : ∀ (j : Nat) t v, Try.f5.params[j]? = some t → args[j]? = some v → Value.okWide Try.prog W .any base t v := hval0
  have hW' := hW
  obtain ⟨p, q, hA0, hV, rfl, hfz, hnd⟩ := hW
  have hA : DataW.TrodAll enc Try.prog W 0 (fun _ => true) true Try.f5.params.toList args.toList ds p := hA0
  rw [Try.params5] at hA hval
  obtain ⟨v0, vs0, d0, ds0, p0, q0, hargs, rfl, rfl, h0, r0⟩ := trodAll_cons hA
  obtain ⟨v1, vs1, d1, ds1, p1, q1, rfl, rfl, rfl, h1, r1⟩ := trodAll_cons r0
  obtain ⟨rfl, rfl, rfl⟩ := trodAll_nil r1
  obtain rfl : args = #[v0, v1] := by cases args; simp_all
  obtain ⟨rfl, rfl⟩ := trodVars_none hV
  obtain ⟨A0, n0, c0, f0, rfl, i0, j0, k0⟩ := openI Try.underlying37 Try.underlying3 (by kernel_rfl) (hval 0 37 v0 rfl rfl) h0
  obtain ⟨A1, n1, c1, l1, z1, rfl, i1, j1, k1⟩ := openK Try.underlying38 Try.underlying61 (by kernel_rfl) (by kernel_rfl) Try.underlying37 Try.underlying3 (by kernel_rfl) Try.underlying3 (hval 1 38 v1 rfl rfl) h1
  clear hA0 hval0
  refine (walk A0 n0 c0 f0 i0 j0 A1 n1 c1 l1 z1 i1 j1 W k0 k1).mono fun e W' ⟨he, hg⟩ => ?_
  subst he
  exact ⟨_, rfl, post_law (tb := 4) laid (by kernel_rfl) (by kernel_rfl) Try.underlying4 hW' rfl rfl rfl rfl hg⟩
set_option maxHeartbeats 4000000 in
set_option maxRecDepth 100000 in
theorem facts : joinedFacts Try.checked.prog 5 Try.f5 Rows.fnExactArePackedSpec Rows.fnExactArePackedRow = true := by
  unfold joinedFacts
  repeat' (with_reducible refine and_intro ?_ ?_)
  all_goals first | with_reducible exact fMayEnter | (with_reducible refine fLifted _ ?_; rfl) | (with_reducible refine fMake _ ?_; rfl) | (with_reducible exact fLaid) | (as_aux_lemma => kernel_rfl)
theorem over : Rows.fnExactArePackedRow.holds Try.pinned (OpenSpec.ofChange Rows.fnExactArePackedSpec) :=
  OpenClaim.holds_of_wide 5 Try.f5 rfl rfl rfl rfl rfl rfl rfl ⟨rfl, rfl, rfl, rfl, rfl⟩ rfl rfl rfl rfl rfl (by kernel_rfl) Try.func5 facts
    (of_decide_eq_true (by kernel_rfl)) (by unfold Func.isWrapper; first | (rw [if_pos (by decide +kernel)]; kernel_rfl) | (rw [if_neg (by decide +kernel)]; exact ⟨rfl, rfl⟩))
    (fun os started H enc _ => lifted os started H enc)
theorem proved : Rows.FnExactArePackedSaid :=
  over
#print axioms proved
end Go.Proofs.Ytgfnkmalecfhbaa.fnExactArePacked
