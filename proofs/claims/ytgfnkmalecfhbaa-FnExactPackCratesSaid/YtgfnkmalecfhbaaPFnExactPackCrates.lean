/-
  The law FnExactPackCrates of the given program holds: for every input the Go function returns true and each argument reads afterwards as it read before. No conditions.
-/
import Derived.Test.YtgfnkmalecfhbaaRows
import Derived.Test.YtgfnkmalecfhbaaFacts
import Derived.Test.YtgfnkmalecfhbaaPcI
import Derived.Test.YtgfnkmalecfhbaaPcS
import Derived.Test.YtgfnkmalecfhbaaMkK
namespace Go.Proofs.Ytgfnkmalecfhbaa.fnExactPackCrates
open Go.ChangeShapes Go.WideShapes Go.ChangeAt Go.RowKit
set_option linter.unusedVariables false
theorem pcN_le {n : Nat} {f : Nat → Nat → Int} {lim : Int} : pcN n f lim ≤ 20 := by
  unfold pcN
  split
  · rename_i h
    have := pcs_le (f := f) (lim := lim) (ord := ordN f n) n
    unfold pcB at h
    simp at h
    omega
  · omega
theorem pcL_le {n : Nat} {f : Nat → Nat → Int} {lim : Int} : ∀ k, k < pcN n f lim → (pcL n f lim k).length ≤ 1000 := by
  intro k hk
  unfold pcN at hk
  split at hk
  · rename_i h
    have := pcs_rl (f := f) (lim := lim) (ord := ordN f n) n k
    unfold pcB at h
    simp at h
    show (srtN _).length ≤ 1000
    rw [srtN_len]
    omega
  · omega
set_option maxHeartbeats 8000000 in
theorem walk (A : Option Addr) (n c : Nat) (f : Nat → Nat → Int) (hnc : n ≤ c) (hcm : c ≤ 9223372036854775807) (lim : Int) (hlim : (-9223372036854775808 ≤ lim ∧ lim ≤ 9223372036854775807)) (w : World) (hr : Recs w 1 A n f) :
    Calls Try.prog 9 #[.slice A n c, .int .i64 lim] w fun e w' => e = .returned (.bool true) ∧ Ext w w' := by
  by_cases hbig : 1048576 < n
  · have hb2 : (1048576 : Int) < n := by omega
    go_enter Try.func9, Try.ntmps9
    go_wp2
    go_ret
    exact ⟨rfl, Ext.refl w⟩
  · have hb2 : ¬ (1048576 : Int) < n := by omega
    obtain ⟨FF, hFF⟩ : ∃ FF : Nat → Nat → Int, FF = fun k _ => ix (tab n fun k => f k 0) k := ⟨_, rfl⟩
    have HFF := Lib.hid hFF
    clear hFF
    have hN : (pcN n FF lim) ≤ 20 := pcN_le
    have HLL := Lib.hid (pcL_le (n := n) (f := FF) (lim := lim))
    have hMX : cntK (pcL n FF lim) (pcN n FF lim) ≤ 1001 * 20 := Nat.le_trans (cntK_le _ HLL.out) (by rw [Nat.mul_comm]; exact Nat.mul_le_mul_left 1001 hN)
    go_enter Try.func9, Try.ntmps9
    go_wp2_with fail
    refine (toIntS_any A n c f (by omega) _ hr).mono ?_
    rintro e w1 ⟨At, ct, rfl, it, jt, mt, x1⟩
    have X := x1
    have rt : Recs w1 1 At n FF := by rw [HFF.out]; exact mt.recs
    clear mt x1
    go_wp2_with fail
    refine (spec_PackCrates At n ct FF lim it jt (by omega) hlim _ rt).mono ?_
    rintro e w2 ⟨Au, cu, rfl, iu, ju, mu, x2⟩
    replace X := X.trans x2
    have ru := mu.crs
    clear mu rt x2
    go_wp2_with fail
    refine (toIntS_any A n c f (by omega) _ (hr.ext X)).mono ?_
    rintro e w3 ⟨Av, cv, rfl, iv, jv, mv, x3⟩
    have Y := x3
    have rv : Recs w3 1 Av n FF := by rw [HFF.out]; exact mv.recs
    go_wp2_with fail
    refine (impl_PackCrates Av n cv FF lim iv jv hlim _ rv).mono ?_
    rintro e w4 ⟨Ag, cg, rfl, ig, jg, mg, x4⟩
    have hvo : ∀ k, (Value.slice Av n cv).ownBlock = some k → k < w3.heap.size := fun k hk => (mv.lt k hk).2
    replace Y := Y.trans x4
    replace mv := mv.ext x4
    clear rv x4
    go_wp2_with fail
    refine (eqCrateS_yes Ag Au _ cg cu (pcL n FF lim) _ (by omega) _ mg.crs (ru.ext Y)).mono ?_
    rintro e w5 ⟨rfl, x5⟩
    replace Y := Y.trans x5
    replace mv := mv.ext x5
    replace mg := mg.ext x5
    clear x5
    go_wp2_with fail
    refine (toIntS_any A n c f (by omega) _ (hr.ext (X.trans Y))).mono ?_
    rintro e w6 ⟨At, ct, rfl, it, jt, mt, x6⟩
    replace Y := Y.trans x6
    replace mv := mv.ext x6
    replace mg := mg.ext x6
    clear x6
    go_wp2_with fail
    refine (eqIntS_yes Av At n cv ct _ _ (by omega) _ mv.recs mt.recs (fun _ _ => rfl)).mono ?_
    rintro e w7 ⟨rfl, x7⟩
    replace Y := Y.trans x7
    replace mv := mv.ext x7
    replace mg := mg.ext x7
    clear x7 mt
    go_wp2_with fail
    refine (markIntS_any _ Av _ cv _ 1 (by omega) (by omega) _ mv).mono ?_
    rintro e w8 ⟨rfl, nv, g8⟩
    replace mg := mg.kept g8 (fun k hk => .inl (hvo k hk))
    replace Y := mv.ext_of Y (Nat.le_refl _) g8
    have hz1 : ¬ (1 : Int) + n < 0 := by omega
    clear mv nv g8
    go_wp2_with fail
    refine (eqCrateS_yes Ag Au _ cg cu (pcL n FF lim) _ (by omega) _ mg.crs (ru.ext Y)).mono ?_
    rintro e w9 ⟨rfl, x9⟩
    replace Y := Y.trans x9
    replace mg := mg.ext x9
    clear x9
    have hs2 : w2.heap.size ≤ w3.heap.size := x3.size
    go_wp2_with fail
    refine (markCrateS_any _ Ag _ cg (pcL n FF lim) _ 1 (by omega) (by omega) (by omega) (fun k hk => HLL.out k hk) _ mg w2 Y hs2).mono ?_
    rintro e wa ⟨rfl, ng, Y2⟩
    have rg := ng.crs
    clear mg ng Y
    go_wp2_with fail
    refine (heldCrateS_yes Ag _ cg (pcL n FF lim) _ _ 1 (by omega) (by omega) (by omega) (fun k hk => HLL.out k hk) _ rg (fun k hk => if_pos hk) (fun k hk => if_pos hk)).mono ?_
    rintro e wb ⟨rfl, xb⟩
    replace Y2 := Y2.trans xb
    replace rg := rg.ext xb
    clear xb
    have hz2 : ¬ (1 : Int) + (cntK (pcL n FF lim) (pcN n FF lim) : Nat) < 0 := by omega
    go_wp2_with fail
    refine (toIntS_any A n c f (by omega) _ (hr.ext (X.trans Y2))).mono ?_
    rintro e wc ⟨At, ct, rfl, it, jt, mt, xc⟩
    replace Y2 := Y2.trans xc
    replace rg := rg.ext xc
    have rt : Recs wc 1 At n FF := by rw [HFF.out]; exact mt.recs
    clear mt xc
    go_wp2_with fail
    refine (impl_PackCrates At n ct FF lim it jt hlim _ rt).mono ?_
    rintro e wd ⟨Ah, ch, rfl, ih, jh, mh, xd⟩
    replace Y2 := Y2.trans xd
    replace rg := rg.ext xd
    have rh := mh.crs
    clear mh rt xd
    go_wp2_with fail
    refine (eqCrateS_yes Ah Au _ ch cu (pcL n FF lim) _ (by omega) _ rh (ru.ext Y2)).mono ?_
    rintro e we ⟨rfl, xe⟩
    replace Y2 := Y2.trans xe
    replace rg := rg.ext xe
    clear xe rh
    go_wp2_with fail
    refine (heldCrateS_yes Ag _ cg (pcL n FF lim) _ _ 1 (by omega) (by omega) (by omega) (fun k hk => HLL.out k hk) _ rg (fun k hk => if_pos hk) (fun k hk => if_pos hk)).mono ?_
    rintro e wf ⟨rfl, xf⟩
    replace Y2 := Y2.trans xf
    go_wp2
    go_ret
    exact ⟨rfl, X.trans Y2⟩
theorem own : ownKnob Try.prog.godebug = none := by kernel_rfl
theorem laid : laidOutB Try.prog = true := fLaid
set_option maxRecDepth 100000 in
theorem lifted (os : Os) (started : os.Started) (H : Type) (enc : TypeId × Value → H) :
    ReturnsInHanded {} Try.checked os 9 .any (Rows.fnExactPackCratesSpec.pre6 enc Try.prog Try.f9 Rows.fnExactPackCratesRow.domain false) (Rows.fnExactPackCratesSpec.post enc Try.prog Try.f9 false true false false) := by
  refine returnsInHanded_of_change (C := Try.checked) own started (by kernel_rfl) Try.func9
    (ChangeSpec.witness6 (enc := enc) (C := Try.checked) false ⟨#[], #[.slice none 0 0, .int .i64 0], []⟩ 8 (by kernel_rfl) (by kernel_rfl) (by kernel_rfl) (by kernel_rfl)) ?_
  intro W base args ds gs before hval0 hW hcnd _
  have hval : ∀ (j : Nat) t v, Try.f9.params[j]? = some t → args[j]? = some v → Value.okWide Try.prog W .any base t v := hval0
  have hW' := hW
  obtain ⟨p, q, hA0, hV, rfl, hfz, hnd⟩ := hW
  have hA : DataW.TrodAll enc Try.prog W 0 (fun _ => true) true Try.f9.params.toList args.toList ds p := hA0
  rw [Try.params9] at hA hval
  obtain ⟨v0, vs0, d0, ds0, p0, q0, hargs, rfl, rfl, h0, r0⟩ := trodAll_cons hA
  obtain ⟨v1, vs1, d1, ds1, p1, q1, rfl, rfl, rfl, h1, r1⟩ := trodAll_cons r0
  obtain ⟨rfl, rfl, rfl⟩ := trodAll_nil r1
  obtain rfl : args = #[v0, v1] := by cases args; simp_all
  obtain ⟨rfl, rfl⟩ := trodVars_none hV
  obtain ⟨A0, n0, c0, f0, rfl, i0, j0, k0⟩ := openI Try.underlying37 Try.underlying3 (by kernel_rfl) (hval 0 37 v0 rfl rfl) h0
  obtain ⟨a1, rfl, rfl, rfl, w1⟩ := open_int Try.underlying3 (hval 1 3 v1 rfl rfl) h1
  clear hA0 hval0
  refine (walk A0 n0 c0 f0 i0 j0 a1 (wf64 w1) W k0).mono fun e W' ⟨he, hg⟩ => ?_
  subst he
  exact ⟨_, rfl, post_law (tb := 4) laid (by kernel_rfl) (by kernel_rfl) Try.underlying4 hW' rfl rfl rfl rfl hg⟩
set_option maxHeartbeats 4000000 in
set_option maxRecDepth 100000 in
theorem facts : joinedFacts Try.checked.prog 9 Try.f9 Rows.fnExactPackCratesSpec Rows.fnExactPackCratesRow = true := by
  unfold joinedFacts
  repeat' (with_reducible refine and_intro ?_ ?_)
  all_goals first | with_reducible exact fMayEnter | (with_reducible refine fLifted _ ?_; rfl) | (with_reducible refine fMake _ ?_; rfl) | (with_reducible exact fLaid) | (as_aux_lemma => kernel_rfl)
theorem over : Rows.fnExactPackCratesRow.holds Try.pinned (OpenSpec.ofChange Rows.fnExactPackCratesSpec) :=
  OpenClaim.holds_of_wide 9 Try.f9 rfl rfl rfl rfl rfl rfl rfl ⟨rfl, rfl, rfl, rfl, rfl⟩ rfl rfl rfl rfl rfl (by kernel_rfl) Try.func9 facts
    (of_decide_eq_true (by kernel_rfl)) (by unfold Func.isWrapper; first | (rw [if_pos (by decide +kernel)]; kernel_rfl) | (rw [if_neg (by decide +kernel)]; exact ⟨rfl, rfl⟩))
    (fun os started H enc _ => lifted os started H enc)
theorem proved : Rows.FnExactPackCratesSaid :=
  over
#print axioms proved
end Go.Proofs.Ytgfnkmalecfhbaa.fnExactPackCrates
