/-
  The law FnExactCrateOk of the given program holds: for every input the Go function returns true and each argument reads afterwards as it read before. No conditions.
-/
import Derived.Test.YtfenofkjnafjcaaRows
import Derived.Test.YtfenofkjnafjcaaFacts
import Derived.Test.YtfenofkjnafjcaaCrateC
import Derived.Test.YtfenofkjnafjcaaToCrate
import Derived.Test.YtfenofkjnafjcaaKitB
namespace Go.Proofs.Ytfenofkjnafjcaa.fnExactCrateOk
open Go.ChangeShapes Go.WideShapes Go.ChangeAt Go.RowKit
set_option linter.unusedVariables false
set_option maxHeartbeats 8000000 in
theorem walk (A : Option Addr) (n c : Nat) (f : Nat → Nat → Int) (hnc : n ≤ c) (hcm : c ≤ 9223372036854775807) (B : Option Addr) (m k : Nat) (p : Nat → Nat → Int) (l : Int) (hmk : m ≤ k) (hkm : k ≤ 9223372036854775807) (hl : (-9223372036854775808 ≤ l ∧ l ≤ 9223372036854775807)) (w : World) (hr : Recs w 1 A n f) (hp : Recs w 1 B m p) :
    Calls Try.prog 10 #[.slice A n c, .agg #[.slice B m k, .int .i64 l]] w fun e w' => e = .returned (.bool true) ∧ Ext w w' := by
  by_cases hbig : 1048576 < n
  · go_enter Try.func10, Try.ntmps10
    go_wp2
    go_ret
    exact ⟨rfl, by repeat (first | exact Ext.refl _ | apply Ext.wgr | apply Ext.drew | apply Ext.drewN | apply Ext.alloc)⟩
  by_cases hbig2 : 1048576 < m
  · go_enter Try.func10, Try.ntmps10
    go_wp2_with fail
    refine (szCrate_any B m k l 1048576 (by omega) (by omega) _).mono ?_
    rintro e w1 ⟨rfl, g, rfl⟩
    rw [if_pos (by omega)]
    go_wp2
    go_ret
    exact ⟨rfl, by repeat (first | exact Ext.refl _ | apply Ext.wgr | apply Ext.drew | apply Ext.drewN | apply Ext.alloc)⟩
  · go_enter Try.func10, Try.ntmps10
    go_wp2_with fail
    have b0 : (w.alloc (.cells #[.slice B m k, .int .i64 l] 43)).cell? ⟨w.heap.size, 0, none⟩ = some (.slice B m k) := by simp [go_sem]
    have b1 : (w.alloc (.cells #[.slice B m k, .int .i64 l] 43)).cell? ⟨w.heap.size, 1, none⟩ = some (.int .i64 l) := by simp [go_sem]
    have X := (Ext.refl w).alloc (.cells #[.slice B m k, .int .i64 l] 43)
    refine (szCrate_any B m k l 1048576 (by omega) (by omega) _).mono ?_
    rintro e w1 ⟨rfl, x1⟩
    replace b0 := x1.cell b0
    replace b1 := x1.cell b1
    replace X := X.trans x1
    rw [if_neg (by omega)]
    go_wp2_with fail
    go_region_held3 (fun w' => w'.cell? ⟨w.heap.size, 0, none⟩ = some (.slice B m k) ∧ w'.cell? ⟨w.heap.size, 1, none⟩ = some (.int .i64 l)) (first | exact ⟨b0, b1⟩ | exact ⟨b0a, b1a⟩ | exact ⟨b0b, b1b⟩ | exact ⟨b0c, b1c⟩) (first
      | (go_at_call 21; refine (toIntS_any A n c f (by omega) _ (hr.ext X.drew)).mono ?_; rintro e wa ⟨Aa, ca, rfl, ia, ja, ma, xa⟩; have b0a := xa.cell b0; have b1a := xa.cell b1; have Xa := X.drew.trans xa)
      | (go_at_call 45; refine (toCrate_any B m k p l (by omega) _ (hp.ext Xa)).mono ?_; rintro e wb ⟨Ab, cb, rfl, ib, jb, mb, xb⟩; have b0b := xb.cell b0a; have b1b := xb.cell b1a; have Xb := Xa.trans xb; have mab := ma.ext xb)
      | (go_at_call 48; refine (spec_CrateOk Aa n ca _ Ab m cb _ l (by omega) (by omega) _ mab.recs mb.recs).mono ?_; rintro e wc ⟨rfl, xc⟩; have b0c := xc.cell b0b; have b1c := xc.cell b1b; have Xc := Xb.trans xc))
    have X := Xc
    have b0 := b0c
    have b1 := b1c
    clear b0a b1a b0b b1b b0c b1c ma mab mb xa xb xc Xa Xb
    go_wp2_with fail
    have bx := X.size
    refine (toIntS_any A n c f (by omega) _ (hr.ext X)).mono ?_
    rintro e w2 ⟨Ax, cx, rfl, ix, jx, mx, x2⟩
    replace b0 := x2.cell b0
    replace b1 := x2.cell b1
    replace X := X.trans x2
    go_wp2_with fail
    have bq := X.size
    have ox_q := mx.old
    refine (toCrate_any B m k p l (by omega) _ (hp.ext X)).mono ?_
    rintro e w3 ⟨Aq, cq, rfl, iq, jq, mq, x3⟩
    replace mx := mx.ext x3
    replace b0 := x3.cell b0
    replace b1 := x3.cell b1
    replace X := X.trans x3
    go_wp2_with fail
    have hw' : w3 = w3 := rfl
    have x4 := (Ext.refl w3).alloc (.cells #[.slice Aq m cq, .int .i64 l] 46)
    have d0 : (w3.alloc (.cells #[.slice Aq m cq, .int .i64 l] 46)).cell? ⟨w3.heap.size, 0, none⟩ = some (.slice Aq m cq) := by simp [go_sem]
    have d1 : (w3.alloc (.cells #[.slice Aq m cq, .int .i64 l] 46)).cell? ⟨w3.heap.size, 1, none⟩ = some (.int .i64 l) := by simp [go_sem]
    replace mx := mx.ext x4
    replace mq := mq.ext x4
    replace b0 := x4.cell b0
    replace b1 := x4.cell b1
    replace X := X.trans x4
    refine (impl_CrateOk Ax n cx _ Aq m cq _ l (by omega) (by omega) _ mx.recs mq.recs).mono ?_
    rintro e w5 ⟨rfl, x5⟩
    replace mx := mx.ext x5
    replace mq := mq.ext x5
    replace b0 := x5.cell b0
    replace b1 := x5.cell b1
    replace d0 := x5.cell d0
    replace d1 := x5.cell d1
    replace X := X.trans x5
    go_wp2_with fail
    have bt := X.size
    have ox_t := mx.old
    have oq_t := mq.old
    refine (toIntS_any A n c f (by omega) _ (hr.ext X)).mono ?_
    rintro e w6 ⟨At, ct, rfl, it, jt, mt, x6⟩
    replace mx := mx.ext x6
    replace mq := mq.ext x6
    replace b0 := x6.cell b0
    replace b1 := x6.cell b1
    replace d0 := x6.cell d0
    replace d1 := x6.cell d1
    replace X := X.trans x6
    go_wp2_with fail
    refine (eqIntS_yes Ax At n cx ct _ _ (by omega) _ mx.recs mt.recs (fun _ _ => rfl)).mono ?_
    rintro e w7 ⟨rfl, x7⟩
    replace mx := mx.ext x7
    replace mq := mq.ext x7
    replace mt := mt.ext x7
    replace b0 := x7.cell b0
    replace b1 := x7.cell b1
    replace d0 := x7.cell d0
    replace d1 := x7.cell d1
    replace X := X.trans x7
    clear mt mx
    go_wp2_with fail
    go_region_held3 (fun w' => (w'.cell? ⟨w.heap.size, 0, none⟩ = some (.slice B m k) ∧ w'.cell? ⟨w.heap.size, 1, none⟩ = some (.int .i64 l)) ∧ w'.cell? ⟨w3.heap.size, 0, none⟩ = some (.slice Aq m cq) ∧ w'.cell? ⟨w3.heap.size, 1, none⟩ = some (.int .i64 l)) (first | exact ⟨⟨b0, b1⟩, d0, d1⟩ | exact ⟨⟨b0a, b1a⟩, d0a, d1a⟩ | exact ⟨⟨b0b, b1b⟩, d0b, d1b⟩) (first
      | (go_at_call 45; refine (toCrate_any B m k p l (by omega) _ (hp.ext X.drew)).mono ?_; rintro e wd ⟨Ad, cd, rfl, id, jd, md, xd⟩; have b0a := xd.cell b0; have b1a := xd.cell b1; have d0a := xd.cell d0; have d1a := xd.cell d1; have Xd := X.drew.trans xd; have my2 := (mq.ext (Ext.refl _).drew).ext xd)
      | (go_at_call 47; refine (eqCrate_yes Aq Ad m cq cd _ _ l (by omega) _ my2.recs md.recs (fun _ _ => rfl)).mono ?_; rintro e we ⟨rfl, xe⟩; have b0b := xe.cell b0a; have b1b := xe.cell b1a; have d0b := xe.cell d0a; have d1b := xe.cell d1a; have Xe := Xd.trans xe))
    go_wp2
    go_ret
    exact ⟨rfl, Xe⟩
theorem own : ownKnob Try.prog.godebug = none := by kernel_rfl
theorem laid : laidOutB Try.prog = true := fLaid
set_option maxRecDepth 100000 in
theorem lifted (os : Os) (started : os.Started) (H : Type) (enc : TypeId × Value → H) :
    ReturnsInHanded {} Try.checked os 10 .any (Rows.fnExactCrateOkSpec.pre6 enc Try.prog Try.f10 Rows.fnExactCrateOkRow.domain false) (Rows.fnExactCrateOkSpec.post enc Try.prog Try.f10 false true false false) := by
  refine returnsInHanded_of_change (C := Try.checked) own started (by kernel_rfl) Try.func10
    (ChangeSpec.witness6 (enc := enc) (C := Try.checked) false ⟨#[], #[.slice none 0 0, .agg #[.slice none 0 0, .int .i64 0]], []⟩ 8 (by kernel_rfl) (by kernel_rfl) (by kernel_rfl) (by kernel_rfl)) ?_
  intro W base args ds gs before hval0 hW hcnd _
  have hval : ∀ (j : Nat) t v, Try.f10.params[j]? = some t → args[j]? = some v → Value.okWide Try.prog W .any base t v := hval0
  have hW' := hW
  obtain ⟨p, q, hA0, hV, rfl, hfz, hnd⟩ := hW
  have hA : DataW.TrodAll enc Try.prog W 0 (fun _ => true) true Try.f10.params.toList args.toList ds p := hA0
  rw [Try.params10] at hA hval
  obtain ⟨v0, vs0, d0, ds0, p0, q0, hargs, rfl, rfl, h0, r0⟩ := trodAll_cons hA
  obtain ⟨v1, vs1, d1, ds1, p1, q1, rfl, rfl, rfl, h1, r1⟩ := trodAll_cons r0
  obtain ⟨rfl, rfl, rfl⟩ := trodAll_nil r1
  obtain rfl : args = #[v0, v1] := by cases args; simp_all
  obtain ⟨rfl, rfl⟩ := trodVars_none hV
  obtain ⟨A0, n0, c0, f0, rfl, i0, j0, k0⟩ := openI Try.underlying22 Try.underlying3 (by kernel_rfl) (hval 0 22 v0 rfl rfl) h0
  obtain ⟨A1, n1, c1, f1, l1, rfl, i1, j1, k1, o1⟩ := openC Try.underlying43 (by kernel_rfl) (by kernel_rfl) Try.underlying22 Try.underlying3 (by kernel_rfl) Try.underlying3 (hval 1 43 v1 rfl rfl) h1
  clear hA0 hval0
  refine (walk A0 n0 c0 f0 i0 j0 A1 n1 c1 f1 l1 i1 j1 o1 W k0 k1).mono fun e W' ⟨he, hg⟩ => ?_
  subst he
  exact ⟨_, rfl, post_law (tb := 4) laid (by kernel_rfl) (by kernel_rfl) Try.underlying4 hW' rfl rfl rfl rfl hg⟩
set_option maxHeartbeats 4000000 in
set_option maxRecDepth 100000 in
theorem facts : joinedFacts Try.checked.prog 10 Try.f10 Rows.fnExactCrateOkSpec Rows.fnExactCrateOkRow = true := by
  unfold joinedFacts
  repeat' (with_reducible refine and_intro ?_ ?_)
  all_goals first | with_reducible exact fMayEnter | (with_reducible refine fLifted _ ?_; rfl) | (with_reducible refine fMake _ ?_; rfl) | (with_reducible exact fLaid) | (as_aux_lemma => kernel_rfl)
theorem over : Rows.fnExactCrateOkRow.holds Try.pinned (OpenSpec.ofChange Rows.fnExactCrateOkSpec) :=
  OpenClaim.holds_of_wide 10 Try.f10 rfl rfl rfl rfl rfl rfl rfl ⟨rfl, rfl, rfl, rfl, rfl⟩ rfl rfl rfl rfl rfl (by kernel_rfl) Try.func10 facts
    (of_decide_eq_true (by kernel_rfl)) (by unfold Func.isWrapper; first | (rw [if_pos (by decide +kernel)]; kernel_rfl) | (rw [if_neg (by decide +kernel)]; exact ⟨rfl, rfl⟩))
    (fun os started H enc _ => lifted os started H enc)
theorem proved : Rows.FnExactCrateOkSaid :=
  over
#print axioms proved
end Go.Proofs.Ytfenofkjnafjcaa.fnExactCrateOk
