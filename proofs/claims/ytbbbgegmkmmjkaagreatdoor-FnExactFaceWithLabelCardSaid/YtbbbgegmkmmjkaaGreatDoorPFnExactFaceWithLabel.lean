/-
  The law FnExactFaceWithLabel of the given program holds: for every input the Go function returns true and each argument reads afterwards as it read before. No conditions.
-/
import Derived.Test.YtbbbgegmkmmjkaaGreatDoorRows
import Derived.Test.YtbbbgegmkmmjkaaGreatDoorFactsZ
import Derived.Test.YtbbbgegmkmmjkaaGreatDoorCards
import Derived.Test.YtbbbgegmkmmjkaaGreatDoorTie
import Derived.ChangeVars
import Derived.LaidLaws
import Derived.Lay
import Derived.SevenTiedAt
import Derived.ChangeMaps5
import Derived.Stop.Joined
import Derived.Test.YtbbbgegmkmmjkaaGreatDoorLabB
import Derived.Test.YtbbbgegmkmmjkaaGreatDoorLabC
import Derived.Test.YtbbbgegmkmmjkaaGreatDoorToWM
namespace Go.Proofs.YtbbbgegmkmmjkaaGreatDoor.fnExactFaceWithLabel
open Go.ChangeShapes Go.WideShapes Go.ChangeAt Go.RowKit
set_option linter.unusedVariables false
set_option maxHeartbeats 8000000 in
theorem walk (A : Option Addr) (n c : Nat) (P : Nat → Nat → Int) (B : Option Addr) (m d : Nat) (L : Nat → Nat → Int) (hnc : n ≤ c) (hcm : c ≤ 9223372036854775807) (hmd : m ≤ d) (hdm : d ≤ 9223372036854775807) (s : ByteArray) (hs : s.size ≤ 9223372036854775807) (w : World) (hr : Recs w 2 A n P) (hs : Recs w 2 B m L) :
    Calls Tryz.prog 3 #[.agg #[.slice A n c, .slice B m d], .string s] w fun e w' => e = .returned (.bool true) ∧ Ext w w' := by
  by_cases hbigs : 1048576 < s.size
  · go_enter Tryz.func3, Tryz.ntmps3
    go_wp2
    go_ret
    exact ⟨rfl, by repeat (first | exact Ext.refl _ | apply Ext.wgr | apply Ext.drew | apply Ext.drewN | apply Ext.alloc)⟩
  by_cases hbig : 1048576 < n + m
  · go_enter Tryz.func3, Tryz.ntmps3
    go_wp2_with fail
    refine (szWindow_big A B n c m d (by omega) (by omega) hbig _).mono ?_
    rintro e w1 ⟨rfl, x1⟩
    go_wp2
    go_ret
    exact ⟨rfl, ((Ext.refl w).alloc _).trans x1⟩
  · go_enter Tryz.func3, Tryz.ntmps3
    go_wp2_with fail
    refine (szWindow_ok A B n c m d (by omega) _).mono ?_
    rintro e w0 ⟨⟨z, hz, rfl⟩, x0⟩
    have hz' : ¬ z < 0 := by omega
    have X := ((Ext.refl w).alloc (.cells #[.slice A n c, .slice B m d] 25)).trans x0
    have a0 := x0.cell (a := ⟨w.heap.size, 0, none⟩) (u := .slice A n c) (by simp [go_sem])
    have a1 := x0.cell (a := ⟨w.heap.size, 1, none⟩) (u := .slice B m d) (by simp [go_sem])
    go_wp2_with fail
    refine (toWindow_any A n c P B m d L (by omega) (by omega) _ (hr.ext X) (hs.ext X)).mono ?_
    rintro e w1 ⟨Aa, ca, Ba, da, ba, rfl, ⟨ia, ja, ka, la⟩, ha, oa, ma, na, x1⟩
    replace a0 := x1.cell a0
    replace a1 := x1.cell a1
    replace X := X.trans x1
    go_wp2_with fail
    refine (spec_FaceWithLabel Aa n ca _ Ba m da _ ia ja ka la s _ ma.recs na.recs).mono ?_
    rintro e w2 ⟨rfl, x2⟩
    replace ma := ma.ext x2
    replace na := na.ext x2
    replace a0 := x2.cell a0
    replace a1 := x2.cell a1
    replace X := X.trans x2
    clear ma na
    go_wp2_with fail
    refine (toWindow_any A n c P B m d L (by omega) (by omega) _ (hr.ext X) (hs.ext X)).mono ?_
    rintro e w3 ⟨Ax, cx, Bx, dx, bx, rfl, ⟨ix, jx, kx, lx⟩, hx, ox, mx, nx, x3⟩
    replace a0 := x3.cell a0
    replace a1 := x3.cell a1
    replace X := X.trans x3
    go_wp2_with fail
    have x4 := (Ext.refl w3).alloc (.cells #[.slice Ax n cx, .slice Bx m dx] 31)
    have d0 : (w3.alloc (.cells #[.slice Ax n cx, .slice Bx m dx] 31)).cell? ⟨w3.heap.size, 0, none⟩ = some (.slice Ax n cx) := by simp [go_sem]
    have d1 : (w3.alloc (.cells #[.slice Ax n cx, .slice Bx m dx] 31)).cell? ⟨w3.heap.size, 1, none⟩ = some (.slice Bx m dx) := by simp [go_sem]
    replace mx := mx.ext x4
    replace nx := nx.ext x4
    replace a0 := x4.cell a0
    replace a1 := x4.cell a1
    replace X := X.trans x4
    refine (impl_FaceWithLabel Ax n cx _ Bx m dx _ ix jx kx lx s _ mx.recs nx.recs).mono ?_
    rintro e w5 ⟨rfl, x5⟩
    replace mx := mx.ext x5
    replace nx := nx.ext x5
    replace a0 := x5.cell a0
    replace a1 := x5.cell a1
    replace d0 := x5.cell d0
    replace d1 := x5.cell d1
    replace X := X.trans x5
    go_wp2_with fail
    go_region_held3 (fun w' => w'.cell? ⟨w.heap.size, 0, none⟩ = some (.slice A n c) ∧ w'.cell? ⟨w.heap.size, 1, none⟩ = some (.slice B m d) ∧ w'.cell? ⟨w3.heap.size, 0, none⟩ = some (.slice Ax n cx) ∧ w'.cell? ⟨w3.heap.size, 1, none⟩ = some (.slice Bx m dx)) (first | exact ⟨a0, a1, d0, d1⟩ | exact ⟨a0p, a1p, d0p, d1p⟩ | exact ⟨a0q, a1q, d0q, d1q⟩) (first
      | (go_at_call 7; refine (toWindow_any A n c P B m d L (by omega) (by omega) _ (hr.ext X.drew) (hs.ext X.drew)).mono ?_; rintro e wp ⟨Ap, cp, Bp, dp, bp, rfl, ⟨ip, jp, kp, lp⟩, hp, op, mp, np, xp⟩; have a0p := xp.cell a0; have a1p := xp.cell a1; have d0p := xp.cell d0; have d1p := xp.cell d1; have mxp := (mx.ext (Ext.refl _).drew).ext xp; have nxp := (nx.ext (Ext.refl _).drew).ext xp; have Xp := X.drew.trans xp)
      | (go_at_call 9; refine (eqWindow_yes Ax Bx Ap Bp n cx cp m dx dp _ _ _ _ (by omega) (by omega) _ mxp.recs nxp.recs mp.recs np.recs (fun _ _ _ _ => rfl) (fun _ _ _ _ => rfl)).mono ?_; rintro e wq ⟨rfl, xq⟩; have a0q := xq.cell a0p; have a1q := xq.cell a1p; have d0q := xq.cell d0p; have d1q := xq.cell d1p; have Xq := Xp.trans xq))
    go_wp2
    go_ret
    exact ⟨rfl, Xq⟩
theorem own : ownKnob Tryz.prog.godebug = none := by kernel_rfl
theorem laid : laidOutB Tryz.prog = true := fLaid
theorem laid_met (os : Os) (args : Array Value) : laidMet Tryz.prog Rows.fnExactFaceWithLabelRow.laid ((World.laidAll Tryz.prog os Rows.fnExactFaceWithLabelRow.laid).forCall (fun _ _ => 0) ⟨#[], args, []⟩).memory := laidMet_laidAll _ (by kernel_rfl) (by kernel_rfl)
set_option maxRecDepth 100000 in
theorem lifted (os : Os) (started : os.Started) (H : Type) (enc : TypeId × Value → H) :
    ReturnsInHanded {} Tryz.checked os 3 .any (fun w args => (Rows.fnExactFaceWithLabelSpec.pre enc Tryz.prog Tryz.f3 Rows.fnExactFaceWithLabelRow.domain false w args ∧ laidMet Tryz.prog Rows.fnExactFaceWithLabelRow.laid w) ∧ sizedMet enc Tryz.prog Tryz.f3 (OpenSpec.ofChange Rows.fnExactFaceWithLabelSpec) false w args) (Rows.fnExactFaceWithLabelSpec.post enc Tryz.prog Tryz.f3 false true false false) := by
  refine returnsInHanded_of_change_and (C := Tryz.checked) (X := fun w _ => laidMet Tryz.prog Rows.fnExactFaceWithLabelRow.laid w) (fun _ _ _ hh h => h.of_heap hh) own started (by kernel_rfl) Tryz.func3
    (ChangeSpec.witness_at (enc := enc) (C := Tryz.checked) (os := os) (X := fun w _ => laidMet Tryz.prog Rows.fnExactFaceWithLabelRow.laid w) false (World.laidAll Tryz.prog os Rows.fnExactFaceWithLabelRow.laid) #[.agg #[.slice none 0 0, .slice none 0 0], .string ByteArray.empty] 8 rfl (by kernel_rfl) (by kernel_rfl) (by kernel_rfl) (by kernel_rfl) (by kernel_rfl) (laid_met os _)) ?_
  intro W base args ds gs before hval0 hW hcnd _ hL _
  have hval : ∀ (j : Nat) t v, Tryz.f3.params[j]? = some t → args[j]? = some v → Value.okWide Tryz.prog W .any base t v := hval0
  have hW' := hW
  obtain ⟨p, q, hA0, hV, rfl, hfz, hnd⟩ := hW
  have hA : DataW.TrodAll enc Tryz.prog W 0 (fun _ => true) true Tryz.f3.params.toList args.toList ds p := hA0
  rw [Tryz.params3] at hA hval
  obtain ⟨v0, vs0, d0, ds0, p0, q0, hargs, rfl, rfl, h0, r0⟩ := trodAll_cons hA
  obtain ⟨v1, vs1, d1, ds1, p1, q1, rfl, rfl, rfl, h1, r1⟩ := trodAll_cons r0
  obtain ⟨rfl, rfl, rfl⟩ := trodAll_nil r1
  obtain rfl : args = #[v0, v1] := by cases args; simp_all
  obtain ⟨rfl, rfl⟩ := trodVars_none hV
  obtain ⟨A0, n0, c0, f0, B0, m0, e0, g0, rfl, i0, j0, k0, l0, o0, u0⟩ := openW Tryz.underlying25 (by kernel_rfl) (by kernel_rfl) Tryz.underlying22 Tryz.underlying60 (by kernel_rfl) (by kernel_rfl) (by kernel_rfl) (by decide) Tryz.underlying23 Tryz.underlying64 (by kernel_rfl) (by kernel_rfl) (by kernel_rfl) (by decide) (hval 0 25 v0 rfl rfl) h0
  obtain ⟨s1, rfl, rfl, rfl, w1⟩ := Go.ChangeMaps.open_string Tryz.underlying9 (hval 1 9 v1 rfl rfl) h1
  clear hA0 hval0
  refine (walk A0 n0 c0 f0 B0 m0 e0 g0 i0 j0 l0 o0 s1 (by simp only [maxLen] at w1; omega) W k0 u0).mono fun e W' ⟨he, hg⟩ => ?_
  subst he
  exact ⟨_, rfl, post_law (tb := 4) laid (by kernel_rfl) (by kernel_rfl) Tryz.underlying4 hW' rfl rfl rfl rfl hg⟩
set_option maxHeartbeats 4000000 in
set_option maxRecDepth 100000 in
theorem facts : joinedFacts Tryz.checked.prog 3 Tryz.f3 Rows.fnExactFaceWithLabelSpec Rows.fnExactFaceWithLabelRow = true := by
  unfold joinedFacts
  repeat' (with_reducible refine and_intro ?_ ?_)
  all_goals first | with_reducible exact fMayEnter | (with_reducible refine fLifted _ ?_; rfl) | (with_reducible refine fMake _ ?_; rfl) | (with_reducible exact fLaid) | (as_aux_lemma => kernel_rfl)
theorem over : Rows.fnExactFaceWithLabelRow.holds Tryz.pinned (OpenSpec.ofChange Rows.fnExactFaceWithLabelSpec) :=
  OpenClaim.holds_of_wide 3 Tryz.f3 rfl rfl rfl rfl rfl rfl rfl ⟨rfl, rfl, rfl, rfl, rfl⟩ rfl rfl rfl rfl rfl (by kernel_rfl) Tryz.func3 facts
    (of_decide_eq_true (by kernel_rfl)) (by unfold Func.isWrapper; first | (rw [if_pos (by decide +kernel)]; kernel_rfl) | (rw [if_neg (by decide +kernel)]; exact ⟨rfl, rfl⟩))
    (fun os started H enc _ => lifted os started H enc)
set_option maxRecDepth 100000 in
theorem proved : Rows.FnExactFaceWithLabelCardSaid :=
  Claim7.holds_tied_plain_at .later [] [.data, .data, .data] true (true, "b63eaaa185db7636998f30c76430f5fb80887c9ef634e044408e6b28c009e001") false
    over (fun _ h => by cases h) (by kernel_rfl) (fun _ h => by cases h) fnExactFaceWithLabel_row_tie rfl ⟨rfl, rfl⟩ (by kernel_rfl) rfl
    (fun f fn hf hfn => by
      obtain rfl : f = 3 := Option.some.inj ((show Tryz.prog.funcNamed "loop.example/g03303/laws.FnExactFaceWithLabel" = some 3 by kernel_rfl).symm.trans hf) |>.symm
      obtain rfl : fn = Tryz.f3 := (Option.some.inj (Tryz.func3.symm.trans hfn)).symm
      exact ⟨by kernel_rfl, fun j t ht => by
        rw [Tryz.params3] at ht
        match j with
        | 0 => (obtain rfl : 25 = t := by simpa using ht); exact (show Tryz.prog.wantsStandIn 25 = false by kernel_rfl)
        | 1 => (obtain rfl : 9 = t := by simpa using ht); exact (show Tryz.prog.wantsStandIn 9 = false by kernel_rfl)
        | j + 2 => simp at ht⟩)
    (by kernel_rfl)
#print axioms proved
end Go.Proofs.YtbbbgegmkmmjkaaGreatDoor.fnExactFaceWithLabel
