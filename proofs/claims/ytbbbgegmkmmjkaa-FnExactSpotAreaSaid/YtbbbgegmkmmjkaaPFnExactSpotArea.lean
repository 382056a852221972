/-
  The law FnExactSpotArea of the given program holds: for every input the Go function returns true and each argument reads afterwards as it read before. No conditions.
-/
import Derived.Test.YtbbbgegmkmmjkaaRows
import Derived.Test.YtbbbgegmkmmjkaaFacts
import Derived.Test.YtbbbgegmkmmjkaaSmaM
import Derived.Test.YtbbbgegmkmmjkaaToWM
namespace Go.Proofs.Ytbbbgegmkmmjkaa.fnExactSpotArea
open Go.ChangeShapes Go.WideShapes Go.ChangeAt Go.RowKit
set_option linter.unusedVariables false
set_option maxHeartbeats 8000000 in
theorem walk (A : Option Addr) (n c : Nat) (P : Nat → Nat → Int) (B : Option Addr) (m d : Nat) (L : Nat → Nat → Int) (hnc : n ≤ c) (hcm : c ≤ 9223372036854775807) (hmd : m ≤ d) (hdm : d ≤ 9223372036854775807) (f : Int) (hf : (-9223372036854775808 ≤ f ∧ f ≤ 9223372036854775807)) (u : Int) (hu : (-9223372036854775808 ≤ u ∧ u ≤ 9223372036854775807)) (xs ys zs : Int) (is : (-9223372036854775808 ≤ xs ∧ xs ≤ 9223372036854775807)) (js : (-9223372036854775808 ≤ ys ∧ ys ≤ 9223372036854775807)) (ks : (-9223372036854775808 ≤ zs ∧ zs ≤ 9223372036854775807)) (w : World) (hr : Recs w 2 A n P) (hs : Recs w 2 B m L) :
    Calls Try.prog 6 #[.agg #[.slice A n c, .slice B m d], .int .i64 f, .int .i64 u, .agg #[.int .i64 xs, .int .i64 ys, .int .i64 zs]] w fun e w' => e = .returned (.bool true) ∧ Ext w w' := by
  by_cases hbig : 1048576 < n + m
  · go_enter Try.func6, Try.ntmps6
    go_wp2_with fail
    refine (szWindow_big A B n c m d (by omega) (by omega) hbig _).mono ?_
    rintro e w1 ⟨rfl, x1⟩
    go_wp2
    go_ret
    exact ⟨rfl, ((Ext.refl w).alloc _ |>.alloc _).trans x1⟩
  · go_enter Try.func6, Try.ntmps6
    go_wp2_with fail
    refine (szWindow_ok A B n c m d (by omega) _).mono ?_
    rintro e w0 ⟨⟨z, hz, rfl⟩, x0⟩
    have hz' : ¬ z < 0 := by omega
    have X := ((Ext.refl w).alloc (.cells #[.slice A n c, .slice B m d] 25) |>.alloc (.cells #[.int .i64 xs, .int .i64 ys, .int .i64 zs] 43)).trans x0
    have s0 := x0.cell (a := ⟨w.heap.size + 1, 0, none⟩) (u := .int .i64 xs) (by simp [go_sem])
    have s1 := x0.cell (a := ⟨w.heap.size + 1, 1, none⟩) (u := .int .i64 ys) (by simp [go_sem])
    have s2 := x0.cell (a := ⟨w.heap.size + 1, 2, none⟩) (u := .int .i64 zs) (by simp [go_sem])
    have a0 := x0.cell (a := ⟨w.heap.size, 0, none⟩) (u := .slice A n c) (by simp [go_sem])
    have a1 := x0.cell (a := ⟨w.heap.size, 1, none⟩) (u := .slice B m d) (by simp [go_sem])
    obtain ⟨sa, sb, sc, hsv⟩ := spotV_form n (fun k j => ix (flat 2 n P) (k * 2 + j)) m (fun k j => ix (flat 2 m L) (k * 2 + j)) f u xs ys zs
    go_wp2_with fail
    go_region_held3 (fun w' => w'.cell? ⟨w.heap.size, 0, none⟩ = some (.slice A n c) ∧ w'.cell? ⟨w.heap.size, 1, none⟩ = some (.slice B m d) ∧ w'.cell? ⟨w.heap.size + 1, 0, none⟩ = some (.int .i64 xs) ∧ w'.cell? ⟨w.heap.size + 1, 1, none⟩ = some (.int .i64 ys) ∧ w'.cell? ⟨w.heap.size + 1, 2, none⟩ = some (.int .i64 zs)) (first | exact ⟨a0, a1, s0, s1, s2⟩ | exact ⟨a0p, a1p, s0p, s1p, s2p⟩ | exact ⟨a0q, a1q, s0q, s1q, s2q⟩ | exact ⟨a0r, a1r, s0r, s1r, s2r⟩) (first
      | (go_at_call 18; refine (toWindow_any A n c P B m d L (by omega) (by omega) _ (hr.ext X.drew) (hs.ext X.drew)).mono ?_; rintro e wp ⟨Aa, ca, Ba, da, ba, rfl, ⟨ia, ja, ka, la⟩, ha, oa, ma, na, xp⟩; have a0p := xp.cell a0; have a1p := xp.cell a1; have s0p := xp.cell s0; have s1p := xp.cell s1; have s2p := xp.cell s2; have map := ma; have nap := na; have Xp := X.drew.trans xp)
      | (go_at_call 28; refine (toSun_any xs ys zs _).mono ?_; rintro e wq ⟨rfl, xq⟩; have a0q := xq.cell a0p; have a1q := xq.cell a1p; have s0q := xq.cell s0p; have s1q := xq.cell s1p; have s2q := xq.cell s2p; have maq := map.ext xq; have naq := nap.ext xq; have Xq := Xp.trans xq)
      | (go_at_call 27; refine (spec_SpotArea Aa n ca _ Ba m da _ ia ja ka la f u xs ys zs hf hu _ maq.recs naq.recs).mono ?_; rintro e wr ⟨rfl, xr⟩; have a0r := xr.cell a0q; have a1r := xr.cell a1q; have s0r := xr.cell s0q; have s1r := xr.cell s1q; have s2r := xr.cell s2q; have mar := maq.ext xr; have nar := naq.ext xr; have Xr := Xq.trans xr; rw [hsv]))
    replace X := Xr
    replace a0 := a0r
    replace a1 := a1r
    replace s0 := s0r
    replace s1 := s1r
    replace s2 := s2r
    clear a0p a1p s0p s1p s2p Xp xp
    clear a0q a1q s0q s1q s2q Xq xq
    clear a0r a1r s0r s1r s2r Xr xr
    go_wp2_with fail
    refine (toWindow_any A n c P B m d L (by omega) (by omega) _ (hr.ext X) (hs.ext X)).mono ?_
    rintro e w1 ⟨Ax, cx, Bx, dx, bx, rfl, ⟨ix, jx, kx, lx⟩, hx, ox, mx, nx, x1⟩
    replace a0 := x1.cell a0
    replace a1 := x1.cell a1
    replace s0 := x1.cell s0
    replace s1 := x1.cell s1
    replace s2 := x1.cell s2
    replace X := X.trans x1
    go_wp2_with fail
    have x2 := (Ext.refl w1).alloc (.cells #[.slice Ax n cx, .slice Bx m dx] 32)
    have d0 : (w1.alloc (.cells #[.slice Ax n cx, .slice Bx m dx] 32)).cell? ⟨w1.heap.size, 0, none⟩ = some (.slice Ax n cx) := by simp [go_sem]
    have d1 : (w1.alloc (.cells #[.slice Ax n cx, .slice Bx m dx] 32)).cell? ⟨w1.heap.size, 1, none⟩ = some (.slice Bx m dx) := by simp [go_sem]
    replace mx := mx.ext x2
    replace nx := nx.ext x2
    replace a0 := x2.cell a0
    replace a1 := x2.cell a1
    replace s0 := x2.cell s0
    replace s1 := x2.cell s1
    replace s2 := x2.cell s2
    replace X := X.trans x2
    go_wp2_with fail
    go_region_held3 (fun w' => w'.cell? ⟨w.heap.size, 0, none⟩ = some (.slice A n c) ∧ w'.cell? ⟨w.heap.size, 1, none⟩ = some (.slice B m d) ∧ w'.cell? ⟨w.heap.size + 1, 0, none⟩ = some (.int .i64 xs) ∧ w'.cell? ⟨w.heap.size + 1, 1, none⟩ = some (.int .i64 ys) ∧ w'.cell? ⟨w.heap.size + 1, 2, none⟩ = some (.int .i64 zs) ∧ w'.cell? ⟨w1.heap.size, 0, none⟩ = some (.slice Ax n cx) ∧ w'.cell? ⟨w1.heap.size, 1, none⟩ = some (.slice Bx m dx)) (first | exact ⟨a0, a1, s0, s1, s2, d0, d1⟩ | exact ⟨a0p, a1p, s0p, s1p, s2p, d0p, d1p⟩ | exact ⟨a0q, a1q, s0q, s1q, s2q, d0q, d1q⟩) (first
      | (go_at_call 28; refine (toSun_any xs ys zs _).mono ?_; rintro e wp ⟨rfl, xp⟩; have a0p := xp.cell a0; have a1p := xp.cell a1; have s0p := xp.cell s0; have s1p := xp.cell s1; have s2p := xp.cell s2; have d0p := xp.cell d0; have d1p := xp.cell d1; have mxp := (mx.ext (Ext.refl _).drew).ext xp; have nxp := (nx.ext (Ext.refl _).drew).ext xp; have Xp := X.drew.trans xp)
      | (go_at_call 29; refine (impl_SpotArea Ax n cx _ Bx m dx _ ix jx kx lx f u xs ys zs hf hu _ mxp.recs nxp.recs).mono ?_; rintro e wq ⟨rfl, xq⟩; have a0q := xq.cell a0p; have a1q := xq.cell a1p; have s0q := xq.cell s0p; have s1q := xq.cell s1p; have s2q := xq.cell s2p; have d0q := xq.cell d0p; have d1q := xq.cell d1p; have mxq := mxp.ext xq; have nxq := nxp.ext xq; have Xq := Xp.trans xq; rw [hsv]))
    replace X := Xq
    replace a0 := a0q
    replace a1 := a1q
    replace s0 := s0q
    replace s1 := s1q
    replace s2 := s2q
    replace d0 := d0q
    replace d1 := d1q
    replace mx := mxq
    replace nx := nxq
    clear a0p a1p s0p s1p s2p d0p d1p mxp nxp Xp xp
    clear a0q a1q s0q s1q s2q d0q d1q mxq nxq Xq xq
    go_wp2_with fail
    go_region_held3 (fun w' => w'.cell? ⟨w.heap.size, 0, none⟩ = some (.slice A n c) ∧ w'.cell? ⟨w.heap.size, 1, none⟩ = some (.slice B m d) ∧ w'.cell? ⟨w.heap.size + 1, 0, none⟩ = some (.int .i64 xs) ∧ w'.cell? ⟨w.heap.size + 1, 1, none⟩ = some (.int .i64 ys) ∧ w'.cell? ⟨w.heap.size + 1, 2, none⟩ = some (.int .i64 zs) ∧ w'.cell? ⟨w1.heap.size, 0, none⟩ = some (.slice Ax n cx) ∧ w'.cell? ⟨w1.heap.size, 1, none⟩ = some (.slice Bx m dx)) (first | exact ⟨a0, a1, s0, s1, s2, d0, d1⟩ | exact ⟨a0p, a1p, s0p, s1p, s2p, d0p, d1p⟩ | exact ⟨a0q, a1q, s0q, s1q, s2q, d0q, d1q⟩) (first
      | (go_at_call 18; refine (toWindow_any A n c P B m d L (by omega) (by omega) _ (hr.ext X.drew) (hs.ext X.drew)).mono ?_; rintro e wp ⟨Ap, cp, Bp, dp, bp, rfl, ⟨ip, jp, kp, lp⟩, hp, op, mp, np, xp⟩; have a0p := xp.cell a0; have a1p := xp.cell a1; have s0p := xp.cell s0; have s1p := xp.cell s1; have s2p := xp.cell s2; have d0p := xp.cell d0; have d1p := xp.cell d1; have mxp := (mx.ext (Ext.refl _).drew).ext xp; have nxp := (nx.ext (Ext.refl _).drew).ext xp; have Xp := X.drew.trans xp)
      | (go_at_call 21; refine (eqWindow_yes Ax Bx Ap Bp n cx cp m dx dp _ _ _ _ (by omega) (by omega) _ mxp.recs nxp.recs mp.recs np.recs (fun _ _ _ _ => rfl) (fun _ _ _ _ => rfl)).mono ?_; rintro e wq ⟨rfl, xq⟩; have a0q := xq.cell a0p; have a1q := xq.cell a1p; have s0q := xq.cell s0p; have s1q := xq.cell s1p; have s2q := xq.cell s2p; have d0q := xq.cell d0p; have d1q := xq.cell d1p; have Xq := Xp.trans xq))
    go_wp2
    go_ret
    exact ⟨rfl, Xq⟩
theorem own : ownKnob Try.prog.godebug = none := by kernel_rfl
theorem laid : laidOutB Try.prog = true := fLaid
set_option maxRecDepth 100000 in
theorem lifted (os : Os) (started : os.Started) (H : Type) (enc : TypeId × Value → H) :
    ReturnsInHanded {} Try.checked os 6 .any (Rows.fnExactSpotAreaSpec.pre6 enc Try.prog Try.f6 Rows.fnExactSpotAreaRow.domain false) (Rows.fnExactSpotAreaSpec.post enc Try.prog Try.f6 false true false false) := by
  refine returnsInHanded_of_change (C := Try.checked) own started (by kernel_rfl) Try.func6
    (ChangeSpec.witness6 (enc := enc) (C := Try.checked) false ⟨#[], #[.agg #[.slice none 0 0, .slice none 0 0], .int .i64 0, .int .i64 0, .agg #[.int .i64 0, .int .i64 0, .int .i64 0]], []⟩ 8 (by kernel_rfl) (by kernel_rfl) (by kernel_rfl) (by kernel_rfl)) ?_
  intro W base args ds gs before hval0 hW hcnd _
  have hval : ∀ (j : Nat) t v, Try.f6.params[j]? = some t → args[j]? = some v → Value.okWide Try.prog W .any base t v := hval0
  have hW' := hW
  obtain ⟨p, q, hA0, hV, rfl, hfz, hnd⟩ := hW
  have hA : DataW.TrodAll enc Try.prog W 0 (fun _ => true) true Try.f6.params.toList args.toList ds p := hA0
  rw [Try.params6] at hA hval
  obtain ⟨v0, vs0, d0, ds0, p0, q0, hargs, rfl, rfl, h0, r0⟩ := trodAll_cons hA
  obtain ⟨v1, vs1, d1, ds1, p1, q1, rfl, rfl, rfl, h1, r1⟩ := trodAll_cons r0
  obtain ⟨v2, vs2, d2, ds2, p2, q2, rfl, rfl, rfl, h2, r2⟩ := trodAll_cons r1
  obtain ⟨v3, vs3, d3, ds3, p3, q3, rfl, rfl, rfl, h3, r3⟩ := trodAll_cons r2
  obtain ⟨rfl, rfl, rfl⟩ := trodAll_nil r3
  obtain rfl : args = #[v0, v1, v2, v3] := by cases args; simp_all
  obtain ⟨rfl, rfl⟩ := trodVars_none hV
  obtain ⟨A0, n0, c0, f0, B0, m0, e0, g0, rfl, i0, j0, k0, l0, o0, u0⟩ := openW Try.underlying25 (by kernel_rfl) (by kernel_rfl) Try.underlying22 Try.underlying87 (by kernel_rfl) (by kernel_rfl) (by kernel_rfl) (by decide) Try.underlying23 Try.underlying91 (by kernel_rfl) (by kernel_rfl) (by kernel_rfl) (by decide) (hval 0 25 v0 rfl rfl) h0
  obtain ⟨a1, rfl, rfl, rfl, w1⟩ := open_int Try.underlying3 (hval 1 3 v1 rfl rfl) h1
  obtain ⟨a2, rfl, rfl, rfl, w2⟩ := open_int Try.underlying3 (hval 2 3 v2 rfl rfl) h2
  obtain ⟨x3, y3, z3, rfl, i3, j3, k3⟩ := openN3 Try.underlying43 (by kernel_rfl) (by kernel_rfl) Try.underlying3 Try.underlying3 Try.underlying3 (hval 3 43 v3 rfl rfl) h3
  clear hA0 hval0
  refine (walk A0 n0 c0 f0 B0 m0 e0 g0 i0 j0 l0 o0 a1 (wf64 w1) a2 (wf64 w2) x3 y3 z3 i3 j3 k3 W k0 u0).mono fun e W' ⟨he, hg⟩ => ?_
  subst he
  exact ⟨_, rfl, post_law (tb := 4) laid (by kernel_rfl) (by kernel_rfl) Try.underlying4 hW' rfl rfl rfl rfl hg⟩
set_option maxHeartbeats 4000000 in
set_option maxRecDepth 100000 in
theorem facts : joinedFacts Try.checked.prog 6 Try.f6 Rows.fnExactSpotAreaSpec Rows.fnExactSpotAreaRow = true := by
  unfold joinedFacts
  repeat' (with_reducible refine and_intro ?_ ?_)
  all_goals first | with_reducible exact fMayEnter | (with_reducible refine fLifted _ ?_; rfl) | (with_reducible refine fMake _ ?_; rfl) | (with_reducible exact fLaid) | (as_aux_lemma => kernel_rfl)
theorem over : Rows.fnExactSpotAreaRow.holds Try.pinned (OpenSpec.ofChange Rows.fnExactSpotAreaSpec) :=
  OpenClaim.holds_of_wide 6 Try.f6 rfl rfl rfl rfl rfl rfl rfl ⟨rfl, rfl, rfl, rfl, rfl⟩ rfl rfl rfl rfl rfl (by kernel_rfl) Try.func6 facts
    (of_decide_eq_true (by kernel_rfl)) (by unfold Func.isWrapper; first | (rw [if_pos (by decide +kernel)]; kernel_rfl) | (rw [if_neg (by decide +kernel)]; exact ⟨rfl, rfl⟩))
    (fun os started H enc _ => lifted os started H enc)
theorem proved : Rows.FnExactSpotAreaSaid :=
  over
#print axioms proved
end Go.Proofs.Ytbbbgegmkmmjkaa.fnExactSpotArea
