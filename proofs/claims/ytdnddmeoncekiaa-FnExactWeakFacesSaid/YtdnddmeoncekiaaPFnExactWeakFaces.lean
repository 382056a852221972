/-
  The law FnExactWeakFaces of the given program holds: for every input the Go function returns true and each argument reads afterwards as it read before. No conditions.
-/
import Derived.Test.YtdnddmeoncekiaaRows
import Derived.Test.YtdnddmeoncekiaaFacts
import Derived.Test.YtdnddmeoncekiaaWeakI
import Derived.Test.YtdnddmeoncekiaaWeakS
import Derived.Test.YtdnddmeoncekiaaToWM
namespace Go.Proofs.Ytdnddmeoncekiaa.fnExactWeakFaces
open Go.ChangeShapes Go.WideShapes Go.ChangeAt Go.RowKit
set_option linter.unusedVariables false
set_option maxHeartbeats 8000000 in
theorem walk (A : Option Addr) (n c : Nat) (P : Nat → Nat → Int) (B : Option Addr) (m d : Nat) (L : Nat → Nat → Int) (hnc : n ≤ c) (hcm : c ≤ 9223372036854775807) (hmd : m ≤ d) (hdm : d ≤ 9223372036854775807) (pr : Int) (hpr : (-9223372036854775808 ≤ pr ∧ pr ≤ 9223372036854775807)) (th : Int) (hth : (-9223372036854775808 ≤ th ∧ th ≤ 9223372036854775807)) (w : World) (hr : Recs w 2 A n P) (hs : Recs w 2 B m L) :
    Calls Try.prog 5 #[.agg #[.slice A n c, .slice B m d], .int .i64 pr, .int .i64 th] w fun e w' => e = .returned (.bool true) ∧ Ext w w' := by
  by_cases hbig : 1048576 < n + m
  · go_enter Try.func5, Try.ntmps5
    go_wp2_with fail
    refine (szWindow_big A B n c m d (by omega) (by omega) hbig _).mono ?_
    rintro e w1 ⟨rfl, x1⟩
    go_wp2
    go_ret
    exact ⟨rfl, ((Ext.refl w).alloc _).trans x1⟩
  · go_enter Try.func5, Try.ntmps5
    go_wp2_with fail
    refine (szWindow_ok A B n c m d (by omega) _).mono ?_
    rintro e w0 ⟨⟨z, hz, rfl⟩, x0⟩
    have hz' : ¬ z < 0 := by omega
    have X := ((Ext.refl w).alloc (.cells #[.slice A n c, .slice B m d] 25)).trans x0
    have a0 := x0.cell (a := ⟨w.heap.size, 0, none⟩) (u := .slice A n c) (by simp [go_sem])
    have a1 := x0.cell (a := ⟨w.heap.size, 1, none⟩) (u := .slice B m d) (by simp [go_sem])
    have hlen : (weakV n (fun k j => ix (flat 2 n P) (k * 2 + j)) m (fun k j => ix (flat 2 m L) (k * 2 + j)) pr th).length ≤ 1048576 := Nat.le_trans (weakV_len _ _) (by omega)
    go_wp2_with fail
    refine (toWindow_any A n c P B m d L (by omega) (by omega) _ (hr.ext X) (hs.ext X)).mono ?_
    rintro e w1 ⟨Aa, ca, Ba, da, ba, rfl, ⟨ia, ja, ka, la⟩, ha, oa, ma, na, x1⟩
    replace a0 := x1.cell a0
    replace a1 := x1.cell a1
    replace X := X.trans x1
    go_wp2_with fail
    have bu := X.size
    have zu := World.block_lt_of_cell? _ _ a0
    have oan_u := ma.old
    have oal_u := na.old
    refine (spec_WeakFaces Aa n ca _ Ba m da _ ia ja ka la pr th hpr hth _ ma.recs na.recs).mono ?_
    rintro e w2 ⟨Au, cu, rfl, iu, ju, mu, x2⟩
    replace ma := ma.ext x2
    replace na := na.ext x2
    replace a0 := x2.cell a0
    replace a1 := x2.cell a1
    replace X := X.trans x2
    clear ma na
    go_wp2_with fail
    have b9x := X.size
    have z9x := World.block_lt_of_cell? _ _ a0
    have ou_x := mu.old
    refine (toWindow_any A n c P B m d L (by omega) (by omega) _ (hr.ext X) (hs.ext X)).mono ?_
    rintro e w3 ⟨Ax, cx, Bx, dx, bx, rfl, ⟨ix, jx, kx, lx⟩, hx, ox, mx, nx, x3⟩
    replace mu := mu.ext x3
    replace a0 := x3.cell a0
    replace a1 := x3.cell a1
    replace X := X.trans x3
    go_wp2_with fail
    have x4 := (Ext.refl w3).alloc (.cells #[.slice Ax n cx, .slice Bx m dx] 31)
    have d0 : (w3.alloc (.cells #[.slice Ax n cx, .slice Bx m dx] 31)).cell? ⟨w3.heap.size, 0, none⟩ = some (.slice Ax n cx) := by simp [go_sem]
    have d1 : (w3.alloc (.cells #[.slice Ax n cx, .slice Bx m dx] 31)).cell? ⟨w3.heap.size, 1, none⟩ = some (.slice Bx m dx) := by simp [go_sem]
    replace mu := mu.ext x4
    replace mx := mx.ext x4
    replace nx := nx.ext x4
    replace a0 := x4.cell a0
    replace a1 := x4.cell a1
    replace X := X.trans x4
    go_wp2_with fail
    have bg := X.size
    have zg := World.block_lt_of_cell? _ _ a0
    have ou_g := mu.old
    have oxn_g := mx.old
    have oxl_g := nx.old
    refine (impl_WeakFaces Ax n cx _ Bx m dx _ ix jx kx lx pr th hpr hth _ mx.recs nx.recs).mono ?_
    rintro e w5 ⟨Ag, cg, rfl, ig, jg, mg, x5⟩
    replace mu := mu.ext x5
    replace mx := mx.ext x5
    replace nx := nx.ext x5
    replace a0 := x5.cell a0
    replace a1 := x5.cell a1
    replace d0 := x5.cell d0
    replace d1 := x5.cell d1
    replace X := X.trans x5
    go_wp2_with fail
    refine (eqIntS_yes Ag Au _ cg cu _ _ (by omega) _ mg.recs mu.recs (fun _ _ => rfl)).mono ?_
    rintro e w6 ⟨rfl, x6⟩
    replace mu := mu.ext x6
    replace mg := mg.ext x6
    replace mx := mx.ext x6
    replace nx := nx.ext x6
    replace a0 := x6.cell a0
    replace a1 := x6.cell a1
    replace d0 := x6.cell d0
    replace d1 := x6.cell d1
    replace X := X.trans x6
    go_wp2_with fail
    go_region_held3 (fun w' => w'.cell? ⟨w.heap.size, 0, none⟩ = some (.slice A n c) ∧ w'.cell? ⟨w.heap.size, 1, none⟩ = some (.slice B m d) ∧ w'.cell? ⟨w3.heap.size, 0, none⟩ = some (.slice Ax n cx) ∧ w'.cell? ⟨w3.heap.size, 1, none⟩ = some (.slice Bx m dx)) (first | exact ⟨a0, a1, d0, d1⟩ | exact ⟨a0p, a1p, d0p, d1p⟩ | exact ⟨a0q, a1q, d0q, d1q⟩) (first
      | (go_at_call 10; refine (toWindow_any A n c P B m d L (by omega) (by omega) _ (hr.ext X.drew) (hs.ext X.drew)).mono ?_; rintro e wp ⟨Ap, cp, Bp, dp, bp, rfl, ⟨ip, jp, kp, lp⟩, hp, op, mp, np, xp⟩; have a0p := xp.cell a0; have a1p := xp.cell a1; have d0p := xp.cell d0; have d1p := xp.cell d1; have mxp := (mx.ext (Ext.refl _).drew).ext xp; have nxp := (nx.ext (Ext.refl _).drew).ext xp; have mup := (mu.ext (Ext.refl _).drew).ext xp; have mgp := (mg.ext (Ext.refl _).drew).ext xp; have Xp := X.drew.trans xp)
      | (go_at_call 12; refine (eqWindow_yes Ax Bx Ap Bp n cx cp m dx dp _ _ _ _ (by omega) (by omega) _ mxp.recs nxp.recs mp.recs np.recs (fun _ _ _ _ => rfl) (fun _ _ _ _ => rfl)).mono ?_; rintro e wq ⟨rfl, xq⟩; have a0q := xq.cell a0p; have a1q := xq.cell a1p; have d0q := xq.cell d0p; have d1q := xq.cell d1p; have muq := mup.ext xq; have mgq := mgp.ext xq; have Xq := Xp.trans xq))
    clear X
    have X := Xq
    replace mu := muq
    replace mg := mgq
    replace a0 := a0q
    replace a1 := a1q
    replace d0 := d0q
    replace d1 := d1q
    replace mx := mxp.ext xq
    replace nx := nxp.ext xq
    go_wp2_with fail
    refine (markWindow_any _ _ Ax Bx n cx m dx _ _ (by omega) (by omega) hx _ mx nx ox).mono ?_
    rintro e w7 ⟨rfl, hX7, hk7⟩
    have hz7 : ¬ (1 : Int) + n + n + m + m < 0 := by omega
    have lt7 := World.block_lt_of_cell? _ _ a0
    replace a0 := (cell_of_heap (hk7 _ (mx.lt' z9x) (nx.lt' (Nat.lt_of_lt_of_le z9x hx)) lt7)).trans a0
    replace a1 := (cell_of_heap (hk7 _ (mx.lt' z9x) (nx.lt' (Nat.lt_of_lt_of_le z9x hx)) lt7)).trans a1
    replace mu := mu.marked hk7 (MineS.apart mx (Nat.le_refl _) ou_x) (MineS.apart nx hx ou_x)
    replace mg := mg.marked hk7 (apart_new mg (Nat.le_refl _) oxn_g) (apart_new mg (Nat.le_refl _) oxl_g)
    replace X := hX7 _ X b9x
    clear mx nx hX7 hk7
    go_wp2_with fail
    refine (eqIntS_yes Ag Au _ cg cu _ _ (by omega) _ mg.recs mu.recs (fun _ _ => rfl)).mono ?_
    rintro e w8 ⟨rfl, x8⟩
    replace mu := mu.ext x8
    replace mg := mg.ext x8
    replace a0 := x8.cell a0
    replace a1 := x8.cell a1
    replace X := X.trans x8
    go_wp2_with fail
    refine (markIntS_any _ Ag _ cg _ 1 (by omega) (by omega) _ mg).mono ?_
    rintro e w9 ⟨rfl, ng, g9⟩
    replace a0 := (cell_of_heap (g9.block w.heap.size (World.block_lt_of_cell? _ _ a0) (fun q => by have := mg.lt w.heap.size q.symm; omega))).trans a0
    replace a1 := (cell_of_heap (g9.block w.heap.size (World.block_lt_of_cell? _ _ a1) (fun q => by have := mg.lt w.heap.size q.symm; omega))).trans a1
    replace mu := mu.kept g9 (apart_old mg (Nat.le_refl _) ou_g)
    replace X := mg.ext_of X bg g9
    replace mg := ng
    go_wp2_with fail
    refine (heldIntS_yes Ag _ cg _ 1 (by omega) (by omega) _ mg.recs (fun j hj => tab_ix hj)).mono ?_
    rintro e w10 ⟨rfl, x10⟩
    replace mu := mu.ext x10
    replace mg := mg.ext x10
    replace a0 := x10.cell a0
    replace a1 := x10.cell a1
    replace X := X.trans x10
    go_wp2_with fail
    refine (toWindow_any A n c P B m d L (by omega) (by omega) _ (hr.ext X) (hs.ext X)).mono ?_
    rintro e w11 ⟨As, cs, Bs, ds, bs, rfl, ⟨is, js, ks, ls⟩, hs, os, ms, ns, x11⟩
    replace mu := mu.ext x11
    replace mg := mg.ext x11
    replace a0 := x11.cell a0
    replace a1 := x11.cell a1
    replace X := X.trans x11
    go_wp2_with fail
    have bh := X.size
    have zh := World.block_lt_of_cell? _ _ a0
    have ou_h := mu.old
    have og_h := mg.old
    have osn_h := ms.old
    have osl_h := ns.old
    refine (impl_WeakFaces As n cs _ Bs m ds _ is js ks ls pr th hpr hth _ ms.recs ns.recs).mono ?_
    rintro e w12 ⟨Ah, ch, rfl, ih, jh, mh, x12⟩
    replace mu := mu.ext x12
    replace mg := mg.ext x12
    replace ms := ms.ext x12
    replace ns := ns.ext x12
    replace a0 := x12.cell a0
    replace a1 := x12.cell a1
    replace X := X.trans x12
    clear ms ns
    go_wp2_with fail
    refine (eqIntS_yes Ah Au _ ch cu _ _ (by omega) _ mh.recs mu.recs (fun _ _ => rfl)).mono ?_
    rintro e w13 ⟨rfl, x13⟩
    replace mu := mu.ext x13
    replace mg := mg.ext x13
    replace mh := mh.ext x13
    replace a0 := x13.cell a0
    replace a1 := x13.cell a1
    replace X := X.trans x13
    go_wp2_with fail
    refine (heldIntS_yes Ag _ cg _ 1 (by omega) (by omega) _ mg.recs (fun j hj => tab_ix hj)).mono ?_
    rintro e w14 ⟨rfl, x14⟩
    replace mu := mu.ext x14
    replace mg := mg.ext x14
    replace mh := mh.ext x14
    replace a0 := x14.cell a0
    replace a1 := x14.cell a1
    replace X := X.trans x14
    go_wp2
    go_ret
    exact ⟨rfl, X⟩
theorem own : ownKnob Try.prog.godebug = none := by kernel_rfl
theorem laid : laidOutB Try.prog = true := fLaid
set_option maxRecDepth 100000 in
theorem lifted (os : Os) (started : os.Started) (H : Type) (enc : TypeId × Value → H) :
    ReturnsInHanded {} Try.checked os 5 .any (Rows.fnExactWeakFacesSpec.pre6 enc Try.prog Try.f5 Rows.fnExactWeakFacesRow.domain false) (Rows.fnExactWeakFacesSpec.post enc Try.prog Try.f5 false true false false) := by
  refine returnsInHanded_of_change (C := Try.checked) own started (by kernel_rfl) Try.func5
    (ChangeSpec.witness6 (enc := enc) (C := Try.checked) false ⟨#[], #[.agg #[.slice none 0 0, .slice none 0 0], .int .i64 0, .int .i64 0], []⟩ 8 (by kernel_rfl) (by kernel_rfl) (by kernel_rfl) (by kernel_rfl)) ?_
  intro W base args ds gs before hval0 hW hcnd _
  have hval : ∀ (j : Nat) t v, Try.f5.params[j]? = some t → args[j]? = some v → Value.okWide Try.prog W .any base t v := hval0
  have hW' := hW
  obtain ⟨p, q, hA0, hV, rfl, hfz, hnd⟩ := hW
  have hA : DataW.TrodAll enc Try.prog W 0 (fun _ => true) true Try.f5.params.toList args.toList ds p := hA0
  rw [Try.params5] at hA hval
  obtain ⟨v0, vs0, d0, ds0, p0, q0, hargs, rfl, rfl, h0, r0⟩ := trodAll_cons hA
  obtain ⟨v1, vs1, d1, ds1, p1, q1, rfl, rfl, rfl, h1, r1⟩ := trodAll_cons r0
  obtain ⟨v2, vs2, d2, ds2, p2, q2, rfl, rfl, rfl, h2, r2⟩ := trodAll_cons r1
  obtain ⟨rfl, rfl, rfl⟩ := trodAll_nil r2
  obtain rfl : args = #[v0, v1, v2] := by cases args; simp_all
  obtain ⟨rfl, rfl⟩ := trodVars_none hV
  obtain ⟨A0, n0, c0, f0, B0, m0, e0, g0, rfl, i0, j0, k0, l0, o0, u0⟩ := openW Try.underlying25 (by kernel_rfl) (by kernel_rfl) Try.underlying22 Try.underlying68 (by kernel_rfl) (by kernel_rfl) (by kernel_rfl) (by decide) Try.underlying23 Try.underlying72 (by kernel_rfl) (by kernel_rfl) (by kernel_rfl) (by decide) (hval 0 25 v0 rfl rfl) h0
  obtain ⟨a1, rfl, rfl, rfl, w1⟩ := open_int Try.underlying3 (hval 1 3 v1 rfl rfl) h1
  obtain ⟨a2, rfl, rfl, rfl, w2⟩ := open_int Try.underlying3 (hval 2 3 v2 rfl rfl) h2
  clear hA0 hval0
  refine (walk A0 n0 c0 f0 B0 m0 e0 g0 i0 j0 l0 o0 a1 (wf64 w1) a2 (wf64 w2) W k0 u0).mono fun e W' ⟨he, hg⟩ => ?_
  subst he
  exact ⟨_, rfl, post_law (tb := 4) laid (by kernel_rfl) (by kernel_rfl) Try.underlying4 hW' rfl rfl rfl rfl hg⟩
set_option maxHeartbeats 4000000 in
set_option maxRecDepth 100000 in
theorem facts : joinedFacts Try.checked.prog 5 Try.f5 Rows.fnExactWeakFacesSpec Rows.fnExactWeakFacesRow = true := by
  unfold joinedFacts
  repeat' (with_reducible refine and_intro ?_ ?_)
  all_goals first | with_reducible exact fMayEnter | (with_reducible refine fLifted _ ?_; rfl) | (with_reducible refine fMake _ ?_; rfl) | (with_reducible exact fLaid) | (as_aux_lemma => kernel_rfl)
theorem over : Rows.fnExactWeakFacesRow.holds Try.pinned (OpenSpec.ofChange Rows.fnExactWeakFacesSpec) :=
  OpenClaim.holds_of_wide 5 Try.f5 rfl rfl rfl rfl rfl rfl rfl ⟨rfl, rfl, rfl, rfl, rfl⟩ rfl rfl rfl rfl rfl (by kernel_rfl) Try.func5 facts
    (of_decide_eq_true (by kernel_rfl)) (by unfold Func.isWrapper; first | (rw [if_pos (by decide +kernel)]; kernel_rfl) | (rw [if_neg (by decide +kernel)]; exact ⟨rfl, rfl⟩))
    (fun os started H enc _ => lifted os started H enc)
theorem proved : Rows.FnExactWeakFacesSaid :=
  over
#print axioms proved
end Go.Proofs.Ytdnddmeoncekiaa.fnExactWeakFaces
