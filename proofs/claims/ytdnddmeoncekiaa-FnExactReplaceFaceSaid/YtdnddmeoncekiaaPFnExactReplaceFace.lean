/-
  The law FnExactReplaceFace of the given program holds: for every input the Go function returns true and each argument reads afterwards as it read before. No conditions.
-/
import Derived.Test.YtdnddmeoncekiaaRows
import Derived.Test.YtdnddmeoncekiaaFacts
import Derived.Test.YtdnddmeoncekiaaRepI
import Derived.Test.YtdnddmeoncekiaaRepS
import Derived.Test.YtdnddmeoncekiaaToWM
namespace Go.Proofs.Ytdnddmeoncekiaa.fnExactReplaceFace
open Go.ChangeShapes Go.WideShapes Go.ChangeAt Go.RowKit
set_option linter.unusedVariables false
set_option maxHeartbeats 8000000 in
theorem walk (A : Option Addr) (n c : Nat) (P : Nat → Nat → Int) (B : Option Addr) (m d : Nat) (L : Nat → Nat → Int) (hnc : n ≤ c) (hcm : c ≤ 9223372036854775807) (hmd : m ≤ d) (hdm : d ≤ 9223372036854775807) (Ah : Option Addr) (nh ch : Nat) (fh : Nat → Nat → Int) (ih : nh ≤ ch) (jh : ch ≤ 9223372036854775807) (f : Int) (hf : (-9223372036854775808 ≤ f ∧ f ≤ 9223372036854775807)) (yr : Int) (hyr : (-9223372036854775808 ≤ yr ∧ yr ≤ 9223372036854775807)) (pc : Int) (hpc : (-9223372036854775808 ≤ pc ∧ pc ≤ 9223372036854775807)) (w : World) (hr : Recs w 2 A n P) (hs : Recs w 2 B m L) (rh : Recs w 1 Ah nh fh) :
    Calls Try.prog 7 #[.agg #[.slice A n c, .slice B m d], .slice Ah nh ch, .int .i64 f, .int .i64 yr, .int .i64 pc] w fun e w' => e = .returned (.bool true) ∧ Ext w w' := by
  by_cases hbigh : 1048576 < nh
  · go_enter Try.func7, Try.ntmps7
    go_wp2
    go_ret
    exact ⟨rfl, by repeat (first | exact Ext.refl _ | apply Ext.wgr | apply Ext.drew | apply Ext.drewN | apply Ext.alloc)⟩
  by_cases hbig : 1048576 < n + m
  · go_enter Try.func7, Try.ntmps7
    go_wp2_with fail
    refine (szWindow_big A B n c m d (by omega) (by omega) hbig _).mono ?_
    rintro e w1 ⟨rfl, x1⟩
    go_wp2
    go_ret
    exact ⟨rfl, ((Ext.refl w).alloc _).trans x1⟩
  · go_enter Try.func7, Try.ntmps7
    go_wp2_with fail
    refine (szWindow_ok A B n c m d (by omega) _).mono ?_
    rintro e w0 ⟨⟨z, hz, rfl⟩, x0⟩
    have hz' : ¬ z < 0 := by omega
    have X := ((Ext.refl w).alloc (.cells #[.slice A n c, .slice B m d] 25)).trans x0
    have a0 := x0.cell (a := ⟨w.heap.size, 0, none⟩) (u := .slice A n c) (by simp [go_sem])
    have a1 := x0.cell (a := ⟨w.heap.size, 1, none⟩) (u := .slice B m d) (by simp [go_sem])
    have hlen : nh ≤ 1048576 := by omega
    go_wp2_with fail
    refine (toWindow_any A n c P B m d L (by omega) (by omega) _ (hr.ext X) (hs.ext X)).mono ?_
    rintro e w1 ⟨Aa, ca, Ba, da, ba, rfl, ⟨ia, ja, ka, la⟩, ha, oa, ma, na, x1⟩
    replace a0 := x1.cell a0
    replace a1 := x1.cell a1
    replace X := X.trans x1
    go_wp2_with fail
    have bsh := X.size
    have zsh := World.block_lt_of_cell? _ _ a0
    have oan_sh := ma.old
    have oal_sh := na.old
    refine (toIntS_any Ah nh ch fh (by omega) _ (rh.ext X)).mono ?_
    rintro e w2 ⟨Ash, csh, rfl, ish, jsh, msh, x2⟩
    replace ma := ma.ext x2
    replace na := na.ext x2
    replace a0 := x2.cell a0
    replace a1 := x2.cell a1
    replace X := X.trans x2
    go_wp2_with fail
    have bu := X.size
    have zu := World.block_lt_of_cell? _ _ a0
    have osh_u := msh.old
    have oan_u := ma.old
    have oal_u := na.old
    refine (spec_ReplaceFace Aa n ca _ Ba m da _ ia ja ka la Ash nh csh _ ish jsh f yr pc hf hyr hpc (none_cap msh) (by omega) _ ma.recs na.recs msh.recs).mono ?_
    rintro e w3 ⟨Au, cu, rfl, iu, ju, mu, x3⟩
    replace msh := msh.ext x3
    replace ma := ma.ext x3
    replace na := na.ext x3
    replace a0 := x3.cell a0
    replace a1 := x3.cell a1
    replace X := X.trans x3
    clear ma na
    clear msh
    go_wp2_with fail
    have b9x := X.size
    have z9x := World.block_lt_of_cell? _ _ a0
    have ou_x := mu.old
    refine (toWindow_any A n c P B m d L (by omega) (by omega) _ (hr.ext X) (hs.ext X)).mono ?_
    rintro e w4 ⟨Ax, cx, Bx, dx, bx, rfl, ⟨ix, jx, kx, lx⟩, hx, ox, mx, nx, x4⟩
    replace mu := mu.ext x4
    replace a0 := x4.cell a0
    replace a1 := x4.cell a1
    replace X := X.trans x4
    go_wp2_with fail
    have x5 := (Ext.refl w4).alloc (.cells #[.slice Ax n cx, .slice Bx m dx] 31)
    have d0 : (w4.alloc (.cells #[.slice Ax n cx, .slice Bx m dx] 31)).cell? ⟨w4.heap.size, 0, none⟩ = some (.slice Ax n cx) := by simp [go_sem]
    have d1 : (w4.alloc (.cells #[.slice Ax n cx, .slice Bx m dx] 31)).cell? ⟨w4.heap.size, 1, none⟩ = some (.slice Bx m dx) := by simp [go_sem]
    replace mu := mu.ext x5
    replace mx := mx.ext x5
    replace nx := nx.ext x5
    replace a0 := x5.cell a0
    replace a1 := x5.cell a1
    replace X := X.trans x5
    have bth := X.size
    have zth := World.block_lt_of_cell? _ _ a0
    have ou_th := mu.old
    have oxn_th := mx.old
    have oxl_th := nx.old
    refine (toIntS_any Ah nh ch fh (by omega) _ (rh.ext X)).mono ?_
    rintro e w6 ⟨Ath, cth, rfl, ith, jth, mth, x6⟩
    replace mu := mu.ext x6
    replace mx := mx.ext x6
    replace nx := nx.ext x6
    replace a0 := x6.cell a0
    replace a1 := x6.cell a1
    replace d0 := x6.cell d0
    replace d1 := x6.cell d1
    replace X := X.trans x6
    go_wp2_with fail
    have bg := X.size
    have zg := World.block_lt_of_cell? _ _ a0
    have ou_g := mu.old
    have oth_g := mth.old
    have oxn_g := mx.old
    have oxl_g := nx.old
    refine (impl_ReplaceFace Ax n cx _ Bx m dx _ ix jx kx lx Ath nh cth _ ith jth f yr pc hf hyr hpc (none_cap mth) (by omega) _ mx.recs nx.recs mth.recs).mono ?_
    rintro e w7 ⟨Ag, cg, rfl, ig, jg, mg, x7⟩
    replace mu := mu.ext x7
    replace mth := mth.ext x7
    replace mx := mx.ext x7
    replace nx := nx.ext x7
    replace a0 := x7.cell a0
    replace a1 := x7.cell a1
    replace d0 := x7.cell d0
    replace d1 := x7.cell d1
    replace X := X.trans x7
    go_wp2_with fail
    refine (eqIntS_yes Ag Au _ cg cu _ _ (by omega) _ mg.recs mu.recs (fun _ _ => rfl)).mono ?_
    rintro e w8 ⟨rfl, x8⟩
    replace mu := mu.ext x8
    replace mth := mth.ext x8
    replace mg := mg.ext x8
    replace mx := mx.ext x8
    replace nx := nx.ext x8
    replace a0 := x8.cell a0
    replace a1 := x8.cell a1
    replace d0 := x8.cell d0
    replace d1 := x8.cell d1
    replace X := X.trans x8
    go_wp2_with fail
    go_region_held3 (fun w' => w'.cell? ⟨w.heap.size, 0, none⟩ = some (.slice A n c) ∧ w'.cell? ⟨w.heap.size, 1, none⟩ = some (.slice B m d) ∧ w'.cell? ⟨w4.heap.size, 0, none⟩ = some (.slice Ax n cx) ∧ w'.cell? ⟨w4.heap.size, 1, none⟩ = some (.slice Bx m dx)) (first | exact ⟨a0, a1, d0, d1⟩ | exact ⟨a0p, a1p, d0p, d1p⟩ | exact ⟨a0q, a1q, d0q, d1q⟩) (first
      | (go_at_call 10; refine (toWindow_any A n c P B m d L (by omega) (by omega) _ (hr.ext X.drew) (hs.ext X.drew)).mono ?_; rintro e wp ⟨Ap, cp, Bp, dp, bp, rfl, ⟨ip, jp, kp, lp⟩, hp, op, mp, np, xp⟩; have a0p := xp.cell a0; have a1p := xp.cell a1; have d0p := xp.cell d0; have d1p := xp.cell d1; have mxp := (mx.ext (Ext.refl _).drew).ext xp; have nxp := (nx.ext (Ext.refl _).drew).ext xp; have mup := (mu.ext (Ext.refl _).drew).ext xp; have mthp := (mth.ext (Ext.refl _).drew).ext xp; have mgp := (mg.ext (Ext.refl _).drew).ext xp; have Xp := X.drew.trans xp)
      | (go_at_call 12; refine (eqWindow_yes Ax Bx Ap Bp n cx cp m dx dp _ _ _ _ (by omega) (by omega) _ mxp.recs nxp.recs mp.recs np.recs (fun _ _ _ _ => rfl) (fun _ _ _ _ => rfl)).mono ?_; rintro e wq ⟨rfl, xq⟩; have a0q := xq.cell a0p; have a1q := xq.cell a1p; have d0q := xq.cell d0p; have d1q := xq.cell d1p; have muq := mup.ext xq; have mthq := mthp.ext xq; have mgq := mgp.ext xq; have Xq := Xp.trans xq))
    clear X
    have X := Xq
    replace mu := muq
    replace mth := mthq
    replace mg := mgq
    replace a0 := a0q
    replace a1 := a1q
    replace d0 := d0q
    replace d1 := d1q
    replace mx := mxp.ext xq
    replace nx := nxp.ext xq
    go_wp2_with fail
    have bvh := X.size
    have zvh := World.block_lt_of_cell? _ _ a0
    have ou_vh := mu.old
    have oth_vh := mth.old
    have og_vh := mg.old
    have oxn_vh := mx.old
    have oxl_vh := nx.old
    refine (toIntS_any Ah nh ch fh (by omega) _ (rh.ext X)).mono ?_
    rintro e w9 ⟨Avh, cvh, rfl, ivh, jvh, mvh, x9⟩
    replace mu := mu.ext x9
    replace mth := mth.ext x9
    replace mg := mg.ext x9
    replace mx := mx.ext x9
    replace nx := nx.ext x9
    replace a0 := x9.cell a0
    replace a1 := x9.cell a1
    replace d0 := x9.cell d0
    replace d1 := x9.cell d1
    replace X := X.trans x9
    go_wp2_with fail
    refine (eqIntS_yes Ath Avh nh cth cvh _ _ (by omega) _ mth.recs mvh.recs (fun _ _ => rfl)).mono ?_
    rintro e w10 ⟨rfl, x10⟩
    replace mu := mu.ext x10
    replace mth := mth.ext x10
    replace mg := mg.ext x10
    replace mvh := mvh.ext x10
    replace mx := mx.ext x10
    replace nx := nx.ext x10
    replace a0 := x10.cell a0
    replace a1 := x10.cell a1
    replace d0 := x10.cell d0
    replace d1 := x10.cell d1
    replace X := X.trans x10
    clear mvh
    go_wp2_with fail
    refine (markWindow_any _ _ Ax Bx n cx m dx _ _ (by omega) (by omega) hx _ mx nx ox).mono ?_
    rintro e w11 ⟨rfl, hX11, hk11⟩
    have hz11 : ¬ (1 : Int) + n + n + m + m < 0 := by omega
    have lt11 := World.block_lt_of_cell? _ _ a0
    replace a0 := (cell_of_heap (hk11 _ (mx.lt' z9x) (nx.lt' (Nat.lt_of_lt_of_le z9x hx)) lt11)).trans a0
    replace a1 := (cell_of_heap (hk11 _ (mx.lt' z9x) (nx.lt' (Nat.lt_of_lt_of_le z9x hx)) lt11)).trans a1
    replace mu := mu.marked hk11 (MineS.apart mx (Nat.le_refl _) ou_x) (MineS.apart nx hx ou_x)
    replace mth := mth.marked hk11 (apart_new mth (Nat.le_refl _) oxn_th) (apart_new mth (Nat.le_refl _) oxl_th)
    replace mg := mg.marked hk11 (apart_new mg (Nat.le_refl _) oxn_g) (apart_new mg (Nat.le_refl _) oxl_g)
    replace X := hX11 _ X b9x
    clear mx nx hX11 hk11
    go_wp2_with fail
    refine (markIntS_any _ Ath nh cth _ (1 + n + n + m + m) (by omega) (by omega) _ mth).mono ?_
    rintro e w12 ⟨rfl, nth, g12⟩
    replace a0 := (cell_of_heap (g12.block w.heap.size (World.block_lt_of_cell? _ _ a0) (fun q => by have := mth.lt w.heap.size q.symm; omega))).trans a0
    replace a1 := (cell_of_heap (g12.block w.heap.size (World.block_lt_of_cell? _ _ a1) (fun q => by have := mth.lt w.heap.size q.symm; omega))).trans a1
    replace mu := mu.kept g12 (apart_old mth (Nat.le_refl _) ou_th)
    replace mg := mg.kept g12 (apart_new mg (Nat.le_refl _) oth_g)
    replace X := mth.ext_of X bth g12
    replace mth := nth
    have hzzh : ¬ (1 : Int) + n + n + m + m + nh < 0 := by omega
    clear mth
    go_wp2_with fail
    refine (eqIntS_yes Ag Au _ cg cu _ _ (by omega) _ mg.recs mu.recs (fun _ _ => rfl)).mono ?_
    rintro e w13 ⟨rfl, x13⟩
    replace mu := mu.ext x13
    replace mg := mg.ext x13
    replace a0 := x13.cell a0
    replace a1 := x13.cell a1
    replace X := X.trans x13
    go_wp2_with fail
    refine (markIntS_any _ Ag _ cg _ 1 (by omega) (by omega) _ mg).mono ?_
    rintro e w14 ⟨rfl, ng, g14⟩
    replace a0 := (cell_of_heap (g14.block w.heap.size (World.block_lt_of_cell? _ _ a0) (fun q => by have := mg.lt w.heap.size q.symm; omega))).trans a0
    replace a1 := (cell_of_heap (g14.block w.heap.size (World.block_lt_of_cell? _ _ a1) (fun q => by have := mg.lt w.heap.size q.symm; omega))).trans a1
    replace mu := mu.kept g14 (apart_old mg (Nat.le_refl _) ou_g)
    replace X := mg.ext_of X bg g14
    replace mg := ng
    go_wp2_with fail
    refine (heldIntS_yes Ag _ cg _ 1 (by omega) (by omega) _ mg.recs (fun j hj => tab_ix hj)).mono ?_
    rintro e w15 ⟨rfl, x15⟩
    replace mu := mu.ext x15
    replace mg := mg.ext x15
    replace a0 := x15.cell a0
    replace a1 := x15.cell a1
    replace X := X.trans x15
    go_wp2_with fail
    refine (toWindow_any A n c P B m d L (by omega) (by omega) _ (hr.ext X) (hs.ext X)).mono ?_
    rintro e w16 ⟨As, cs, Bs, ds, bs, rfl, ⟨is, js, ks, ls⟩, hs, os, ms, ns, x16⟩
    replace mu := mu.ext x16
    replace mg := mg.ext x16
    replace a0 := x16.cell a0
    replace a1 := x16.cell a1
    replace X := X.trans x16
    go_wp2_with fail
    have bph := X.size
    have zph := World.block_lt_of_cell? _ _ a0
    have ou_ph := mu.old
    have og_ph := mg.old
    have osn_ph := ms.old
    have osl_ph := ns.old
    refine (toIntS_any Ah nh ch fh (by omega) _ (rh.ext X)).mono ?_
    rintro e w17 ⟨Aph, cph, rfl, iph, jph, mph, x17⟩
    replace mu := mu.ext x17
    replace mg := mg.ext x17
    replace ms := ms.ext x17
    replace ns := ns.ext x17
    replace a0 := x17.cell a0
    replace a1 := x17.cell a1
    replace X := X.trans x17
    go_wp2_with fail
    have bh := X.size
    have zh := World.block_lt_of_cell? _ _ a0
    have ou_h := mu.old
    have og_h := mg.old
    have oph_h := mph.old
    have osn_h := ms.old
    have osl_h := ns.old
    refine (impl_ReplaceFace As n cs _ Bs m ds _ is js ks ls Aph nh cph _ iph jph f yr pc hf hyr hpc (none_cap mph) (by omega) _ ms.recs ns.recs mph.recs).mono ?_
    rintro e w18 ⟨Ah, ch, rfl, ih, jh, mh, x18⟩
    replace mu := mu.ext x18
    replace mg := mg.ext x18
    replace mph := mph.ext x18
    replace ms := ms.ext x18
    replace ns := ns.ext x18
    replace a0 := x18.cell a0
    replace a1 := x18.cell a1
    replace X := X.trans x18
    clear ms ns
    clear mph
    go_wp2_with fail
    refine (eqIntS_yes Ah Au _ ch cu _ _ (by omega) _ mh.recs mu.recs (fun _ _ => rfl)).mono ?_
    rintro e w19 ⟨rfl, x19⟩
    replace mu := mu.ext x19
    replace mg := mg.ext x19
    replace mh := mh.ext x19
    replace a0 := x19.cell a0
    replace a1 := x19.cell a1
    replace X := X.trans x19
    go_wp2_with fail
    refine (heldIntS_yes Ag _ cg _ 1 (by omega) (by omega) _ mg.recs (fun j hj => tab_ix hj)).mono ?_
    rintro e w20 ⟨rfl, x20⟩
    replace mu := mu.ext x20
    replace mg := mg.ext x20
    replace mh := mh.ext x20
    replace a0 := x20.cell a0
    replace a1 := x20.cell a1
    replace X := X.trans x20
    go_wp2
    go_ret
    exact ⟨rfl, X⟩
theorem own : ownKnob Try.prog.godebug = none := by kernel_rfl
theorem laid : laidOutB Try.prog = true := fLaid
set_option maxRecDepth 100000 in
theorem lifted (os : Os) (started : os.Started) (H : Type) (enc : TypeId × Value → H) :
    ReturnsInHanded {} Try.checked os 7 .any (Rows.fnExactReplaceFaceSpec.pre6 enc Try.prog Try.f7 Rows.fnExactReplaceFaceRow.domain false) (Rows.fnExactReplaceFaceSpec.post enc Try.prog Try.f7 false true false false) := by
  refine returnsInHanded_of_change (C := Try.checked) own started (by kernel_rfl) Try.func7
    (ChangeSpec.witness6 (enc := enc) (C := Try.checked) false ⟨#[], #[.agg #[.slice none 0 0, .slice none 0 0], .slice none 0 0, .int .i64 0, .int .i64 0, .int .i64 0], []⟩ 8 (by kernel_rfl) (by kernel_rfl) (by kernel_rfl) (by kernel_rfl)) ?_
  intro W base args ds gs before hval0 hW hcnd _
  have hval : ∀ (j : Nat) t v, Try.f7.params[j]? = some t → args[j]? = some v → Value.okWide Try.prog W .any base t v := hval0
  have hW' := hW
  obtain ⟨p, q, hA0, hV, rfl, hfz, hnd⟩ := hW
  have hA : DataW.TrodAll enc Try.prog W 0 (fun _ => true) true Try.f7.params.toList args.toList ds p := hA0
  rw [Try.params7] at hA hval
  obtain ⟨v0, vs0, d0, ds0, p0, q0, hargs, rfl, rfl, h0, r0⟩ := trodAll_cons hA
  obtain ⟨v1, vs1, d1, ds1, p1, q1, rfl, rfl, rfl, h1, r1⟩ := trodAll_cons r0
  obtain ⟨v2, vs2, d2, ds2, p2, q2, rfl, rfl, rfl, h2, r2⟩ := trodAll_cons r1
  obtain ⟨v3, vs3, d3, ds3, p3, q3, rfl, rfl, rfl, h3, r3⟩ := trodAll_cons r2
  obtain ⟨v4, vs4, d4, ds4, p4, q4, rfl, rfl, rfl, h4, r4⟩ := trodAll_cons r3
  obtain ⟨rfl, rfl, rfl⟩ := trodAll_nil r4
  obtain rfl : args = #[v0, v1, v2, v3, v4] := by cases args; simp_all
  obtain ⟨rfl, rfl⟩ := trodVars_none hV
  obtain ⟨A0, n0, c0, f0, B0, m0, e0, g0, rfl, i0, j0, k0, l0, o0, u0⟩ := openW Try.underlying25 (by kernel_rfl) (by kernel_rfl) Try.underlying22 Try.underlying68 (by kernel_rfl) (by kernel_rfl) (by kernel_rfl) (by decide) Try.underlying23 Try.underlying72 (by kernel_rfl) (by kernel_rfl) (by kernel_rfl) (by decide) (hval 0 25 v0 rfl rfl) h0
  obtain ⟨A1, n1, c1, f1, rfl, i1, j1, k1⟩ := openI Try.underlying35 Try.underlying3 (by kernel_rfl) (hval 1 35 v1 rfl rfl) h1
  obtain ⟨a2, rfl, rfl, rfl, w2⟩ := open_int Try.underlying3 (hval 2 3 v2 rfl rfl) h2
  obtain ⟨a3, rfl, rfl, rfl, w3⟩ := open_int Try.underlying3 (hval 3 3 v3 rfl rfl) h3
  obtain ⟨a4, rfl, rfl, rfl, w4⟩ := open_int Try.underlying3 (hval 4 3 v4 rfl rfl) h4
  clear hA0 hval0
  refine (walk A0 n0 c0 f0 B0 m0 e0 g0 i0 j0 l0 o0 A1 n1 c1 f1 i1 j1 a2 (wf64 w2) a3 (wf64 w3) a4 (wf64 w4) W k0 u0 k1).mono fun e W' ⟨he, hg⟩ => ?_
  subst he
  exact ⟨_, rfl, post_law (tb := 4) laid (by kernel_rfl) (by kernel_rfl) Try.underlying4 hW' rfl rfl rfl rfl hg⟩
set_option maxHeartbeats 4000000 in
set_option maxRecDepth 100000 in
theorem facts : joinedFacts Try.checked.prog 7 Try.f7 Rows.fnExactReplaceFaceSpec Rows.fnExactReplaceFaceRow = true := by
  unfold joinedFacts
  repeat' (with_reducible refine and_intro ?_ ?_)
  all_goals first | with_reducible exact fMayEnter | (with_reducible refine fLifted _ ?_; rfl) | (with_reducible refine fMake _ ?_; rfl) | (with_reducible exact fLaid) | (as_aux_lemma => kernel_rfl)
theorem over : Rows.fnExactReplaceFaceRow.holds Try.pinned (OpenSpec.ofChange Rows.fnExactReplaceFaceSpec) :=
  OpenClaim.holds_of_wide 7 Try.f7 rfl rfl rfl rfl rfl rfl rfl ⟨rfl, rfl, rfl, rfl, rfl⟩ rfl rfl rfl rfl rfl (by kernel_rfl) Try.func7 facts
    (of_decide_eq_true (by kernel_rfl)) (by unfold Func.isWrapper; first | (rw [if_pos (by decide +kernel)]; kernel_rfl) | (rw [if_neg (by decide +kernel)]; exact ⟨rfl, rfl⟩))
    (fun os started H enc _ => lifted os started H enc)
theorem proved : Rows.FnExactReplaceFaceSaid :=
  over
#print axioms proved
end Go.Proofs.Ytdnddmeoncekiaa.fnExactReplaceFace
