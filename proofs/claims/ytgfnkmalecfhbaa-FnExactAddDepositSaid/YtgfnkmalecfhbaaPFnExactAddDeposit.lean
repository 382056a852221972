/-
  The law FnExactAddDeposit of the given program holds: for every input the Go function returns true and each argument reads afterwards as it read before. No conditions.
-/
import Derived.Test.YtgfnkmalecfhbaaRows
import Derived.Test.YtgfnkmalecfhbaaFacts
import Derived.Test.YtgfnkmalecfhbaaAddK
import Derived.Test.YtgfnkmalecfhbaaAddI
import Derived.Test.YtgfnkmalecfhbaaAddS
import Derived.Test.YtgfnkmalecfhbaaEqDepositS
import Derived.Test.YtgfnkmalecfhbaaToDeposit
namespace Go.Proofs.Ytgfnkmalecfhbaa.fnExactAddDeposit
open Go.ChangeShapes Go.WideShapes Go.ChangeAt Go.RowKit
set_option linter.unusedVariables false
theorem held_at {n j i : Nat} (hj : j < n) (hi : i < 3) : ix (tab (n * 3) fun k => (1 : Int) + k) (j * 3 + i) = 1 + (j : Int) * 3 + i := by
  rw [tab_ix (by omega)]
  omega
set_option maxHeartbeats 8000000 in
theorem walk (A : Option Addr) (n c : Nat) (f : Nat → Nat → Int) (hnc : n ≤ c) (hcm : c ≤ 9223372036854775807) (x y z : Int) (hx : (-9223372036854775808 ≤ x ∧ x ≤ 9223372036854775807)) (hy : (-9223372036854775808 ≤ y ∧ y ≤ 9223372036854775807)) (hz : (-9223372036854775808 ≤ z ∧ z ≤ 9223372036854775807)) (w : World) (hr : Recs w 3 A n f) :
    Calls Try.prog 3 #[.slice A n c, .agg #[.int .i64 x, .int .i64 y, .int .i64 z]] w fun e w' => e = .returned (.bool true) ∧ Ext w w' := by
  by_cases hbig : 1048576 < n
  · go_enter Try.func3, Try.ntmps3
    go_wp2_with fail
    refine (szDepositS_any A n c 1048576 (by omega) (by omega) _).mono ?_
    rintro e w1 ⟨rfl, x1⟩
    rw [if_pos (by omega)]
    go_wp2
    go_ret
    exact ⟨rfl, ((Ext.refl w).alloc _).trans x1⟩
  · have hN : (addN n (fun k j => ix (flat 3 n f) (k * 3 + j)) x y z) ≤ n + 1 := addN_le
    go_enter Try.func3, Try.ntmps3
    go_wp2_with fail
    refine (szDepositS_any A n c 1048576 (by omega) (by omega) _).mono ?_
    rintro e w0 ⟨rfl, x0⟩
    rw [if_neg (by omega)]
    have X := ((Ext.refl w).alloc (.cells #[.int .i64 x, .int .i64 y, .int .i64 z] 24)).trans x0
    have s0 := x0.cell (a := ⟨w.heap.size, 0, none⟩) (u := .int .i64 x) (by simp [go_sem])
    have s1 := x0.cell (a := ⟨w.heap.size, 1, none⟩) (u := .int .i64 y) (by simp [go_sem])
    have s2 := x0.cell (a := ⟨w.heap.size, 2, none⟩) (u := .int .i64 z) (by simp [go_sem])
    have hz0 : ¬ (1048576 : Int) - n < 0 := by omega
    go_wp2_with fail
    go_region_held3 (fun w' => w'.cell? ⟨w.heap.size, 0, none⟩ = some (.int .i64 x) ∧ w'.cell? ⟨w.heap.size, 1, none⟩ = some (.int .i64 y) ∧ w'.cell? ⟨w.heap.size, 2, none⟩ = some (.int .i64 z)) (first | exact ⟨s0, s1, s2⟩ | exact ⟨s0p, s1p, s2p⟩ | exact ⟨s0q, s1q, s2q⟩ | exact ⟨s0r, s1r, s2r⟩) (first
      | (go_at_call 12; refine (toDepositS_any A n c f (by omega) _ (hr.ext X.drew)).mono ?_; rintro e wp ⟨At, ct, rfl, it, jt, mt, xp⟩; have s0p := xp.cell s0; have s1p := xp.cell s1; have s2p := xp.cell s2; have Xp := X.drew.trans xp)
      | (go_at_call 13; refine (toDeposit_any x y z _).mono ?_; rintro e wq ⟨rfl, xq⟩; have s0q := xq.cell s0p; have s1q := xq.cell s1p; have s2q := xq.cell s2p; have mtq := mt.ext xq; have Xq := Xp.trans xq)
      | (go_at_call 11; have bu := Xq.size; have zu := World.block_lt_of_cell? _ _ s0q; refine (spec_AddDeposit At n ct (fun k j => ix (flat 3 n f) (k * 3 + j)) it jt (noneS_cap mt) (by omega) x y z hx hy hz _ mtq.recs).mono ?_; rintro e wr ⟨Au, cu, rfl, iu, ju, mu, xr⟩; have s0r := xr.cell s0q; have s1r := xr.cell s1q; have s2r := xr.cell s2q; have Xr := Xq.trans xr))
    replace X := Xr
    replace s0 := s0r
    replace s1 := s1r
    replace s2 := s2r
    clear s0p s1p s2p s0q s1q s2q s0r s1r s2r Xp Xq Xr mt mtq xp xq xr
    go_wp2_with fail
    have bv := X.size
    have zv := World.block_lt_of_cell? _ _ s0
    have ou_v := mu.old
    refine (toDepositS_any A n c f (by omega) _ (hr.ext X)).mono ?_
    rintro e w1 ⟨Av, cv, rfl, iv, jv, mv, x1⟩
    replace mu := mu.ext x1
    replace s0 := x1.cell s0
    replace s1 := x1.cell s1
    replace s2 := x1.cell s2
    replace X := X.trans x1
    go_wp2_with fail
    refine (toDeposit_any x y z _).mono ?_
    rintro e w2 ⟨rfl, x2⟩
    replace mu := mu.ext x2
    replace mv := mv.ext x2
    replace s0 := x2.cell s0
    replace s1 := x2.cell s1
    replace s2 := x2.cell s2
    replace X := X.trans x2
    go_wp2_with fail
    have bg := X.size
    have zg := World.block_lt_of_cell? _ _ s0
    have ou_g := mu.old
    have ov_g := mv.old
    refine (impl_AddDeposit Av n cv (fun k j => ix (flat 3 n f) (k * 3 + j)) iv jv (noneS_cap mv) (by omega) x y z hx hy hz _ mv.recs).mono ?_
    rintro e w3 ⟨Ag, cg, rfl, ig, jg, mg, x3⟩
    replace mu := mu.ext x3
    replace mv := mv.ext x3
    replace s0 := x3.cell s0
    replace s1 := x3.cell s1
    replace s2 := x3.cell s2
    replace X := X.trans x3
    go_wp2_with fail
    refine (eqDepositS_yes Ag Au (addN n (fun k j => ix (flat 3 n f) (k * 3 + j)) x y z) cg cu _ _ (by omega) _ mg.recs mu.recs (fun _ _ _ _ => rfl)).mono ?_
    rintro e w4 ⟨rfl, x4⟩
    replace mu := mu.ext x4
    replace mv := mv.ext x4
    replace mg := mg.ext x4
    replace s0 := x4.cell s0
    replace s1 := x4.cell s1
    replace s2 := x4.cell s2
    replace X := X.trans x4
    go_wp2_with fail
    have bt := X.size
    have zt := World.block_lt_of_cell? _ _ s0
    have ou_t := mu.old
    have ov_t := mv.old
    have og_t := mg.old
    refine (toDepositS_any A n c f (by omega) _ (hr.ext X)).mono ?_
    rintro e w5 ⟨At, ct, rfl, it, jt, mt, x5⟩
    replace mu := mu.ext x5
    replace mv := mv.ext x5
    replace mg := mg.ext x5
    replace s0 := x5.cell s0
    replace s1 := x5.cell s1
    replace s2 := x5.cell s2
    replace X := X.trans x5
    go_wp2_with fail
    refine (eqDepositS_yes Av At n cv ct _ _ (by omega) _ mv.recs mt.recs (fun _ _ _ _ => rfl)).mono ?_
    rintro e w6 ⟨rfl, x6⟩
    replace mu := mu.ext x6
    replace mv := mv.ext x6
    replace mg := mg.ext x6
    replace mt := mt.ext x6
    replace s0 := x6.cell s0
    replace s1 := x6.cell s1
    replace s2 := x6.cell s2
    replace X := X.trans x6
    clear mt
    go_wp2_with fail
    refine (markDepositS_any _ Av _ cv _ 1 (by omega) (by omega) _ mv).mono ?_
    rintro e w7 ⟨rfl, nv, g7⟩
    replace s0 := (cell_of_dep (g7.block w.heap.size (World.block_lt_of_cell? _ _ s0) (fun q => by have := mv.lt w.heap.size q.symm; omega))).trans s0
    replace s1 := (cell_of_dep (g7.block w.heap.size (World.block_lt_of_cell? _ _ s1) (fun q => by have := mv.lt w.heap.size q.symm; omega))).trans s1
    replace s2 := (cell_of_dep (g7.block w.heap.size (World.block_lt_of_cell? _ _ s2) (fun q => by have := mv.lt w.heap.size q.symm; omega))).trans s2
    replace mu := mu.kept g7 (MineS.apartD mv (Nat.le_refl _) ou_v)
    replace mg := mg.kept g7 (MineS.apartE mg (Nat.le_refl _) ov_g)
    replace X := mv.ext_of X bv g7
    replace mv := nv
    have hz1 : ¬ (1 : Int) + n * 3 < 0 := by omega
    clear mv
    go_wp2_with fail
    refine (eqDepositS_yes Ag Au (addN n (fun k j => ix (flat 3 n f) (k * 3 + j)) x y z) cg cu _ _ (by omega) _ mg.recs mu.recs (fun _ _ _ _ => rfl)).mono ?_
    rintro e w8 ⟨rfl, x8⟩
    replace mu := mu.ext x8
    replace mg := mg.ext x8
    replace s0 := x8.cell s0
    replace s1 := x8.cell s1
    replace s2 := x8.cell s2
    replace X := X.trans x8
    go_wp2_with fail
    refine (markDepositS_any _ Ag _ cg _ 1 (by omega) (by omega) _ mg).mono ?_
    rintro e w9 ⟨rfl, ng, g9⟩
    replace s0 := (cell_of_dep (g9.block w.heap.size (World.block_lt_of_cell? _ _ s0) (fun q => by have := mg.lt w.heap.size q.symm; omega))).trans s0
    replace s1 := (cell_of_dep (g9.block w.heap.size (World.block_lt_of_cell? _ _ s1) (fun q => by have := mg.lt w.heap.size q.symm; omega))).trans s1
    replace s2 := (cell_of_dep (g9.block w.heap.size (World.block_lt_of_cell? _ _ s2) (fun q => by have := mg.lt w.heap.size q.symm; omega))).trans s2
    replace mu := mu.kept g9 (MineS.apartD mg (Nat.le_refl _) ou_g)
    replace X := mg.ext_of X bg g9
    replace mg := ng
    go_wp2_with fail
    refine (heldDepositS_yes Ag (addN n (fun k j => ix (flat 3 n f) (k * 3 + j)) x y z) cg _ 1 (by omega) (by omega) _ mg.recs (fun j i hj hi => held_at hj hi)).mono ?_
    rintro e w10 ⟨rfl, x10⟩
    replace mu := mu.ext x10
    replace mg := mg.ext x10
    replace s0 := x10.cell s0
    replace s1 := x10.cell s1
    replace s2 := x10.cell s2
    replace X := X.trans x10
    have hz2 : ¬ (1 : Int) + ((addN n (fun k j => ix (flat 3 n f) (k * 3 + j)) x y z) : Nat) * 3 < 0 := by omega
    go_wp2_with fail
    go_region_held3 (fun w' => w'.cell? ⟨w.heap.size, 0, none⟩ = some (.int .i64 x) ∧ w'.cell? ⟨w.heap.size, 1, none⟩ = some (.int .i64 y) ∧ w'.cell? ⟨w.heap.size, 2, none⟩ = some (.int .i64 z)) (first | exact ⟨s0, s1, s2⟩ | exact ⟨s0p, s1p, s2p⟩ | exact ⟨s0q, s1q, s2q⟩ | exact ⟨s0r, s1r, s2r⟩) (first
      | (go_at_call 12; refine (toDepositS_any A n c f (by omega) _ (hr.ext X.drew)).mono ?_; rintro e wp ⟨At, ct, rfl, it, jt, mt, xp⟩; have s0p := xp.cell s0; have s1p := xp.cell s1; have s2p := xp.cell s2; have mup := (mu.ext (Ext.refl _).drew).ext xp; have mgp := (mg.ext (Ext.refl _).drew).ext xp; have Xp := X.drew.trans xp)
      | (go_at_call 13; refine (toDeposit_any x y z _).mono ?_; rintro e wq ⟨rfl, xq⟩; have s0q := xq.cell s0p; have s1q := xq.cell s1p; have s2q := xq.cell s2p; have muq := mup.ext xq; have mgq := mgp.ext xq; have mtq := mt.ext xq; have Xq := Xp.trans xq)
      | (go_at_call 14; have bh := Xq.size; have zh := World.block_lt_of_cell? _ _ s0q; have ou_h := muq.old; have og_h := mgq.old; refine (impl_AddDeposit At n ct (fun k j => ix (flat 3 n f) (k * 3 + j)) it jt (noneS_cap mt) (by omega) x y z hx hy hz _ mtq.recs).mono ?_; rintro e wr ⟨Ah, ch, rfl, ih, jh, mh, xr⟩; have s0r := xr.cell s0q; have s1r := xr.cell s1q; have s2r := xr.cell s2q; have mur := muq.ext xr; have mgr := mgq.ext xr; have Xr := Xq.trans xr))
    replace X := Xr
    replace s0 := s0r
    replace s1 := s1r
    replace s2 := s2r
    replace mu := mur
    replace mg := mgr
    clear s0p s1p s2p s0q s1q s2q s0r s1r s2r mup mgp muq mgq mur mgr Xp Xq Xr mt mtq xp xq xr
    go_wp2_with fail
    refine (eqDepositS_yes Ah Au (addN n (fun k j => ix (flat 3 n f) (k * 3 + j)) x y z) ch cu _ _ (by omega) _ mh.recs mu.recs (fun _ _ _ _ => rfl)).mono ?_
    rintro e w11 ⟨rfl, x11⟩
    replace mu := mu.ext x11
    replace mg := mg.ext x11
    replace mh := mh.ext x11
    replace s0 := x11.cell s0
    replace s1 := x11.cell s1
    replace s2 := x11.cell s2
    replace X := X.trans x11
    go_wp2_with fail
    refine (heldDepositS_yes Ag (addN n (fun k j => ix (flat 3 n f) (k * 3 + j)) x y z) cg _ 1 (by omega) (by omega) _ mg.recs (fun j i hj hi => held_at hj hi)).mono ?_
    rintro e w12 ⟨rfl, x12⟩
    replace mu := mu.ext x12
    replace mg := mg.ext x12
    replace mh := mh.ext x12
    replace s0 := x12.cell s0
    replace s1 := x12.cell s1
    replace s2 := x12.cell s2
    replace X := X.trans x12
    go_wp2
    go_ret
    exact ⟨rfl, X⟩
theorem own : ownKnob Try.prog.godebug = none := by kernel_rfl
theorem laid : laidOutB Try.prog = true := fLaid
set_option maxRecDepth 100000 in
theorem lifted (os : Os) (started : os.Started) (H : Type) (enc : TypeId × Value → H) :
    ReturnsInHanded {} Try.checked os 3 .any (Rows.fnExactAddDepositSpec.pre6 enc Try.prog Try.f3 Rows.fnExactAddDepositRow.domain false) (Rows.fnExactAddDepositSpec.post enc Try.prog Try.f3 false true false false) := by
  refine returnsInHanded_of_change (C := Try.checked) own started (by kernel_rfl) Try.func3
    (ChangeSpec.witness6 (enc := enc) (C := Try.checked) false ⟨#[], #[.slice none 0 0, .agg #[.int .i64 0, .int .i64 0, .int .i64 0]], []⟩ 8 (by kernel_rfl) (by kernel_rfl) (by kernel_rfl) (by kernel_rfl)) ?_
  intro W base args ds gs before hval0 hW hcnd _
  have hval : ∀ (j : Nat) t v, Try.f3.params[j]? = some t → args[j]? = some v → Value.okWide Try.prog W .any base t v := hval0
  have hW' := hW
  obtain ⟨p, q, hA0, hV, rfl, hfz, hnd⟩ := hW
  have hA : DataW.TrodAll enc Try.prog W 0 (fun _ => true) true Try.f3.params.toList args.toList ds p := hA0
  rw [Try.params3] at hA hval
  obtain ⟨v0, vs0, d0, ds0, p0, q0, hargs, rfl, rfl, h0, r0⟩ := trodAll_cons hA
  obtain ⟨v1, vs1, d1, ds1, p1, q1, rfl, rfl, rfl, h1, r1⟩ := trodAll_cons r0
  obtain ⟨rfl, rfl, rfl⟩ := trodAll_nil r1
  obtain rfl : args = #[v0, v1] := by cases args; simp_all
  obtain ⟨rfl, rfl⟩ := trodVars_none hV
  obtain ⟨A0, n0, c0, f0, rfl, i0, j0, k0⟩ := openR Try.underlying22 Try.underlying24 (by kernel_rfl) (by kernel_rfl) (by kernel_rfl) (by decide) (hval 0 22 v0 rfl rfl) h0
  obtain ⟨x1, y1, z1, rfl, i1, j1, k1⟩ := openN3 Try.underlying24 (by kernel_rfl) (by kernel_rfl) Try.underlying3 Try.underlying3 Try.underlying3 (hval 1 24 v1 rfl rfl) h1
  clear hA0 hval0
  refine (walk A0 n0 c0 f0 i0 j0 x1 y1 z1 i1 j1 k1 W k0).mono fun e W' ⟨he, hg⟩ => ?_
  subst he
  exact ⟨_, rfl, post_law (tb := 4) laid (by kernel_rfl) (by kernel_rfl) Try.underlying4 hW' rfl rfl rfl rfl hg⟩
set_option maxHeartbeats 4000000 in
set_option maxRecDepth 100000 in
theorem facts : joinedFacts Try.checked.prog 3 Try.f3 Rows.fnExactAddDepositSpec Rows.fnExactAddDepositRow = true := by
  unfold joinedFacts
  repeat' (with_reducible refine and_intro ?_ ?_)
  all_goals first | with_reducible exact fMayEnter | (with_reducible refine fLifted _ ?_; rfl) | (with_reducible refine fMake _ ?_; rfl) | (with_reducible exact fLaid) | (as_aux_lemma => kernel_rfl)
theorem over : Rows.fnExactAddDepositRow.holds Try.pinned (OpenSpec.ofChange Rows.fnExactAddDepositSpec) :=
  OpenClaim.holds_of_wide 3 Try.f3 rfl rfl rfl rfl rfl rfl rfl ⟨rfl, rfl, rfl, rfl, rfl⟩ rfl rfl rfl rfl rfl (by kernel_rfl) Try.func3 facts
    (of_decide_eq_true (by kernel_rfl)) (by unfold Func.isWrapper; first | (rw [if_pos (by decide +kernel)]; kernel_rfl) | (rw [if_neg (by decide +kernel)]; exact ⟨rfl, rfl⟩))
    (fun os started H enc _ => lifted os started H enc)
theorem proved : Rows.FnExactAddDepositSaid :=
  over
#print axioms proved
end Go.Proofs.Ytgfnkmalecfhbaa.fnExactAddDeposit
