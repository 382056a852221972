/-
  The law FnCrates of the given program holds: for every input the Go function returns true and each argument reads afterwards as it read before. No conditions.
-/
import Derived.Test.YthnngekibkcgdaaRows
import Derived.Test.YthnngekibkcgdaaFacts
import Derived.Test.YthnngekibkcgdaaL31W
import Derived.Test.YthnngekibkcgdaaPcI
import Derived.Test.YthnngekibkcgdaaPkI
import Derived.Test.YthnngekibkcgdaaPcF
import Derived.Test.YthnngekibkcgdaaCrateC
import Derived.Test.YthnngekibkcgdaaCodeA
namespace Go.Proofs.Ythnngekibkcgdaa.fnCrates
open Go.ChangeShapes Go.WideShapes Go.ChangeAt Go.RowKit
set_option linter.unusedVariables false
set_option maxHeartbeats 16000000 in
set_option maxRecDepth 100000 in
theorem walk (A : Option Addr) (n c : Nat) (g : Nat → Int) (hnc : n ≤ c) (hcm : c ≤ 9223372036854775807) (w : World) (hr : BRecs w A n g) :
    Calls Try.prog 4 #[.slice A n c] w fun e w' => e = .returned (.bool true) ∧ Ext w w' := by
  by_cases hbig : 1048576 < n
  · have hd : decide (1048576 < n) = true := by simpa using hbig
    go_enter Try.func4, Try.ntmps4
    go_wp2_with fail
    refine (big_any A n c (by omega) w).mono ?_
    rintro e w1 ⟨rfl, x1⟩
    go_wp2
    go_ret
    exact ⟨rfl, x1⟩
  · have hd : decide (1048576 < n) = false := by simpa using hbig
    go_enter Try.func4, Try.ntmps4
    go_wp2_with fail
    refine (big_any A n c (by omega) w).mono ?_
    rintro e w1 ⟨rfl, x1⟩
    clear hd
    go_wp2_with fail
    refine (DrawPanes_any A n c g hnc hcm (by omega) _ (hr.ext x1)).mono ?_
    rintro e w2 ⟨Aw, cw, n1, zs, lim, rfl, iw, jw, h7, hall, hlim, mw, x2⟩
    have X := x1.trans x2
    have rw0 := mw.recs
    clear hr hbig hcm hnc x1 x2 mw
    obtain ⟨f, hf⟩ : ∃ f : Nat → Nat → Int, f = fun k _ => ix zs k := ⟨_, rfl⟩
    rw [← hf] at rw0
    have hfz : ∀ k, 0 ≤ f k 0 ∧ f k 0 ≤ 49 := fun k => by rw [hf]; exact hall k
    have h1 : allIn n1 f 0 10000 = true := allB_yes fun i hi => by have := hfz i; unfold inB; simp; omega
    have h2 : inB lim 0 100000 = true := by unfold inB; simp; omega
    have h3 : allIn n1 f 0 lim = true := allB_yes fun i hi => by have := hfz i; unfold inB; simp; omega
    have hB : pcB n1 f lim = true := by unfold pcB; rw [h1, h2, h3]; simp; omega
    have hN : pcN n1 f lim = pM n1 f lim := by unfold pcN; rw [hB]; rfl
    have HBD : crBound n1 f lim = (psum (fun j => f j 0) n1 + lim - 1) / lim := crBound_yes h1 (by unfold inB; simp; omega)
    have hbf := bound_facts (N := pM n1 f lim) (s := fun j => sumF f (pR n1 f lim j)) (lim := lim) (S := psum (fun j => f j 0) n1) (by omega) (fun j => p_rng (by omega) h3 j) (fun a b => p_two h3) p_sum
    rw [← HBD] at hbf
    have hS := (psum_bd (g := fun j => f j 0) (a := 0) (b := 49) hfz n1)
    have HSK := Lib.hid (fun k => psum_bd (g := fun j => f j 0) (a := 0) (b := 49) hfz k)
    have HFZ := Lib.hid hfz
    have hNle : pM n1 f lim ≤ n1 := pcs_le _
    have hz : n1 = 0 ↔ pM n1 f lim = 0 := p_zero
    have HRG := Lib.hid (fun j => p_rng (n := n1) (f := f) (lim := lim) (by omega) h3 j)
    have HPS := Lib.hid (p_sum (n := n1) (f := f) (lim := lim))
    have HNE := Lib.hid (fun j (hj : j < pM n1 f lim) => (show pR n1 f lim j ≠ [] from pcs_ne n1 j hj))
    have HLEN := Lib.hid (fun j => (show (srtN (pR n1 f lim j)).length ≤ 7 by rw [srtN_len]; exact Nat.le_trans (pcs_rl n1 j) h7))
    have HPK := Lib.hid (p_packed h1 h2 h3)
    have HOKK := Lib.hid (p_ok h1 h2 h3)
    have HCW := Lib.hid (fun j => crateW_srtN (f := f) (lim := lim) h1 h2 (p_nodup (n := n1) (f := f) (lim := lim) j) (p_lt j))
    have HPC := Lib.hid (impl_PackCrates Aw n1 cw f lim iw jw (by unfold I64; omega) _ rw0)
    rw [hB, hN, show pcL n1 f lim = fun j => srtN (pR n1 f lim j) from rfl] at HPC
    have HCB := Lib.hid (fun W (Z : Ext w2 W) => impl_CrateBound Aw n1 cw f lim (by omega) W (rw0.ext Z))
    clear h1 h2 h3 hB hN HBD hfz hall hf
    generalize crBound n1 f lim = B at *
    generalize hRR : pR n1 f lim = R at *
    generalize pM n1 f lim = N at *
    clear hRR
    have hB1 : 0 ≤ B := by
      rcases Int.lt_or_le B 0 with q | q
      · exfalso
        have : B * lim ≤ -1 * lim := Int.mul_le_mul_of_nonneg_right (by omega) (by omega)
        omega
      · exact q
    obtain ⟨hb1, hb2, hb3, hb4⟩ := hbf
    have hB7 : B ≤ 7 := by omega
    have hBl : B * lim ≤ 7 * 109 := Int.mul_le_mul hB7 hlim.2 (by omega) (by omega)
    have hBl0 : 0 ≤ B * lim := Int.mul_nonneg hB1 (by omega)
    have hBs : (B - 1) * lim = B * lim - lim := by rw [Int.sub_mul]; omega
    go_wp2_with fail
    refine (HPC.out).mono ?_
    rintro e w3 ⟨Al, cl, rfl, il, jl, ml, x3⟩
    have rl := ml.crs
    replace X := X.trans x3
    clear ml HPC
    go_wp2_with fail
    refine (HCB.out _ x3).mono ?_
    rintro e w4 ⟨rfl, x4⟩
    replace X := X.trans x4
    have rw4 := (rw0.ext x3).ext x4
    have rl4 := rl.ext x4
    clear rw0 x3 x4 rl HCB
    generalize hSS : psum (fun j => f j 0) n1 = S at *
    go_wp2
    go_loop [8, 9] (fun t i => ∃ k : Nat, k ≤ n1 ∧ i = .int .i64 k ∧ t = .int .i64 (psum (fun j => f j 0) k)) (fun _ i => n1 - (intOf i).toNat)
    case atStart => exact ⟨0, Nat.zero_le _, rfl, rfl⟩
    case round =>
      obtain ⟨k, hk, rfl, rfl⟩ := hrel
      by_cases hlt : k < n1
      · obtain ⟨b, o, rfl, hb, hc⟩ := rw4.at1 hlt
        have hsk := HSK.out k
        have hfk := HFZ.out k
        have hps := Lib.hid (show psum (fun j => f j 0) (k + 1) = psum (fun j => f j 0) k + f k 0 from rfl)
        generalize psum (fun j => f j 0) k = sk at *
        go_wp2
        go_round
        case rel => exact ⟨k + 1, by omega, by go_num, by rw [hps.out]⟩
        case measure => simp [intOf]; omega
      · obtain rfl : n1 = k := by omega
        rw [hSS]
        clear hSS HSK HFZ
        go_wp2
        go_loopw [10, 11, 12] (fun t i u wr => ∃ k : Nat, k ≤ N ∧ i = .int .i64 k ∧ t = .int .i64 (psum (fun j => sumF f (R j)) k) ∧ Ext w4 wr) (fun _ i _ _ => N - (intOf i).toNat)
        case atStart => exact ⟨0, Nat.zero_le _, rfl, rfl, Ext.refl w4⟩
        case round =>
          obtain ⟨k, hk, rfl, rfl, Xr⟩ := hrel
          by_cases hkN : k < N
          · obtain ⟨b, o, Bp, d, rfl, hb, c0, c1, i1, i2, hrow⟩ := rl4.at_ hkN
            have hrg := HRG.out k
            have hbk := (psum_bd (g := fun j => sumF f (R j)) (a := 0) (b := lim) (fun j => HRG.out j) k)
            have hbk2 : lim * (k : Int) ≤ 109 * 7 := Int.mul_le_mul hlim.2 (by omega) (by omega) (by omega)
            have hlk := HLEN.out k
            have hne := HNE.out k
            have hl0 : 0 < (srtN (R k)).length := by
              rw [srtN_len]
              cases q : R k with
              | nil => exact absurd q (hne hkN)
              | cons x r => simp
            have hl1 : (((srtN (R k)).length : Nat) : Int) ≠ 0 := by omega
            have hl2 : ((((srtN (R k)).length : Nat) : Int) == 0) = false := by simpa using hl1
            have HW1 := Lib.hid (fun W (Z : Ext w4 W) => impl_CrateWeight Aw n1 cw f Bp (srtN (R k)).length d (fun i _ => ix (srtN (R k)) i) lim (by omega) (by omega) W (rw4.ext Z) (hrow.ext Z))
            rw [HCW.out k] at HW1
            have HO1 := Lib.hid (fun W (Z : Ext w4 W) => impl_CrateOk Aw n1 cw f Bp (srtN (R k)).length d (fun i _ => ix (srtN (R k)) i) lim (by omega) (by omega) W (rw4.ext Z) (hrow.ext Z))
            rw [HOKK.out k] at HO1
            have hps := Lib.hid (show psum (fun j => sumF f (R j)) (k + 1) = psum (fun j => sumF f (R j)) k + sumF f (R k) from rfl)
            have e0 := Xr.cell c0
            have e1 := Xr.cell c1
            clear hrow hne hl1 hl0
            generalize psum (fun j => sumF f (R j)) k = pk at *
            generalize sumF f (R k) = sk at *
            generalize (srtN (R k)).length = ln at *
            go_wp2_with fail
            refine (HW1.out _ Xr).mono ?_
            rintro e w5 ⟨rfl, x5⟩
            have X5 := Xr.trans x5
            have d0 := X5.cell c0
            have d1 := X5.cell c1
            have hn1 : ¬ sk < 0 := by omega
            have hn2 : ¬ lim < sk := by omega
            go_wp2_with fail
            refine (HO1.out _ X5).mono ?_
            rintro e w6 ⟨rfl, x6⟩
            have X6 := X5.trans x6
            have f0 := X6.cell c0
            have f1 := X6.cell c1
            go_wp2
            go_roundw
            case rel => exact ⟨k + 1, by omega, by go_num, by rw [hps.out], X6⟩
            case measure => simp [intOf]; omega
          · obtain rfl : N = k := by omega
            rw [HPS.out]
            have HAP := Lib.hid (fun W (Z : Ext w4 W) => impl_ArePacked Aw n1 cw f Al N cl (fun j => srtN (R j)) (fun _ => lim) (by omega) (by omega) (fun k => by have := HLEN.out k; omega) W (rw4.ext Z) (rl4.ext Z))
            rw [HPK.out] at HAP
            clear HRG HNE HLEN HOKK HCW rw4 rl4 HPS HPK
            have hSe : (S == S) = true := by simp
            have hge : B ≤ (N : Int) := hb3
            have hb2' : B * lim - lim < max 1 S := by rw [← hBs]; exact hb2
            clear hb2
            have hW1 : wrap64 (B * lim) = B * lim := by generalize B * lim = y at *; unfold wrap64; omega
            have hW3 : wrap64 (B * lim - lim) = B * lim - lim := by generalize B * lim = y at *; unfold wrap64; omega
            go_wp2_with fail
            refine (HAP.out _ Xr).mono ?_
            rintro e w5 ⟨rfl, x5⟩
            have X5 := (X.trans Xr).trans x5
            have hge2 : ¬ (N : Int) < B := by omega
            have hb1' : ¬ B * lim < S := by omega
            have hz2 : (n1 = 0 ∧ N = 0) ∨ (n1 ≠ 0 ∧ N ≠ 0) := by omega
            clear hz hb3
            rcases (by omega : 1 < 2 * B ∨ ¬ 1 < 2 * B) with c1 | c1 <;> rcases (by omega : 1 < S ∨ ¬ 1 < S) with c2 | c2 <;> rcases hz2 with ⟨c3, c4⟩ | ⟨c3, c4⟩
            · skip
              have m1 : ¬ 2 * B < (N : Int) := by omega
              have m2 : B * lim - lim < S := by omega
              subst c3 c4
              clear hb4 hb2'
              first | (exfalso; omega) | (go_wp2; go_ret; exact ⟨rfl, X5⟩)
            · skip
              have m1 : ¬ 2 * B < (N : Int) := by omega
              have m2 : B * lim - lim < S := by omega
              have e3 : ((n1 : Nat) : Int) ≠ 0 := by omega
              have e4 : ((N : Nat) : Int) ≠ 0 := by omega
              have e5 : (((n1 : Nat) : Int) == 0) = false := by simpa using e3
              have e6 : (((N : Nat) : Int) == 0) = false := by simpa using e4
              clear hb4 hb2'
              first | (exfalso; omega) | (go_wp2; go_ret; exact ⟨rfl, X5⟩)
            · skip
              have m1 : ¬ 2 * B < (N : Int) := by omega
              have m2 : B * lim - lim < 1 := by omega
              subst c3 c4
              clear hb4 hb2'
              first | (exfalso; omega) | (go_wp2; go_ret; exact ⟨rfl, X5⟩)
            · skip
              have m1 : ¬ 2 * B < (N : Int) := by omega
              have m2 : B * lim - lim < 1 := by omega
              have e3 : ((n1 : Nat) : Int) ≠ 0 := by omega
              have e4 : ((N : Nat) : Int) ≠ 0 := by omega
              have e5 : (((n1 : Nat) : Int) == 0) = false := by simpa using e3
              have e6 : (((N : Nat) : Int) == 0) = false := by simpa using e4
              clear hb4 hb2'
              first | (exfalso; omega) | (go_wp2; go_ret; exact ⟨rfl, X5⟩)
            · skip
              have m1 : ¬ (1 : Int) < (N : Int) := by omega
              have m2 : B * lim - lim < S := by omega
              subst c3 c4
              clear hb4 hb2'
              first | (exfalso; omega) | (go_wp2; go_ret; exact ⟨rfl, X5⟩)
            · skip
              have m1 : ¬ (1 : Int) < (N : Int) := by omega
              have m2 : B * lim - lim < S := by omega
              have e3 : ((n1 : Nat) : Int) ≠ 0 := by omega
              have e4 : ((N : Nat) : Int) ≠ 0 := by omega
              have e5 : (((n1 : Nat) : Int) == 0) = false := by simpa using e3
              have e6 : (((N : Nat) : Int) == 0) = false := by simpa using e4
              clear hb4 hb2'
              first | (exfalso; omega) | (go_wp2; go_ret; exact ⟨rfl, X5⟩)
            · skip
              have m1 : ¬ (1 : Int) < (N : Int) := by omega
              have m2 : B * lim - lim < 1 := by omega
              subst c3 c4
              clear hb4 hb2'
              first | (exfalso; omega) | (go_wp2; go_ret; exact ⟨rfl, X5⟩)
            · skip
              have m1 : ¬ (1 : Int) < (N : Int) := by omega
              have m2 : B * lim - lim < 1 := by omega
              have e3 : ((n1 : Nat) : Int) ≠ 0 := by omega
              have e4 : ((N : Nat) : Int) ≠ 0 := by omega
              have e5 : (((n1 : Nat) : Int) == 0) = false := by simpa using e3
              have e6 : (((N : Nat) : Int) == 0) = false := by simpa using e4
              clear hb4 hb2'
              first | (exfalso; omega) | (go_wp2; go_ret; exact ⟨rfl, X5⟩)
theorem own : ownKnob Try.prog.godebug = none := by kernel_rfl
theorem laid : laidOutB Try.prog = true := fLaid
set_option maxRecDepth 100000 in
theorem lifted (os : Os) (started : os.Started) (H : Type) (enc : TypeId × Value → H) :
    ReturnsInHanded {} Try.checked os 4 .any (Rows.fnCratesSpec.pre6 enc Try.prog Try.f4 Rows.fnCratesRow.domain false) (Rows.fnCratesSpec.post enc Try.prog Try.f4 false true false false) := by
  refine returnsInHanded_of_change (C := Try.checked) own started (by kernel_rfl) Try.func4
    (ChangeSpec.witness6 (enc := enc) (C := Try.checked) false ⟨#[], #[.slice none 0 0], []⟩ 8 (by kernel_rfl) (by kernel_rfl) (by kernel_rfl) (by kernel_rfl)) ?_
  intro W base args ds gs before hval0 hW hcnd _
  have hval : ∀ (j : Nat) t v, Try.f4.params[j]? = some t → args[j]? = some v → Value.okWide Try.prog W .any base t v := hval0
  have hW' := hW
  obtain ⟨p, q, hA0, hV, rfl, hfz, hnd⟩ := hW
  have hA : DataW.TrodAll enc Try.prog W 0 (fun _ => true) true Try.f4.params.toList args.toList ds p := hA0
  rw [Try.params4] at hA hval
  obtain ⟨v0, vs0, d0, ds0, p0, q0, hargs, rfl, rfl, h0, r0⟩ := trodAll_cons hA
  obtain ⟨rfl, rfl, rfl⟩ := trodAll_nil r0
  obtain rfl : args = #[v0] := by cases args; simp_all
  obtain ⟨rfl, rfl⟩ := trodVars_none hV
  obtain ⟨A0, n0, c0, f0, rfl, i0, j0, k0⟩ := openB Try.underlying22 Try.underlying5 (by kernel_rfl) (hval 0 22 v0 rfl rfl) h0
  clear hA0 hval0
  refine (walk A0 n0 c0 f0 i0 j0 W k0).mono fun e W' ⟨he, hg⟩ => ?_
  subst he
  exact ⟨_, rfl, post_law (tb := 4) laid (by kernel_rfl) (by kernel_rfl) Try.underlying4 hW' rfl rfl rfl rfl hg⟩
set_option maxHeartbeats 4000000 in
set_option maxRecDepth 100000 in
theorem facts : joinedFacts Try.checked.prog 4 Try.f4 Rows.fnCratesSpec Rows.fnCratesRow = true := by
  unfold joinedFacts
  repeat' (with_reducible refine and_intro ?_ ?_)
  all_goals first | with_reducible exact fMayEnter | (with_reducible refine fLifted _ ?_; rfl) | (with_reducible refine fMake _ ?_; rfl) | (with_reducible exact fLaid) | (as_aux_lemma => kernel_rfl)
theorem over : Rows.fnCratesRow.holds Try.pinned (OpenSpec.ofChange Rows.fnCratesSpec) :=
  OpenClaim.holds_of_wide 4 Try.f4 rfl rfl rfl rfl rfl rfl rfl ⟨rfl, rfl, rfl, rfl, rfl⟩ rfl rfl rfl rfl rfl (by kernel_rfl) Try.func4 facts
    (of_decide_eq_true (by kernel_rfl)) (by unfold Func.isWrapper; first | (rw [if_pos (by decide +kernel)]; kernel_rfl) | (rw [if_neg (by decide +kernel)]; exact ⟨rfl, rfl⟩))
    (fun os started H enc _ => lifted os started H enc)
theorem proved : Rows.FnCratesSaid :=
  over
#print axioms proved
end Go.Proofs.Ythnngekibkcgdaa.fnCrates
