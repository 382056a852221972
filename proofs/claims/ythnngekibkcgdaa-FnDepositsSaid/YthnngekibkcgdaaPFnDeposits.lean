/-
  The law FnDeposits of the given program holds: for every input the Go function returns true and each argument reads afterwards as it read before. No conditions.
-/
import Derived.Test.YthnngekibkcgdaaRows
import Derived.Test.YthnngekibkcgdaaFacts
import Derived.Test.YthnngekibkcgdaaL32W
import Derived.Test.YthnngekibkcgdaaRoI
import Derived.Test.YthnngekibkcgdaaTbI
import Derived.Test.YthnngekibkcgdaaAddI
import Derived.Test.YthnngekibkcgdaaDepLaw
import Derived.Test.YthnngekibkcgdaaCodeA
namespace Go.Proofs.Ythnngekibkcgdaa.fnDeposits
open Go.ChangeShapes Go.WideShapes Go.ChangeAt Go.RowKit
set_option linter.unusedVariables false

theorem run_neDeposit (x y z : Int) (w : World) : (binOp .neq 31 (.agg #[.int .i64 x, .int .i64 y, .int .i64 z]) (.agg #[.int .i64 x, .int .i64 y, .int .i64 z])).run Try.prog w = .ok (.bool false) w := by
  have hu := Try.underlying31
  simp [binOp, Op.equal, Op.maxDepth, go_sem]
set_option maxHeartbeats 16000000 in
set_option maxRecDepth 100000 in
theorem walk (A : Option Addr) (n c : Nat) (f : Nat → Int) (hnc : n ≤ c) (hcm : c ≤ 9223372036854775807) (w : World) (hr : BRecs w A n f) :
    Calls Try.prog 3 #[.slice A n c] w fun e w' => e = .returned (.bool true) ∧ Ext w w' := by
  by_cases hbig : 1048576 < n
  · have hd : decide (1048576 < n) = true := by simpa using hbig
    go_enter Try.func3, Try.ntmps3
    go_wp2_with fail
    refine (big_any A n c (by omega) w).mono ?_
    rintro e w1 ⟨rfl, x1⟩
    go_wp2
    go_ret
    exact ⟨rfl, x1⟩
  · have hd : decide (1048576 < n) = false := by simpa using hbig
    go_enter Try.func3, Try.ntmps3
    go_wp2_with fail
    refine (big_any A n c (by omega) w).mono ?_
    rintro e w1 ⟨rfl, x1⟩
    clear hd
    go_wp2_with fail
    refine (DrawDeposits_any A n c f hnc hcm (by omega) _ (hr.ext x1)).mono ?_
    rintro e w2 ⟨Al, cl, n1, zs, rfl, il, jl, hG, ml, x2⟩
    have X := x1.trans x2
    have hGd := hG.2.2.1
    have hn8 := hG.2.1
    clear hr hbig hcm hnc x1 x2
    have hlr : Recs w2 3 Al n1 (FZ zs) := ml.recs
    have hA := noneS_cap ml
    clear ml
    have HPOS := Lib.hid (fun k => us_pos hGd (k := k))
    have HUP := Lib.hid (fun k => us_up (n := n1) (f := FZ zs) (k := k))
    have HAS := Lib.hid (fun k => ro_has hGd (k := k))
    have HTOT := Lib.hid (tot_all hGd)
    have HRO := Lib.hid (ro_len hGd)
    have HINL := Lib.hid (fun c => inL_len n1 (FZ zs) c)
    have hul := usL_len n1 (FZ zs)
    go_wp2_with fail
    refine (impl_ReturnOrder Al n1 cl (FZ zs) il jl hA (by omega) _ hlr).mono ?_
    rintro e w3 ⟨Ao, co, rfl, io, jo, mo, x3⟩
    replace hlr := hlr.ext x3
    have ro := mo.recs
    replace X := X.trans x3
    clear mo x3
    go_wp2_with fail
    refine (impl_CratesUsed Al n1 cl (FZ zs) il jl hA (by omega) _ hlr).mono ?_
    rintro e w4 ⟨Ac, cc, rfl, ic, jc, mc, x4⟩
    replace hlr := hlr.ext x4
    replace ro := ro.ext x4
    replace X := X.trans x4
    have rc := mc.recs
    have HBD := Lib.hid (fun k => mc.ix_bd k)
    clear mc x4
    generalize usL n1 (FZ zs) = cs at *
    generalize roL n1 (FZ zs) = os at *
    have HIS := Lib.hid (fun k (hk : k ≤ 8) => (show isum (fun c => (inL n1 (FZ zs) c).length) cs k ≤ 8 * 8 from Nat.le_trans (isum_le _ 8 cs (fun c => Nat.le_trans (HINL.out c) hn8) k) (Nat.mul_le_mul_right 8 hk)))
    go_wp2
    go_loopw [6, 7] (fun t i wr => ∃ k : Nat, k ≤ cs.length ∧ i = .int .i64 k ∧ t = .int .i64 ((isum (fun c => (inL n1 (FZ zs) c).length) cs k : Nat)) ∧ Ext w4 wr) (fun _ i _ => cs.length - (intOf i).toNat)
    case atStart => exact ⟨0, Nat.zero_le _, rfl, rfl, Ext.refl w4⟩
    case round =>
      obtain ⟨k, hk, rfl, rfl, Xr⟩ := hrel
      by_cases hlt : k < cs.length
      · have HI1 := Lib.hid (show isum (fun c => (inL n1 (FZ zs) c).length) cs (k + 1) = isum (fun c => (inL n1 (FZ zs) c).length) cs k + (inL n1 (FZ zs) (ix cs k)).length from rfl)
        have HI2 := HIS.out (k + 1) (by omega)
        have hp0 := HPOS.out k hlt
        have HASK := Lib.hid (fun z => HAS.out k hlt (z := z))
        have HBK := Lib.hid (HBD.out k)
        have HLK := HINL.out (ix cs k)
        rw [HI1.out] at HI2
        obtain ⟨bc, oc, rfl, hbc, hc0⟩ := (rc.ext Xr).at1 hlt
        go_wp2_with fail
        refine (impl_InCrate Al n1 cl (FZ zs) il jl hA (by omega) (ix cs k) _ (hlr.ext Xr)).mono ?_
        rintro e w5 ⟨Ap, cp, rfl, ip, jp, mp, x5⟩
        have X5 := Xr.trans x5
        have rp := mp.recs
        have rcc := rc.ext X5
        have hc1 := rcc.cell1 hlt
        clear mp x5 hc0
        generalize hpl : inL n1 (FZ zs) (ix cs k) = pl at *
        clear hpl
        generalize isum (fun c => (inL n1 (FZ zs) c).length) cs k = tk at *
        have hpz : ((pl.length : Nat) : Int) ≠ 0 := by omega
        have hpz2 : (((pl.length : Nat) : Int) == 0) = false := by simpa using hpz
        go_wp2
        by_cases hk0 : k = 0
        · have hkz : ¬ (0 : Int) < k := by omega
          have hz : decide (0 < k) = false := by simp; omega
          go_quiet (fail)
          go_wp2
          go_loopw [9] (fun i wr => ∃ j : Nat, j ≤ pl.length ∧ i = .int .i64 j ∧ Ext w5 wr) (fun i _ => pl.length - (intOf i).toNat)
          case atStart => exact ⟨0, Nat.zero_le _, rfl, by repeat (first | exact Ext.refl _ | apply Ext.drewN | apply Ext.drew | apply Ext.wgr)⟩
          case round =>
            obtain ⟨j, hj, rfl, Xj⟩ := hrel
            by_cases hjl : j < pl.length
            · obtain ⟨bp, op, rfl, hbp, hp1⟩ := (rp.ext Xj).at1 hjl
              have HHB := Lib.hid (hasB_mem (HASK.out (ix pl j) (by rw [ix_get hjl]; exact List.getElem_mem hjl)))
              go_wp2_with fail
              refine (has_any Ao os.length co (fun i _ => ix os i) (ix pl j) (by omega) _ ((ro.ext X5).ext Xj)).mono ?_
              rw [HHB.out]
              rintro e w6 ⟨rfl, x6⟩
              have X6 := Xj.trans x6
              go_wp2
              go_roundw
              case rel => exact ⟨j + 1, by omega, by go_num, X6⟩
              case measure => simp [intOf]; omega
            · obtain rfl : j = pl.length := by omega
              go_wp2
              go_roundw
              case rel => exact ⟨k + 1, by omega, by go_num, by rw [HI1.out]; go_num, X5.trans Xj⟩
              case measure => simp [intOf]; omega
        · have hkz : (0 : Int) < k := by omega
          have hc2 := rcc.cell1 (k := k - 1) (by omega)
          have hup := HUP.out (k - 1) (by omega)
          rw [show k - 1 + 1 = k by omega] at hup
          have hkn : ((k : Int) - 1).toNat = k - 1 := by omega
          have hk10 : (0 : Int) ≤ (k : Int) - 1 := by omega
          have hk11 : (k : Int) - 1 < cs.length := by omega
          have hk12 : IntKind.i64.wrap ((k : Int) - 1) = (k : Int) - 1 := IntWalk.i64_in _ ⟨by omega, by omega⟩
          have hz : decide (0 < k) = true := by simp; omega
          have hd1 : decide (ix cs k ≤ ix cs (k - 1)) = false := by simpa using hup
          go_quiet (fail)
          go_wp2
          go_loopw [9] (fun i wr => ∃ j : Nat, j ≤ pl.length ∧ i = .int .i64 j ∧ Ext w5 wr) (fun i _ => pl.length - (intOf i).toNat)
          case atStart => exact ⟨0, Nat.zero_le _, rfl, by repeat (first | exact Ext.refl _ | apply Ext.drewN | apply Ext.drew | apply Ext.wgr)⟩
          case round =>
            obtain ⟨j, hj, rfl, Xj⟩ := hrel
            by_cases hjl : j < pl.length
            · obtain ⟨bp, op, rfl, hbp, hp1⟩ := (rp.ext Xj).at1 hjl
              have HHB := Lib.hid (hasB_mem (HASK.out (ix pl j) (by rw [ix_get hjl]; exact List.getElem_mem hjl)))
              go_wp2_with fail
              refine (has_any Ao os.length co (fun i _ => ix os i) (ix pl j) (by omega) _ ((ro.ext X5).ext Xj)).mono ?_
              rw [HHB.out]
              rintro e w6 ⟨rfl, x6⟩
              have X6 := Xj.trans x6
              go_wp2
              go_roundw
              case rel => exact ⟨j + 1, by omega, by go_num, X6⟩
              case measure => simp [intOf]; omega
            · obtain rfl : j = pl.length := by omega
              go_wp2
              go_roundw
              case rel => exact ⟨k + 1, by omega, by go_num, by rw [HI1.out]; go_num, X5.trans Xj⟩
              case measure => simp [intOf]; omega
      · obtain rfl : k = cs.length := by omega
        rw [HTOT.out]
        have HRL := Lib.hid HRO.out
        clear HPOS HUP HAS HIS HINL HBD hul HTOT HRO rc
        have hdr := dayM_rng hGd n1 (Nat.le_refl _)
        have HDK := Lib.hid (fun k (hk : k ≤ n1) => dayM_rng hGd k hk)
        have HFD := Lib.hid (fun k (hk : k < n1) => depB_day hGd hk)
        have HDS := Lib.hid (fun k => (show dayM (FZ zs) (k + 1) = max (dayM (FZ zs) k) (FZ zs k 2) from rfl))
        have hlX := hlr.ext Xr
        have HADD : Hid (∀ W, Ext wr W → Calls Try.prog 11 #[.slice Al n1 cl, .agg #[.int .i64 150, .int .i64 2, .int .i64 (dayM (FZ zs) n1)]] W (PostSB W (n1 + 1) (zs ++ [150, 2, dayM (FZ zs) n1]) true)) := Lib.hid (fun W Z => by
          have := impl_AddDeposit Al n1 cl (FZ zs) il jl hA (by omega) 150 2 (dayM (FZ zs) n1) (by unfold I64; omega) (by unfold I64; omega) (by unfold I64; omega) W (hlX.ext Z)
          rwa [add_ok hG, (add_is hG).1, (add_is hG).2.1] at this)
        have HDB := (add_is hG).2.2
        have HTK : Hid (∀ (Aa : Option Addr) (ca : Nat) (h1 : n1 + 1 ≤ ca) (h2 : ca ≤ 9223372036854775807) (h3 : Aa = none → n1 + 1 = 0 ∧ ca = 0) W, Recs W 3 Aa (n1 + 1) (FZ (zs ++ [150, 2, dayM (FZ zs) n1])) → Calls Try.prog 12 #[.slice Aa (n1 + 1) ca, .int .i64 150] W (PostSB W n1 zs true)) := Lib.hid (fun Aa ca h1 h2 h3 W hrW => by
          have := impl_TakeBack Aa (n1 + 1) ca (FZ (zs ++ [150, 2, dayM (FZ zs) n1])) h1 h2 h3 (by omega) 150 W hrW
          rwa [(take_is hG HDB).1, (take_is hG HDB).2.1, (take_is hG HDB).2.2] at this)
        have HTN : Hid (∀ W, Ext wr W → Calls Try.prog 12 #[.slice Al n1 cl, .int .i64 150] W (PostSB W (tbN n1 (FZ zs) 150) (tbL n1 (FZ zs) 150) false)) := Lib.hid (fun W Z => by
          have := impl_TakeBack Al n1 cl (FZ zs) il jl hA (by omega) 150 W (hlX.ext Z)
          rwa [take_no hG] at this)
        have HOK : Hid (∀ (Aa : Option Addr) (ca : Nat) (h1 : n1 + 1 ≤ ca) (h2 : ca ≤ 9223372036854775807) W, Recs W 3 Aa (n1 + 1) (FZ (zs ++ [150, 2, dayM (FZ zs) n1])) → Calls Try.prog 13 #[.slice Aa (n1 + 1) ca] W fun e w' => e = .returned (.bool true) ∧ Ext W w') := Lib.hid (fun Aa ca h1 h2 W hrW => by
          have := impl_DepositsOk Aa (n1 + 1) ca (FZ (zs ++ [150, 2, dayM (FZ zs) n1])) h1 h2 W hrW
          rwa [HDB] at this)
        have HHB := Lib.hid (hasB_mem (new_in hG HDB))
        have HIC := Lib.hid (fun (Aa : Option Addr) (ca : Nat) (h1 : n1 + 1 ≤ ca) (h2 : ca ≤ 9223372036854775807) (h3 : Aa = none → n1 + 1 = 0 ∧ ca = 0) W (hrW : Recs W 3 Aa (n1 + 1) (FZ (zs ++ [150, 2, dayM (FZ zs) n1]))) => impl_InCrate Aa (n1 + 1) ca (FZ (zs ++ [150, 2, dayM (FZ zs) n1])) h1 h2 h3 (by omega) 2 W hrW)
        have HIN := Lib.hid (inL_len (n1 + 1) (FZ (zs ++ [150, 2, dayM (FZ zs) n1])) 2)
        generalize inL (n1 + 1) (FZ (zs ++ [150, 2, dayM (FZ zs) n1])) 2 = ip at *
        generalize tbN n1 (FZ zs) 150 = tn at *
        generalize tbL n1 (FZ zs) 150 = tl at *
        clear HDB hG hGd hlr
        go_wp2
        go_loop [10, 11] (fun d i => ∃ k : Nat, k ≤ n1 ∧ i = .int .i64 k ∧ d = .int .i64 (dayM (FZ zs) k)) (fun _ i => n1 - (intOf i).toNat)
        case atStart => exact ⟨0, Nat.zero_le _, rfl, rfl⟩
        case round =>
          obtain ⟨k, hk, rfl, rfl⟩ := hrel
          by_cases hlt2 : k < n1
          · obtain ⟨b, o, rfl, hb, h0, h1, h2⟩ := hlX.at3 hlt2
            have hds := Lib.hid (HDS.out k)
            have hdk := HDK.out k hk
            have hfd := HFD.out k hlt2
            generalize dayM (FZ zs) k = dk at *
            generalize FZ zs k 2 = fk at *
            by_cases hmx : dk < fk
            · have hmm := Lib.hid (show max dk fk = fk by omega)
              go_wp2
              go_round
              case rel => exact ⟨k + 1, by omega, by go_num, by rw [hds.out, hmm.out]⟩
              case measure => simp [intOf]; omega
            · have hmm := Lib.hid (show max dk fk = dk by omega)
              go_wp2
              go_round
              case rel => exact ⟨k + 1, by omega, by go_num, by rw [hds.out, hmm.out]⟩
              case measure => simp [intOf]; omega
          · obtain rfl : k = n1 := by omega
            clear HDK HFD HDS
            generalize dayM (FZ zs) k = dy at *
            generalize zs ++ [150, 2, dy] = za at *
            go_wp2_with fail
            have X0 := (Ext.refl wr).alloc (.cells #[.int .i64 150, .int .i64 2, .int .i64 dy] 31)
            refine (HADD.out _ X0).mono ?_
            rintro e w5 ⟨Aa, ca, rfl, ia, ja, ma, x5⟩
            have X5 := X0.trans x5
            have ra : Recs w5 3 Aa (k + 1) (FZ za) := ma.recs
            have hna := noneS_cap ma
            clear ma x5 X0
            go_wp2_with fail
            refine (HTK.out Aa ca ia ja hna _ ra).mono ?_
            rintro e w6 ⟨Ab, cb, rfl, ib, jb, mb, x6⟩
            have X6 := X5.trans x6
            replace ra := ra.ext x6
            have rb : Recs w6 3 Ab k (FZ zs) := mb.recs
            clear mb x6 X5
            go_wp2_with fail
            refine (HTN.out _ X6).mono ?_
            rintro e w7 ⟨Ac2, cc2, rfl, ic2, jc2, mc2, x7⟩
            have X7 := X6.trans x7
            replace ra := ra.ext x7
            replace rb := rb.ext x7
            clear mc2 x7 X6
            go_wp2_with fail
            refine (HOK.out Aa ca ia ja _ ra).mono ?_
            rintro e w8 ⟨rfl, x8⟩
            have X8 := X7.trans x8
            replace ra := ra.ext x8
            replace rb := rb.ext x8
            have rl := hlX.ext X8
            clear x8 X7
            have hE := run_neDeposit
            go_wp2
            go_loopw [19] (fun i wr2 => ∃ q : Nat, q ≤ k ∧ i = .int .i64 q ∧ Ext w8 wr2) (fun i _ => k - (intOf i).toNat)
            case atStart => exact ⟨0, Nat.zero_le _, rfl, Ext.refl w8⟩
            case round =>
              obtain ⟨q, hq, rfl, Xq⟩ := hrel
              by_cases hqk : q < k
              · obtain ⟨b1, o1, rfl, hb1, p0, p1, p2⟩ := (rb.ext Xq).at3 hqk
                obtain ⟨b2, o2, rfl, hb2, r0, r1, r2⟩ := (rl.ext Xq).at3 hqk
                go_wp2
                go_quiet (fail)
                go_wp2
                go_roundw
                case rel => exact ⟨q + 1, by omega, by go_num, by repeat (first | exact Xq | apply Ext.drewN | apply Ext.drew | apply Ext.wgr)⟩
                case measure => simp [intOf]; omega
              · obtain rfl : q = k := by omega
                have hro := HRL.out
                go_wp2_with fail
                refine (HIC.out Aa ca ia ja hna _ (ra.ext Xq)).mono ?_
                rintro e w9 ⟨Ai, ci, rfl, ii, ji, mi, x9⟩
                have X9 := (X8.trans Xq).trans x9
                go_wp2_with fail
                refine (has_any Ai ip.length ci (fun i _ => ix ip i) 150 (by have := HIN.out; omega) _ mi.recs).mono ?_
                rw [HHB.out]
                rintro e w10 ⟨rfl, x10⟩
                have X10 := X9.trans x10
                go_wp2
                go_ret
                exact ⟨rfl, (X.trans Xr).trans X10⟩
theorem own : ownKnob Try.prog.godebug = none := by kernel_rfl
theorem laid : laidOutB Try.prog = true := fLaid
set_option maxRecDepth 100000 in
theorem lifted (os : Os) (started : os.Started) (H : Type) (enc : TypeId × Value → H) :
    ReturnsInHanded {} Try.checked os 3 .any (Rows.fnDepositsSpec.pre6 enc Try.prog Try.f3 Rows.fnDepositsRow.domain false) (Rows.fnDepositsSpec.post enc Try.prog Try.f3 false true false false) := by
  refine returnsInHanded_of_change (C := Try.checked) own started (by kernel_rfl) Try.func3
    (ChangeSpec.witness6 (enc := enc) (C := Try.checked) false ⟨#[], #[.slice none 0 0], []⟩ 8 (by kernel_rfl) (by kernel_rfl) (by kernel_rfl) (by kernel_rfl)) ?_
  intro W base args ds gs before hval0 hW hcnd _
  have hval : ∀ (j : Nat) t v, Try.f3.params[j]? = some t → args[j]? = some v → Value.okWide Try.prog W .any base t v := hval0
  have hW' := hW
  obtain ⟨p, q, hA0, hV, rfl, hfz, hnd⟩ := hW
  have hA : DataW.TrodAll enc Try.prog W 0 (fun _ => true) true Try.f3.params.toList args.toList ds p := hA0
  rw [Try.params3] at hA hval
  obtain ⟨v0, vs0, d0, ds0, p0, q0, hargs, rfl, rfl, h0, r0⟩ := trodAll_cons hA
  obtain ⟨rfl, rfl, rfl⟩ := trodAll_nil r0
  obtain rfl : args = #[v0] := by cases args; simp_all
  obtain ⟨rfl, rfl⟩ := trodVars_none hV
  obtain ⟨A0, n0, c0, f0, rfl, i0, j0, k0⟩ := openB Try.underlying22 Try.underlying5 (by kernel_rfl) (hval 0 22 v0 rfl rfl) h0
  clear hA0 hval0
  refine (walk A0 n0 c0 f0 i0 j0 W k0).mono fun e W' ⟨he, hg⟩ => ?_
  subst he
  exact ⟨_, rfl, post_law (tb := 4) laid (by kernel_rfl) (by kernel_rfl) Try.underlying4 hW' rfl rfl rfl rfl hg⟩
set_option maxHeartbeats 4000000 in
set_option maxRecDepth 100000 in
theorem facts : joinedFacts Try.checked.prog 3 Try.f3 Rows.fnDepositsSpec Rows.fnDepositsRow = true := by
  unfold joinedFacts
  repeat' (with_reducible refine and_intro ?_ ?_)
  all_goals first | with_reducible exact fMayEnter | (with_reducible refine fLifted _ ?_; rfl) | (with_reducible refine fMake _ ?_; rfl) | (with_reducible exact fLaid) | (as_aux_lemma => kernel_rfl)
theorem over : Rows.fnDepositsRow.holds Try.pinned (OpenSpec.ofChange Rows.fnDepositsSpec) :=
  OpenClaim.holds_of_wide 3 Try.f3 rfl rfl rfl rfl rfl rfl rfl ⟨rfl, rfl, rfl, rfl, rfl⟩ rfl rfl rfl rfl rfl (by kernel_rfl) Try.func3 facts
    (of_decide_eq_true (by kernel_rfl)) (by unfold Func.isWrapper; first | (rw [if_pos (by decide +kernel)]; kernel_rfl) | (rw [if_neg (by decide +kernel)]; exact ⟨rfl, rfl⟩))
    (fun os started H enc _ => lifted os started H enc)
theorem proved : Rows.FnDepositsSaid :=
  over
#print axioms proved
end Go.Proofs.Ythnngekibkcgdaa.fnDeposits
