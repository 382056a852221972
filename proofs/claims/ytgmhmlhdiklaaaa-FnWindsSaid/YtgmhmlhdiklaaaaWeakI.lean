/-
  Weak faces, on the program's side. No conditions.
-/
import Derived.Test.YtgmhmlhdiklaaaaSixV
import Derived.Test.YtgmhmlhdiklaaaaSmaM
namespace Go.Proofs.Ytgmhmlhdiklaaaa
open Go.RowKit Ring
set_option linter.unusedVariables false

set_option maxRecDepth 100000 in
set_option maxHeartbeats 8000000 in
theorem impl_WeakFaces (A : Option Addr) (n c : Nat) (P : Nat → Nat → Int) (B : Option Addr) (m d : Nat) (L : Nat → Nat → Int) (hnc : n ≤ c) (hcm : c ≤ 9223372036854775807) (hmd : m ≤ d) (hdm : d ≤ 9223372036854775807) (p t : Int) (hp : (-9223372036854775808 ≤ p ∧ p ≤ 9223372036854775807)) (ht : (-9223372036854775808 ≤ t ∧ t ≤ 9223372036854775807)) (w : World) (hr : Recs w 2 A n P) (hs : Recs w 2 B m L) :
    Calls Try.prog 31 #[.agg #[.slice A n c, .slice B m d], .int .i64 p, .int .i64 t] w (PostI w 3 (weakV n P m L p t).length (weakV n P m L p t)) := by
  have HFO : Hid (∀ W, Ext w W → Calls Try.prog 64 #[.agg #[.slice A n c, .slice B m d]] W (PostF W (facesV n P m L))) := Lib.hid (fun W Z => impl_FacesOf A n c P B m d L hnc hcm hmd hdm W (hr.ext Z) (hs.ext Z))
  have HIP := Lib.hid (fun W => within_any p 0 1000 W)
  have HIT := Lib.hid (fun W => within_any t 1 20 W)
  have hlen := faces_len (n := n) (m := m) (P := P) (L := L)
  have HV := Lib.hid (show weakV n P m L p t = if (inB p 0 1000 && inB t 1 20) = true then pick (facesV n P m L).length (weakP n P m L p t) else [] from rfl)
  have q0 : (w.alloc (.cells #[.slice A n c, .slice B m d] 27)).cell? ⟨w.heap.size, 0, none⟩ = some (.slice A n c) := by simp [go_sem]
  have q1 : (w.alloc (.cells #[.slice A n c, .slice B m d] 27)).cell? ⟨w.heap.size, 1, none⟩ = some (.slice B m d) := by simp [go_sem]
  have HIsWhole : Hid (∀ W, Ext w W → Calls Try.prog 63 #[.agg #[.slice A n c, .slice B m d]] W fun e w' => e = .returned (.bool (wholeB n P m L)) ∧ Ext W w') := Lib.hid (fun W Z => impl_IsWhole A n c P B m d L hnc hcm hmd hdm W (hr.ext Z) (hs.ext Z))
  have HOuterFace : Hid (∀ W, Ext w W → Calls Try.prog 65 #[.agg #[.slice A n c, .slice B m d]] W fun e w' => e = .returned (.int .i64 (outerV n P m L)) ∧ Ext W w') := Lib.hid (fun W Z => impl_OuterFace A n c P B m d L hnc hcm hmd hdm W (hr.ext Z) (hs.ext Z))
  have HBL : Hid (∀ W, Ext w W → ∀ k : Nat, k < 20 → Calls Try.prog 28 #[.agg #[.slice A n c, .slice B m d], .int .i64 (k : Int), .int .i64 p, .int .i64 t] W fun e w' => e = .returned (.bool (bearB (loadV n P m L k p) t)) ∧ Ext W w') := Lib.hid (fun W Z k hk => impl_BearsLoad A n c P B m d L hnc hcm hmd hdm k p t (by omega) hp ht W (hr.ext Z) (hs.ext Z))
  have hor := outerV_rng (n := n) (m := m) (P := P) (L := L)
  clear hr hs
  cases hw : wholeB n P m L
  · rw [hw] at HIsWhole
    have hF : facesV n P m L = [] := facesV_no hw
    have HR := Lib.hid (show weakV n P m L p t = [] by rw [HV.out, hF]; split <;> rfl)
    clear hw hF
    go_enter Try.func31, Try.ntmps31
    go_wp2_with fail
    refine (HIsWhole.out _ (by repeat (first | exact Ext.refl _ | apply Ext.alloc))).mono ?_
    rintro e w1 ⟨rfl, x1⟩
    replace q0 := x1.cell q0
    replace q1 := x1.cell q1
    have X1 : Ext w w1 := Ext.trans (by repeat (first | exact Ext.refl _ | apply Ext.alloc)) x1
    go_wp2
    go_ret
    rw [HR.out]
    exact ⟨none, 0, rfl, Nat.le_refl _, by omega, Mine.nil_ _ _ _, X1⟩
  · rw [hw] at HIsWhole
    cases hip : inB p 0 1000
    · rw [hip] at HIP
      have HR := Lib.hid (show weakV n P m L p t = [] by rw [HV.out, hip]; rfl)
      clear hw hip
      go_enter Try.func31, Try.ntmps31
      go_wp2_with fail
      refine (HIsWhole.out _ (by repeat (first | exact Ext.refl _ | apply Ext.alloc))).mono ?_
      rintro e w1 ⟨rfl, x1⟩
      replace q0 := x1.cell q0
      replace q1 := x1.cell q1
      have X1 : Ext w w1 := Ext.trans (by repeat (first | exact Ext.refl _ | apply Ext.alloc)) x1
      go_wp2_with fail
      refine (HIP.out _).mono ?_
      rintro e w2 ⟨rfl, x2⟩
      have X2 := X1.trans x2
      go_wp2
      go_ret
      rw [HR.out]
      exact ⟨none, 0, rfl, Nat.le_refl _, by omega, Mine.nil_ _ _ _, X2⟩
    · rw [hip] at HIP
      cases hit : inB t 1 20
      · rw [hit] at HIT
        have HR := Lib.hid (show weakV n P m L p t = [] by rw [HV.out, hip, hit]; rfl)
        clear hw hip hit
        go_enter Try.func31, Try.ntmps31
        go_wp2_with fail
        refine (HIsWhole.out _ (by repeat (first | exact Ext.refl _ | apply Ext.alloc))).mono ?_
        rintro e w1 ⟨rfl, x1⟩
        replace q0 := x1.cell q0
        replace q1 := x1.cell q1
        have X1 : Ext w w1 := Ext.trans (by repeat (first | exact Ext.refl _ | apply Ext.alloc)) x1
        go_wp2_with fail
        refine (HIP.out _).mono ?_
        rintro e w2 ⟨rfl, x2⟩
        go_wp2_with fail
        refine (HIT.out _).mono ?_
        rintro e w3 ⟨rfl, x3⟩
        have X3 := (X1.trans x2).trans x3
        go_wp2
        go_ret
        rw [HR.out]
        exact ⟨none, 0, rfl, Nat.le_refl _, by omega, Mine.nil_ _ _ _, X3⟩
      · rw [hit] at HIT
        have hbp := inB_of hip
        have hbt := inB_of hit
        have HR := Lib.hid (show weakV n P m L p t = pick (facesV n P m L).length (weakP n P m L p t) by rw [HV.out, hip, hit]; rfl)
        have HWS := Lib.hid (fun k (hk : k < (facesV n P m L).length) => weak_same hw hbp hbt hk)
        clear hw hip hit HV
        generalize facesV n P m L = R at *
        generalize outerV n P m L = o at *
        generalize (fun k : Nat => bearB (loadV n P m L (k : Int) p) t) = bl at *
        generalize weakP n P m L p t = wk at *
        go_enter Try.func31, Try.ntmps31
        go_wp2_with fail
        refine (HIsWhole.out _ (by repeat (first | exact Ext.refl _ | apply Ext.alloc))).mono ?_
        rintro e w1 ⟨rfl, x1⟩
        replace q0 := x1.cell q0
        replace q1 := x1.cell q1
        have X1 : Ext w w1 := Ext.trans (by repeat (first | exact Ext.refl _ | apply Ext.alloc)) x1
        go_wp2_with fail
        refine (HIP.out _).mono ?_
        rintro e w2 ⟨rfl, x2⟩
        replace q0 := x2.cell q0
        replace q1 := x2.cell q1
        have X2 := X1.trans x2
        go_wp2_with fail
        refine (HIT.out _).mono ?_
        rintro e w3 ⟨rfl, x3⟩
        replace q0 := x3.cell q0
        replace q1 := x3.cell q1
        have X3 := X2.trans x3
        go_wp2_with fail
        refine (HFO.out _ X3).mono ?_
        rintro e w4 ⟨AF, cF, rfl, iF, jF, hF, x4⟩
        replace q0 := x4.cell q0
        replace q1 := x4.cell q1
        have X4 : Ext w w4 := Ext.trans X3 x4
        have Q0 := Lib.hid q0
        have Q1 := Lib.hid q1
        have bs4 := X4.size
        have hm0 : Mine w4.heap.size w4 3 (.slice none 0 0) 0 [] := Mine.nil_ _ _ _
        clear q0 q1 x1 x2 x3 x4 hF HFO X1 X2 X3
        go_wp2
        go_loopw [7, 25] (fun v i wr => ∃ k : Nat, k ≤ R.length ∧ i = .int .i64 k ∧ Ext w4 wr ∧ Mine w4.heap.size wr 3 v (pick k wk).length (pick k wk)) (fun _ i _ => R.length - (intOf i).toNat)
        case atStart => exact ⟨0, Nat.zero_le _, rfl, Ext.refl _, hm0⟩
        case round =>
          clear hm0
          obtain ⟨k, hk, rfl, X, hm⟩ := hrel
          have q0 := X.cell Q0.out
          have q1 := X.cell Q1.out
          have XW := X4.trans X
          have hpl := pick_len k wk
          have hbs := X.size
          by_cases hlt : k < R.length
          · have k1 : (0 : Int) ≤ (k : Int) := by omega
            have k2 : (k : Int) < (R.length : Int) := by omega
            have HBk := Lib.hid (fun W Z => HBL.out W Z k (by omega))
            have hws := HWS.out k hlt
            by_cases e : (k : Int) = o
            · have HP := Lib.hid (pick_no (p := wk) (n := k) (by rw [hws, decide_eq_true e]; rfl))
              have d1 : ((k : Int) != o) = false := by simp [e]
              clear hws e
              go_wp2_with fail
              refine (HOuterFace.out _ XW).mono ?_
              rintro e w5 ⟨rfl, x5⟩
              have X5 := X.trans x5
              replace hm := hm.ext x5
              go_wp2
              go_roundw
              case rel => exact ⟨k + 1, by omega, by go_num, X5, by rw [HP.out]; exact hm⟩
              case measure => simp [intOf]; omega
            · have d1 : ((k : Int) != o) = true := by simp [e]
              rw [decide_eq_false e] at hws
              cases hb : bearB (loadV n P m L (k : Int) p) t
              · rw [hb] at HBk hws
                have HP := Lib.hid (pick_yes (p := wk) (n := k) (by rw [hws]; rfl))
                clear hws e hb
                go_wp2_with fail
                refine (HOuterFace.out _ XW).mono ?_
                rintro e w5 ⟨rfl, x5⟩
                replace q0 := x5.cell q0
                replace q1 := x5.cell q1
                go_wp2_with fail
                refine (HBk.out _ (XW.trans x5)).mono ?_
                rintro e w6 ⟨rfl, x6⟩
                have he := (X.trans x5).trans x6
                replace hm := (hm.ext x5).ext x6
                clear x5 x6 X XW q0 q1
                go_wp2_with (at_builtin; refine append_int _ rfl _ _ rfl w4.heap.size _ _ _ rfl (hm.alloc _) (k : Int) _ rfl (cell_new1 (by simp)) (by unfold I64; omega) (by omega) (by rw [World.size_alloc]; have := he.size; omega) ?_; intro v2 w2 hm2 hg2; have he2 := (hm.alloc (.cells #[.int .i64 (k : Int)] 3)).fresh (he.alloc (.cells #[.int .i64 (k : Int)] 3)) (Nat.le_refl _) hg2 rfl)
                go_roundw
                case rel => exact ⟨k + 1, by omega, by go_num, he2, by rw [HP.out, List.length_append]; exact hm2⟩
                case measure => simp [intOf]; omega
              · rw [hb] at HBk hws
                have HP := Lib.hid (pick_no (p := wk) (n := k) (by rw [hws]; rfl))
                clear hws e hb
                go_wp2_with fail
                refine (HOuterFace.out _ XW).mono ?_
                rintro e w5 ⟨rfl, x5⟩
                replace q0 := x5.cell q0
                replace q1 := x5.cell q1
                go_wp2_with fail
                refine (HBk.out _ (XW.trans x5)).mono ?_
                rintro e w6 ⟨rfl, x6⟩
                have X6 := (X.trans x5).trans x6
                replace hm := (hm.ext x5).ext x6
                go_wp2
                go_roundw
                case rel => exact ⟨k + 1, by omega, by go_num, X6, by rw [HP.out]; exact hm⟩
                case measure => simp [intOf]; omega
          · obtain rfl : k = R.length := by omega
            obtain ⟨A', c', rfl, hc1, hc2⟩ := hm.form
            go_wp2
            go_ret
            rw [HR.out]
            exact ⟨A', c', rfl, hc1, hc2, hm.more (by omega), XW⟩

end Go.Proofs.Ytgmhmlhdiklaaaa
