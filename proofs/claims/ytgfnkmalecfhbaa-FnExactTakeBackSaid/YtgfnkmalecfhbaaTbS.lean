/-
  The taking back of a deposit, on the reference's side. No conditions.
-/
import Derived.Deep.DeepCutAuto
import Derived.Deep.CutRange
import Derived.Deep.DrawnRows
import Derived.RowKit3
import Derived.Test.YtgfnkmalecfhbaaTbP
import Derived.Test.YtgfnkmalecfhbaaAddV
namespace Go.Proofs.Ytgfnkmalecfhbaa
open Go.RowKit
set_option linter.unusedVariables false

attribute [local go_sem ↓] Go.wp_at_zero Go.wp_at_succ
attribute [local go_sem, local simp] Go.World.cell?_alloc_some Go.World.frozen?_alloc_past

set_option maxRecDepth 100000 in
set_option maxHeartbeats 4000000 in
theorem spec_TakeBack (A : Option Addr) (n c : Nat) (f : Nat → Nat → Int) (hnc : n ≤ c) (hcm : c ≤ 9223372036854775807) (hA : A = none → n = 0 ∧ c = 0) (hn : n ≤ 1048576) (p : Int) (w : World) (hr : Recs w 3 A n f) :
    Calls Try.prog 18 #[.slice A n c, .int .i64 p] w (PostSB w (tbN n f p) (tbL n f p) (tbB n f p)) := by
  have HDO := Lib.hid (fun W (Z : Ext w W) => spec_DepositsOk A n c f hnc hcm W (hr.ext Z))
  have HSP := Lib.hid (tb_spec n f p)
  have HRR := Lib.hid hr
  have HYES := Lib.hid (fun j (e : f j 0 = p) => (show keepL f p (j + 1) = keepL f p j ∧ keepN f p (j + 1) = keepN f p j from ⟨by rw [keepL, if_pos e], by rw [keepN, if_pos e]⟩))
  have HNO := Lib.hid (fun j (e : ¬ f j 0 = p) => (show keepL f p (j + 1) = keepL f p j ++ [f j 0, f j 1, f j 2] ∧ keepN f p (j + 1) = keepN f p j + 1 from ⟨by rw [keepL, if_neg e], by rw [keepN, if_neg e]⟩))
  go_enter Try.func18, Try.ntmps18
  go_wp2
  go_loopw [6, 7] (fun s i wr => ∃ (j : Nat) (A6 : Option Addr) (c6 : Nat), j ≤ n ∧ i = .int .i64 j ∧ s = .slice A6 (keepN f p j) c6 ∧ keepN f p j ≤ c6 ∧ c6 ≤ 9223372036854775807 ∧ keepN f p j ≤ j ∧ MineS w.heap.size wr 30 3 (.slice A6 (keepN f p j) c6) (keepN f p j) (keepL f p j) ∧ Ext w wr) (fun _ i _ => n - (intOf i).toNat)
  case atStart => exact ⟨0, _, 0, Nat.zero_le _, rfl, rfl, Nat.le_refl _, by omega, Nat.le_refl _, litS w, (Ext.refl w).alloc _⟩
  case round =>
    obtain ⟨j, A6, c6, hj, rfl, rfl, i6, j6, hkj, hm, X⟩ := hrel
    by_cases hlt : j < n
    · obtain ⟨b, o, rfl, hb, h0, h1, h2⟩ := (hr.ext X).at3 hlt
      by_cases e : f j 0 = p
      · have HY := Lib.hid (HYES.out j e)
        have hbe : (f j 0 != p) = false := by simpa using e
        clear e
        go_wp2
        go_roundw
        case rel => exact ⟨j + 1, A6, c6, by omega, by go_num, by rw [HY.out.2], by rw [HY.out.2]; exact i6, j6, by rw [HY.out.2]; omega, by rw [HY.out.1, HY.out.2]; exact hm, X⟩
        case measure => simp [intOf]; omega
      · have HY := Lib.hid (HNO.out j e)
        have hbe : (f j 0 != p) = true := by simpa using e
        clear e
        have hh := hr.2
        go_wp2_with (at_builtin; refine append_dep _ rfl _ _ rfl w.heap.size _ _ _ rfl (hm.alloc _) (f j 0) (f j 1) (f j 2) _ rfl (by simp [go_sem]) (by simp [go_sem]) (by simp [go_sem]) (hh j 0) (hh j 1) (hh j 2) (by omega) (by rw [World.size_alloc]; have := X.size; omega) ?_; intro v2 w2 hm2 hg2; have X2 : Ext w w2 := (hm.alloc _).fresh (X.alloc _) (Nat.le_refl _) hg2 rfl)
        obtain ⟨A2, c2, rfl, i2, j2⟩ := hm2.form
        go_wp2
        go_roundw
        case rel => exact ⟨j + 1, A2, c2, by omega, by go_num, by rw [HY.out.2], by rw [HY.out.2]; exact i2, j2, by rw [HY.out.2]; omega, by rw [HY.out.1, HY.out.2]; exact hm2, X2⟩
        case measure => simp [intOf]; omega
    · obtain rfl : j = n := by omega
      have HSB := Lib.hid HSP.out.1
      have HST := Lib.hid HSP.out.2
      have HTN := Lib.hid (show tbN j f p = if tbB j f p = true then j - 1 else j from rfl)
      have HTL := Lib.hid (show tbL j f p = if tbB j f p = true then cutD (tbX j f p).toNat (flat 3 j f) else flat 3 j f from rfl)
      generalize tbB j f p = tb at *
      generalize tbN j f p = tn at *
      generalize tbL j f p = tl at *
      cases hd : depB j f
      · rw [hd] at HDO HSB
        have HB := Lib.hid (show tb = false by rw [HSB.out]; rfl)
        have HN := Lib.hid (show tn = j by rw [HTN.out, HB.out]; rfl)
        have HL := Lib.hid (show tl = flat 3 j f by rw [HTL.out, HB.out]; rfl)
        clear hd
        go_wp2_with fail
        refine (HDO.out _ X).mono ?_
        rintro e w5 ⟨rfl, x5⟩
        have X5 := X.trans x5
        go_wp2_with (at_builtin; refine append_deps _ rfl _ _ rfl w5.heap.size _ rfl ((litS _).more (Nat.le_refl _)) A j c f rfl (HRR.out.ext (X5.alloc _)) hA (by omega) (by rw [World.size_alloc]; omega) ?_; intro v8 w8 hm8 hg8; have X8 : Ext w w8 := ((litS _).more (Nat.le_refl _)).fresh (X5.alloc _) X5.size hg8 rfl)
        obtain ⟨A8, c8, rfl, i8, j8⟩ := hm8.form
        have hs8 := X5.size
        go_wp2
        go_ret2
        rw [HB.out, HN.out, HL.out]
        exact ⟨A8, c8, rfl, i8, j8, hm8.more hs8, X8⟩
      · rw [hd] at HDO HSB
        by_cases hk : keepN f p j = j
        · have HB := Lib.hid (show tb = false by rw [HSB.out, hk]; simp)
          have HN := Lib.hid (show tn = j by rw [HTN.out, HB.out]; rfl)
          have HL := Lib.hid (show tl = flat 3 j f by rw [HTL.out, HB.out]; rfl)
          rw [hk] at hm i6
          rw [hk]
          clear hd hk hkj
          go_wp2_with fail
          refine (HDO.out _ X).mono ?_
          rintro e w5 ⟨rfl, x5⟩
          have X5 := X.trans x5
          go_wp2_with (at_builtin; refine append_deps _ rfl _ _ rfl w5.heap.size _ rfl ((litS _).more (Nat.le_refl _)) A j c f rfl (HRR.out.ext (X5.alloc _)) hA (by omega) (by rw [World.size_alloc]; omega) ?_; intro v8 w8 hm8 hg8; have X8 : Ext w w8 := ((litS _).more (Nat.le_refl _)).fresh (X5.alloc _) X5.size hg8 rfl)
          obtain ⟨A8, c8, rfl, i8, j8⟩ := hm8.form
          have hs8 := X5.size
          go_wp2
          go_ret2
          rw [HB.out, HN.out, HL.out]
          exact ⟨A8, c8, rfl, i8, j8, hm8.more hs8, X8⟩
        · have HB := Lib.hid (show tb = true by rw [HSB.out]; simp [hk])
          have HN := Lib.hid (show tn = keepN f p j from (HST.out HB.out).2)
          have HL := Lib.hid (show tl = keepL f p j from (HST.out HB.out).1)
          have hkk : ¬ ((keepN f p j : Nat) : Int) = ((j : Nat) : Int) := by omega
          have hkb : (((keepN f p j : Nat) : Int) == ((j : Nat) : Int)) = false := by simpa using hkk
          clear hd hk hkk
          go_wp2_with fail
          refine (HDO.out _ X).mono ?_
          rintro e w5 ⟨rfl, x5⟩
          have X5 := X.trans x5
          replace hm := hm.ext x5
          go_wp2
          go_ret2
          rw [HB.out, HN.out, HL.out]
          exact ⟨A6, c6, rfl, i6, j6, hm, X5⟩

end Go.Proofs.Ytgfnkmalecfhbaa
