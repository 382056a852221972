/-
  Are the panes packed, on the program's side. No conditions.
-/
import Derived.Deep.DeepCutAuto
import Derived.Deep.CutRange
import Derived.Deep.DrawnRows
import Derived.RowKit3
import Derived.Test.YthnngekibkcgdaaPkV
import Derived.Test.YthnngekibkcgdaaCrS
import Derived.Test.YthnngekibkcgdaaKitR
namespace Go.Proofs.Ythnngekibkcgdaa
open Go.RowKit
set_option linter.unusedVariables false

attribute [local go_sem ↓] Go.wp_at_zero Go.wp_at_succ
attribute [local go_sem, local simp] Go.World.cell?_alloc_some Go.World.frozen?_alloc_past
set_option maxRecDepth 100000 in
set_option maxHeartbeats 4000000 in
theorem impl_ArePacked (A : Option Addr) (n c : Nat) (f : Nat → Nat → Int) (A2 : Option Addr) (N c2 : Nat) (l : Nat → List Int) (z : Nat → Int) (hn : n ≤ 1048576) (hN : N ≤ 1048576) (hl : ∀ k, (l k).length ≤ 1048576) (w : World) (hr : Recs w 1 A n f) (hs : Crs w A2 N l z) :
    Calls Try.prog 19 #[.slice A n c, .slice A2 N c2] w fun e w' => e = .returned (.bool (pkB n f N l z)) ∧ Ext w w' := by
  have HL := Lib.hid hl
  have HLEN := Lib.hid (fun k a (h : allS n f l z k = some a) => allS_len hl h)
  clear hl
  have HOK := Lib.hid (fun k (B : Option Addr) (d : Nat) W (Z : Ext w W) (hrow : Recs W 1 B (l k).length (fun i _ => ix (l k) i)) => impl_CrateOk A n c f B (l k).length d (fun i _ => ix (l k) i) (z k) hn (HL.out k) W (hr.ext Z) hrow)
  clear hr
  go_enter Try.func19, Try.ntmps19
  go_wp2_with (obtain ⟨i0, hi, hz0, hz1, hz2⟩ := info_parts bool_infoK; refine wpList_make_full _ rfl _ _ 60 rfl w.heap.size 4 i0 (Value.bool false) 1 Try.underlying60 hi hz0 hz1 .i64 .i64 n n n rfl rfl rfl rfl (by rw [hz2]; omega) (by simp only [maxLen]; omega) (Nat.le_refl _) ?_; intro w1 hown hg1; clear hi hz0 hz1 hz2; rw [madeBoolsK n] at hown)
  have X1 : Ext w w1 := (Ext.refl w).grown hg1 (by simp)
  have hb1 : MineB w.heap.size w1 4 (.slice (some ⟨w.heap.size, 0, none⟩) n n) n (fun i => decide ((i : Int) ∈ ([] : List Int))) := by
    show w1.ownsRow w.heap.size 4 1 _ n _
    simpa using hown
  clear hown hg1
  go_wp2
  go_loopw [6, 16] (fun t i wr => ∃ (k : Nat) (a : List Int), k ≤ N ∧ i = .int .i64 k ∧ allS n f l z k = some a ∧ t = .int .i64 (a.length : Nat) ∧ MineB w.heap.size wr 4 (.slice (some ⟨w.heap.size, 0, none⟩) n n) n (fun i => decide ((i : Int) ∈ a)) ∧ Ext w wr) (fun _ i _ => N - (intOf i).toNat)
  case atStart => exact ⟨0, [], Nat.zero_le _, rfl, rfl, rfl, hb1, X1⟩
  case round =>
    clear hb1 X1
    obtain ⟨k, a, hk, rfl, hall, rfl, hb, X⟩ := hrel
    have HALL := Lib.hid hall
    have hal := HLEN.out k a hall
    clear hall
    by_cases hlt : k < N
    · obtain ⟨bc, oc, B, d, rfl, hbc, c0w, c1w, i1, i2, hrow0⟩ := hs.at_ hlt
      have c0 := X.cell c0w
      have c1 := X.cell c1w
      have hrow := hrow0.ext X
      have hlk := HL.out k
      cases hok : crOk n f (l k).length (fun i _ => ix (l k) i) (z k)
      · have HF := Lib.hid (pkB_no (allS_no hok) (by omega : k + 1 ≤ N))
        have HC := Lib.hid (HOK.out k B d)
        rw [hok] at HC
        clear hok
        go_wp2_with fail
        refine (HC.out _ (X.alloc (.cells #[.slice B (l k).length d, .int .i64 (z k)] 44)) (hrow.ext ((Ext.refl _).alloc _))).mono ?_
        rintro e w2 ⟨rfl, x2⟩
        have X2 := (X.alloc (.cells #[.slice B (l k).length d, .int .i64 (z k)] 44)).trans x2
        go_wp2
        go_ret
        exact ⟨(show Ending.returned (Value.bool false) = _ from by rw [HF.out]), X2⟩
      · have HC := Lib.hid (HOK.out k B d)
        rw [hok] at HC
        have HP := Lib.hid (fun i (hi : i < (l k).length) => (show 0 ≤ ix (l k) i ∧ ix (l k) i ≤ (n : Int) - 1 from crOk_pane hok hi))
        have HY := Lib.hid (allS_yes HALL.out hok)
        clear hok
        go_wp2_with fail
        refine (HC.out _ (X.alloc (.cells #[.slice B (l k).length d, .int .i64 (z k)] 44)) (hrow.ext ((Ext.refl _).alloc _))).mono ?_
        rintro e w2 ⟨rfl, x2⟩
        have X2 := (X.alloc (.cells #[.slice B (l k).length d, .int .i64 (z k)] 44)).trans x2
        have hb2 := (hb.ext ((Ext.refl _).alloc _)).ext x2
        have q0 : w2.cell? ⟨wr.heap.size, 0, none⟩ = some (.slice B (l k).length d) := x2.cell (by simp [go_sem])
        clear hb X x2 hrow c0 c1
        go_wp2
        go_loopw [6, 27] (fun t i wr2 => ∃ (j : Nat) (a2 : List Int), j ≤ (l k).length ∧ i = .int .i64 j ∧ rowS a (l k) j = some a2 ∧ t = .int .i64 (a2.length : Nat) ∧ MineB w.heap.size wr2 4 (.slice (some ⟨w.heap.size, 0, none⟩) n n) n (fun i => decide ((i : Int) ∈ a2)) ∧ Ext w wr2) (fun _ i _ => (l k).length - (intOf i).toNat)
        case atStart => exact ⟨0, a, Nat.zero_le _, rfl, rfl, rfl, hb2, X2⟩
        case round =>
          clear hb2 X2 q0
          obtain ⟨j, a2, hj, rfl, hrs, rfl, hb, X⟩ := hrel
          have HRS := Lib.hid hrs
          have hal2 := rowS_len hrs
          clear hrs
          have hrj := hrow0.ext X
          skip
          by_cases hjl : j < (l k).length
          · have hp := HP.out j hjl
            obtain ⟨b3, o3, rfl, hb3, hc3⟩ := hrj.at1 hjl
            obtain ⟨v, hv⟩ : ∃ v, v = ix (l k) j := ⟨_, rfl⟩
            rw [← hv] at hp
            rw [show ix (l k) j = v from hv.symm] at hc3
            obtain ⟨q, hq⟩ : ∃ q : Nat, v = (q : Int) := ⟨v.toNat, by omega⟩
            have hqn : q < n := by omega
            obtain ⟨hcb, hfb, _, _⟩ := hb.at_ hqn
            rw [hq] at hc3
            have hq0 : (0 : Int) ≤ (q : Int) := by omega
            have hqn2 : ((q : Nat) : Int) < (n : Int) := by omega
            by_cases hin : ((q : Nat) : Int) ∈ a2
            · have HN := Lib.hid (rowS_yes HRS.out (by rw [← hv, hq]; exact hin))
              have hde : decide (((q : Nat) : Int) ∈ a2) = true := by simpa using hin
              rw [hde] at hcb
              have HF := Lib.hid (pkB_no (by rw [HY.out]; exact rowS_none HN.out _ (by omega)) (by omega : k + 1 ≤ N))
              clear hin hde
              go_wp2
              go_ret
              exact ⟨(show Ending.returned (Value.bool false) = _ from by rw [HF.out]), X⟩
            · have HN := Lib.hid (rowS_no HRS.out (by rw [← hv, hq]; exact hin))
              have hde : decide (((q : Nat) : Int) ∈ a2) = false := by simpa using hin
              rw [hde] at hcb
              have hst := hb.stored (k := q) true
              have HS1 : Hid (MineB w.heap.size (wr.setCell ⟨w.heap.size, q, none⟩ (.bool true)) 4 (.slice (some ⟨w.heap.size, 0, none⟩) n n) n (fun i => decide ((i : Int) ∈ a2 ++ [ix (l k) j]))) := Lib.hid (by
                have := hst.1
                rw [← hv, hq]
                have e : (fun i => if i = q then true else decide (((i : Nat) : Int) ∈ a2)) = fun i => decide (((i : Nat) : Int) ∈ a2 ++ [((q : Nat) : Int)]) := by
                  funext i
                  by_cases e : i = q
                  · subst e; simp
                  · rw [if_neg e]
                    have : ¬ ((i : Nat) : Int) = (q : Int) := by omega
                    simp [this]
                rwa [e] at this)
              clear hst hin hde
              go_wp2
              go_roundw
              case rel => exact ⟨j + 1, _, by omega, by go_num, HN.out, by simp; omega, HS1.out, X.setCell (Nat.le_refl _) _⟩
              case measure => simp [intOf]; omega
          · obtain rfl : j = (l k).length := by omega
            rw [← HY.out] at HRS
            go_wp2
            go_roundw
            case rel => exact ⟨k + 1, a2, by omega, by go_num, HRS.out, rfl, hb, X⟩
            case measure => simp [intOf]; omega
    · obtain rfl : k = N := by omega
      have HF := Lib.hid (pkB_yes HALL.out)
      by_cases he : a.length = n
      · have hbe : (((a.length : Nat) : Int) == ((n : Nat) : Int)) = true := by simp [he]
        have HT := Lib.hid (show pkB n f k l z = true by rw [HF.out]; simpa using he)
        clear he
        go_wp2
        go_ret
        exact ⟨(show Ending.returned (Value.bool true) = _ from by rw [HT.out]), X⟩
      · have hbe : (((a.length : Nat) : Int) == ((n : Nat) : Int)) = false := by simp; omega
        have HT := Lib.hid (show pkB n f k l z = false by rw [HF.out]; simpa using he)
        clear he
        go_wp2
        go_ret
        exact ⟨(show Ending.returned (Value.bool false) = _ from by rw [HT.out]), X⟩

end Go.Proofs.Ythnngekibkcgdaa
