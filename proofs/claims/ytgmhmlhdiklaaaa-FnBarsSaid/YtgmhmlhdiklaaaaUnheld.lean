/-
  Contracts of the leads that no bar holds. No conditions.
-/
import Derived.Test.YtgmhmlhdiklaaaaBarZ
namespace Go.Proofs.Ytgmhmlhdiklaaaa
open Go.RowKit
set_option linter.unusedVariables false

def unhB (n : Nat) (P : Nat → Nat → Int) (m : Nat) (L : Nat → Nat → Int) (nb : Nat) (f : Nat → Nat → Int) (k : Nat) : Bool := decide (crsV n P m L k nb f = 0)
def unhV (n : Nat) (P : Nat → Nat → Int) (m : Nat) (L : Nat → Nat → Int) (nb : Nat) (f : Nat → Nat → Int) : List Int := pick m (unhB n P m L nb f)

set_option maxRecDepth 100000 in
set_option maxHeartbeats 8000000 in
theorem impl_UnheldLeads (A : Option Addr) (n c : Nat) (P : Nat → Nat → Int) (B : Option Addr) (m d : Nat) (L : Nat → Nat → Int) (hnc : n ≤ c) (hcm : c ≤ 9223372036854775807) (hmd : m ≤ d) (hdm : d ≤ 9223372036854775807) (Ab : Option Addr) (nb cb : Nat) (f : Nat → Nat → Int) (hnb : nb ≤ cb) (hcb : cb ≤ 9223372036854775807) (hm : m ≤ 1048576) (w : World) (hr : Recs w 2 A n P) (hs : Recs w 2 B m L) (hb : Recs w 1 Ab nb f) :
    Calls Try.prog 14 #[.agg #[.slice A n c, .slice B m d], .slice Ab nb cb] w (PostI w 3 (unhV n P m L nb f).length (unhV n P m L nb f)) := by
  have hm0 := Mine.nil_ (w.heap.size + 1) (w.alloc (.cells #[.slice A n c, .slice B m d] 27)) 3
  have hq0 : (w.alloc (.cells #[.slice A n c, .slice B m d] 27)).cell? ⟨w.heap.size, 0, none⟩ = some (.slice A n c) := by simp [go_sem]
  have hq1 : (w.alloc (.cells #[.slice A n c, .slice B m d] 27)).cell? ⟨w.heap.size, 1, none⟩ = some (.slice B m d) := by simp [go_sem]
  have Q0 := Lib.hid hq0
  have Q1 := Lib.hid hq1
  clear hq0 hq1
  have HC := Lib.hid (fun y W (X : Ext w W) => impl_CrossedBy A n c P B m d L hnc hcm hmd hdm y Ab nb cb f hnb hcb W (hr.ext X) (hs.ext X) (hb.ext X))
  go_enter Try.func14, Try.ntmps14
  go_wp2
  go_loopw [5, 10] (fun v i wr => ∃ k : Nat, k ≤ m ∧ i = .int .i64 k ∧ Ext (w.alloc (.cells #[.slice A n c, .slice B m d] 27)) wr ∧ Mine (w.heap.size + 1) wr 3 v (pick k (unhB n P m L nb f)).length (pick k (unhB n P m L nb f))) (fun _ i _ => m - (intOf i).toNat)
  case atStart => exact ⟨0, Nat.zero_le _, rfl, (by repeat (first | exact Ext.refl _ | exact Ext.gr _ _ | apply Ext.wgr | apply Ext.drew | apply Ext.drewN | apply Ext.alloc)), hm0⟩
  case round =>
    clear hm0
    obtain ⟨k, hk, rfl, Y, hm2⟩ := hrel
    have hpl := pick_len k (unhB n P m L nb f)
    have q0 := Y.cell Q0.out
    have q1 := Y.cell Q1.out
    have X := ((Ext.refl w).alloc _).trans Y
    by_cases hlt : k < m
    · obtain ⟨v0, hv0⟩ : ∃ v0, v0 = crsV n P m L k nb f := ⟨_, rfl⟩
      have HCK : Hid (∀ W, Ext w W → Calls Try.prog 15 #[.agg #[.slice A n c, .slice B m d], .int .i64 (k : Int), .slice Ab nb cb] W fun e w' => e = .returned (.int .i64 v0) ∧ Ext W w') := Lib.hid (fun W Z => by rw [hv0]; exact HC.out k W Z)
      by_cases hz : v0 = 0
      · have HP := Lib.hid (pick_yes (n := k) (p := unhB n P m L nb f) (by unfold unhB; rw [← hv0]; simpa using hz))
        clear hv0
        go_wp2_with fail
        refine (HCK.out _ X).mono ?_
        rintro e w3 ⟨rfl, x3⟩
        have Y3 := Y.trans x3
        have X3 := X.trans x3
        have hm3 := hm2.ext x3
        clear hm2 Y X
        go_wp2_with (at_builtin; refine append_int _ rfl _ _ rfl (w.heap.size + 1) _ _ _ rfl (hm3.alloc _) (k : Int) _ rfl (cell_new1 (by simp)) (by unfold I64; omega) (by omega) (by rw [World.size_alloc]; have := Y3.size; rw [World.size_alloc] at this; omega) ?_; intro v2 w2 hm4 hg2; have he2 := (hm3.alloc (.cells #[.int .i64 (k : Int)] 3)).fresh (Y3.alloc (.cells #[.int .i64 (k : Int)] 3)) (by rw [World.size_alloc]; exact Nat.le_refl _) hg2 rfl)
        go_roundw
        case rel =>
          refine ⟨k + 1, by omega, by go_num, he2, ?_⟩
          rw [HP.out]
          simpa using hm4
        case measure => simp [intOf]; omega
      · have HP := Lib.hid (pick_no (n := k) (p := unhB n P m L nb f) (by unfold unhB; rw [← hv0]; simpa using hz))
        clear hv0
        go_wp2_with fail
        refine (HCK.out _ X).mono ?_
        rintro e w3 ⟨rfl, x3⟩
        go_wp2
        go_roundw
        case rel => exact ⟨k + 1, by omega, by go_num, Y.trans x3, by rw [HP.out]; exact hm2.ext x3⟩
        case measure => simp [intOf]; omega
    · obtain rfl : k = m := by omega
      obtain ⟨A', c', rfl, hc1, hc2⟩ := hm2.form
      go_wp2
      go_ret
      exact ⟨A', c', rfl, hc1, hc2, hm2.more (by omega), X⟩

end Go.Proofs.Ytgmhmlhdiklaaaa
