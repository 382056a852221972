/-
  Contracts of the fewest bars. No conditions.
-/
import Derived.Test.YtgmhmlhdiklaaaaBarY
import Derived.Test.YtgmhmlhdiklaaaaFdx
import Derived.Test.YtgmhmlhdiklaaaaInts
namespace Go.Proofs.Ytgmhmlhdiklaaaa
open Go.RowKit
set_option linter.unusedVariables false

/-- How many bars at the distance p from lo on leave no gap above p below hi. -/
def fewN (lo hi p : Int) : Nat := (fdx (fun k => !decide (p < hi - (lo + p * k))) 25).toNat
theorem fewN_at {lo hi p : Int} {k : Nat} (hk : k < 25) (h1 : ¬ p < hi - (lo + p * k)) (h2 : ∀ j : Nat, j < k → p < hi - (lo + p * j)) : fewN lo hi p = k := by
  unfold fewN
  rw [fdx_at (j := k) hk (by simpa using h1) (fun i hi => by simpa using h2 i hi)]
  rfl
def fewT (lo p : Int) (k : Nat) : List Int := tab k fun i => lo + p * ((i : Int) + 1)
theorem fewT_snoc (lo p : Int) (k : Nat) : fewT lo p (k + 1) = fewT lo p k ++ [lo + p * ((k : Int) + 1)] := by simp [fewT, tab, List.range_succ]
theorem fewT_len (lo p : Int) (k : Nat) : (fewT lo p k).length = k := tab_len _ _
/-- The list, if it may be one of bars. -/
def fewB (l : List Int) : List Int := if barsB l.length (fun i _ => ix l i) = true then l else []
def fewV (n : Nat) (P : Nat → Nat → Int) (m : Nat) (L : Nat → Nat → Int) (p : Int) : List Int :=
  if (winB n P m L && inB p 1 20) = true then fewB (fewT (loF P n) p (fewN (loF P n) (hiF P n) p)) else []
section
variable {n m : Nat} {P L : Nat → Nat → Int} {p : Int}
theorem fewV_no (h : (winB n P m L && inB p 1 20) = false) : fewV n P m L p = [] := if_neg (by rw [h]; simp)
theorem fewV_yes (h : (winB n P m L && inB p 1 20) = true) : fewV n P m L p = fewB (fewT (loF P n) p (fewN (loF P n) (hiF P n) p)) := if_pos h
theorem fewB_no {l : List Int} (h : barsB l.length (fun i _ => ix l i) = false) : fewB l = [] := if_neg (by rw [h]; simp)
theorem fewB_yes {l : List Int} (h : barsB l.length (fun i _ => ix l i) = true) : fewB l = l := if_pos h
theorem fewB_le (l : List Int) : (fewB l).length ≤ 10 := by
  unfold fewB
  split
  · rename_i h
    unfold barsB at h
    rw [Bool.and_eq_true] at h
    simpa using h.1
  · simp
theorem fewV_le (n : Nat) (P : Nat → Nat → Int) (m : Nat) (L : Nat → Nat → Int) (p : Int) : (fewV n P m L p).length ≤ 1048576 := by
  unfold fewV
  split
  · have := fewB_le (fewT (loF P n) p (fewN (loF P n) (hiF P n) p)); omega
  · simp
end
theorem PostI.nil {w w' : World} {E : TypeId} {zs : List Int} (h : zs = []) (X : Ext w w') : PostI w E zs.length zs (.returned (.slice none 0 0)) w' := by
  subst h; exact ⟨none, 0, rfl, Nat.le_refl _, by omega, Mine.nil_ _ _ _, X⟩
theorem PostI.own {w w' : World} {E : TypeId} {zs ys : List Int} {A : Option Addr} {k c : Nat} (h : zs = ys) (hm : Mine w.heap.size w' E (.slice A k c) k ys) (X : Ext w w') : PostI w E zs.length zs (.returned (.slice A k c)) w' := by
  subst h
  have hl := hm.1
  obtain ⟨A', c', e, h1, h2⟩ := hm.form
  injection e with e1 _ e3
  subst e1 e3 hl
  exact ⟨_, _, rfl, h1, h2, hm, X⟩

set_option maxRecDepth 100000 in
set_option maxHeartbeats 8000000 in
theorem impl_FewestBars (A : Option Addr) (n c : Nat) (P : Nat → Nat → Int) (B : Option Addr) (m d : Nat) (L : Nat → Nat → Int) (hnc : n ≤ c) (hcm : c ≤ 9223372036854775807) (hmd : m ≤ d) (hdm : d ≤ 9223372036854775807) (p : Int) (w : World) (hr : Recs w 2 A n P) (hs : Recs w 2 B m L) :
    Calls Try.prog 11 #[.agg #[.slice A n c, .slice B m d], .int .i64 p] w (PostI w 3 (fewV n P m L p).length (fewV n P m L p)) := by
  have HI := Lib.hid (fun W => within_any p 1 20 W)
  cases hw : winB n P m L
  case false =>
    have HR := Lib.hid (fewV_no (p := p) (show (winB n P m L && inB p 1 20) = false by rw [hw]; rfl))
    have HW : Hid (∀ W, Ext w W → Calls Try.prog 49 #[.agg #[.slice A n c, .slice B m d]] W fun e w' => e = .returned (.bool false) ∧ Ext W w') := Lib.hid (fun W X => by have q := impl_WindowOk A n c P B m d L hnc hcm hmd hdm W (hr.ext X) (hs.ext X); rwa [hw] at q)
    clear hw
    go_enter Try.func11, Try.ntmps11
    go_wp2_with fail
    refine (HW.out _ ((Ext.refl _).alloc _)).mono ?_
    rintro e w2 ⟨rfl, x2⟩
    go_wp2
    go_ret
    exact PostI.nil HR.out (((Ext.refl w).alloc _).trans x2)
  case true =>
    have HW : Hid (∀ W, Ext w W → Calls Try.prog 49 #[.agg #[.slice A n c, .slice B m d]] W fun e w' => e = .returned (.bool true) ∧ Ext W w') := Lib.hid (fun W X => by have q := impl_WindowOk A n c P B m d L hnc hcm hmd hdm W (hr.ext X) (hs.ext X); rwa [hw] at q)
    cases hp : inB p 1 20
    · have HR := Lib.hid (fewV_no (show (winB n P m L && inB p 1 20) = false by rw [hp]; simp))
      rw [hp] at HI
      clear hw hp
      go_enter Try.func11, Try.ntmps11
      go_wp2_with fail
      refine (HW.out _ ((Ext.refl _).alloc _)).mono ?_
      rintro e w2 ⟨rfl, x2⟩
      go_wp2_with fail
      refine (HI.out _).mono ?_
      rintro e w3 ⟨rfl, x3⟩
      go_wp2
      go_ret
      exact PostI.nil HR.out ((((Ext.refl w).alloc _).trans x2).trans x3)
    · have HR := Lib.hid (fewV_yes (show (winB n P m L && inB p 1 20) = true by rw [hw, hp]; rfl))
      rw [hp] at HI
      have hp' := inB_of hp
      obtain ⟨⟨hn1, hn12, hm20⟩, hN, hLA⟩ := winB_get hw
      have HT := Lib.hid (fun W (X : Ext w W) => impl_heights A n c P B m d L hnc hcm hmd hdm hn1 W (hr.ext X) (hs.ext X))
      have hbd := loF_bd hN hn1 n (Nat.le_refl n)
      clear hN hLA hw hp
      generalize loF P n = lo at HT HR hbd
      generalize hiF P n = hi at HT HR hbd
      go_enter Try.func11, Try.ntmps11
      go_wp2_with fail
      refine (HW.out _ ((Ext.refl _).alloc _)).mono ?_
      rintro e w2 ⟨rfl, x2⟩
      have q00 := x2.cell (a := ⟨w.heap.size, 0, none⟩) (u := .slice A n c) (by simp [go_sem])
      have q01 := x2.cell (a := ⟨w.heap.size, 1, none⟩) (u := .slice B m d) (by simp [go_sem])
      have X := ((Ext.refl w).alloc _).trans x2
      
      clear x2 HW 
      go_wp2_with fail
      refine (HI.out _).mono ?_
      rintro e w3 ⟨rfl, x3⟩
      replace q00 := x3.cell q00
      replace q01 := x3.cell q01
      replace X := X.trans x3
      
      clear x3 HI
      go_wp2_with fail
      refine (HT.out _ X).mono ?_
      rintro e w4 ⟨rfl, x4⟩
      replace X := X.trans x4
      have hm2 := Mine.nil_ w.heap.size w4 3
      clear x4 HT q00 q01
      go_wp2
      go_loopw [5, 7] (fun a v wr => ∃ (k : Nat) (z : Int), k < 24 ∧ a = .int .i64 z ∧ z = lo + p * k ∧ (0 ≤ z ∧ z ≤ 20 ∧ (k : Int) ≤ z) ∧ (∀ j : Nat, j < k → p < hi - (lo + p * j)) ∧ Ext w wr ∧ Mine w.heap.size wr 3 v k (fewT lo p k)) (fun a _ _ => 30 - (intOf a).toNat)
      case atStart => exact ⟨0, lo, by omega, rfl, by simp, by omega, fun j hj => absurd hj (by omega), X, hm2⟩
      case round =>
        obtain ⟨k, z, hk, rfl, hz, hzb, hall, Y, hm⟩ := hrel
        have HZ := Lib.hid hz
        have HALL := Lib.hid hall
        clear hz hall hm2
        by_cases hlt : p < hi - z
        · have HS := Lib.hid (fewT_snoc lo p k)
          have he : z + p = lo + p * ((k : Int) + 1) := by rw [HZ.out, Int.mul_add, Int.mul_one]; omega
          have HE := Lib.hid he
          clear he
          have hzp : -9223372036854775808 ≤ z + p ∧ z + p ≤ 9223372036854775807 := by omega
          obtain ⟨z2, hz2⟩ : ∃ z2, z2 = z + p := ⟨_, rfl⟩
          go_wp2_with (at_builtin; refine append_int _ rfl _ _ rfl w.heap.size _ _ _ rfl (hm.alloc _) (z + p) _ rfl (cell_new1 (by simp)) (by unfold I64; omega) (by omega) (by rw [World.size_alloc]; have := Y.size; omega) ?_; intro v2 w2 hm3 hg2; have he2 := (hm.alloc (.cells #[.int .i64 (z + p)] 3)).fresh (Y.alloc (.cells #[.int .i64 (z + p)] 3)) (Nat.le_refl _) hg2 rfl)
          go_roundw
          case rel =>
            refine ⟨k + 1, z + p, by omega, rfl, by rw [Int.natCast_add]; exact HE.out, by omega, fun j hj => ?_, he2, by rw [HS.out, ← HE.out]; exact hm3⟩
            by_cases e : j = k
            · subst e; rw [← HZ.out]; omega
            · exact HALL.out j (by omega)
          case measure => simp [intOf]; omega
        · have HK := Lib.hid (fewN_at (lo := lo) (hi := hi) (p := p) (k := k) (by omega) (by rw [← HZ.out]; omega) HALL.out)
          obtain ⟨A', c', rfl, hc1, hc2⟩ := hm.form
          have HBO := Lib.hid (fun W (Z : Ext wr W) => impl_BarsOk A' k c' _ (by omega) W (hm.recs.ext Z))
          cases hbo : barsB k (fun i _ => ix (fewT lo p k) i)
          · rw [hbo] at HBO
            have HF := Lib.hid (fewB_no (l := fewT lo p k) (by rw [fewT_len]; exact hbo))
            clear hbo
            go_wp2_with fail
            refine (HBO.out _ (Ext.refl _)).mono ?_
            rintro e w5 ⟨rfl, x5⟩
            
            go_wp2
            go_ret
            exact PostI.nil (by rw [HR.out, HK.out, HF.out]) (Y.trans x5)
          · rw [hbo] at HBO
            have HF := Lib.hid (fewB_yes (l := fewT lo p k) (by rw [fewT_len]; exact hbo))
            clear hbo
            go_wp2_with fail
            refine (HBO.out _ (Ext.refl _)).mono ?_
            rintro e w5 ⟨rfl, x5⟩
            go_wp2
            go_ret
            exact PostI.own (by rw [HR.out, HK.out, HF.out]) (hm.ext x5) (Y.trans x5)

end Go.Proofs.Ytgmhmlhdiklaaaa
