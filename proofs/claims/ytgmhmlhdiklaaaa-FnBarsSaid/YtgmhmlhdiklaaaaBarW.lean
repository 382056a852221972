/-
  Contracts of the bars that cross a lead, of the heights of a window, of the widest gap. No conditions.
-/
import Derived.Test.YtgmhmlhdiklaaaaLenA
import Derived.Test.YtgmhmlhdiklaaaaBars
import Derived.Test.YtgmhmlhdiklaaaaNet
namespace Go.Proofs.Ytgmhmlhdiklaaaa
open Go.RowKit
set_option linter.unusedVariables false

/-- Which of the bars f lie within the lead k. -/
def barAt (P L : Nat → Nat → Int) (k : Nat) (f : Nat → Nat → Int) (q : Nat) : Bool := inB (f q 0) (min (P (fromN L k) 1) (P (toN L k) 1)) (max (P (fromN L k) 1) (P (toN L k) 1))
def crsV (n : Nat) (P : Nat → Nat → Int) (m : Nat) (L : Nat → Nat → Int) (y : Int) (nb : Nat) (f : Nat → Nat → Int) : Int :=
  if (winB n P m L && inB y 0 (m - 1) && barsB nb f) = true then (Net.cnt (barAt P L y.toNat f) nb : Nat) else -1
section
variable {n m nb : Nat} {P L f : Nat → Nat → Int} {y : Int}
theorem crsV_no (h : (winB n P m L && inB y 0 (m - 1) && barsB nb f) = false) : crsV n P m L y nb f = -1 := if_neg (by rw [h]; simp)
theorem crsV_yes (h : (winB n P m L && inB y 0 (m - 1) && barsB nb f) = true) : crsV n P m L y nb f = (Net.cnt (barAt P L y.toNat f) nb : Nat) := if_pos h
/-- The least and the greatest height of the first k nodes. -/
def loF (P : Nat → Nat → Int) : Nat → Int
  | 0 => P 0 1
  | k + 1 => min (loF P k) (P k 1)
def hiF (P : Nat → Nat → Int) : Nat → Int
  | 0 => P 0 1
  | k + 1 => max (hiF P k) (P k 1)
/-- The widest gap so far, and where the last bar was. -/
def gapF (lo hi : Int) (f : Nat → Nat → Int) : Nat → Int × Int
  | 0 => (0, lo)
  | k + 1 => if inB (f k 0) lo hi = true then (max (gapF lo hi f k).1 (f k 0 - (gapF lo hi f k).2), f k 0) else gapF lo hi f k
theorem gapF_yes {lo hi : Int} {k : Nat} (h : inB (f k 0) lo hi = true) : gapF lo hi f (k + 1) = (max (gapF lo hi f k).1 (f k 0 - (gapF lo hi f k).2), f k 0) := if_pos h
theorem gapF_no {lo hi : Int} {k : Nat} (h : inB (f k 0) lo hi = false) : gapF lo hi f (k + 1) = gapF lo hi f k := if_neg (by rw [h]; simp)
theorem gapF_bd {lo hi : Int} (h0 : 0 ≤ lo ∧ lo ≤ 20) (h1 : 0 ≤ hi ∧ hi ≤ 20) : ∀ k, (0 ≤ (gapF lo hi f k).1 ∧ (gapF lo hi f k).1 ≤ 20) ∧ (0 ≤ (gapF lo hi f k).2 ∧ (gapF lo hi f k).2 ≤ 20)
  | 0 => by simp [gapF]; omega
  | k + 1 => by
    have ih := gapF_bd h0 h1 k
    cases e : inB (f k 0) lo hi
    · rw [gapF_no e]; exact ih
    · rw [gapF_yes e]
      have := inB_of e
      show (0 ≤ max _ _ ∧ max _ _ ≤ 20) ∧ (0 ≤ f k 0 ∧ f k 0 ≤ 20)
      omega
def widV (n : Nat) (P : Nat → Nat → Int) (m : Nat) (L : Nat → Nat → Int) (nb : Nat) (f : Nat → Nat → Int) : Int :=
  if (winB n P m L && barsB nb f) = true then max (gapF (loF P n) (hiF P n) f nb).1 (hiF P n - (gapF (loF P n) (hiF P n) f nb).2) else -1
theorem widV_no (h : (winB n P m L && barsB nb f) = false) : widV n P m L nb f = -1 := if_neg (by rw [h]; simp)
theorem widV_yes (h : (winB n P m L && barsB nb f) = true) : widV n P m L nb f = max (gapF (loF P n) (hiF P n) f nb).1 (hiF P n - (gapF (loF P n) (hiF P n) f nb).2) := if_pos h
theorem loF_bd (h : NodesOk n P) (hn : 0 < n) : ∀ k, k ≤ n → (0 ≤ loF P k ∧ loF P k ≤ 20) ∧ (0 ≤ hiF P k ∧ hiF P k ≤ 20)
  | 0, _ => by
    have := nodeB_rng (h.1 0 hn)
    show (0 ≤ P 0 1 ∧ P 0 1 ≤ 20) ∧ (0 ≤ P 0 1 ∧ P 0 1 ≤ 20)
    omega
  | k + 1, hk => by
    have ih := loF_bd h hn k (by omega)
    have := nodeB_rng (h.1 k (by omega))
    show (0 ≤ min _ _ ∧ min _ _ ≤ 20) ∧ (0 ≤ max _ _ ∧ max _ _ ≤ 20)
    omega
end
theorem results_tmp2 {fn : Func} {t u : Tmp} (h : fn.results = #[.tmp t, .tmp u]) (tmps : Array Value) (P : Program) (w : World) :
    (results fn tmps).run P w = .ok (.tuple #[tmps.getD t undef, tmps.getD u undef]) w := by simp [results, h]
theorem cnt_snoc_yes {r : Nat → Bool} {k : Nat} (h : r k = true) : Net.cnt r (k + 1) = Net.cnt r k + 1 := by show _ + (if r k = true then 1 else 0) = _; rw [if_pos h]
theorem cnt_snoc_no {r : Nat → Bool} {k : Nat} (h : r k = false) : Net.cnt r (k + 1) = Net.cnt r k := by show _ + (if r k = true then 1 else 0) = _; rw [h]; rfl

set_option maxHeartbeats 2000000 in
theorem impl_hasLead (A : Option Addr) (n c : Nat) (P : Nat → Nat → Int) (B : Option Addr) (m d : Nat) (L : Nat → Nat → Int) (hnc : n ≤ c) (hcm : c ≤ 9223372036854775807) (hmd : m ≤ d) (hdm : d ≤ 9223372036854775807) (y : Int) (w : World) (hr : Recs w 2 A n P) (hs : Recs w 2 B m L) :
    Calls Try.prog 53 #[.agg #[.slice A n c, .slice B m d], .int .i64 y] w fun e w' => e = .returned (.bool (winB n P m L && inB y 0 (m - 1))) ∧ Ext w w' := by
  cases hw : winB n P m L
  case false =>
    have HW : Hid (∀ W, Ext w W → Calls Try.prog 49 #[.agg #[.slice A n c, .slice B m d]] W fun e w' => e = .returned (.bool false) ∧ Ext W w') := Lib.hid (fun W X => by have q := impl_WindowOk A n c P B m d L hnc hcm hmd hdm W (hr.ext X) (hs.ext X); rwa [hw] at q)
    clear hw
    go_enter Try.func53, Try.ntmps53
    go_wp2_with fail
    refine (HW.out _ ((Ext.refl _).alloc _)).mono ?_
    rintro e w2 ⟨rfl, x2⟩
    go_wp2
    go_ret
    exact ⟨rfl, ((Ext.refl w).alloc _).trans x2⟩
  case true =>
    have HW : Hid (∀ W, Ext w W → Calls Try.prog 49 #[.agg #[.slice A n c, .slice B m d]] W fun e w' => e = .returned (.bool true) ∧ Ext W w') := Lib.hid (fun W X => by have q := impl_WindowOk A n c P B m d L hnc hcm hmd hdm W (hr.ext X) (hs.ext X); rwa [hw] at q)
    clear hw
    go_enter Try.func53, Try.ntmps53
    go_wp2_with fail
    refine (HW.out _ ((Ext.refl _).alloc _)).mono ?_
    rintro e w2 ⟨rfl, x2⟩
    have q01 := x2.cell (a := ⟨w.heap.size, 1, none⟩) (u := .slice B m d) (by simp [go_sem])
    go_wp2_with fail
    refine (within_any _ _ _ _).mono ?_
    rintro e w3 ⟨rfl, x3⟩
    go_wp2
    go_ret
    exact ⟨rfl, (((Ext.refl w).alloc _).trans x2).trans x3⟩

set_option maxRecDepth 100000 in
set_option maxHeartbeats 8000000 in
theorem impl_CrossedBy (A : Option Addr) (n c : Nat) (P : Nat → Nat → Int) (B : Option Addr) (m d : Nat) (L : Nat → Nat → Int) (hnc : n ≤ c) (hcm : c ≤ 9223372036854775807) (hmd : m ≤ d) (hdm : d ≤ 9223372036854775807) (y : Int) (Ab : Option Addr) (nb cb : Nat) (f : Nat → Nat → Int) (hnb : nb ≤ cb) (hcb : cb ≤ 9223372036854775807) (w : World) (hr : Recs w 2 A n P) (hs : Recs w 2 B m L) (hb : Recs w 1 Ab nb f) :
    Calls Try.prog 15 #[.agg #[.slice A n c, .slice B m d], .int .i64 y, .slice Ab nb cb] w fun e w' => e = .returned (.int .i64 (crsV n P m L y nb f)) ∧ Ext w w' := by
  have HB := Lib.hid (fun W (X : Ext w W) => impl_BarsOk Ab nb cb f (by omega) W (hb.ext X))
  have HW := Lib.hid (fun W (X : Ext w W) => impl_hasLead A n c P B m d L hnc hcm hmd hdm y W (hr.ext X) (hs.ext X))
  cases hw : (winB n P m L && inB y 0 (m - 1))
  case false =>
    have HR := Lib.hid (crsV_no (f := f) (nb := nb) (show (winB n P m L && inB y 0 (m - 1) && barsB nb f) = false by rw [hw]; rfl))
    rw [hw] at HW
    clear hw
    go_enter Try.func15, Try.ntmps15
    go_wp2_with fail
    refine (HW.out _ ((Ext.refl _).alloc _)).mono ?_
    rintro e w2 ⟨rfl, x2⟩
    go_wp2
    go_ret
    exact ⟨ret_i HR.out.symm, ((Ext.refl w).alloc _).trans x2⟩
  case true =>
    cases hbar : barsB nb f
    · have HR := Lib.hid (crsV_no (f := f) (nb := nb) (show (winB n P m L && inB y 0 (m - 1) && barsB nb f) = false by rw [hbar]; simp))
      rw [hw] at HW
      rw [hbar] at HB
      clear hw hbar
      go_enter Try.func15, Try.ntmps15
      go_wp2_with fail
      refine (HW.out _ ((Ext.refl _).alloc _)).mono ?_
      rintro e w2 ⟨rfl, x2⟩
      have X := ((Ext.refl w).alloc _).trans x2
      go_wp2_with fail
      refine (HB.out _ X).mono ?_
      rintro e w3 ⟨rfl, x3⟩
      go_wp2
      go_ret
      exact ⟨ret_i HR.out.symm, X.trans x3⟩
    · have HR := Lib.hid (crsV_yes (f := f) (nb := nb) (show (winB n P m L && inB y 0 (m - 1) && barsB nb f) = true by rw [hw, hbar]; rfl))
      rw [hw] at HW
      rw [hbar] at HB
      rw [Bool.and_eq_true] at hw
      obtain ⟨hw, hy⟩ := hw
      have hy' := inB_of hy
      obtain ⟨k, rfl⟩ : ∃ k : Nat, y = k := ⟨y.toNat, by omega⟩
      have hlt : k < m := by omega
      obtain ⟨⟨hn1, hn12, hm20⟩, hN, hLA⟩ := winB_get hw
      have HEN := Lib.hid (fun k (hk : k < m) => winB_ends hw hk)
      have HN := Lib.hid hN
      clear hLA hN hw hbar hy hy'
      obtain ⟨bA, oA, rfl, hbA, _⟩ := hr.at2 (k := 0) (by omega)
      go_enter Try.func15, Try.ntmps15
      go_wp2_with fail
      refine (HW.out _ ((Ext.refl _).alloc _)).mono ?_
      rintro e w2 ⟨rfl, x2⟩
      have q00 := x2.cell (a := ⟨w.heap.size, 0, none⟩) (u := .slice (some ⟨bA, oA, none⟩) n c) (by simp [go_sem])
      have q01 := x2.cell (a := ⟨w.heap.size, 1, none⟩) (u := .slice B m d) (by simp [go_sem])
      have X := ((Ext.refl w).alloc _).trans x2
      clear x2 HW
      go_wp2_with fail
      refine (HB.out _ X).mono ?_
      rintro e w3 ⟨rfl, x3⟩
      replace q00 := x3.cell q00
      replace q01 := x3.cell q01
      replace X := X.trans x3
      clear x3 HB
      obtain ⟨e0, e1, hij, hjn⟩ := HEN.out k hlt
      obtain ⟨i, hi⟩ : ∃ i, i = fromN L k := ⟨_, rfl⟩
      obtain ⟨j, hj⟩ : ∃ j, j = toN L k := ⟨_, rfl⟩
      rw [← hi] at e0 hij
      rw [← hj] at e1 hij hjn
      obtain ⟨bB, oB, rfl, hbB, c0, c1⟩ := hs.at2 hlt
      rw [e0] at c0
      rw [e1] at c1
      have hin : i < n := by omega
      obtain ⟨i0, i1⟩ := hr.cell2 hin
      obtain ⟨j0, j1⟩ := hr.cell2 hjn
      replace c0 := X.cell c0
      replace c1 := X.cell c1
      replace i0 := X.cell i0
      replace i1 := X.cell i1
      replace j0 := X.cell j0
      replace j1 := X.cell j1
      have k1 : (0 : Int) ≤ (k : Int) := by omega
      have k2 : (k : Int) < (m : Int) := by omega
      have k3 : (0 : Int) ≤ (i : Int) := by omega
      have k4 : (i : Int) < (n : Int) := by omega
      have k5 : (0 : Int) ≤ (j : Int) := by omega
      have k6 : (j : Int) < (n : Int) := by omega
      have HI := Lib.hid hi
      have HJ := Lib.hid hj
      clear hi hj e0 e1
      have hba := nodeB_rng (HN.out.1 i hin)
      have hbb := nodeB_rng (HN.out.1 j hjn)
      obtain ⟨ya, hya⟩ : ∃ z, z = P i 1 := ⟨_, rfl⟩
      obtain ⟨yb, hyb⟩ : ∃ z, z = P j 1 := ⟨_, rfl⟩
      have HBA : Hid (∀ q, barAt P L k f q = inB (f q 0) (min ya yb) (max ya yb)) := Lib.hid (fun q => by unfold barAt; rw [← HI.out, ← HJ.out, hya, hyb])
      rw [← hya] at i1 hba
      rw [← hyb] at j1 hbb
      rw [Int.toNat_natCast] at HR
      clear hya hyb
      rcases Int.lt_trichotomy ya yb with g | g | g
      · have l1 : ¬ yb < ya := by omega
        rw [show min ya yb = ya by omega, show max ya yb = yb by omega] at HBA
        go_wp2
        first | refine wp_region_gr2 (by kernel_rfl) (by kernel_rfl) ?_ | refine wp_region_gr (by kernel_rfl) (by kernel_rfl) ?_
        repeat (go_big_quiet_step (fail))
        refine wpQuiet_nil ?_
        intro _ hw'
        obtain ⟨gq, hw''⟩ := hw'
        subst hw''
        go_wp2
        go_loopw [9, 45] (fun v i wr => ∃ q : Nat, q ≤ nb ∧ v = .int .i64 (Net.cnt (barAt P L k f) q : Nat) ∧ i = .int .i64 q ∧ Ext w3 wr) (fun _ i _ => nb - (intOf i).toNat)
        case atStart => exact ⟨0, Nat.zero_le _, rfl, rfl, (by repeat (first | exact Ext.refl _ | exact Ext.gr _ _ | apply Ext.wgr | apply Ext.drew | apply Ext.drewN | apply Ext.alloc))⟩
        case round =>
          obtain ⟨q, hq, rfl, rfl, Y⟩ := hrel
          have hc := Net.cnt_le (barAt P L k f) q
          by_cases hlt2 : q < nb
          · obtain ⟨bb, ob, rfl, hbb2, cc⟩ := hb.at1 hlt2
            replace cc := (X.trans Y).cell cc
            have u1 : (0 : Int) ≤ (q : Int) := by omega
            have u2 : (q : Int) < (nb : Int) := by omega
            have HIN := Lib.hid (fun W => within_any (f q 0) ya yb W)
            cases e : inB (f q 0) ya yb
            · rw [e] at HIN
              have HS := Lib.hid (cnt_snoc_no ((HBA.out q).trans e))
              clear e
              go_wp2_with fail
              refine (HIN.out _).mono ?_
              rintro e w7 ⟨rfl, x7⟩
              go_wp2
              go_roundw
              case rel => exact ⟨q + 1, by omega, by rw [HS.out], by go_num, Y.trans x7⟩
              case measure => simp [intOf]; omega
            · rw [e] at HIN
              have HS := Lib.hid (cnt_snoc_yes ((HBA.out q).trans e))
              clear e
              go_wp2_with fail
              refine (HIN.out _).mono ?_
              rintro e w7 ⟨rfl, x7⟩
              go_wp2
              go_roundw
              case rel => exact ⟨q + 1, by omega, by rw [HS.out]; go_num, by go_num, Y.trans x7⟩
              case measure => simp [intOf]; omega
          · obtain rfl : nb = q := by omega
            go_wp2
            go_ret
            exact ⟨ret_i HR.out.symm, X.trans Y⟩
      · subst g
        have l1 : ¬ ya < ya := by omega
        rw [show min ya ya = ya by omega, show max ya ya = ya by omega] at HBA
        go_wp2
        first | refine wp_region_gr2 (by kernel_rfl) (by kernel_rfl) ?_ | refine wp_region_gr (by kernel_rfl) (by kernel_rfl) ?_
        repeat (go_big_quiet_step (fail))
        refine wpQuiet_nil ?_
        intro _ hw'
        obtain ⟨gq, hw''⟩ := hw'
        subst hw''
        go_wp2
        go_loopw [9, 45] (fun v i wr => ∃ q : Nat, q ≤ nb ∧ v = .int .i64 (Net.cnt (barAt P L k f) q : Nat) ∧ i = .int .i64 q ∧ Ext w3 wr) (fun _ i _ => nb - (intOf i).toNat)
        case atStart => exact ⟨0, Nat.zero_le _, rfl, rfl, (by repeat (first | exact Ext.refl _ | exact Ext.gr _ _ | apply Ext.wgr | apply Ext.drew | apply Ext.drewN | apply Ext.alloc))⟩
        case round =>
          obtain ⟨q, hq, rfl, rfl, Y⟩ := hrel
          have hc := Net.cnt_le (barAt P L k f) q
          by_cases hlt2 : q < nb
          · obtain ⟨bb, ob, rfl, hbb2, cc⟩ := hb.at1 hlt2
            replace cc := (X.trans Y).cell cc
            have u1 : (0 : Int) ≤ (q : Int) := by omega
            have u2 : (q : Int) < (nb : Int) := by omega
            have HIN := Lib.hid (fun W => within_any (f q 0) ya ya W)
            cases e : inB (f q 0) ya ya
            · rw [e] at HIN
              have HS := Lib.hid (cnt_snoc_no ((HBA.out q).trans e))
              clear e
              go_wp2_with fail
              refine (HIN.out _).mono ?_
              rintro e w7 ⟨rfl, x7⟩
              go_wp2
              go_roundw
              case rel => exact ⟨q + 1, by omega, by rw [HS.out], by go_num, Y.trans x7⟩
              case measure => simp [intOf]; omega
            · rw [e] at HIN
              have HS := Lib.hid (cnt_snoc_yes ((HBA.out q).trans e))
              clear e
              go_wp2_with fail
              refine (HIN.out _).mono ?_
              rintro e w7 ⟨rfl, x7⟩
              go_wp2
              go_roundw
              case rel => exact ⟨q + 1, by omega, by rw [HS.out]; go_num, by go_num, Y.trans x7⟩
              case measure => simp [intOf]; omega
          · obtain rfl : nb = q := by omega
            go_wp2
            go_ret
            exact ⟨ret_i HR.out.symm, X.trans Y⟩
      · have l1 : ¬ ya < yb := by omega
        rw [show min ya yb = yb by omega, show max ya yb = ya by omega] at HBA
        go_wp2
        first | refine wp_region_gr2 (by kernel_rfl) (by kernel_rfl) ?_ | refine wp_region_gr (by kernel_rfl) (by kernel_rfl) ?_
        repeat (go_big_quiet_step (fail))
        refine wpQuiet_nil ?_
        intro _ hw'
        obtain ⟨gq, hw''⟩ := hw'
        subst hw''
        go_wp2
        go_loopw [9, 45] (fun v i wr => ∃ q : Nat, q ≤ nb ∧ v = .int .i64 (Net.cnt (barAt P L k f) q : Nat) ∧ i = .int .i64 q ∧ Ext w3 wr) (fun _ i _ => nb - (intOf i).toNat)
        case atStart => exact ⟨0, Nat.zero_le _, rfl, rfl, (by repeat (first | exact Ext.refl _ | exact Ext.gr _ _ | apply Ext.wgr | apply Ext.drew | apply Ext.drewN | apply Ext.alloc))⟩
        case round =>
          obtain ⟨q, hq, rfl, rfl, Y⟩ := hrel
          have hc := Net.cnt_le (barAt P L k f) q
          by_cases hlt2 : q < nb
          · obtain ⟨bb, ob, rfl, hbb2, cc⟩ := hb.at1 hlt2
            replace cc := (X.trans Y).cell cc
            have u1 : (0 : Int) ≤ (q : Int) := by omega
            have u2 : (q : Int) < (nb : Int) := by omega
            have HIN := Lib.hid (fun W => within_any (f q 0) yb ya W)
            cases e : inB (f q 0) yb ya
            · rw [e] at HIN
              have HS := Lib.hid (cnt_snoc_no ((HBA.out q).trans e))
              clear e
              go_wp2_with fail
              refine (HIN.out _).mono ?_
              rintro e w7 ⟨rfl, x7⟩
              go_wp2
              go_roundw
              case rel => exact ⟨q + 1, by omega, by rw [HS.out], by go_num, Y.trans x7⟩
              case measure => simp [intOf]; omega
            · rw [e] at HIN
              have HS := Lib.hid (cnt_snoc_yes ((HBA.out q).trans e))
              clear e
              go_wp2_with fail
              refine (HIN.out _).mono ?_
              rintro e w7 ⟨rfl, x7⟩
              go_wp2
              go_roundw
              case rel => exact ⟨q + 1, by omega, by rw [HS.out]; go_num, by go_num, Y.trans x7⟩
              case measure => simp [intOf]; omega
          · obtain rfl : nb = q := by omega
            go_wp2
            go_ret
            exact ⟨ret_i HR.out.symm, X.trans Y⟩

end Go.Proofs.Ytgmhmlhdiklaaaa
