/-
  What a valid window is; contract of the program's test. No conditions.
-/
import Derived.Test.YtgmhmlhdiklaaaaGreatDoorOnLead
import Derived.Test.YtgmhmlhdiklaaaaGreatDoorNodeIdx
namespace Go.Proofs.YtgmhmlhdiklaaaaGreatDoor
open Go.RowKit
set_option linter.unusedVariables false

/-- The window's nodes P (n of them) and leads L (m of them). -/
def distB (n : Nat) (P : Nat → Nat → Int) : Bool := allB n fun k => allB k fun i => !ptEq (P k 0) (P k 1) (P i 0) (P i 1)
def fromN (L : Nat → Nat → Int) (k : Nat) : Nat := (L k 0).toNat
def toN (L : Nat → Nat → Int) (k : Nat) : Nat := (L k 1).toNat
def crossAt (P L : Nat → Nat → Int) (k i : Nat) : Bool := crossB P (fromN L k) (toN L k) (fromN L i) (toN L i)
def onAt (P L : Nat → Nat → Int) (k v : Nat) : Bool := !decide (v = fromN L k) && !decide (v = toN L k) && betwB (P (fromN L k) 0) (P (fromN L k) 1) (P (toN L k) 0) (P (toN L k) 1) (P v 0) (P v 1)
def leadAt (n : Nat) (P L : Nat → Nat → Int) (k : Nat) : Bool := rngB n (L k 0) (L k 1) && allB k (fun i => !crossAt P L k i) && allB n (fun v => !onAt P L k v)
def sizeB (n m : Nat) : Bool := inB n 1 12 && decide (m ≤ 20)
def winB (n : Nat) (P : Nat → Nat → Int) (m : Nat) (L : Nat → Nat → Int) : Bool := sizeB n m && (nodesB n P && distB n P) && allB m (leadAt n P L)
section
variable {n m : Nat} {P L : Nat → Nat → Int}
theorem winB_size (h : sizeB n m = false) : winB n P m L = false := by unfold winB; rw [h]; rfl
theorem winB_node {k : Nat} (hk : k < n) (h : nodeB (P k 0) (P k 1) = false) : winB n P m L = false := by
  have : nodesB n P = false := allB_no hk h
  unfold winB; rw [this]; simp
theorem winB_nodes (h : nodesB n P = false) : winB n P m L = false := by unfold winB; rw [h]; simp
theorem winB_dist {k i : Nat} (hk : k < n) (hi : i < k) (h : ptEq (P k 0) (P k 1) (P i 0) (P i 1) = true) : winB n P m L = false := by
  have : distB n P = false := allB_no hk (allB_no hi (by rw [h]; rfl))
  unfold winB; rw [this]; simp
theorem winB_lead {k : Nat} (hk : k < m) (h : leadAt n P L k = false) : winB n P m L = false := by
  unfold winB; rw [allB_no hk h]; simp
theorem winB_yes (h1 : sizeB n m = true) (h2 : nodesB n P = true) (h3 : ∀ k, k < n → ∀ i, i < k → ptEq (P k 0) (P k 1) (P i 0) (P i 1) = false) (h4 : ∀ k, k < m → leadAt n P L k = true) : winB n P m L = true := by
  have : distB n P = true := allB_yes fun k hk => allB_yes fun i hi => by rw [h3 k hk i hi]; rfl
  unfold winB; rw [h1, h2, this, allB_yes h4]; rfl
theorem leadAt_rng {k : Nat} (h : rngB n (L k 0) (L k 1) = false) : leadAt n P L k = false := by unfold leadAt; rw [h]; rfl
theorem leadAt_cross {k i : Nat} (hi : i < k) (h : crossAt P L k i = true) : leadAt n P L k = false := by unfold leadAt; rw [allB_no hi (by rw [h]; rfl)]; simp
theorem leadAt_on {k v : Nat} (hv : v < n) (h : onAt P L k v = true) : leadAt n P L k = false := by unfold leadAt; rw [allB_no hv (by rw [h]; rfl)]; simp
theorem leadAt_yes {k : Nat} (h1 : rngB n (L k 0) (L k 1) = true) (h2 : ∀ i, i < k → crossAt P L k i = false) (h3 : ∀ v, v < n → onAt P L k v = false) : leadAt n P L k = true := by
  unfold leadAt; rw [h1, allB_yes (fun i hi => by rw [h2 i hi]; rfl), allB_yes (fun v hv => by rw [h3 v hv]; rfl)]; rfl
theorem leadAt_get {k : Nat} (h : leadAt n P L k = true) : rngB n (L k 0) (L k 1) = true := by
  unfold leadAt at h; rw [Bool.and_eq_true, Bool.and_eq_true] at h; exact h.1.1
theorem rngB_ends {k : Nat} (h : rngB n (L k 0) (L k 1) = true) : L k 0 = (fromN L k : Nat) ∧ L k 1 = (toN L k : Nat) ∧ fromN L k < toN L k ∧ toN L k < n := by
  obtain ⟨i, j, e0, e1, h1, h2⟩ := rngB_get h
  unfold fromN toN
  omega
theorem nodesOk_of (h2 : nodesB n P = true) (h3 : ∀ k, k < n → ∀ i, i < k → ptEq (P k 0) (P k 1) (P i 0) (P i 1) = false) : NodesOk n P :=
  ⟨fun k hk => allB_get h2 hk, fun i j hi hj => by rw [ptEq_comm]; exact h3 j hj i hi⟩
end

set_option maxRecDepth 100000 in
set_option maxHeartbeats 8000000 in
theorem impl_WindowOk (A : Option Addr) (n c : Nat) (P : Nat → Nat → Int) (B : Option Addr) (m d : Nat) (L : Nat → Nat → Int) (hnc : n ≤ c) (hcm : c ≤ 9223372036854775807) (hmd : m ≤ d) (hdm : d ≤ 9223372036854775807) (w : World) (hr : Recs w 2 A n P) (hs : Recs w 2 B m L) :
    Calls Tryz.prog 34 #[.agg #[.slice A n c, .slice B m d]] w fun e w' => e = .returned (.bool (winB n P m L)) ∧ Ext w w' := by
  cases h1 : inB n 1 12
  · have HR := Lib.hid (winB_size (P := P) (L := L) (show sizeB n m = false by unfold sizeB; rw [h1]; rfl))
    go_enter Tryz.func34, Tryz.ntmps34
    go_wp2_with (go_at_call 26; refine (within_any _ _ _ _).mono ?_; rintro e w' ⟨rfl, g, rfl⟩)
    go_ret
    exact ⟨congrArg (fun z => Ending.returned (.bool z)) HR.out.symm, by repeat (first | exact Ext.refl _ | apply Ext.wgr | apply Ext.drew | apply Ext.drewN | apply Ext.alloc)⟩
  by_cases h2 : 20 < m
  · have HR := Lib.hid (winB_size (P := P) (L := L) (show sizeB n m = false by unfold sizeB; rw [h1]; simp; omega))
    go_enter Tryz.func34, Tryz.ntmps34
    go_wp2_with (go_at_call 26; refine (within_any _ _ _ _).mono ?_; rintro e w' ⟨rfl, g, rfl⟩)
    go_ret
    exact ⟨congrArg (fun z => Ending.returned (.bool z)) HR.out.symm, by repeat (first | exact Ext.refl _ | apply Ext.wgr | apply Ext.drew | apply Ext.drewN | apply Ext.alloc)⟩
  have HS := Lib.hid (show sizeB n m = true by unfold sizeB; rw [h1]; simp; omega)
  have hn12 := inB_of h1
  cases h3 : nodesB n P
  · have HR := Lib.hid (winB_nodes (m := m) (L := L) h3)
    go_enter Tryz.func34, Tryz.ntmps34
    go_wp2_with (first | (go_at_call 26; refine (within_any _ _ _ _).mono ?_; rintro e w' ⟨rfl, g, rfl⟩) | (go_at_call 53; refine (impl_nodesOk A n c P (by omega) _ (hr.ext ((Ext.refl _).alloc _ |>.wgr _))).mono ?_; rintro e w2 ⟨rfl, g2, rfl⟩))
    go_ret
    exact ⟨congrArg (fun z => Ending.returned (.bool z)) HR.out.symm, by repeat (first | exact Ext.refl _ | apply Ext.wgr | apply Ext.drew | apply Ext.drewN | apply Ext.alloc)⟩
  go_enter Tryz.func34, Tryz.ntmps34
  go_wp2_with (first | (go_at_call 26; refine (within_any _ _ _ _).mono ?_; rintro e w' ⟨rfl, g, rfl⟩) | (go_at_call 53; refine (impl_nodesOk A n c P (by omega) _ (hr.ext ((Ext.refl _).alloc _ |>.wgr _))).mono ?_; rintro e w2 ⟨rfl, g2, rfl⟩))
  have H3 := Lib.hid h3
  clear h3
  have hq0 : (w.alloc (.cells #[.slice A n c, .slice B m d] 27)).cell? ⟨w.heap.size, 0, none⟩ = some (.slice A n c) := by simp [go_sem]
  have hq1 : (w.alloc (.cells #[.slice A n c, .slice B m d] 27)).cell? ⟨w.heap.size, 1, none⟩ = some (.slice B m d) := by simp [go_sem]
  have Q0 := Lib.hid hq0
  have Q1 := Lib.hid hq1
  clear hq0 hq1
  go_loopw [31] (fun i wr => ∃ k : Nat, k ≤ n ∧ i = .int .i64 k ∧ Ext (w.alloc (.cells #[.slice A n c, .slice B m d] 27)) wr ∧ ∀ q, q < k → ∀ i, i < q → ptEq (P q 0) (P q 1) (P i 0) (P i 1) = false) (fun i _ => n - (intOf i).toNat)
  case atStart => exact ⟨0, Nat.zero_le _, rfl, by repeat (first | exact Ext.refl _ | exact Ext.gr _ _ | apply Ext.wgr | apply Ext.drew | apply Ext.drewN | apply Ext.alloc), fun q hq => absurd hq (by omega)⟩
  case round =>
    obtain ⟨k, hk, rfl, X, hall⟩ := hrel
    have HALL := Lib.hid hall
    clear hall
    by_cases hlt : k < n
    · obtain ⟨b, o, rfl, hb, c0, c1⟩ := hr.at2 hlt
      replace c0 := (((Ext.refl w).alloc _).trans X).cell c0
      replace c1 := (((Ext.refl w).alloc _).trans X).cell c1
      have q0 := X.cell Q0.out
      have k1 : (0 : Int) ≤ (k : Int) := by omega
      have k2 : (k : Int) ≤ (c : Int) := by omega
      have z0 : w.heap.size < wr.heap.size := World.block_lt_of_cell? _ _ q0
      have HC := Lib.hid (fun W (Y : Ext w W) => containsNode_any (some ⟨b, o, none⟩) k c P (P k 0) (P k 1) (by omega) W ((hr.take_ (by omega)).ext Y))
      have q0' := ((Ext.refl wr).alloc (.cells #[.int .i64 (P k 0), .int .i64 (P k 1)] 38)).cell q0
      rw [fdx_dec] at HC
      cases hall : allB k (fun i => !ptEq (P k 0) (P k 1) (P i 0) (P i 1))
      · have HD : Hid (winB n P m L = false) := Lib.hid (by
          unfold winB
          have : distB n P = false := allB_no hlt hall
          rw [this]; simp)
        rw [hall] at HC
        clear hall
        go_wp2
        first | refine wp_region_gr2 (by kernel_rfl) (by kernel_rfl) ?_ | refine wp_region_gr (by kernel_rfl) (by kernel_rfl) ?_
        repeat (go_big_quiet_step ((go_at_call 54; exact gr_of (HC.out _ (((Ext.refl w).alloc _).trans (X.trans (by repeat (first | exact Ext.refl _ | apply Ext.wgr | apply Ext.drew | apply Ext.drewN | apply Ext.alloc))))))))
        refine wpQuiet_nil ?_
        intro _ hw'
        obtain ⟨gq, hw''⟩ := hw'
        subst hw''
        go_wp2
        go_ret
        exact ⟨congrArg (fun z => Ending.returned (.bool z)) HD.out.symm, ((Ext.refl w).alloc _).trans (X.trans (by repeat (first | exact Ext.refl _ | apply Ext.wgr | apply Ext.drew | apply Ext.drewN | apply Ext.alloc)))⟩
      · have HD : Hid (∀ i, i < k → ptEq (P k 0) (P k 1) (P i 0) (P i 1) = false) := Lib.hid (fun i hi => by have := allB_get hall hi; simpa using this)
        rw [hall] at HC
        clear hall
        go_wp2
        first | refine wp_region_gr2 (by kernel_rfl) (by kernel_rfl) ?_ | refine wp_region_gr (by kernel_rfl) (by kernel_rfl) ?_
        repeat (go_big_quiet_step ((go_at_call 54; exact gr_of (HC.out _ (((Ext.refl w).alloc _).trans (X.trans (by repeat (first | exact Ext.refl _ | apply Ext.wgr | apply Ext.drew | apply Ext.drewN | apply Ext.alloc))))))))
        refine wpQuiet_nil ?_
        intro _ hw'
        obtain ⟨gq, hw''⟩ := hw'
        subst hw''
        go_wp2
        go_roundw
        case rel =>
          refine ⟨k + 1, by omega, by go_num, X.trans (by repeat (first | exact Ext.refl _ | apply Ext.wgr | apply Ext.drew | apply Ext.drewN | apply Ext.alloc)), fun q hq => ?_⟩
          by_cases e : q = k
          · subst e; exact HD.out
          · exact HALL.out q (by omega)
        case measure => simp [intOf]; omega
    · obtain rfl : n = k := by omega
      have q0 := X.cell Q0.out
      have q1 := X.cell Q1.out
      have HN : Hid (NodesOk n P) := Lib.hid (nodesOk_of H3.out HALL.out)
      obtain ⟨bA, oA, rfl, hbA, _⟩ := hr.at2 (k := 0) (by omega)
      go_wp2
      obtain ⟨w1, rfl⟩ : ∃ w1 : World, w1 = wr := ⟨_, rfl⟩
      have HX1 : Ext w w1 := ((Ext.refl w).alloc _).trans X
      clear X
      go_loopw [46] (fun i wr => ∃ k : Nat, k ≤ m ∧ i = .int .i64 k ∧ Ext w1 wr ∧ ∀ q, q < k → leadAt n P L q = true) (fun i _ => m - (intOf i).toNat)
      case atStart => exact ⟨0, Nat.zero_le _, rfl, Ext.refl w1, fun q hq => absurd hq (by omega)⟩
      case round =>
        obtain ⟨k, hk, rfl, X, hall⟩ := hrel
        have HAL2 := Lib.hid hall
        clear hall
        by_cases hltm : k < m
        · obtain ⟨b, o, rfl, hb, c0, c1⟩ := hs.at2 hltm
          have X0 := HX1.trans X
          replace c0 := X0.cell c0
          replace c1 := X0.cell c1
          have p0 := X.cell q0
          have p1 := X.cell q1
          cases hrg : rngB n (L k 0) (L k 1)
          · have HL := Lib.hid (fun W (Y : Ext w W) => impl_LeadOk (some ⟨bA, oA, none⟩) n c P (L k 0) (L k 1) (by omega) HN.out W (hr.ext Y))
            rw [hrg] at HL
            have HD := Lib.hid (winB_lead (n := n) (P := P) hltm (leadAt_rng hrg))
            clear hrg
            have p0' := ((Ext.refl wr).alloc (.cells #[.int .i64 (L k 0), .int .i64 (L k 1)] 71)).cell p0
            go_wp2_with fail
            refine (HL.out _ (X0.alloc _)).mono ?_
            rintro e w4 ⟨rfl, x4⟩
            go_wp2
            go_ret
            exact ⟨congrArg (fun z => Ending.returned (.bool z)) HD.out.symm, (X0.alloc _).trans x4⟩
          · have HRG := Lib.hid hrg
            obtain ⟨e0, e1, hij, hjn⟩ := rngB_ends hrg
            clear hrg
            obtain ⟨i, hi⟩ : ∃ i, i = fromN L k := ⟨_, rfl⟩
            obtain ⟨j, hj⟩ : ∃ j, j = toN L k := ⟨_, rfl⟩
            rw [← hi] at e0 hij
            rw [← hj] at e1 hij hjn
            rw [e0] at c0
            rw [e1] at c1
            have HI := Lib.hid hi
            have HJ := Lib.hid hj
            clear hi hj e0 e1
            have HL : Hid (∀ W, Ext w W → Calls Tryz.prog 55 #[.slice (some ⟨bA, oA, none⟩) n c, .agg #[.int .i64 (i : Int), .int .i64 (j : Int)]] W fun e w' => e = .returned (.bool true) ∧ Ext W w') := Lib.hid (fun W X => by have q := impl_LeadOk (some ⟨bA, oA, none⟩) n c P i j (by omega) HN.out W (hr.ext X); rwa [rngB_nat hij hjn] at q)
            have p0' := ((Ext.refl wr).alloc (.cells #[.int .i64 (i : Int), .int .i64 (j : Int)] 71)).cell p0
            have p1' := ((Ext.refl wr).alloc (.cells #[.int .i64 (i : Int), .int .i64 (j : Int)] 71)).cell p1
            go_wp2_with fail
            refine (HL.out _ (X0.alloc _)).mono ?_
            rintro e w4 ⟨rfl, x4⟩
            have r0 := x4.cell p0'
            have r1 := x4.cell p1'
            have l0 := x4.cell (a := ⟨wr.heap.size, 0, none⟩) (u := .int .i64 (i : Int)) (by simp [go_sem])
            have l1 := x4.cell (a := ⟨wr.heap.size, 1, none⟩) (u := .int .i64 (j : Int)) (by simp [go_sem])
            have X4 : Ext w w4 := (X0.alloc _).trans x4
            have Y4 : Ext w1 w4 := (X.alloc _).trans x4
            clear p0' p1' p0 p1 c0 c1 x4 X X0 HL
            have kc : (k : Int) ≤ (d : Int) := by omega
            go_wp2
            go_loopw [61] (fun i3 wy => ∃ t : Nat, t ≤ k ∧ i3 = .int .i64 t ∧ Ext w4 wy ∧ ∀ r, r < t → crossAt P L k r = false) (fun i3 _ => k - (intOf i3).toNat)
            case atStart => exact ⟨0, Nat.zero_le _, rfl, Ext.refl w4, fun q hq => absurd hq (by omega)⟩
            case round =>
              obtain ⟨t, ht, rfl, Y, hcr⟩ := hrel
              have HCR := Lib.hid hcr
              clear hcr
              replace r0 := Y.cell r0
              replace r1 := Y.cell r1
              replace l0 := Y.cell l0
              replace l1 := Y.cell l1
              by_cases htk : t < k
              · obtain ⟨u0, u1⟩ := hs.cell2 (k := t) (by omega)
                obtain ⟨e0, e1, hpq, hqn⟩ := rngB_ends (leadAt_get (HAL2.out t htk))
                obtain ⟨p, hp⟩ : ∃ p, p = fromN L t := ⟨_, rfl⟩
                obtain ⟨q, hq⟩ : ∃ q, q = toN L t := ⟨_, rfl⟩
                rw [← hp] at e0 hpq
                rw [← hq] at e1 hpq hqn
                rw [e0] at u0
                rw [e1] at u1
                have HP := Lib.hid hp
                have HQ := Lib.hid hq
                clear hp hq e0 e1
                replace u0 := (X4.trans Y).cell u0
                replace u1 := (X4.trans Y).cell u1
                have r0' := ((Ext.refl wr).alloc (.cells #[.int .i64 (p : Int), .int .i64 (q : Int)] 71)).cell r0
                have l0' := ((Ext.refl wr).alloc (.cells #[.int .i64 (p : Int), .int .i64 (q : Int)] 71)).cell l0
                have l1' := ((Ext.refl wr).alloc (.cells #[.int .i64 (p : Int), .int .i64 (q : Int)] 71)).cell l1
                have HX := Lib.hid (fun W (Z : Ext w W) => impl_DoCross (some ⟨bA, oA, none⟩) n c P (by omega) HN.out i j p q hij hjn hpq hqn W (hr.ext Z))
                have hcx : crossB P i j p q = crossAt P L k t := by unfold crossAt; rw [← HI.out, ← HJ.out, ← HP.out, ← HQ.out]
                rw [hcx] at HX
                clear hcx
                have tk : (t : Int) < (k : Int) := by omega
                cases hc : crossAt P L k t
                · rw [hc] at HX
                  go_wp2_with fail
                  refine (HX.out _ ((X4.trans Y).alloc _)).mono ?_
                  rintro e w5 ⟨rfl, x5⟩
                  go_wp2
                  go_roundw
                  case rel =>
                    refine ⟨t + 1, by omega, by go_num, (Y.alloc _).trans x5, fun r hr => ?_⟩
                    by_cases e : r = t
                    · subst e; exact hc
                    · exact HCR.out r (by omega)
                  case measure => simp [intOf]; omega
                · rw [hc] at HX
                  have HD := Lib.hid (winB_lead (n := n) (P := P) hltm (leadAt_cross htk hc))
                  clear hc
                  go_wp2_with fail
                  refine (HX.out _ ((X4.trans Y).alloc _)).mono ?_
                  rintro e w5 ⟨rfl, x5⟩
                  go_wp2
                  go_ret
                  exact ⟨congrArg (fun z => Ending.returned (.bool z)) HD.out.symm, ((X4.trans Y).alloc _).trans x5⟩
              · obtain rfl : k = t := by omega
                go_wp2
                obtain ⟨w6, rfl⟩ : ∃ w6 : World, w6 = wr := ⟨_, rfl⟩
                replace X4 := X4.trans Y
                replace Y4 := Y4.trans Y
                clear Y
                go_loopw [74] (fun i4 wz => ∃ v : Nat, v ≤ n ∧ i4 = .int .i64 v ∧ Ext w6 wz ∧ ∀ r, r < v → onAt P L k r = false) (fun i4 _ => n - (intOf i4).toNat)
                case atStart => exact ⟨0, Nat.zero_le _, rfl, Ext.refl w6, fun q hq => absurd hq (by omega)⟩
                case round =>
                  obtain ⟨v, hv, rfl, Z, hon⟩ := hrel
                  have HON := Lib.hid hon
                  clear hon
                  by_cases hvn : v < n
                  · obtain ⟨u0, u1⟩ := hr.cell2 (k := v) hvn
                    replace u0 := (X4.trans Z).cell u0
                    replace u1 := (X4.trans Z).cell u1
                    replace r0 := Z.cell r0
                    replace l0 := Z.cell l0
                    replace l1 := Z.cell l1
                    have r0' := ((Ext.refl wr).alloc (.cells #[.int .i64 (P v 0), .int .i64 (P v 1)] 38)).cell r0
                    have l0' := ((Ext.refl wr).alloc (.cells #[.int .i64 (P v 0), .int .i64 (P v 1)] 38)).cell l0
                    have l1' := ((Ext.refl wr).alloc (.cells #[.int .i64 (P v 0), .int .i64 (P v 1)] 38)).cell l1
                    by_cases hvi : v = i
                    · have HO : Hid (onAt P L k v = false) := Lib.hid (by unfold onAt; rw [← HI.out, hvi]; simp)
                      subst hvi
                      go_wp2
                      go_roundw
                      case rel =>
                        refine ⟨v + 1, by omega, by go_num, Z.alloc _, fun r hr => ?_⟩
                        by_cases e : r = v
                        · subst e; exact HO.out
                        · exact HON.out r (by omega)
                      case measure => simp [intOf]; omega
                    · by_cases hvj : v = j
                      · have HO : Hid (onAt P L k v = false) := Lib.hid (by unfold onAt; rw [← HJ.out, hvj]; simp)
                        subst hvj
                        go_wp2
                        go_roundw
                        case rel =>
                          refine ⟨v + 1, by omega, by go_num, Z.alloc _, fun r hr => ?_⟩
                          by_cases e : r = v
                          · subst e; exact HO.out
                          · exact HON.out r (by omega)
                        case measure => simp [intOf]; omega
                      · have n1 : (v == i) = false := by simpa using hvi
                        have n2 : (v == j) = false := by simpa using hvj
                        have n3 : (v != i) = true := by simpa using hvi
                        have n4 : (v != j) = true := by simpa using hvj
                        have n5 : ((v : Int) == (i : Int)) = false := by simp; omega
                        have n6 : ((v : Int) == (j : Int)) = false := by simp; omega
                        have n7 : ((v : Int) != (i : Int)) = true := by simp; omega
                        have n8 : ((v : Int) != (j : Int)) = true := by simp; omega
                        have hcx : betwB (P i 0) (P i 1) (P j 0) (P j 1) (P v 0) (P v 1) = onAt P L k v := by unfold onAt; rw [← HI.out, ← HJ.out]; simp [hvi, hvj]
                        have HX := Lib.hid (fun W (Q : Ext w W) => impl_IsOnLead (some ⟨bA, oA, none⟩) n c P (by omega) HN.out i j v hij hjn hvn hvi hvj W (hr.ext Q))
                        rw [hcx] at HX
                        clear hcx
                        cases hc : onAt P L k v
                        · rw [hc] at HX
                          go_wp2_with fail
                          refine (HX.out _ ((X4.trans Z).alloc _)).mono ?_
                          rintro e w5 ⟨rfl, x5⟩
                          go_wp2
                          go_roundw
                          case rel =>
                            refine ⟨v + 1, by omega, by go_num, (Z.alloc _).trans x5, fun r hr => ?_⟩
                            by_cases e : r = v
                            · subst e; exact hc
                            · exact HON.out r (by omega)
                          case measure => simp [intOf]; omega
                        · rw [hc] at HX
                          have HD := Lib.hid (winB_lead (n := n) (P := P) hltm (leadAt_on hvn hc))
                          clear hc
                          go_wp2_with fail
                          refine (HX.out _ ((X4.trans Z).alloc _)).mono ?_
                          rintro e w5 ⟨rfl, x5⟩
                          go_wp2
                          go_ret
                          exact ⟨congrArg (fun z => Ending.returned (.bool z)) HD.out.symm, ((X4.trans Z).alloc _).trans x5⟩
                  · obtain rfl : n = v := by omega
                    go_wp2
                    go_roundw
                    case rel =>
                      refine ⟨k + 1, by omega, by go_num, Y4.trans Z, fun r hr => ?_⟩
                      by_cases e : r = k
                      · subst e; exact leadAt_yes HRG.out HCR.out HON.out
                      · exact HAL2.out r (by omega)
                    case measure => simp [intOf]; omega
        · obtain rfl : m = k := by omega
          have HD := Lib.hid (winB_yes HS.out H3.out HALL.out HAL2.out)
          go_wp2
          go_ret
          exact ⟨congrArg (fun z => Ending.returned (.bool z)) HD.out.symm, HX1.trans X⟩

end Go.Proofs.YtgmhmlhdiklaaaaGreatDoor
