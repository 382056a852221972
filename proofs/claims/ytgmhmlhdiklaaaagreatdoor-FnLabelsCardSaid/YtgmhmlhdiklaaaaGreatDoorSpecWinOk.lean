/-
  Contract of the reference's test on a window. No conditions.
-/
import Derived.Test.YtgmhmlhdiklaaaaGreatDoorWinOk
namespace Go.Proofs.YtgmhmlhdiklaaaaGreatDoor
open Go.RowKit
set_option linter.unusedVariables false

set_option maxRecDepth 100000 in
set_option maxHeartbeats 8000000 in
theorem spec_WindowOk (A : Option Addr) (n c : Nat) (P : Nat → Nat → Int) (B : Option Addr) (m d : Nat) (L : Nat → Nat → Int) (hnc : n ≤ c) (hcm : c ≤ 9223372036854775807) (hmd : m ≤ d) (hdm : d ≤ 9223372036854775807) (w : World) (hr : Recs w 2 A n P) (hs : Recs w 2 B m L) :
    Calls Tryz.prog 40 #[.agg #[.slice A n c, .slice B m d]] w fun e w' => e = .returned (.bool (winB n P m L)) ∧ Ext w w' := by
  cases h1 : inB n 1 12
  · have HR := Lib.hid (winB_size (P := P) (L := L) (show sizeB n m = false by unfold sizeB; rw [h1]; rfl))
    go_enter Tryz.func40, Tryz.ntmps40
    go_wp2_with (go_at_call 45; refine (l01In_any _ _ _ _).mono ?_; rintro e w' ⟨rfl, g, rfl⟩)
    go_ret
    exact ⟨congrArg (fun z => Ending.returned (.bool z)) HR.out.symm, by repeat (first | exact Ext.refl _ | apply Ext.wgr | apply Ext.drew | apply Ext.drewN | apply Ext.alloc)⟩
  by_cases h2 : 20 < m
  · have HR := Lib.hid (winB_size (P := P) (L := L) (show sizeB n m = false by unfold sizeB; rw [h1]; simp; omega))
    go_enter Tryz.func40, Tryz.ntmps40
    go_wp2_with (go_at_call 45; refine (l01In_any _ _ _ _).mono ?_; rintro e w' ⟨rfl, g, rfl⟩)
    go_ret
    exact ⟨congrArg (fun z => Ending.returned (.bool z)) HR.out.symm, by repeat (first | exact Ext.refl _ | apply Ext.wgr | apply Ext.drew | apply Ext.drewN | apply Ext.alloc)⟩
  have HS := Lib.hid (show sizeB n m = true by unfold sizeB; rw [h1]; simp; omega)
  have hn12 := inB_of h1
  have hq0 : (w.alloc (.cells #[.slice A n c, .slice B m d] 27)).cell? ⟨w.heap.size, 0, none⟩ = some (.slice A n c) := by simp [go_sem]
  have hq1 : (w.alloc (.cells #[.slice A n c, .slice B m d] 27)).cell? ⟨w.heap.size, 1, none⟩ = some (.slice B m d) := by simp [go_sem]
  have Q0 := Lib.hid hq0
  have Q1 := Lib.hid hq1
  clear hq0 hq1
  obtain ⟨bA, oA, rfl, hbA, _⟩ := hr.at2 (k := 0) (by omega)
  have hE := run_eqNode
  go_enter Tryz.func40, Tryz.ntmps40
  go_wp2_with (go_at_call 45; refine (l01In_any _ _ _ _).mono ?_; rintro e w' ⟨rfl, g, rfl⟩)
  go_loopw [3] (fun i wr => ∃ k : Nat, k ≤ n ∧ i = .int .i64 k ∧ Ext (w.alloc (.cells #[.slice (some ⟨bA, oA, none⟩) n c, .slice B m d] 27)) wr ∧ ∀ q, q < k → nodeB (P q 0) (P q 1) = true ∧ ∀ i, i < q → ptEq (P q 0) (P q 1) (P i 0) (P i 1) = false) (fun i _ => n - (intOf i).toNat)
  case atStart => exact ⟨0, Nat.zero_le _, rfl, by repeat (first | exact Ext.refl _ | exact Ext.gr _ _ | apply Ext.wgr | apply Ext.drew | apply Ext.drewN | apply Ext.alloc), fun q hq => absurd hq (by omega)⟩
  case round =>
    obtain ⟨k, hk, rfl, X, hall⟩ := hrel
    have HALL := Lib.hid hall
    clear hall
    have q0 := X.cell Q0.out
    by_cases hlt : k < n
    · obtain ⟨c0, c1⟩ := hr.cell2 hlt
      have X0 := ((Ext.refl w).alloc _).trans X
      replace c0 := X0.cell c0
      replace c1 := X0.cell c1
      have HC := Lib.hid (fun W => spec_NodeOk (P k 0) (P k 1) W)
      cases hnk : nodeB (P k 0) (P k 1)
      · rw [hnk] at HC
        have HD := Lib.hid (winB_node (m := m) (L := L) hlt hnk)
        clear hnk
        go_wp2_with fail
        refine (HC.out _).mono ?_
        rintro e w4 ⟨rfl, x4⟩
        go_wp2
        go_ret
        exact ⟨congrArg (fun z => Ending.returned (.bool z)) HD.out.symm, X0.trans x4⟩
      · rw [hnk] at HC
        have HNK := Lib.hid hnk
        clear hnk
        go_wp2_with fail
        refine (HC.out _).mono ?_
        rintro e w4 ⟨rfl, x4⟩
        have X4 := X0.trans x4
        have Y4 := X.trans x4
        replace q0 := x4.cell q0
        replace c0 := x4.cell c0
        replace c1 := x4.cell c1
        clear X X0 x4
        have k1 : (0 : Int) ≤ (k : Int) := by omega
        have k2 : (k : Int) < (n : Int) := by omega
        go_wp2
        go_loopw [4] (fun i wr => ∃ t : Nat, t ≤ k ∧ i = .int .i64 t ∧ Ext w4 wr ∧ ∀ r, r < t → ptEq (P k 0) (P k 1) (P r 0) (P r 1) = false) (fun i _ => k - (intOf i).toNat)
        case atStart => exact ⟨0, Nat.zero_le _, rfl, Ext.refl w4, fun q hq => absurd hq (by omega)⟩
        case round =>
          obtain ⟨t, ht, rfl, Y, hne⟩ := hrel
          have HNE := Lib.hid hne
          clear hne
          by_cases htk : t < k
          · obtain ⟨d0, d1⟩ := hr.cell2 (k := t) (by omega)
            replace d0 := (X4.trans Y).cell d0
            replace d1 := (X4.trans Y).cell d1
            replace q0 := Y.cell q0
            replace c0 := Y.cell c0
            replace c1 := Y.cell c1
            have t1 : (0 : Int) ≤ (t : Int) := by omega
            have t2 : (t : Int) < (n : Int) := by omega
            cases hpe : ptEq (P t 0) (P t 1) (P k 0) (P k 1)
            · go_wp2
              first | refine wp_region_gr2 (by kernel_rfl) (by kernel_rfl) ?_ | refine wp_region_gr (by kernel_rfl) (by kernel_rfl) ?_
              repeat (go_big_quiet_step (fail))
              refine wpQuiet_nil ?_
              intro _ hw'
              obtain ⟨gq, hw''⟩ := hw'
              subst hw''
              go_wp2
              go_roundw
              case rel =>
                refine ⟨t + 1, by omega, by go_num, Y.trans (by repeat (first | exact Ext.refl _ | exact Ext.gr _ _ | apply Ext.wgr | apply Ext.drew | apply Ext.drewN | apply Ext.alloc)), fun r hr => ?_⟩
                by_cases e : r = t
                · subst e; rw [ptEq_comm]; exact hpe
                · exact HNE.out r (by omega)
              case measure => simp [intOf]; omega
            · have HD := Lib.hid (winB_dist (m := m) (L := L) hlt htk (by rw [ptEq_comm]; exact hpe))
              go_wp2
              first | refine wp_region_gr2 (by kernel_rfl) (by kernel_rfl) ?_ | refine wp_region_gr (by kernel_rfl) (by kernel_rfl) ?_
              repeat (go_big_quiet_step (fail))
              refine wpQuiet_nil ?_
              intro _ hw'
              obtain ⟨gq, hw''⟩ := hw'
              subst hw''
              go_wp2
              go_ret
              exact ⟨congrArg (fun z => Ending.returned (.bool z)) HD.out.symm, (X4.trans Y).trans (by repeat (first | exact Ext.refl _ | exact Ext.gr _ _ | apply Ext.wgr | apply Ext.drew | apply Ext.drewN | apply Ext.alloc))⟩
          · obtain rfl : k = t := by omega
            replace q0 := Y.cell q0
            clear k1 k2
            go_wp2
            go_roundw
            case rel =>
              refine ⟨k + 1, by omega, by go_num, Y4.trans Y, fun r hr => ?_⟩
              by_cases e : r = k
              · subst e; exact ⟨HNK.out, HNE.out⟩
              · exact HALL.out r (by omega)
            case measure => simp [intOf]; omega
    · obtain rfl : n = k := by omega
      have q1 := X.cell Q1.out
      have HNB : Hid (nodesB n P = true) := Lib.hid (allB_yes fun k hk => (HALL.out k hk).1)
      have HDI : Hid (∀ k, k < n → ∀ i, i < k → ptEq (P k 0) (P k 1) (P i 0) (P i 1) = false) := Lib.hid (fun k hk => (HALL.out k hk).2)
      have HN : Hid (NodesOk n P) := Lib.hid (nodesOk_of HNB.out HDI.out)
      go_wp2
      obtain ⟨w1, rfl⟩ : ∃ w1 : World, w1 = wr := ⟨_, rfl⟩
      have HX1 : Ext w w1 := ((Ext.refl w).alloc _).trans X
      clear X
      go_loopw [5] (fun i wr => ∃ k : Nat, k ≤ m ∧ i = .int .i64 k ∧ Ext w1 wr ∧ ∀ q, q < k → leadAt n P L q = true) (fun i _ => m - (intOf i).toNat)
      case atStart => exact ⟨0, Nat.zero_le _, rfl, Ext.refl w1, fun q hq => absurd hq (by omega)⟩
      case round =>
        obtain ⟨k, hk, rfl, X, hall⟩ := hrel
        have HAL2 := Lib.hid hall
        clear hall
        have p0 := X.cell q0
        have p1 := X.cell q1
        by_cases hltm : k < m
        · obtain ⟨b, o, rfl, hb, c0, c1⟩ := hs.at2 hltm
          have X0 := HX1.trans X
          replace c0 := X0.cell c0
          replace c1 := X0.cell c1
          cases hrg : rngB n (L k 0) (L k 1)
          · have HL := Lib.hid (fun W (Y : Ext w W) => spec_LeadOk (some ⟨bA, oA, none⟩) n c P (L k 0) (L k 1) (by omega) HN.out W (hr.ext Y))
            rw [hrg] at HL
            have HD := Lib.hid (winB_lead (n := n) (P := P) hltm (leadAt_rng hrg))
            clear hrg
            have p0' := ((Ext.refl wr).alloc (.cells #[.int .i64 (L k 0), .int .i64 (L k 1)] 71)).cell p0
            go_wp2_with fail
            refine (HL.out _ (X0.alloc _)).mono ?_
            rintro e w4 ⟨rfl, x4⟩
            go_wp2
            go_ret
            exact ⟨congrArg (fun z => Ending.returned (.bool z)) HD.out.symm, (X0.alloc _).trans x4⟩
          · have HRG := Lib.hid hrg
            obtain ⟨e0, e1, hij, hjn⟩ := rngB_ends hrg
            clear hrg
            obtain ⟨i, hi⟩ : ∃ i, i = fromN L k := ⟨_, rfl⟩
            obtain ⟨j, hj⟩ : ∃ j, j = toN L k := ⟨_, rfl⟩
            rw [← hi] at e0 hij
            rw [← hj] at e1 hij hjn
            rw [e0] at c0
            rw [e1] at c1
            have HI := Lib.hid hi
            have HJ := Lib.hid hj
            clear hi hj e0 e1
            have HL : Hid (∀ W, Ext w W → Calls Tryz.prog 64 #[.slice (some ⟨bA, oA, none⟩) n c, .agg #[.int .i64 (i : Int), .int .i64 (j : Int)]] W fun e w' => e = .returned (.bool true) ∧ Ext W w') := Lib.hid (fun W X => by have q := spec_LeadOk (some ⟨bA, oA, none⟩) n c P i j (by omega) HN.out W (hr.ext X); rwa [rngB_nat hij hjn] at q)
            have p0' := ((Ext.refl wr).alloc (.cells #[.int .i64 (i : Int), .int .i64 (j : Int)] 71)).cell p0
            have p1' := ((Ext.refl wr).alloc (.cells #[.int .i64 (i : Int), .int .i64 (j : Int)] 71)).cell p1
            go_wp2_with fail
            refine (HL.out _ (X0.alloc _)).mono ?_
            rintro e w4 ⟨rfl, x4⟩
            have r0 := x4.cell p0'
            have r1 := x4.cell p1'
            have l0 := x4.cell (a := ⟨wr.heap.size, 0, none⟩) (u := .int .i64 (i : Int)) (by simp [go_sem])
            have l1 := x4.cell (a := ⟨wr.heap.size, 1, none⟩) (u := .int .i64 (j : Int)) (by simp [go_sem])
            have X4 : Ext w w4 := (X0.alloc _).trans x4
            have Y4 : Ext w1 w4 := (X.alloc _).trans x4
            clear p0' p1' p0 p1 c0 c1 x4 X X0 HL
            go_wp2
            go_loopw [7] (fun i3 wy => ∃ t : Nat, t ≤ k ∧ i3 = .int .i64 t ∧ Ext w4 wy ∧ ∀ r, r < t → crossAt P L k r = false) (fun i3 _ => k - (intOf i3).toNat)
            case atStart => exact ⟨0, Nat.zero_le _, rfl, Ext.refl w4, fun q hq => absurd hq (by omega)⟩
            case round =>
              obtain ⟨t, ht, rfl, Y, hcr⟩ := hrel
              have HCR := Lib.hid hcr
              clear hcr
              replace r0 := Y.cell r0
              replace r1 := Y.cell r1
              replace l0 := Y.cell l0
              replace l1 := Y.cell l1
              by_cases htk : t < k
              · obtain ⟨u0, u1⟩ := hs.cell2 (k := t) (by omega)
                obtain ⟨e0, e1, hpq, hqn⟩ := rngB_ends (leadAt_get (HAL2.out t htk))
                obtain ⟨p, hp⟩ : ∃ p, p = fromN L t := ⟨_, rfl⟩
                obtain ⟨q, hq⟩ : ∃ q, q = toN L t := ⟨_, rfl⟩
                rw [← hp] at e0 hpq
                rw [← hq] at e1 hpq hqn
                rw [e0] at u0
                rw [e1] at u1
                have HP := Lib.hid hp
                have HQ := Lib.hid hq
                clear hp hq e0 e1
                replace u0 := (X4.trans Y).cell u0
                replace u1 := (X4.trans Y).cell u1
                have t1 : (0 : Int) ≤ (t : Int) := by omega
                have t2 : (t : Int) < (m : Int) := by omega
                have HX := Lib.hid (fun W (Z : Ext w W) => spec_DoCross (some ⟨bA, oA, none⟩) n c P (by omega) HN.out p q i j hpq hqn hij hjn W (hr.ext Z))
                have hcx : crossB P p q i j = crossAt P L k t := by rw [crossB_comm]; unfold crossAt; rw [← HI.out, ← HJ.out, ← HP.out, ← HQ.out]
                rw [hcx] at HX
                clear hcx
                cases hc : crossAt P L k t
                · rw [hc] at HX
                  go_wp2
                  first | refine wp_region_gr2 (by kernel_rfl) (by kernel_rfl) ?_ | refine wp_region_gr (by kernel_rfl) (by kernel_rfl) ?_
                  repeat (go_big_quiet_step ((go_at_call 65; exact gr_of (HX.out _ ((X4.trans Y).trans (by repeat (first | exact Ext.refl _ | exact Ext.gr _ _ | apply Ext.wgr | apply Ext.drew | apply Ext.drewN | apply Ext.alloc)))))))
                  refine wpQuiet_nil ?_
                  intro _ hw'
                  obtain ⟨gq, hw''⟩ := hw'
                  subst hw''
                  go_wp2
                  go_roundw
                  case rel =>
                    refine ⟨t + 1, by omega, by go_num, Y.trans (by repeat (first | exact Ext.refl _ | exact Ext.gr _ _ | apply Ext.wgr | apply Ext.drew | apply Ext.drewN | apply Ext.alloc)), fun r hr => ?_⟩
                    by_cases e : r = t
                    · subst e; exact hc
                    · exact HCR.out r (by omega)
                  case measure => simp [intOf]; omega
                · rw [hc] at HX
                  have HD := Lib.hid (winB_lead (n := n) (P := P) hltm (leadAt_cross htk hc))
                  clear hc
                  go_wp2
                  first | refine wp_region_gr2 (by kernel_rfl) (by kernel_rfl) ?_ | refine wp_region_gr (by kernel_rfl) (by kernel_rfl) ?_
                  repeat (go_big_quiet_step ((go_at_call 65; exact gr_of (HX.out _ ((X4.trans Y).trans (by repeat (first | exact Ext.refl _ | exact Ext.gr _ _ | apply Ext.wgr | apply Ext.drew | apply Ext.drewN | apply Ext.alloc)))))))
                  refine wpQuiet_nil ?_
                  intro _ hw'
                  obtain ⟨gq, hw''⟩ := hw'
                  subst hw''
                  go_wp2
                  go_ret
                  exact ⟨congrArg (fun z => Ending.returned (.bool z)) HD.out.symm, (X4.trans Y).trans (by repeat (first | exact Ext.refl _ | exact Ext.gr _ _ | apply Ext.wgr | apply Ext.drew | apply Ext.drewN | apply Ext.alloc))⟩
              · obtain rfl : k = t := by omega
                go_wp2
                obtain ⟨w6, rfl⟩ : ∃ w6 : World, w6 = wr := ⟨_, rfl⟩
                replace X4 := X4.trans Y
                replace Y4 := Y4.trans Y
                clear Y
                go_loopw [8] (fun i4 wz => ∃ v : Nat, v ≤ n ∧ i4 = .int .i64 v ∧ Ext w6 wz ∧ ∀ r, r < v → onAt P L k r = false) (fun i4 _ => n - (intOf i4).toNat)
                case atStart => exact ⟨0, Nat.zero_le _, rfl, Ext.refl w6, fun q hq => absurd hq (by omega)⟩
                case round =>
                  obtain ⟨v, hv, rfl, Z, hon⟩ := hrel
                  have HON := Lib.hid hon
                  clear hon
                  replace r0 := Z.cell r0
                  replace l0 := Z.cell l0
                  replace l1 := Z.cell l1
                  by_cases hvn : v < n
                  · obtain ⟨u0, u1⟩ := hr.cell2 (k := v) hvn
                    replace u0 := (X4.trans Z).cell u0
                    replace u1 := (X4.trans Z).cell u1
                    have t1 : (0 : Int) ≤ (v : Int) := by omega
                    have t2 : (v : Int) < (n : Int) := by omega
                    by_cases hvi : v = i
                    · have HO : Hid (onAt P L k v = false) := Lib.hid (by unfold onAt; rw [← HI.out, hvi]; simp)
                      subst hvi
                      go_wp2
                      first | refine wp_region_gr2 (by kernel_rfl) (by kernel_rfl) ?_ | refine wp_region_gr (by kernel_rfl) (by kernel_rfl) ?_
                      repeat (go_big_quiet_step (fail))
                      refine wpQuiet_nil ?_
                      intro _ hw'
                      obtain ⟨gq, hw''⟩ := hw'
                      subst hw''
                      go_wp2
                      go_roundw
                      case rel =>
                        refine ⟨v + 1, by omega, by go_num, Z.trans (by repeat (first | exact Ext.refl _ | exact Ext.gr _ _ | apply Ext.wgr | apply Ext.drew | apply Ext.drewN | apply Ext.alloc)), fun r hr => ?_⟩
                        by_cases e : r = v
                        · subst e; exact HO.out
                        · exact HON.out r (by omega)
                      case measure => simp [intOf]; omega
                    · have n1 : (v == i) = false := by simpa using hvi
                      have n3 : (v != i) = true := by simpa using hvi
                      have n5 : ((v : Int) == (i : Int)) = false := by simp; omega
                      have n7 : ((v : Int) != (i : Int)) = true := by simp; omega
                      by_cases hvj : v = j
                      · have HO : Hid (onAt P L k v = false) := Lib.hid (by unfold onAt; rw [← HJ.out, hvj]; simp)
                        subst hvj
                        go_wp2
                        first | refine wp_region_gr2 (by kernel_rfl) (by kernel_rfl) ?_ | refine wp_region_gr (by kernel_rfl) (by kernel_rfl) ?_
                        repeat (go_big_quiet_step (fail))
                        refine wpQuiet_nil ?_
                        intro _ hw'
                        obtain ⟨gq, hw''⟩ := hw'
                        subst hw''
                        go_wp2
                        go_roundw
                        case rel =>
                          refine ⟨v + 1, by omega, by go_num, Z.trans (by repeat (first | exact Ext.refl _ | exact Ext.gr _ _ | apply Ext.wgr | apply Ext.drew | apply Ext.drewN | apply Ext.alloc)), fun r hr => ?_⟩
                          by_cases e : r = v
                          · subst e; exact HO.out
                          · exact HON.out r (by omega)
                        case measure => simp [intOf]; omega
                      · have n2 : (v == j) = false := by simpa using hvj
                        have n4 : (v != j) = true := by simpa using hvj
                        have n6 : ((v : Int) == (j : Int)) = false := by simp; omega
                        have n8 : ((v : Int) != (j : Int)) = true := by simp; omega
                        have hcx : betwB (P i 0) (P i 1) (P j 0) (P j 1) (P v 0) (P v 1) = onAt P L k v := by unfold onAt; rw [← HI.out, ← HJ.out]; simp [hvi, hvj]
                        have HX := Lib.hid (fun W (Q : Ext w W) => spec_IsOnLead (some ⟨bA, oA, none⟩) n c P (by omega) HN.out i j v hij hjn hvn hvi hvj W (hr.ext Q))
                        rw [hcx] at HX
                        clear hcx
                        cases hc : onAt P L k v
                        · rw [hc] at HX
                          go_wp2
                          first | refine wp_region_gr2 (by kernel_rfl) (by kernel_rfl) ?_ | refine wp_region_gr (by kernel_rfl) (by kernel_rfl) ?_
                          repeat (go_big_quiet_step ((go_at_call 66; exact gr_of (HX.out _ ((X4.trans Z).trans (by repeat (first | exact Ext.refl _ | exact Ext.gr _ _ | apply Ext.wgr | apply Ext.drew | apply Ext.drewN | apply Ext.alloc)))))))
                          refine wpQuiet_nil ?_
                          intro _ hw'
                          obtain ⟨gq, hw''⟩ := hw'
                          subst hw''
                          go_wp2
                          go_roundw
                          case rel =>
                            refine ⟨v + 1, by omega, by go_num, Z.trans (by repeat (first | exact Ext.refl _ | exact Ext.gr _ _ | apply Ext.wgr | apply Ext.drew | apply Ext.drewN | apply Ext.alloc)), fun r hr => ?_⟩
                            by_cases e : r = v
                            · subst e; exact hc
                            · exact HON.out r (by omega)
                          case measure => simp [intOf]; omega
                        · rw [hc] at HX
                          have HD := Lib.hid (winB_lead (n := n) (P := P) hltm (leadAt_on hvn hc))
                          clear hc
                          go_wp2
                          first | refine wp_region_gr2 (by kernel_rfl) (by kernel_rfl) ?_ | refine wp_region_gr (by kernel_rfl) (by kernel_rfl) ?_
                          repeat (go_big_quiet_step ((go_at_call 66; exact gr_of (HX.out _ ((X4.trans Z).trans (by repeat (first | exact Ext.refl _ | exact Ext.gr _ _ | apply Ext.wgr | apply Ext.drew | apply Ext.drewN | apply Ext.alloc)))))))
                          refine wpQuiet_nil ?_
                          intro _ hw'
                          obtain ⟨gq, hw''⟩ := hw'
                          subst hw''
                          go_wp2
                          go_ret
                          exact ⟨congrArg (fun z => Ending.returned (.bool z)) HD.out.symm, (X4.trans Z).trans (by repeat (first | exact Ext.refl _ | exact Ext.gr _ _ | apply Ext.wgr | apply Ext.drew | apply Ext.drewN | apply Ext.alloc))⟩
                  · obtain rfl : n = v := by omega
                    go_wp2
                    go_roundw
                    case rel =>
                      refine ⟨k + 1, by omega, by go_num, Y4.trans Z, fun r hr => ?_⟩
                      by_cases e : r = k
                      · subst e; exact leadAt_yes HRG.out HCR.out HON.out
                      · exact HAL2.out r (by omega)
                    case measure => simp [intOf]; omega
        · obtain rfl : m = k := by omega
          have HD := Lib.hid (winB_yes HS.out HNB.out HDI.out HAL2.out)
          go_wp2
          go_ret
          exact ⟨congrArg (fun z => Ending.returned (.bool z)) HD.out.symm, HX1.trans X⟩

end Go.Proofs.YtgmhmlhdiklaaaaGreatDoor
