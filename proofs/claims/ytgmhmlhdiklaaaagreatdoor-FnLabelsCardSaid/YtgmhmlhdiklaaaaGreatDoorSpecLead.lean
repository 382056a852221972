/-
  Contracts of the reference's test on a lead. No conditions.
-/
import Derived.Test.YtgmhmlhdiklaaaaGreatDoorLead
namespace Go.Proofs.YtgmhmlhdiklaaaaGreatDoor
open Go.RowKit
set_option linter.unusedVariables false

theorem rngB_out0 {n : Nat} {l0 l1 : Int} (h : inB l0 0 ((n : Int) - 1) = false) : rngB n l0 l1 = false := rngB_no (by intro q; unfold inB at h; simp at h; omega)
theorem rngB_out1 {n : Nat} {l0 l1 : Int} (h : inB l1 0 ((n : Int) - 1) = false) : rngB n l0 l1 = false := rngB_no (by intro q; unfold inB at h; simp at h; omega)
set_option maxRecDepth 100000 in
set_option maxHeartbeats 4000000 in
theorem spec_LeadOk (A : Option Addr) (n c : Nat) (P : Nat → Nat → Int) (l0 l1 : Int) (hn : n ≤ 9223372036854775807) (hN : NodesOk n P) (w : World) (hr : Recs w 2 A n P) :
    Calls Tryz.prog 64 #[.slice A n c, .agg #[.int .i64 l0, .int .i64 l1]] w fun e w' => e = .returned (.bool (rngB n l0 l1)) ∧ Ext w w' := by
  cases h0 : inB l0 0 ((n : Int) - 1)
  · have HR := Lib.hid (rngB_out0 (l1 := l1) h0)
    go_enter Tryz.func64, Tryz.ntmps64
    go_wp2_with (go_at_call 45; refine (l01In_any _ _ _ _).mono ?_; rintro e w' ⟨rfl, g, rfl⟩)
    go_ret
    exact ⟨congrArg (fun z => Ending.returned (.bool z)) HR.out.symm, by repeat (first | exact Ext.refl _ | apply Ext.wgr | apply Ext.drew | apply Ext.drewN | apply Ext.alloc)⟩
  cases h1 : inB l1 0 ((n : Int) - 1)
  · have HR := Lib.hid (rngB_out1 (l0 := l0) h1)
    go_enter Tryz.func64, Tryz.ntmps64
    go_wp2_with (go_at_call 45; refine (l01In_any _ _ _ _).mono ?_; rintro e w' ⟨rfl, g, rfl⟩)
    go_ret
    exact ⟨congrArg (fun z => Ending.returned (.bool z)) HR.out.symm, by repeat (first | exact Ext.refl _ | apply Ext.wgr | apply Ext.drew | apply Ext.drewN | apply Ext.alloc)⟩
  by_cases h2 : l1 ≤ l0
  · have HR := Lib.hid (rngB_no (n := n) (l0 := l0) (l1 := l1) (by omega))
    go_enter Tryz.func64, Tryz.ntmps64
    go_wp2_with (go_at_call 45; refine (l01In_any _ _ _ _).mono ?_; rintro e w' ⟨rfl, g, rfl⟩)
    go_ret
    exact ⟨congrArg (fun z => Ending.returned (.bool z)) HR.out.symm, by repeat (first | exact Ext.refl _ | apply Ext.wgr | apply Ext.drew | apply Ext.drewN | apply Ext.alloc)⟩
  have r0 := inB_of h0
  have r1 := inB_of h1
  obtain ⟨i, rfl⟩ : ∃ i : Nat, l0 = i := ⟨l0.toNat, by omega⟩
  obtain ⟨j, rfl⟩ : ∃ j : Nat, l1 = j := ⟨l1.toNat, by omega⟩
  have hij : i < j := by omega
  have hjn : j < n := by omega
  have hin : i < n := by omega
  have HR := Lib.hid (rngB_nat hij hjn)
  have hn1 := hN.1 i (by omega)
  have hn2 := hN.1 j (by omega)
  have he := hN.2 i j hij hjn
  have HN := Lib.hid hN
  clear hN
  obtain ⟨b, o, rfl, hb, _⟩ := hr.at2 hjn
  obtain ⟨e0, e1⟩ := hr.cell2 hin
  obtain ⟨f0, f1⟩ := hr.cell2 hjn
  have hE := run_neqNode
  have c0 := ((Ext.refl w).alloc (.cells #[.int .i64 (i : Int), .int .i64 (j : Int)] 71)).cell e0
  have c1 := ((Ext.refl w).alloc (.cells #[.int .i64 (i : Int), .int .i64 (j : Int)] 71)).cell e1
  have d0 := ((Ext.refl w).alloc (.cells #[.int .i64 (i : Int), .int .i64 (j : Int)] 71)).cell f0
  have d1 := ((Ext.refl w).alloc (.cells #[.int .i64 (i : Int), .int .i64 (j : Int)] 71)).cell f1
  have k3 : (0 : Int) ≤ (i : Int) := by omega
  have k4 : (i : Int) < (n : Int) := by omega
  have k5 : (0 : Int) ≤ (j : Int) := by omega
  have k6 : (j : Int) < (n : Int) := by omega
  have k7 : ¬ j ≤ i := by omega
  clear r0 r1 h2 hij
  have N1 : Hid (∀ k, k < n → ∀ W, Calls Tryz.prog 63 #[.agg #[.int .i64 (P k 0), .int .i64 (P k 1)]] W fun e w' => e = .returned (.bool true) ∧ Ext W w') := Lib.hid (fun k hk W => by have q := spec_NodeOk (P k 0) (P k 1) W; rwa [HN.out.1 k hk] at q)
  go_enter Tryz.func64, Tryz.ntmps64
  go_wp2_with (go_at_call 45; refine (l01In_any _ _ _ _).mono ?_; rintro e w' ⟨rfl, g, rfl⟩)
  first | refine wp_region_gr2 (by kernel_rfl) (by kernel_rfl) ?_ | refine wp_region_gr (by kernel_rfl) (by kernel_rfl) ?_
  repeat (go_big_quiet_step ((go_at_call 63; exact gr_of (N1.out _ (by assumption) _))))
  refine wpQuiet_nil ?_
  intro _ hw'
  obtain ⟨gq, hw''⟩ := hw'
  subst hw''
  go_wp2
  go_ret
  exact ⟨congrArg (fun z => Ending.returned (.bool z)) HR.out.symm, by repeat (first | exact Ext.refl _ | apply Ext.wgr | apply Ext.drew | apply Ext.drewN | apply Ext.alloc)⟩

end Go.Proofs.YtgmhmlhdiklaaaaGreatDoor
