/-
  The stable sorting of the panes by their weight, as the library does it. No conditions.
-/
import Derived.Test.YthnngekibkcgdaaPcV
import Derived.Test.YthnngekibkcgdaaRows
namespace Go.Proofs.Ythnngekibkcgdaa
open Go.RowKit Ring
set_option linter.unusedVariables false

set_option maxHeartbeats 8000000 in
set_option maxRecDepth 100000 in
theorem pack_insertion (g0 : Nat) (cf : Nat → Nat → Int) (pr : Nat → Prop) (wb : World)
    (HC : ∀ W, Ext wb W → ∀ x y : Nat, pr x → pr y → Calls Try.prog 30 #[.int .i64 (x : Int), .int .i64 (y : Int), .pointer (some ⟨g0, 0, none⟩)] W fun e w' => e = .returned (.int .i64 (cf x y)) ∧ Ext W w')
    (G c : Nat) (l : List Nat) (hl : l.length ≤ 20) (hp : ∀ x ∈ l, pr x) (hb : ∀ x ∈ l, x < 1000) (w : World) (X : Ext wb w) (hm : Mine wb.heap.size w 3 (.slice (some ⟨G, 0, none⟩) l.length c) l.length (nums l)) :
    Calls Try.prog 53 #[.slice (some ⟨G, 0, none⟩) l.length c, .int .i64 0, .int .i64 (l.length : Int), .func (.func 30) #[] #[.pointer (some ⟨g0, 0, none⟩)]] w fun e w' => e = .returned (.tuple #[]) ∧ Ext wb w' ∧ Mine wb.heap.size w' 3 (.slice (some ⟨G, 0, none⟩) l.length c) l.length (nums (srt (fun x y => decide (cf x y < 0)) l)) := by
  have hm1 : Mine wb.heap.size w 3 (.slice (some ⟨G, 0, none⟩) l.length c) l.length (nums (sortTo (fun x y => decide (cf x y < 0)) l 1)) := by rw [sortTo_one]; exact hm
  have HC' := Lib.hid HC
  have HP := Lib.hid hp
  have HBD := Lib.hid hb
  clear hm HC hp hb
  go_enter Try.func53, Try.ntmps53
  go_wp2
  go_loopw [8] (fun i wr => ∃ k : Nat, 1 ≤ k ∧ k ≤ l.length + 1 ∧ i = .int .i64 k ∧ Ext wb wr ∧ Mine wb.heap.size wr 3 (.slice (some ⟨G, 0, none⟩) l.length c) l.length (nums (sortTo (fun x y => decide (cf x y < 0)) l k))) (fun i _ => l.length + 1 - (intOf i).toNat)
  case atStart => exact ⟨1, by omega, by omega, rfl, X, hm1⟩
  case round =>
    clear hm1 X
    obtain ⟨k, hk1, hk2, rfl, X1, hm2⟩ := hrel
    by_cases hlt : k < l.length
    · have hxl : l.getD k 0 ∈ l := by rw [List.getD_eq_getElem?_getD, List.getElem?_eq_getElem hlt]; exact List.getElem_mem hlt
      have HOUT := Lib.hid (fun J (hJ : posOf ((fun x y => decide (cf x y < 0)) (l.getD k 0)) (srt (fun x y => decide (cf x y < 0)) (l.take k)) k = J) => sortTo_out (lt := fun x y => decide (cf x y < 0)) hlt hJ)
      have HX := Lib.hid (HP.out _ hxl)
      have hSl : (srt (fun x y => decide (cf x y < 0)) (l.take k)).length = k := take_srt_len (by omega)
      have HS : Hid (∀ q, q < k → pr ((srt (fun x y => decide (cf x y < 0)) (l.take k)).getD q 0)) := Lib.hid (fun q hq => srt_get (by rw [List.length_take]; omega) pr (fun y hy => HP.out y (List.mem_of_mem_take hy)))
      rw [sortTo_in hlt] at hm2
      have hRl : (l.drop (k + 1)).length = l.length - (k + 1) := List.length_drop
      generalize hS : srt (fun x y => decide (cf x y < 0)) (l.take k) = S at HOUT HS hSl hm2
      generalize l.getD k 0 = x at HOUT HX hm2
      generalize l.drop (k + 1) = R at HOUT hm2 hRl
      have k1 : (k : Int) < (l.length : Int) := by omega
      go_wp2
      go_loopw [9] (fun i3 wy => ∃ j : Nat, j ≤ k ∧ i3 = .int .i64 j ∧ Hid (posOf ((fun x y => decide (cf x y < 0)) x) S k = posOf ((fun x y => decide (cf x y < 0)) x) S j) ∧ Ext wb wy ∧ Mine wb.heap.size wy 3 (.slice (some ⟨G, 0, none⟩) l.length c) l.length (nums (insAt S j x ++ R))) (fun i3 _ => (intOf i3).toNat)
      case atStart => exact ⟨k, Nat.le_refl _, rfl, rfl, X1, hm2⟩
      case round =>
        clear X1 hm2
        obtain ⟨j, hj, rfl, HJ, Y, hm3⟩ := hrel
        have hjl : j < l.length := by omega
        have hjS : j ≤ S.length := by omega
        obtain ⟨hc1, hf1, _, _⟩ := hm3.at_ hjl
        rw [nums_ix, ins_at hjS] at hc1
        by_cases h0 : 0 < j
        · have hj1 : j - 1 < l.length := by omega
          obtain ⟨hc2, hf2, _, _⟩ := hm3.at_ hj1
          rw [nums_ix, ins_below hjS h0] at hc2
          have HPJ := HS.out (j - 1) (by omega)
          have HSW := Lib.hid (ins_swap (x := x) (R := R) hjS h0)
          have HPO : Hid (posOf ((fun x y => decide (cf x y < 0)) x) S j = if decide (cf x (S.getD (j - 1) 0) < 0) = true then posOf ((fun x y => decide (cf x y < 0)) x) S (j - 1) else j) := Lib.hid (by
            obtain ⟨q, rfl⟩ : ∃ q, j = q + 1 := ⟨j - 1, by omega⟩
            rfl)
          obtain ⟨p, hp⟩ : ∃ p, j = p + 1 := ⟨j - 1, by omega⟩
          subst hp
          rw [Nat.add_sub_cancel] at hc2 hf2 HPJ HSW HPO hj1
          have HCC := Lib.hid (fun W (Z : Ext wb W) => HC'.out W Z x (S.getD p 0) HX.out HPJ)
          have hyS := ins_below (x := x) (R := R) hjS h0
          rw [Nat.add_sub_cancel] at hyS
          generalize S.getD p 0 = y at hc2 HPJ HSW HPO HCC hyS
          obtain ⟨z, hz⟩ : ∃ z, z = cf x y := ⟨_, rfl⟩
          rw [← hz] at HPO HCC
          clear hz
          have d0 : decide ((p : Int) + 1 > 0) = true := decide_eq_true (by omega)
          have e1 : ((p : Int) + 1).toNat = p + 1 := by omega
          have e2 : (0 : Int) ≤ (p : Int) + 1 := by omega
          have e3 : (p : Int) + 1 < (l.length : Int) := by omega
          have e4 : (0 : Int) ≤ (p : Int) := by omega
          have e5 : (p : Int) < (l.length : Int) := by omega
          have e6 : IntKind.i64.wrap ((p : Int) + 1 - 1) = (p : Int) := by rw [IntKind.wrap_i64]; omega
          have e7 : IntKind.i64.wrap (p : Int) = (p : Int) := by rw [IntKind.wrap_i64]; omega
          by_cases hz : z < 0
          · have d1 : decide (z < 0) = true := by simpa using hz
            rw [if_pos d1] at HPO
            go_wp2
            first | refine wp_region_gr2 (by kernel_rfl) (by kernel_rfl) ?_ | refine wp_region_gr (by kernel_rfl) (by kernel_rfl) ?_
            repeat (go_big_quiet_step ((go_at_call 30; exact gr_of (HCC.out _ (by repeat (first | exact Y | apply Ext.wgr | apply Ext.drew | apply Ext.drewN | apply Ext.alloc))))))
            refine wpQuiet_nil ?_
            intro _ hw'
            obtain ⟨gq, hw''⟩ := hw'
            subst hw''
            have hm4 := hm3.gr gq
            have Y4 : Ext wb (wgr wr gq) := Y.wgr gq
            generalize wgr wr gq = wz at hm4 Y4 ⊢
            clear hm3 Y hc1 hf1 hc2 hf2
            obtain ⟨hc1, hf1, hgb, hgl⟩ := hm4.at_ hjl
            rw [nums_ix, ins_at hjS] at hc1
            obtain ⟨hc2, hf2, _, _⟩ := hm4.at_ hj1
            rw [nums_ix, hyS] at hc2
            go_wp2
            go_region
            have ix1 := hm4.ix_bd p
            rw [nums_ix, hyS] at ix1
            have ix2 := hm4.ix_bd (p + 1)
            rw [nums_ix, ins_at hjS] at ix2
            have hm5 := (hm4.stored hjl ix1).stored hj1 ix2
            rw [nums_set, nums_set, HSW.out] at hm5
            have Y5 := (((Y4.setCell (p := ⟨G, p + 1, none⟩) hgb (.int .i64 (y : Int))).setCell (p := ⟨G, p, none⟩) hgb (.int .i64 (x : Int))).drew)
            go_wp2
            go_roundw
            case rel => exact ⟨p, by omega, by go_num, HJ.trans HPO.out, Y5, hm5.drew⟩
            case measure => simp [intOf]
          · have d1 : decide (z < 0) = false := by simpa using hz
            rw [if_neg (by rw [d1]; simp)] at HPO
            have HO := Lib.hid (HOUT.out (p + 1) (HJ.trans HPO.out))
            go_wp2
            first | refine wp_region_gr2 (by kernel_rfl) (by kernel_rfl) ?_ | refine wp_region_gr (by kernel_rfl) (by kernel_rfl) ?_
            repeat (go_big_quiet_step ((go_at_call 30; exact gr_of (HCC.out _ (by repeat (first | exact Y | apply Ext.wgr | apply Ext.drew | apply Ext.drewN | apply Ext.alloc))))))
            refine wpQuiet_nil ?_
            intro _ hw'
            obtain ⟨gq, hw''⟩ := hw'
            subst hw''
            go_wp2
            go_roundw
            case rel => exact ⟨k + 1, by omega, by omega, by go_num, Y.wgr gq, by rw [← HO.out]; exact hm3.gr gq⟩
            case measure => simp [intOf]; omega
        · obtain rfl : j = 0 := by omega
          have d0 : decide ((0 : Int) > 0) = false := rfl
          have HO := Lib.hid (HOUT.out 0 HJ)
          go_wp2
          first | refine wp_region_gr2 (by kernel_rfl) (by kernel_rfl) ?_ | refine wp_region_gr (by kernel_rfl) (by kernel_rfl) ?_
          repeat (go_big_quiet_step (fail))
          refine wpQuiet_nil ?_
          intro _ hw'
          obtain ⟨gq, hw''⟩ := hw'
          subst hw''
          go_wp2
          go_roundw
          case rel => exact ⟨k + 1, by omega, by omega, by go_num, Y.wgr gq, by rw [← HO.out]; exact hm3.gr gq⟩
          case measure => simp [intOf]; omega
    · have he : sortTo (fun x y => decide (cf x y < 0)) l k = srt (fun x y => decide (cf x y < 0)) l := sortTo_all (by omega)
      rw [he] at hm2
      go_wp2
      go_end0
      exact ⟨rfl, X1, hm2⟩


set_option maxRecDepth 100000 in
theorem pack_none (g0 G c : Nat) (w : World) :
    Calls Try.prog 53 #[.slice (some ⟨G, 0, none⟩) 20 c, .int .i64 20, .int .i64 20, .func (.func 30) #[] #[.pointer (some ⟨g0, 0, none⟩)]] w fun e w' => e = .returned (.tuple #[]) ∧ w' = w := by
  go_enter Try.func53, Try.ntmps53
  go_wp2
  refine wp_loop_rounds 1 ?_
  rw [rounds_succ]
  go_wp2
  go_end0
  exact ⟨rfl, rfl⟩
set_option maxHeartbeats 2000000 in
set_option maxRecDepth 100000 in
theorem pack_stable (g0 : Nat) (cf : Nat → Nat → Int) (pr : Nat → Prop) (wb : World)
    (HC : ∀ W, Ext wb W → ∀ x y : Nat, pr x → pr y → Calls Try.prog 30 #[.int .i64 (x : Int), .int .i64 (y : Int), .pointer (some ⟨g0, 0, none⟩)] W fun e w' => e = .returned (.int .i64 (cf x y)) ∧ Ext W w')
    (G c : Nat) (l : List Nat) (hl : l.length ≤ 20) (hp : ∀ x ∈ l, pr x) (hb : ∀ x ∈ l, x < 1000) (w : World) (X : Ext wb w) (hm : Mine wb.heap.size w 3 (.slice (some ⟨G, 0, none⟩) l.length c) l.length (nums l)) :
    Calls Try.prog 39 #[.slice (some ⟨G, 0, none⟩) l.length c, .int .i64 (l.length : Int), .func (.func 30) #[] #[.pointer (some ⟨g0, 0, none⟩)]] w fun e w' => e = .returned (.tuple #[]) ∧ Ext wb w' ∧ Mine wb.heap.size w' 3 (.slice (some ⟨G, 0, none⟩) l.length c) l.length (nums (srt (fun x y => decide (cf x y < 0)) l)) := by
  have HI := Lib.hid (pack_insertion g0 cf pr wb HC G c l hl hp hb w X hm)
  clear HC hp hb hm
  have h20 : ¬ (20 : Int) < (l.length : Int) := by omega
  by_cases he : l.length = 20
  · have HN := Lib.hid (fun W => pack_none g0 G c W)
    rw [he] at HI ⊢
    go_enter Try.func39, Try.ntmps39
    go_wp2
    refine wp_loop_rounds 2 ?_
    rw [rounds_succ]
    go_wp2_with fail
    refine (HI.out).mono ?_
    rintro e w1 ⟨rfl, h1, h2⟩
    go_wp2
    rw [rounds_succ]
    go_wp2_with fail
    refine (HN.out _).mono ?_
    rintro e w2 ⟨rfl, rfl⟩
    go_wp2
    refine wp_loop_rounds 1 ?_
    rw [rounds_succ]
    go_wp2
    go_end0
    exact ⟨rfl, h1, h2⟩
  · have hlt : ¬ (20 : Int) ≤ (l.length : Int) := by omega
    go_enter Try.func39, Try.ntmps39
    go_wp2
    refine wp_loop_rounds 1 ?_
    rw [rounds_succ]
    go_wp2_with fail
    refine (HI.out).mono ?_
    rintro e w1 ⟨rfl, h1, h2⟩
    go_wp2
    refine wp_loop_rounds 1 ?_
    rw [rounds_succ]
    go_wp2
    go_end0
    exact ⟨rfl, h1, h2⟩
set_option maxHeartbeats 2000000 in
set_option maxRecDepth 100000 in
theorem pack_sort (g0 : Nat) (cf : Nat → Nat → Int) (pr : Nat → Prop) (wb : World)
    (HC : ∀ W, Ext wb W → ∀ x y : Nat, pr x → pr y → Calls Try.prog 30 #[.int .i64 (x : Int), .int .i64 (y : Int), .pointer (some ⟨g0, 0, none⟩)] W fun e w' => e = .returned (.int .i64 (cf x y)) ∧ Ext W w')
    (G c : Nat) (l : List Nat) (hl : l.length ≤ 20) (hp : ∀ x ∈ l, pr x) (hb : ∀ x ∈ l, x < 1000) (w : World) (X : Ext wb w) (hm : Mine wb.heap.size w 3 (.slice (some ⟨G, 0, none⟩) l.length c) l.length (nums l)) :
    Calls Try.prog 29 #[.slice (some ⟨G, 0, none⟩) l.length c, .func (.func 30) #[] #[.pointer (some ⟨g0, 0, none⟩)]] w fun e w' => e = .returned (.tuple #[]) ∧ Ext wb w' ∧ Mine wb.heap.size w' 3 (.slice (some ⟨G, 0, none⟩) l.length c) l.length (nums (srt (fun x y => decide (cf x y < 0)) l)) := by
  have HI := Lib.hid (pack_stable g0 cf pr wb HC G c l hl hp hb w X hm)
  clear HC hp hb hm
  go_enter Try.func29, Try.ntmps29
  go_wp2_with fail
  refine (HI.out).mono ?_
  rintro e w1 ⟨rfl, h1, h2⟩
  go_wp2
  go_end0
  exact ⟨rfl, h1, h2⟩
set_option maxHeartbeats 2000000 in
set_option maxRecDepth 100000 in
theorem pack_cmp (A : Option Addr) (n c : Nat) (f : Nat → Nat → Int) (x y g0 : Nat) (hx : x < n) (hy : y < n) (hf : allIn n f 0 10000 = true) (w : World) (hr : Recs w 1 A n f) (q0 : w.cell? ⟨g0, 0, none⟩ = some (.slice A n c)) :
    Calls Try.prog 30 #[.int .i64 (x : Int), .int .i64 (y : Int), .pointer (some ⟨g0, 0, none⟩)] w fun e w' => e = .returned (.int .i64 (f y 0 - f x 0)) ∧ Ext w w' := by
  obtain ⟨b, o, rfl, hb, cx⟩ := hr.at1 hx
  have cy := hr.cell1 hy
  have h1 := allIn_get hf hx
  have h2 := allIn_get hf hy
  have k1 : (0 : Int) ≤ (x : Int) := by omega
  have k2 : (x : Int) < (n : Int) := by omega
  have k3 : (0 : Int) ≤ (y : Int) := by omega
  have k4 : (y : Int) < (n : Int) := by omega
  clear hr hf
  go_enter Try.func30, Try.ntmps30
  go_wp2
  go_region
  go_wp2
  go_ret
  exact ⟨rfl, by repeat (first | exact Ext.refl _ | apply Ext.drew | apply Ext.drewN)⟩

end Go.Proofs.Ythnngekibkcgdaa
