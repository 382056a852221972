/-
  Texts of one kind, one behind the other: ReadV ReadI ReadK OrdI OrdS NumV NumI NumS. No conditions.
-/
import Derived.Test.YtbbbgegmkmmjkaaGreatDoorPanM
import Derived.Test.YtbbbgegmkmmjkaaGreatDoorGeoM
import Derived.Test.YtbbbgegmkmmjkaaGreatDoorDartM
import Derived.Test.YtbbbgegmkmmjkaaGreatDoorWhoM
import Derived.Deep.DeepCutAuto
import Derived.Deep.CutRange
import Derived.Deep.DrawnRows
import Derived.RowKit3
import Derived.Maps.AppendAt
import Derived.Test.YtbbbgegmkmmjkaaGreatDoorFdx
import Derived.Test.YtbbbgegmkmmjkaaGreatDoorSmallV
/- ReadV -/
namespace Go.Proofs.YtbbbgegmkmmjkaaGreatDoor
open Go.RowKit Ring
set_option linter.unusedVariables false

def cmpR (n : Nat) (P : Nat → Nat → Int) (m : Nat) (L : Nat → Nat → Int) (f g : Nat) : Int := if hiN n P m L f 1 = hiN n P m L g 1 then loN n P m L f 0 - loN n P m L g 0 else hiN n P m L g 1 - hiN n P m L f 1
def ltR (n : Nat) (P : Nat → Nat → Int) (m : Nat) (L : Nat → Nat → Int) : Nat → Nat → Bool := fun f g => decide (cmpR n P m L f g < 0)
/-- The faces below t but the wall. -/
def panesT (n : Nat) (P : Nat → Nat → Int) (m : Nat) (L : Nat → Nat → Int) (t : Nat) : List Nat := (List.range t).filter fun f => !decide ((f : Int) = outerV n P m L)
def readV (n : Nat) (P : Nat → Nat → Int) (m : Nat) (L : Nat → Nat → Int) : List Nat := srt (ltR n P m L) (panesT n P m L (facesV n P m L).length)
section
variable {n m : Nat} {P L : Nat → Nat → Int}
theorem cmpR_same {f g : Nat} (h : hiN n P m L f 1 = hiN n P m L g 1) : cmpR n P m L f g = loN n P m L f 0 - loN n P m L g 0 := if_pos h
theorem cmpR_other {f g : Nat} (h : ¬ hiN n P m L f 1 = hiN n P m L g 1) : cmpR n P m L f g = hiN n P m L g 1 - hiN n P m L f 1 := if_neg h
theorem panesT_yes {t : Nat} (h : ¬ (t : Int) = outerV n P m L) : panesT n P m L (t + 1) = panesT n P m L t ++ [t] := by simp [panesT, List.range_succ, List.filter_append, h]
theorem panesT_no {t : Nat} (h : (t : Int) = outerV n P m L) : panesT n P m L (t + 1) = panesT n P m L t := by simp [panesT, List.range_succ, List.filter_append, h]
theorem panesT_len (t : Nat) : (panesT n P m L t).length ≤ t := Nat.le_trans (List.length_filter_le _ _) (by simp)
theorem panesT_lt {t f : Nat} (h : f ∈ panesT n P m L t) : f < t := by simp [panesT] at h; exact h.1
/-- One of the faces is the wall. -/
theorem wall_in (hw : wholeB n P m L = true) : ∃ k : Nat, k < (facesV n P m L).length ∧ outerV n P m L = k := by
  obtain ⟨hwin, hm, hall⟩ := wholeB_get hw
  obtain ⟨f0, h1, h2⟩ := faces_sign hwin hall hm
  have hF := facesV_yes hw
  rcases outerV_cases (n := n) (m := m) (P := P) (L := L) with ⟨_, h⟩ | ⟨k, g1, g2, _⟩
  · have h3 := h f0 (by rw [hF]; exact h1)
    unfold faceA at h3
    rw [hF] at h3
    have h4 := (h2 f0 h1).1 rfl
    omega
  · exact ⟨k, g1, g2⟩
theorem panes_few (hw : wholeB n P m L = true) : (panesT n P m L (facesV n P m L).length).length < 20 := by
  obtain ⟨k, hk, ho⟩ := wall_in hw
  have hl := faces_len (n := n) (m := m) (P := P) (L := L)
  have : ∀ t, k < t → (panesT n P m L t).length < t := by
    intro t ht
    induction t with
    | zero => omega
    | succ t ih =>
      by_cases e : t = k
      · rw [panesT_no (by rw [ho, e])]
        have := panesT_len (n := n) (m := m) (P := P) (L := L) t
        omega
      · rw [panesT_yes (by rw [ho]; omega)]
        have := ih (by omega)
        simp; omega
  have := this _ hk
  omega
theorem readV_len : (readV n P m L).length ≤ 20 := by
  unfold readV
  rw [srt_len]
  have h1 := panesT_len (n := n) (m := m) (P := P) (L := L) (facesV n P m L).length
  have h2 := faces_len (n := n) (m := m) (P := P) (L := L)
  omega
theorem readV_lt {f : Nat} (h : f ∈ readV n P m L) : f < 20 := by
  have h1 := panesT_lt ((srt_mem _ _ _).1 h)
  have h2 := faces_len (n := n) (m := m) (P := P) (L := L)
  omega
theorem readV_no (h : wholeB n P m L = false) : readV n P m L = [] := by
  unfold readV
  rw [facesV_no h]; rfl
end

end Go.Proofs.YtbbbgegmkmmjkaaGreatDoor

/- ReadI -/
namespace Go.Proofs.YtbbbgegmkmmjkaaGreatDoor
open Go.RowKit Ring
set_option linter.unusedVariables false

attribute [local go_sem ↓] Go.wp_at_zero Go.wp_at_succ
attribute [local go_sem, local simp] Go.World.cell?_alloc_some Go.World.frozen?_alloc_past

set_option maxRecDepth 100000 in
set_option maxHeartbeats 4000000 in
theorem impl_topOf (A : Option Addr) (n c : Nat) (P : Nat → Nat → Int) (B : Option Addr) (m d : Nat) (L : Nat → Nat → Int) (hnc : n ≤ c) (hcm : c ≤ 9223372036854775807) (hmd : m ≤ d) (hdm : d ≤ 9223372036854775807) (f : Int) (hf : (-9223372036854775808 ≤ f ∧ f ≤ 9223372036854775807)) (w : World) (hr : Recs w 2 A n P) (hs : Recs w 2 B m L) :
    Calls Tryz.prog 33 #[.agg #[.slice A n c, .slice B m d], .int .i64 f] w fun e w' => e = .returned (.int .i64 (hiN n P m L f 1)) ∧ Ext w w' := by
  have HBX : Hid (∀ W, Ext w W → ∀ f : Int, (-9223372036854775808 ≤ f ∧ f ≤ 9223372036854775807) → Calls Tryz.prog 48 #[.agg #[.slice A n c, .slice B m d], .int .i64 f] W fun e w' => e = .returned (.tuple #[.agg #[.int .i64 (loN n P m L f 0), .int .i64 (loN n P m L f 1)], .agg #[.int .i64 (hiN n P m L f 0), .int .i64 (hiN n P m L f 1)]]) ∧ Ext W w') := Lib.hid (fun W Z f hf => impl_PaneBox A n c P B m d L hnc hcm hmd hdm f hf W (hr.ext Z) (hs.ext Z))
  have HB1 := Lib.hid (fun W Z => HBX.out W Z f hf)
  clear HBX
  generalize loN n P m L f = l at *
  generalize hiN n P m L f = h at *
  go_enter Tryz.func33, Tryz.ntmps33
  go_wp2_with fail
  refine (HB1.out _ (by repeat (first | exact Ext.refl _ | apply Ext.alloc))).mono ?_
  rintro e w1 ⟨rfl, x1⟩
  have X1 : Ext w w1 := Ext.trans (by repeat (first | exact Ext.refl _ | apply Ext.alloc)) x1
  go_wp2
  go_ret
  exact ⟨rfl, (X1.alloc _).alloc _⟩
set_option maxRecDepth 100000 in
set_option maxHeartbeats 2000000 in
theorem read_cmp (A : Option Addr) (n c : Nat) (P : Nat → Nat → Int) (B : Option Addr) (m d : Nat) (L : Nat → Nat → Int) (hnc : n ≤ c) (hcm : c ≤ 9223372036854775807) (hmd : m ≤ d) (hdm : d ≤ 9223372036854775807) (x y g2 : Nat) (hx : x < 1000) (hy : y < 1000) (w : World) (hr : Recs w 2 A n P) (hs : Recs w 2 B m L) (q0 : w.cell? ⟨g2, 0, none⟩ = some (.slice A n c)) (q1 : w.cell? ⟨g2, 1, none⟩ = some (.slice B m d)) :
    Calls Tryz.prog 47 #[.int .i64 (x : Int), .int .i64 (y : Int), .pointer (some ⟨g2, 0, none⟩)] w fun e w' => e = .returned (.int .i64 (cmpR n P m L x y)) ∧ Ext w w' := by
  have HBX : Hid (∀ W, Ext w W → ∀ f : Int, (-9223372036854775808 ≤ f ∧ f ≤ 9223372036854775807) → Calls Tryz.prog 48 #[.agg #[.slice A n c, .slice B m d], .int .i64 f] W fun e w' => e = .returned (.tuple #[.agg #[.int .i64 (loN n P m L f 0), .int .i64 (loN n P m L f 1)], .agg #[.int .i64 (hiN n P m L f 0), .int .i64 (hiN n P m L f 1)]]) ∧ Ext W w') := Lib.hid (fun W Z f hf => impl_PaneBox A n c P B m d L hnc hcm hmd hdm f hf W (hr.ext Z) (hs.ext Z))
  have HTO : Hid (∀ W, Ext w W → ∀ q : Nat, q < 1000 → Calls Tryz.prog 33 #[.agg #[.slice A n c, .slice B m d], .int .i64 (q : Int)] W fun e w' => e = .returned (.int .i64 (hiN n P m L q 1)) ∧ Ext W w') := Lib.hid (fun W Z q hq => impl_topOf A n c P B m d L hnc hcm hmd hdm q (by omega) W (hr.ext Z) (hs.ext Z))
  have hb1 := (lohi_rng (n := n) (m := m) (P := P) (L := L) (x : Int) (j := 1) (by omega)).2
  have hb2 := (lohi_rng (n := n) (m := m) (P := P) (L := L) (y : Int) (j := 1) (by omega)).2
  have hb3 := (lohi_rng (n := n) (m := m) (P := P) (L := L) (x : Int) (j := 0) (by omega)).1
  have hb4 := (lohi_rng (n := n) (m := m) (P := P) (L := L) (y : Int) (j := 0) (by omega)).1
  have HBF : Hid (∀ W, Ext w W → ∀ q : Nat, q < 1000 → Calls Tryz.prog 48 #[.agg #[.slice A n c, .slice B m d], .int .i64 (q : Int)] W fun e w' => e = .returned (.tuple #[.agg #[.int .i64 (loN n P m L q 0), .int .i64 (loN n P m L q 1)], .agg #[.int .i64 (hiN n P m L q 0), .int .i64 (hiN n P m L q 1)]]) ∧ Ext W w') := Lib.hid (fun W Z q hq => HBX.out W Z q (by omega))
  have CS := Lib.hid (@cmpR_same n m P L x y)
  have CO := Lib.hid (@cmpR_other n m P L x y)
  have Q0 := Lib.hid q0
  have Q1 := Lib.hid q1
  clear HBX
  generalize cmpR n P m L x y = cv at *
  generalize loN n P m L = lo at *
  generalize hiN n P m L = hi at *
  by_cases heq : hi (x : Int) 1 = hi (y : Int) 1
  · have HR := Lib.hid (CS.out heq)
    have d1 : (hi (x : Int) 1 != hi (y : Int) 1) = false := by simp [heq]
    go_enter Tryz.func47, Tryz.ntmps47
    go_wp2
    first | refine wp_region_gr2 (by kernel_rfl) (by kernel_rfl) ?_ | refine wp_region_gr (by kernel_rfl) (by kernel_rfl) ?_
    repeat (go_big_quiet_step ((go_at_call 33; exact gr_of (HTO.out _ (by repeat (first | exact Ext.refl _ | apply Ext.wgr | apply Ext.drew | apply Ext.drewN | apply Ext.alloc)) _ (by assumption)))))
    refine wpQuiet_nil ?_
    intro _ hw'
    obtain ⟨gq, hw''⟩ := hw'
    subst hw''
    have X1 := Ext.gr w gq
    clear q0 q1
    generalize wgr w gq = w1 at *
    have q0 := X1.cell Q0.out
    have q1 := X1.cell Q1.out
    go_wp2_with fail
    refine (HBF.out _ X1 x hx).mono ?_
    rintro e w2 ⟨rfl, x2⟩
    have X2 := X1.trans x2
    replace q0 := x2.cell q0
    replace q1 := x2.cell q1
    go_wp2_with fail
    refine (HBF.out _ ((X2.alloc _).alloc _) y hy).mono ?_
    rintro e w3 ⟨rfl, x3⟩
    have c0 := x3.cell (a := ⟨w2.heap.size, 0, none⟩) (u := .int .i64 (lo (x : Int) 0)) (by simp [go_sem])
    have c1 := x3.cell (a := ⟨w2.heap.size, 1, none⟩) (u := .int .i64 (lo (x : Int) 1)) (by simp [go_sem])
    have X3 := ((X2.alloc _).alloc _).trans x3
    clear x3
    go_wp2
    go_ret
    exact ⟨ret_i HR.out.symm, (X3.alloc _).alloc _⟩
  · have HR := Lib.hid (CO.out heq)
    have d1 : (hi (x : Int) 1 != hi (y : Int) 1) = true := by simp [heq]
    go_enter Tryz.func47, Tryz.ntmps47
    go_wp2
    first | refine wp_region_gr2 (by kernel_rfl) (by kernel_rfl) ?_ | refine wp_region_gr (by kernel_rfl) (by kernel_rfl) ?_
    repeat (go_big_quiet_step ((go_at_call 33; exact gr_of (HTO.out _ (by repeat (first | exact Ext.refl _ | apply Ext.wgr | apply Ext.drew | apply Ext.drewN | apply Ext.alloc)) _ (by assumption)))))
    refine wpQuiet_nil ?_
    intro _ hw'
    obtain ⟨gq, hw''⟩ := hw'
    subst hw''
    have X1 := Ext.gr w gq
    go_wp2
    go_ret
    exact ⟨ret_i HR.out.symm, X1⟩

end Go.Proofs.YtbbbgegmkmmjkaaGreatDoor

/- ReadK -/
namespace Go.Proofs.YtbbbgegmkmmjkaaGreatDoor
open Go.RowKit Ring
set_option linter.unusedVariables false

set_option maxHeartbeats 8000000 in
set_option maxRecDepth 100000 in
theorem read_insertion (g0 : Nat) (cf : Nat → Nat → Int) (pr : Nat → Prop) (wb : World)
    (HC : ∀ W, Ext wb W → ∀ x y : Nat, pr x → pr y → Calls Tryz.prog 47 #[.int .i64 (x : Int), .int .i64 (y : Int), .pointer (some ⟨g0, 0, none⟩)] W fun e w' => e = .returned (.int .i64 (cf x y)) ∧ Ext W w')
    (G c : Nat) (l : List Nat) (hl : l.length ≤ 20) (hp : ∀ x ∈ l, pr x) (hb : ∀ x ∈ l, x < 1000) (w : World) (X : Ext wb w) (hm : Mine wb.heap.size w 3 (.slice (some ⟨G, 0, none⟩) l.length c) l.length (nums l)) :
    Calls Tryz.prog 75 #[.slice (some ⟨G, 0, none⟩) l.length c, .int .i64 0, .int .i64 (l.length : Int), .func (.func 47) #[] #[.pointer (some ⟨g0, 0, none⟩)]] w fun e w' => e = .returned (.tuple #[]) ∧ Ext wb w' ∧ Mine wb.heap.size w' 3 (.slice (some ⟨G, 0, none⟩) l.length c) l.length (nums (srt (fun x y => decide (cf x y < 0)) l)) := by
  have hm1 : Mine wb.heap.size w 3 (.slice (some ⟨G, 0, none⟩) l.length c) l.length (nums (sortTo (fun x y => decide (cf x y < 0)) l 1)) := by rw [sortTo_one]; exact hm
  have HC' := Lib.hid HC
  have HP := Lib.hid hp
  have HBD := Lib.hid hb
  clear hm HC hp hb
  go_enter Tryz.func75, Tryz.ntmps75
  go_wp2
  go_loopw [8] (fun i wr => ∃ k : Nat, 1 ≤ k ∧ k ≤ l.length + 1 ∧ i = .int .i64 k ∧ Ext wb wr ∧ Mine wb.heap.size wr 3 (.slice (some ⟨G, 0, none⟩) l.length c) l.length (nums (sortTo (fun x y => decide (cf x y < 0)) l k))) (fun i _ => l.length + 1 - (intOf i).toNat)
  case atStart => exact ⟨1, by omega, by omega, rfl, X, hm1⟩
  case round =>
    clear hm1 X
    obtain ⟨k, hk1, hk2, rfl, X1, hm2⟩ := hrel
    by_cases hlt : k < l.length
    · have hxl : l.getD k 0 ∈ l := by rw [List.getD_eq_getElem?_getD, List.getElem?_eq_getElem hlt]; exact List.getElem_mem hlt
      have HOUT := Lib.hid (fun J (hJ : posOf ((fun x y => decide (cf x y < 0)) (l.getD k 0)) (srt (fun x y => decide (cf x y < 0)) (l.take k)) k = J) => sortTo_out (lt := fun x y => decide (cf x y < 0)) hlt hJ)
      have HX := Lib.hid (HP.out _ hxl)
      have hSl : (srt (fun x y => decide (cf x y < 0)) (l.take k)).length = k := take_srt_len (by omega)
      have HS : Hid (∀ q, q < k → pr ((srt (fun x y => decide (cf x y < 0)) (l.take k)).getD q 0)) := Lib.hid (fun q hq => srt_get (by rw [List.length_take]; omega) pr (fun y hy => HP.out y (List.mem_of_mem_take hy)))
      rw [sortTo_in hlt] at hm2
      have hRl : (l.drop (k + 1)).length = l.length - (k + 1) := List.length_drop
      generalize hS : srt (fun x y => decide (cf x y < 0)) (l.take k) = S at HOUT HS hSl hm2
      generalize l.getD k 0 = x at HOUT HX hm2
      generalize l.drop (k + 1) = R at HOUT hm2 hRl
      have k1 : (k : Int) < (l.length : Int) := by omega
      go_wp2
      go_loopw [9] (fun i3 wy => ∃ j : Nat, j ≤ k ∧ i3 = .int .i64 j ∧ Hid (posOf ((fun x y => decide (cf x y < 0)) x) S k = posOf ((fun x y => decide (cf x y < 0)) x) S j) ∧ Ext wb wy ∧ Mine wb.heap.size wy 3 (.slice (some ⟨G, 0, none⟩) l.length c) l.length (nums (insAt S j x ++ R))) (fun i3 _ => (intOf i3).toNat)
      case atStart => exact ⟨k, Nat.le_refl _, rfl, rfl, X1, hm2⟩
      case round =>
        clear X1 hm2
        obtain ⟨j, hj, rfl, HJ, Y, hm3⟩ := hrel
        have hjl : j < l.length := by omega
        have hjS : j ≤ S.length := by omega
        obtain ⟨hc1, hf1, _, _⟩ := hm3.at_ hjl
        rw [nums_ix, ins_at hjS] at hc1
        by_cases h0 : 0 < j
        · have hj1 : j - 1 < l.length := by omega
          obtain ⟨hc2, hf2, _, _⟩ := hm3.at_ hj1
          rw [nums_ix, ins_below hjS h0] at hc2
          have HPJ := HS.out (j - 1) (by omega)
          have HSW := Lib.hid (ins_swap (x := x) (R := R) hjS h0)
          have HPO : Hid (posOf ((fun x y => decide (cf x y < 0)) x) S j = if decide (cf x (S.getD (j - 1) 0) < 0) = true then posOf ((fun x y => decide (cf x y < 0)) x) S (j - 1) else j) := Lib.hid (by
            obtain ⟨q, rfl⟩ : ∃ q, j = q + 1 := ⟨j - 1, by omega⟩
            rfl)
          obtain ⟨p, hp⟩ : ∃ p, j = p + 1 := ⟨j - 1, by omega⟩
          subst hp
          rw [Nat.add_sub_cancel] at hc2 hf2 HPJ HSW HPO hj1
          have HCC := Lib.hid (fun W (Z : Ext wb W) => HC'.out W Z x (S.getD p 0) HX.out HPJ)
          have hyS := ins_below (x := x) (R := R) hjS h0
          rw [Nat.add_sub_cancel] at hyS
          generalize S.getD p 0 = y at hc2 HPJ HSW HPO HCC hyS
          obtain ⟨z, hz⟩ : ∃ z, z = cf x y := ⟨_, rfl⟩
          rw [← hz] at HPO HCC
          clear hz
          have d0 : decide ((p : Int) + 1 > 0) = true := decide_eq_true (by omega)
          have e1 : ((p : Int) + 1).toNat = p + 1 := by omega
          have e2 : (0 : Int) ≤ (p : Int) + 1 := by omega
          have e3 : (p : Int) + 1 < (l.length : Int) := by omega
          have e4 : (0 : Int) ≤ (p : Int) := by omega
          have e5 : (p : Int) < (l.length : Int) := by omega
          have e6 : IntKind.i64.wrap ((p : Int) + 1 - 1) = (p : Int) := by rw [IntKind.wrap_i64]; omega
          have e7 : IntKind.i64.wrap (p : Int) = (p : Int) := by rw [IntKind.wrap_i64]; omega
          by_cases hz : z < 0
          · have d1 : decide (z < 0) = true := by simpa using hz
            rw [if_pos d1] at HPO
            go_wp2
            first | refine wp_region_gr2 (by kernel_rfl) (by kernel_rfl) ?_ | refine wp_region_gr (by kernel_rfl) (by kernel_rfl) ?_
            repeat (go_big_quiet_step ((go_at_call 47; exact gr_of (HCC.out _ (by repeat (first | exact Y | apply Ext.wgr | apply Ext.drew | apply Ext.drewN | apply Ext.alloc))))))
            refine wpQuiet_nil ?_
            intro _ hw'
            obtain ⟨gq, hw''⟩ := hw'
            subst hw''
            have hm4 := hm3.gr gq
            have Y4 : Ext wb (wgr wr gq) := Y.wgr gq
            generalize wgr wr gq = wz at hm4 Y4 ⊢
            clear hm3 Y hc1 hf1 hc2 hf2
            obtain ⟨hc1, hf1, hgb, hgl⟩ := hm4.at_ hjl
            rw [nums_ix, ins_at hjS] at hc1
            obtain ⟨hc2, hf2, _, _⟩ := hm4.at_ hj1
            rw [nums_ix, hyS] at hc2
            go_wp2
            go_region
            have ix1 := hm4.ix_bd p
            rw [nums_ix, hyS] at ix1
            have ix2 := hm4.ix_bd (p + 1)
            rw [nums_ix, ins_at hjS] at ix2
            have hm5 := (hm4.stored hjl ix1).stored hj1 ix2
            rw [nums_set, nums_set, HSW.out] at hm5
            have Y5 := (((Y4.setCell (p := ⟨G, p + 1, none⟩) hgb (.int .i64 (y : Int))).setCell (p := ⟨G, p, none⟩) hgb (.int .i64 (x : Int))).drew)
            go_wp2
            go_roundw
            case rel => exact ⟨p, by omega, by go_num, HJ.trans HPO.out, Y5, hm5.drew⟩
            case measure => simp [intOf]
          · have d1 : decide (z < 0) = false := by simpa using hz
            rw [if_neg (by rw [d1]; simp)] at HPO
            have HO := Lib.hid (HOUT.out (p + 1) (HJ.trans HPO.out))
            go_wp2
            first | refine wp_region_gr2 (by kernel_rfl) (by kernel_rfl) ?_ | refine wp_region_gr (by kernel_rfl) (by kernel_rfl) ?_
            repeat (go_big_quiet_step ((go_at_call 47; exact gr_of (HCC.out _ (by repeat (first | exact Y | apply Ext.wgr | apply Ext.drew | apply Ext.drewN | apply Ext.alloc))))))
            refine wpQuiet_nil ?_
            intro _ hw'
            obtain ⟨gq, hw''⟩ := hw'
            subst hw''
            go_wp2
            go_roundw
            case rel => exact ⟨k + 1, by omega, by omega, by go_num, Y.wgr gq, by rw [← HO.out]; exact hm3.gr gq⟩
            case measure => simp [intOf]; omega
        · obtain rfl : j = 0 := by omega
          have d0 : decide ((0 : Int) > 0) = false := rfl
          have HO := Lib.hid (HOUT.out 0 HJ)
          go_wp2
          first | refine wp_region_gr2 (by kernel_rfl) (by kernel_rfl) ?_ | refine wp_region_gr (by kernel_rfl) (by kernel_rfl) ?_
          repeat (go_big_quiet_step (fail))
          refine wpQuiet_nil ?_
          intro _ hw'
          obtain ⟨gq, hw''⟩ := hw'
          subst hw''
          go_wp2
          go_roundw
          case rel => exact ⟨k + 1, by omega, by omega, by go_num, Y.wgr gq, by rw [← HO.out]; exact hm3.gr gq⟩
          case measure => simp [intOf]; omega
    · have he : sortTo (fun x y => decide (cf x y < 0)) l k = srt (fun x y => decide (cf x y < 0)) l := sortTo_all (by omega)
      rw [he] at hm2
      go_wp2
      go_end0
      exact ⟨rfl, X1, hm2⟩


set_option maxHeartbeats 2000000 in
set_option maxRecDepth 100000 in
theorem read_stable (g0 : Nat) (cf : Nat → Nat → Int) (pr : Nat → Prop) (wb : World)
    (HC : ∀ W, Ext wb W → ∀ x y : Nat, pr x → pr y → Calls Tryz.prog 47 #[.int .i64 (x : Int), .int .i64 (y : Int), .pointer (some ⟨g0, 0, none⟩)] W fun e w' => e = .returned (.int .i64 (cf x y)) ∧ Ext W w')
    (G c : Nat) (l : List Nat) (hl : l.length ≤ 20) (hp : ∀ x ∈ l, pr x) (hb : ∀ x ∈ l, x < 1000) (w : World) (X : Ext wb w) (hm : Mine wb.heap.size w 3 (.slice (some ⟨G, 0, none⟩) l.length c) l.length (nums l)) (h19 : l.length < 20) :
    Calls Tryz.prog 59 #[.slice (some ⟨G, 0, none⟩) l.length c, .int .i64 (l.length : Int), .func (.func 47) #[] #[.pointer (some ⟨g0, 0, none⟩)]] w fun e w' => e = .returned (.tuple #[]) ∧ Ext wb w' ∧ Mine wb.heap.size w' 3 (.slice (some ⟨G, 0, none⟩) l.length c) l.length (nums (srt (fun x y => decide (cf x y < 0)) l)) := by
  have HI := Lib.hid (read_insertion g0 cf pr wb HC G c l hl hp hb w X hm)
  clear HC hp hb hm
  have e1 : (l.length : Int) < 20 := by omega
  go_enter Tryz.func59, Tryz.ntmps59
  go_wp2
  refine wp_loop_rounds 1 ?_
  rw [rounds_succ]
  go_wp2_with (go_at_call 75; refine HI.out.mono ?_; rintro e w' ⟨rfl, hx⟩)
  refine wp_loop_rounds 1 ?_
  rw [rounds_succ]
  go_wp2
  go_end0
  exact ⟨rfl, hx⟩
set_option maxHeartbeats 2000000 in
theorem read_sort (g0 : Nat) (cf : Nat → Nat → Int) (pr : Nat → Prop) (wb : World)
    (HC : ∀ W, Ext wb W → ∀ x y : Nat, pr x → pr y → Calls Tryz.prog 47 #[.int .i64 (x : Int), .int .i64 (y : Int), .pointer (some ⟨g0, 0, none⟩)] W fun e w' => e = .returned (.int .i64 (cf x y)) ∧ Ext W w')
    (G c : Nat) (l : List Nat) (hl : l.length ≤ 20) (hp : ∀ x ∈ l, pr x) (hb : ∀ x ∈ l, x < 1000) (w : World) (X : Ext wb w) (hm : Mine wb.heap.size w 3 (.slice (some ⟨G, 0, none⟩) l.length c) l.length (nums l)) (h19 : l.length < 20) :
    Calls Tryz.prog 46 #[.slice (some ⟨G, 0, none⟩) l.length c, .func (.func 47) #[] #[.pointer (some ⟨g0, 0, none⟩)]] w fun e w' => e = .returned (.tuple #[]) ∧ Ext wb w' ∧ Mine wb.heap.size w' 3 (.slice (some ⟨G, 0, none⟩) l.length c) l.length (nums (srt (fun x y => decide (cf x y < 0)) l)) := by
  have HI := Lib.hid (read_stable g0 cf pr wb HC G c l hl hp hb w X hm h19)
  clear HC hp hb hm
  go_enter Tryz.func46, Tryz.ntmps46
  go_wp2_with (go_at_call 59; refine HI.out.mono ?_; rintro e w' ⟨rfl, hx⟩)
  go_end0
  exact ⟨rfl, hx⟩
set_option maxHeartbeats 4000000 in
set_option maxRecDepth 100000 in
theorem read_sort0 (g0 : Nat) (w : World) :
    Calls Tryz.prog 46 #[.slice none 0 0, .func (.func 47) #[] #[.pointer (some ⟨g0, 0, none⟩)]] w fun e w' => e = .returned (.tuple #[]) ∧ Ext w w' := by
  have HI : Hid (∀ W, Calls Tryz.prog 75 #[.slice none 0 0, .int .i64 0, .int .i64 0, .func (.func 47) #[] #[.pointer (some ⟨g0, 0, none⟩)]] W fun e w' => e = .returned (.tuple #[]) ∧ Ext W w') := Lib.hid (fun W => by
    go_enter Tryz.func75, Tryz.ntmps75
    go_wp2
    refine wp_loop_rounds 1 ?_
    rw [rounds_succ]
    go_wp2
    go_end0
    exact ⟨rfl, Ext.refl _⟩)
  have HS : Hid (∀ W, Calls Tryz.prog 59 #[.slice none 0 0, .int .i64 0, .func (.func 47) #[] #[.pointer (some ⟨g0, 0, none⟩)]] W fun e w' => e = .returned (.tuple #[]) ∧ Ext W w') := Lib.hid (fun W => by
    go_enter Tryz.func59, Tryz.ntmps59
    go_wp2
    refine wp_loop_rounds 1 ?_
    rw [rounds_succ]
    go_wp2_with (go_at_call 75; refine (HI.out _).mono ?_; rintro e w' ⟨rfl, hx⟩)
    refine wp_loop_rounds 1 ?_
    rw [rounds_succ]
    go_wp2
    go_end0
    exact ⟨rfl, hx⟩)
  clear HI
  go_enter Tryz.func46, Tryz.ntmps46
  go_wp2_with (go_at_call 59; refine (HS.out _).mono ?_; rintro e w' ⟨rfl, hx⟩)
  go_end0
  exact ⟨rfl, hx⟩

end Go.Proofs.YtbbbgegmkmmjkaaGreatDoor

/- OrdI -/
namespace Go.Proofs.YtbbbgegmkmmjkaaGreatDoor
open Go.RowKit Ring
set_option linter.unusedVariables false

set_option maxRecDepth 100000 in
set_option maxHeartbeats 8000000 in
theorem impl_ReadingOrder (A : Option Addr) (n c : Nat) (P : Nat → Nat → Int) (B : Option Addr) (m d : Nat) (L : Nat → Nat → Int) (hnc : n ≤ c) (hcm : c ≤ 9223372036854775807) (hmd : m ≤ d) (hdm : d ≤ 9223372036854775807) (w : World) (hr : Recs w 2 A n P) (hs : Recs w 2 B m L) :
    Calls Tryz.prog 32 #[.agg #[.slice A n c, .slice B m d]] w (PostI w 3 (readV n P m L).length (nums (readV n P m L))) := by
  have HIsWhole : Hid (∀ W, Ext w W → Calls Tryz.prog 43 #[.agg #[.slice A n c, .slice B m d]] W fun e w' => e = .returned (.bool (wholeB n P m L)) ∧ Ext W w') := Lib.hid (fun W Z => impl_IsWhole A n c P B m d L hnc hcm hmd hdm W (hr.ext Z) (hs.ext Z))
  have HOuterFace : Hid (∀ W, Ext w W → Calls Tryz.prog 44 #[.agg #[.slice A n c, .slice B m d]] W fun e w' => e = .returned (.int .i64 (outerV n P m L)) ∧ Ext W w') := Lib.hid (fun W Z => impl_OuterFace A n c P B m d L hnc hcm hmd hdm W (hr.ext Z) (hs.ext Z))
  have HFO : Hid (∀ W, Ext w W → Calls Tryz.prog 45 #[.agg #[.slice A n c, .slice B m d]] W (PostF W (facesV n P m L))) := Lib.hid (fun W Z => impl_FacesOf A n c P B m d L hnc hcm hmd hdm W (hr.ext Z) (hs.ext Z))
  have hlen := faces_len (n := n) (m := m) (P := P) (L := L)
  have hor := outerV_rng (n := n) (m := m) (P := P) (L := L)
  have q0 : (w.alloc (.cells #[.slice A n c, .slice B m d] 31)).cell? ⟨w.heap.size, 0, none⟩ = some (.slice A n c) := by simp [go_sem]
  have q1 : (w.alloc (.cells #[.slice A n c, .slice B m d] 31)).cell? ⟨w.heap.size, 1, none⟩ = some (.slice B m d) := by simp [go_sem]
  cases hw : wholeB n P m L
  · rw [hw] at HIsWhole
    have HV := Lib.hid (readV_no hw)
    clear hw
    go_enter Tryz.func32, Tryz.ntmps32
    go_wp2_with fail
    refine (HIsWhole.out _ (by repeat (first | exact Ext.refl _ | apply Ext.alloc))).mono ?_
    rintro e w1 ⟨rfl, x1⟩
    have X1 : Ext w w1 := Ext.trans (by repeat (first | exact Ext.refl _ | apply Ext.alloc)) x1
    go_wp2
    go_ret
    rw [HV.out]
    exact ⟨none, 0, rfl, Nat.le_refl _, by omega, Mine.nil_ _ _ _, X1⟩
  · rw [hw] at HIsWhole
    have hfew := panes_few hw
    have HLTR := Lib.hid (fun f (h : f ∈ panesT n P m L (facesV n P m L).length) => panesT_lt h)
    have HV := Lib.hid (show readV n P m L = srt (fun x y => decide (cmpR n P m L x y < 0)) (panesT n P m L (facesV n P m L).length) from rfl)
    have HPY := Lib.hid (fun t h => panesT_yes (n := n) (m := m) (P := P) (L := L) (t := t) h)
    have HPN := Lib.hid (fun t h => panesT_no (n := n) (m := m) (P := P) (L := L) (t := t) h)
    have HPL := Lib.hid (fun t => panesT_len (n := n) (m := m) (P := P) (L := L) t)
    have HP0 := Lib.hid (show panesT n P m L 0 = [] from rfl)
    clear hw
    obtain ⟨wb, hwb⟩ : ∃ wb, wb = w.alloc (.cells #[.slice A n c, .slice B m d] 31) := ⟨_, rfl⟩
    have XB : Ext w wb := by rw [hwb]; exact (Ext.refl w).alloc _
    have hsz : wb.heap.size = w.heap.size + 1 := by rw [hwb]; simp
    rw [← hwb] at q0 q1
    have Q0 := Lib.hid q0
    have Q1 := Lib.hid q1
    have HCMP := Lib.hid (fun W (Z : Ext wb W) (x y : Nat) (hx : x < 1000) (hy : y < 1000) => read_cmp A n c P B m d L hnc hcm hmd hdm x y w.heap.size hx hy W (hr.ext (XB.trans Z)) (hs.ext (XB.trans Z)) (Z.cell q0) (Z.cell q1))
    clear hr hs
    generalize facesV n P m L = R at *
    generalize outerV n P m L = o at *
    generalize panesT n P m L = pt at *
    go_enter Tryz.func32, Tryz.ntmps32
    go_wp2_with fail
    rw [← hwb]
    refine (HIsWhole.out _ XB).mono ?_
    rintro e w1 ⟨rfl, x1⟩
    replace q0 := x1.cell q0
    replace q1 := x1.cell q1
    go_wp2_with fail
    refine (HOuterFace.out _ (XB.trans x1)).mono ?_
    rintro e w2 ⟨rfl, x2⟩
    replace q0 := x2.cell q0
    replace q1 := x2.cell q1
    go_wp2_with fail
    refine (HFO.out _ ((XB.trans x1).trans x2)).mono ?_
    rintro e w3 ⟨AF, cF, rfl, iF, jF, hF, x3⟩
    have X3 : Ext wb w3 := (x1.trans x2).trans x3
    have hm0 : Mine wb.heap.size w3 3 (.slice none 0 0) (pt 0).length (nums (pt 0)) := by rw [HP0.out]; exact Mine.nil_ _ _ _
    clear q0 q1 x1 x2 x3 hF hwb
    go_wp2
    go_loopw [4, 14] (fun v i wr => ∃ t : Nat, t ≤ R.length ∧ i = .int .i64 t ∧ Ext wb wr ∧ ((pt t).length = 0 → v = .slice none 0 0) ∧ Mine wb.heap.size wr 3 v (pt t).length (nums (pt t))) (fun _ i _ => R.length - (intOf i).toNat)
    case atStart => exact ⟨0, Nat.zero_le _, rfl, X3, fun _ => rfl, hm0⟩
    case round =>
      clear hm0 X3
      obtain ⟨t, ht, rfl, X, hnil, hm⟩ := hrel
      have hpl := HPL.out t
      by_cases hlt : t < R.length
      · by_cases ho : (t : Int) = o
        · have HP := Lib.hid (HPN.out t ho)
          have d1 : ((t : Int) != o) = false := by simp [ho]
          clear ho
          go_wp2
          go_roundw
          case rel => exact ⟨t + 1, by omega, by go_num, X, by rw [HP.out]; exact hnil, by rw [HP.out]; exact hm⟩
          case measure => simp [intOf]; omega
        · have HP := Lib.hid (HPY.out t ho)
          have d1 : ((t : Int) != o) = true := by simp [ho]
          clear ho hnil
          have hz := X.size
          go_wp2_with (at_builtin; refine append_int _ rfl _ _ rfl wb.heap.size _ _ _ rfl (hm.alloc _) (t : Int) _ rfl (cell_new1 (by simp)) (by unfold I64; omega) (by omega) (by rw [World.size_alloc]; omega) ?_; intro v2 w4 hm4 hg4; have he4 := (hm.alloc (.cells #[.int .i64 (t : Int)] 3)).fresh (X.alloc (.cells #[.int .i64 (t : Int)] 3)) (Nat.le_refl _) hg4 rfl)
          go_roundw
          case rel => exact ⟨t + 1, by omega, by go_num, he4, by rw [HP.out]; simp, by rw [HP.out, nums_snoc, List.length_append]; exact hm4⟩
          case measure => simp [intOf]; omega
      · obtain rfl : t = R.length := by omega
        by_cases h0 : (pt R.length).length = 0
        · obtain rfl := hnil h0
          have HV2 : Hid (readV n P m L = []) := Lib.hid (by rw [HV.out, List.eq_nil_of_length_eq_zero h0]; rfl)
          have HS0 := Lib.hid (fun W => read_sort0 w.heap.size W)
          go_wp2_with fail
          refine (HS0.out _).mono ?_
          rintro e w9 ⟨rfl, x9⟩
          go_wp2
          go_ret
          rw [HV2.out]
          exact ⟨none, 0, rfl, Nat.le_refl _, by omega, Mine.nil_ _ _ _, (XB.trans X).trans x9⟩
        · obtain ⟨A', c', rfl, hc1, hc2⟩ := hm.form
          obtain ⟨G, rfl⟩ := hm.some_ (by omega)
          have HS := Lib.hid (read_sort w.heap.size (cmpR n P m L) (fun x => x < 1000) wb HCMP.out G c' (pt R.length) (by omega) (fun x hx => by have := HLTR.out x hx; omega) (fun x hx => by have := HLTR.out x hx; omega) _ X hm hfew)
          go_wp2_with fail
          refine HS.out.mono ?_
          rintro e w9 ⟨rfl, X9, hm9⟩
          go_wp2
          go_ret
          have hla : (readV n P m L).length = (pt R.length).length := by rw [HV.out]; exact srt_len _ _
          rw [hla, HV.out]
          exact ⟨_, _, rfl, hc1, hc2, hm9.more (by omega), XB.trans X9⟩

end Go.Proofs.YtbbbgegmkmmjkaaGreatDoor

/- OrdS -/
namespace Go.Proofs.YtbbbgegmkmmjkaaGreatDoor
open Go.RowKit Ring
set_option linter.unusedVariables false

attribute [local go_sem ↓] Go.wp_at_zero Go.wp_at_succ
attribute [local go_sem, local simp] Go.World.cell?_alloc_some Go.World.frozen?_alloc_past

theorem cell_of_blk {w w' : World} {k o : Nat} (h : w'.heap[k]? = w.heap[k]?) : w'.cell? ⟨k, o, none⟩ = w.cell? ⟨k, o, none⟩ := by
  unfold World.cell?
  rw [h]
/-- append of one int, with where the row lies afterwards. -/
theorem append_intA (w : World) {ops : Array Oper} {rest : List Oper} {o : Oper} {a : Act} {Q : Exit → Act → World → Prop} (hgd : o.guard = none) (s x : Operand)
    (ho : o.op = .call { callee := .builtin .append, args := #[s, x], argTypes := #[39, 39] })
    (base : Nat) (v : Value) (n : Nat) (zs : List Int) (hs : a.eval s = v) (hm : Mine base w 3 v n zs) (z : Int) (b : Nat) (hx : a.eval x = .slice (some ⟨b, 0, none⟩) 1 1) (hc : w.cell? ⟨b, 0, none⟩ = some (.int .i64 z)) (hz64 : I64 z)
    (hn : n ≤ 1000000000000) (hbase : base ≤ w.heap.size)
    (h : ∀ v' w', Mine base w' 3 v' (n + 1) (zs ++ [z]) → w.grownBy w' v.ownBlock → (v'.ownBlock = v.ownBlock ∨ v'.ownBlock = some w.heap.size) → wpList Tryz.prog ops Q rest (a.put o.dst v') w') : wpList Tryz.prog ops Q (o :: rest) a w := by
  obtain ⟨i0, hi, hz0, hz1, hz2⟩ := info_parts int_info
  refine wpList_append_own_at w hgd s x 39 ho base 3 i0 (.int .i64 0) 1 8 Tryz.underlying39 hi hz0 hz1 hz2 rfl (by decide) v n _ hs hm.2.1 ⟨b, 0, none⟩ 1 1 [.int .i64 z] hx rfl ?_ ?_ (by simp only [maxLen]; omega) (by omega) hbase ?_
  · intro j u hj
    match j, hj with
    | 0, hj => simp at hj; subst hj; simpa [Addr.add] using hc
  · intro u hu; simp at hu; subst hu; rfl
  · intro v' w' hown hg _ hat
    refine h v' w' ⟨by simp [hm.1], by simpa using hown, ?_⟩ hg hat
    intro y hy
    rcases List.mem_append.1 hy with q | q
    · exact hm.2.2 y q
    · simp at q; subst q; exact hz64

set_option maxRecDepth 100000 in
set_option maxHeartbeats 200000000 in
theorem spec_ReadingOrder (A : Option Addr) (n c : Nat) (P : Nat → Nat → Int) (B : Option Addr) (m d : Nat) (L : Nat → Nat → Int) (hnc : n ≤ c) (hcm : c ≤ 9223372036854775807) (hmd : m ≤ d) (hdm : d ≤ 9223372036854775807) (w : World) (hr : Recs w 2 A n P) (hs : Recs w 2 B m L) :
    Calls Tryz.prog 14 #[.agg #[.slice A n c, .slice B m d]] w (PostI w 3 (readV n P m L).length (nums (readV n P m L))) := by
  have HOuterFace : Hid (∀ W, Ext w W → Calls Tryz.prog 27 #[.agg #[.slice A n c, .slice B m d]] W fun e w' => e = .returned (.int .i64 (outerV n P m L)) ∧ Ext W w') := Lib.hid (fun W Z => spec_OuterFace A n c P B m d L hnc hcm hmd hdm W (hr.ext Z) (hs.ext Z))
  have HBX : Hid (∀ W, Ext w W → ∀ f : Int, (-9223372036854775808 ≤ f ∧ f ≤ 9223372036854775807) → Calls Tryz.prog 28 #[.agg #[.slice A n c, .slice B m d], .int .i64 f] W fun e w' => e = .returned (.tuple #[.agg #[.int .i64 (loN n P m L f 0), .int .i64 (loN n P m L f 1)], .agg #[.int .i64 (hiN n P m L f 0), .int .i64 (hiN n P m L f 1)]]) ∧ Ext W w') := Lib.hid (fun W Z f hf => spec_PaneBox A n c P B m d L hnc hcm hmd hdm f hf W (hr.ext Z) (hs.ext Z))
  have HFO : Hid (∀ W, Ext w W → Calls Tryz.prog 26 #[.agg #[.slice A n c, .slice B m d]] W (PostF W (facesV n P m L))) := Lib.hid (fun W Z => spec_FacesOf A n c P B m d L hnc hcm hmd hdm W (hr.ext Z) (hs.ext Z))
  have hlen := faces_len (n := n) (m := m) (P := P) (L := L)
  have hor := outerV_rng (n := n) (m := m) (P := P) (L := L)
  have q0 : ((w.alloc (.cells #[.slice A n c, .slice B m d] 31)).alloc (.cells #[] 3)).cell? ⟨w.heap.size, 0, none⟩ = some (.slice A n c) := by simp [go_sem]
  have q1 : ((w.alloc (.cells #[.slice A n c, .slice B m d] 31)).alloc (.cells #[] 3)).cell? ⟨w.heap.size, 1, none⟩ = some (.slice B m d) := by simp [go_sem]
  have hm0 : Mine (w.heap.size + 1) ((w.alloc (.cells #[.slice A n c, .slice B m d] 31)).alloc (.cells #[] 3)) 3 (.slice (some ⟨w.heap.size + 1, 0, none⟩) 0 0) 0 (nums []) := by
    have := Mine.lit0 (w.alloc (.cells #[.slice A n c, .slice B m d] 31)) 3
    simpa [nums] using this
  have HV := Lib.hid (show readV n P m L = srt (ltR n P m L) (panesT n P m L (facesV n P m L).length) from rfl)
  have HPY := Lib.hid (fun t h => panesT_yes (n := n) (m := m) (P := P) (L := L) (t := t) h)
  have HPN := Lib.hid (fun t h => panesT_no (n := n) (m := m) (P := P) (L := L) (t := t) h)
  have HPL := Lib.hid (fun t => panesT_len (n := n) (m := m) (P := P) (L := L) t)
  have HPLT := Lib.hid (fun t f (h : f ∈ panesT n P m L t) => panesT_lt h)
  have HP0 := Lib.hid (show panesT n P m L 0 = [] from rfl)
  have HLO := Lib.hid (fun (f : Int) => lohi_rng (n := n) (m := m) (P := P) (L := L) f (j := 0) (by omega))
  have HHI := Lib.hid (fun (f : Int) => lohi_rng (n := n) (m := m) (P := P) (L := L) f (j := 1) (by omega))
  have HLTD := Lib.hid (fun (f g : Nat) => show ltR n P m L f g = decide (cmpR n P m L f g < 0) from rfl)
  have CS := Lib.hid (fun f g h => @cmpR_same n m P L f g h)
  have CO := Lib.hid (fun f g h => @cmpR_other n m P L f g h)
  generalize facesV n P m L = R at *
  generalize outerV n P m L = o at *
  generalize panesT n P m L = pt at *
  generalize hlt_ : ltR n P m L = lt at *
  clear hlt_
  generalize cmpR n P m L = cf at *
  generalize loN n P m L = lo at *
  generalize hiN n P m L = hi at *
  go_enter Tryz.func14, Tryz.ntmps14
  go_wp2_with fail
  refine (HFO.out _ (by repeat (first | exact Ext.refl _ | apply Ext.alloc))).mono ?_
  rintro e w1 ⟨AF, cF, rfl, iF, jF, hF, x1⟩
  have X1 : Ext w w1 := Ext.trans (by repeat (first | exact Ext.refl _ | apply Ext.alloc)) x1
  replace q0 := x1.cell q0
  replace q1 := x1.cell q1
  go_wp2_with fail
  refine (HOuterFace.out _ X1).mono ?_
  rintro e w2 ⟨rfl, x2⟩
  replace q0 := x2.cell q0
  replace q1 := x2.cell q1
  have hm2 := hm0.ext (x1.trans x2)
  have X2 : Ext (w.alloc (.cells #[.slice A n c, .slice B m d] 31)) w2 := (((Ext.refl _).alloc _).trans x1).trans x2
  have Q00 : Hid ((w.alloc (.cells #[.slice A n c, .slice B m d] 31)).cell? ⟨w.heap.size, 0, none⟩ = some (.slice A n c)) := Lib.hid (by simp [go_sem])
  have Q11 : Hid ((w.alloc (.cells #[.slice A n c, .slice B m d] 31)).cell? ⟨w.heap.size, 1, none⟩ = some (.slice B m d)) := Lib.hid (by simp [go_sem])
  have hm2' : Mine (w.heap.size + 1) w2 3 (.slice (some ⟨w.heap.size + 1, 0, none⟩) 0 0) (srt lt (pt 0)).length (nums (srt lt (pt 0))) := by rw [HP0.out]; exact hm2
  clear hF hm0 hm2 x1 x2 X1 q0 q1
  go_wp2
  go_loopw [3, 6] (fun v i wr => ∃ t : Nat, t ≤ R.length ∧ i = .int .i64 t ∧ Ext (w.alloc (.cells #[.slice A n c, .slice B m d] 31)) wr ∧ Mine (w.heap.size + 1) wr 3 v (srt lt (pt t)).length (nums (srt lt (pt t)))) (fun _ i _ => R.length - (intOf i).toNat)
  case atStart => exact ⟨0, Nat.zero_le _, rfl, X2, hm2'⟩
  case round =>
    clear hm2' X2
    obtain ⟨t, ht, rfl, X, hm⟩ := hrel
    have hpl := HPL.out t
    have q0 := X.cell Q00.out
    have q1 := X.cell Q11.out
    have XW := ((Ext.refl w).alloc (.cells #[.slice A n c, .slice B m d] 31)).trans X
    by_cases hlt : t < R.length
    · by_cases ho : (t : Int) = o
      · have HP := Lib.hid (HPN.out t ho)
        have d1 : ((t : Int) == o) = true := by simp [ho]
        clear ho
        go_wp2
        go_roundw
        case rel => exact ⟨t + 1, by omega, by go_num, X, by rw [HP.out]; exact hm⟩
        case measure => simp [intOf]; omega
      · have HP := Lib.hid (HPY.out t ho)
        have d1 : ((t : Int) == o) = false := by simp [ho]
        have HSM := Lib.hid (fun f (h : f ∈ srt lt (pt t)) => HPLT.out t f ((srt_mem _ _ _).1 h))
        have HSN : Hid (srt lt (pt (t + 1)) = ins1 lt (srt lt (pt t)) t) := Lib.hid (by rw [HP.out, srt_snoc])
        have hSl : (srt lt (pt t)).length ≤ 20 := by rw [srt_len]; omega
        clear ho HP
        generalize srt lt (pt t) = S at *
        have HPUT : Hid (∀ J, posOf (lt t) S S.length = J → insAt S J t = srt lt (pt (t + 1))) := Lib.hid (fun J hJ => by rw [HSN.out, ← hJ]; rfl)
        have hBt := HBX.out
        have HBt := Lib.hid (fun W Z => HBX.out W Z (t : Int) (by omega))
        clear hBt
        have ht0 := HLO.out (t : Int)
        have ht1 := HHI.out (t : Int)
        go_wp2_with fail
        refine (HBt.out _ XW).mono ?_
        rintro e w5 ⟨rfl, x5⟩
        have X5 := X.trans x5
        have hm5 := hm.ext x5
        have hap := ins_end S t
        obtain ⟨A3, c3, rfl, hc3, hcm3⟩ := hm5.form
        have h5s := X5.size
        rw [World.size_alloc] at h5s
        have hA5 := hm5.lt
        clear hm X XW x5 q0 q1 HBt
        generalize hl0 : lo (t : Int) = lt0 at *
        generalize hl1 : hi (t : Int) = ht0_ at *
        have k0 : (((w5.alloc (.cells #[.int .i64 (lt0 0), .int .i64 (lt0 1)] 55)).alloc (.cells #[.int .i64 (ht0_ 0), .int .i64 (ht0_ 1)] 55)).alloc (.cells #[.int .i64 (t : Int)] 3)).cell? ⟨w5.heap.size, 0, none⟩ = some (.int .i64 (lt0 0)) := by simp [go_sem]
        have k1 : (((w5.alloc (.cells #[.int .i64 (lt0 0), .int .i64 (lt0 1)] 55)).alloc (.cells #[.int .i64 (ht0_ 0), .int .i64 (ht0_ 1)] 55)).alloc (.cells #[.int .i64 (t : Int)] 3)).cell? ⟨w5.heap.size + 1, 1, none⟩ = some (.int .i64 (ht0_ 1)) := by simp [go_sem]
        go_wp2_with (at_builtin; refine append_intA _ rfl _ _ rfl (w.heap.size + 1) _ _ _ rfl (((hm5.alloc _).alloc _).alloc _) (t : Int) _ rfl (cell_new1 (by simp)) (by unfold I64; omega) (by omega) (by simp only [World.size_alloc]; omega) ?_; intro v2 w6 hm6 hg6 hat6; have he6 := (((hm5.alloc (.cells #[.int .i64 (lt0 0), .int .i64 (lt0 1)] 55)).alloc (.cells #[.int .i64 (ht0_ 0), .int .i64 (ht0_ 1)] 55)).alloc (.cells #[.int .i64 (t : Int)] 3)).fresh (((X5.alloc (.cells #[.int .i64 (lt0 0), .int .i64 (lt0 1)] 55)).alloc (.cells #[.int .i64 (ht0_ 0), .int .i64 (ht0_ 1)] 55)).alloc (.cells #[.int .i64 (t : Int)] 3)) (by rw [World.size_alloc]; exact Nat.le_refl _) hg6 rfl; have k06 := (cell_of_blk (hg6.block w5.heap.size (World.block_lt_of_cell? _ _ k0) (fun q => by have := (hA5 _ q.symm).2; omega))).trans k0; have k16 := (cell_of_blk (hg6.block (w5.heap.size + 1) (World.block_lt_of_cell? _ _ k1) (fun q => by have := (hA5 _ q.symm).2; omega))).trans k1)
        rw [← nums_snoc, ← hap] at hm6
        obtain ⟨A4, c4, rfl, hc4, hcm4⟩ := hm6.form
        obtain ⟨G, rfl⟩ := hm6.some_ (by omega)
        have hGG : G ≠ w5.heap.size ∧ G ≠ w5.heap.size + 1 := by
          rcases hat6 with q | q
          · have := (hA5 G (q.symm.trans rfl)).2; omega
          · have q' : some G = some ((((w5.alloc (.cells #[.int .i64 (lt0 0), .int .i64 (lt0 1)] 55)).alloc (.cells #[.int .i64 (ht0_ 0), .int .i64 (ht0_ 1)] 55)).alloc (.cells #[.int .i64 (t : Int)] 3)).heap.size) := q
            injection q' with q'
            simp only [World.size_alloc] at q'
            omega
        obtain ⟨hG7, hG8⟩ := hGG
        clear hm5 X5 k0 k1 hat6 hg6 hA5
        generalize w5.heap.size = g7 at *
        go_loopw [9] (fun i wy => ∃ (j y : Nat), j ≤ S.length ∧ i = .int .i64 j ∧ Hid (posOf (lt t) S S.length = posOf (lt t) S j) ∧ Ext (w.alloc (.cells #[.slice A n c, .slice B m d] 31)) wy ∧ wy.cell? ⟨g7, 0, none⟩ = some (.int .i64 (lt0 0)) ∧ wy.cell? ⟨g7 + 1, 1, none⟩ = some (.int .i64 (ht0_ 1)) ∧ Mine (w.heap.size + 1) wy 3 (.slice (some ⟨G, 0, none⟩) (S.length + 1) c4) (S.length + 1) (nums (insAt S j y))) (fun i _ => (intOf i).toNat)
        case atStart => exact ⟨S.length, t, Nat.le_refl _, rfl, rfl, he6, k06, k16, hm6⟩
        case round =>
          clear hm6 he6 k06 k16
          obtain ⟨j, y, hj, rfl, HJ, Y, c06, c16, hm6⟩ := hrel
          have q0 := Y.cell Q00.out
          have q1 := Y.cell Q11.out
          have YW := ((Ext.refl w).alloc (.cells #[.slice A n c, .slice B m d] 31)).trans Y
          have hgb : w.heap.size + 1 ≤ G := (hm6.lt G rfl).1
          by_cases h0 : 0 < j
          · obtain ⟨p, rfl⟩ : ∃ p, j = p + 1 := ⟨j - 1, by omega⟩
            have hpS : p < S.length := by omega
            have hyp : S.getD p 0 ∈ S := by rw [List.getD_eq_getElem?_getD, List.getElem?_eq_getElem hpS]; exact List.getElem_mem hpS
            have hylt := HSM.out _ hyp
            obtain ⟨hc5, hf5, _, _⟩ := hm6.at_ (k := p) (by omega)
            have hS1 := ins_below (S := S) (x := y) (R := []) (j := p + 1) hj h0
            rw [List.append_nil, Nat.add_sub_cancel] at hS1
            rw [nums_ix, hS1] at hc5
            have hshift := ins_shift (S := S) (y := y) (R := []) (j := p + 1) hj h0
            rw [List.append_nil, List.append_nil, Nat.add_sub_cancel] at hshift
            have HSH := Lib.hid hshift
            have HPO : Hid (posOf (lt t) S (p + 1) = if lt t (S.getD p 0) = true then posOf (lt t) S p else p + 1) := Lib.hid rfl
            clear hyp hS1 hshift
            generalize hU : S.getD p 0 = u at *
            have HUE := Lib.hid hU
            clear hU
            have HBu := Lib.hid (fun W Z => HBX.out W Z (u : Int) (by omega))
            have hu0 := HLO.out (u : Int)
            have hu1 := HHI.out (u : Int)
            have HLT2 := Lib.hid (HLTD.out t u)
            have CS2 := CS.out t u
            have CO2 := CO.out t u
            rw [hl0, hl1] at CS2
            rw [hl1] at CO2
            replace CS2 := Lib.hid CS2
            replace CO2 := Lib.hid CO2
            generalize lo (u : Int) = lu at *
            generalize hi (u : Int) = hu at *
            have f1 : (0 : Int) ≤ (p : Int) := by omega
            have f2 : (p : Int) < ((S.length : Nat) : Int) + 1 := by omega
            have f3 : IntKind.i64.wrap ((p : Int) + 1 - 1) = (p : Int) := by rw [IntKind.wrap_i64]; omega
            have f4 : IntKind.i64.wrap (p : Int) = (p : Int) := by rw [IntKind.wrap_i64]; omega
            go_upto_region 12 with fail
            go_cut [10, 11] from 40 to 49 (fun s10 s11 wx => ∃ g10 g11 : Nat, s10 = .pointer (some ⟨g10, 0, none⟩) ∧ s11 = .pointer (some ⟨g11, 0, none⟩) ∧ wx.cell? ⟨g10, 0, none⟩ = some (.int .i64 (lu 0)) ∧ wx.cell? ⟨g11, 1, none⟩ = some (.int .i64 (hu 1)) ∧ Ext wr wx)
            case first =>
              go_region_held3 (fun w' => w'.cell? ⟨w.heap.size, 0, none⟩ = some (.slice A n c) ∧ w'.cell? ⟨w.heap.size, 1, none⟩ = some (.slice B m d) ∧ w'.cell? ⟨G, p, none⟩ = some (.int .i64 (u : Int))) (exact (fun (Z : Ext wr _) => ⟨Z.cell q0, Z.cell q1, Z.cell hc5⟩) (by repeat (first | with_reducible exact Ext.refl _ | with_reducible exact Xa | with_reducible apply Ext.drew | with_reducible apply Ext.alloc | with_reducible (refine Ext.setCell ?_ (by first | (simp; done) | (simp; omega)) _)))) ((go_at_call 28; refine (HBu.out _ (Ext.trans YW (by repeat (first | with_reducible exact Ext.refl _ | with_reducible exact Xa | with_reducible apply Ext.drew | with_reducible apply Ext.alloc | with_reducible (refine Ext.setCell ?_ (by first | (simp; done) | (simp; omega)) _))))).mono ?_; rintro e wa ⟨rfl, xa⟩; have Xa : Ext wr _ := Ext.trans (by repeat (first | with_reducible exact Ext.refl _ | with_reducible exact Xa | with_reducible apply Ext.drew | with_reducible apply Ext.alloc | with_reducible (refine Ext.setCell ?_ (by first | (simp; done) | (simp; omega)) _))) xa; have Za := Xa.size; (try (refine (fun (ha00 : wa.cell? ⟨wr.heap.size, 0, none⟩ = some (.int .i64 0)) => ?_) ?_; rotate_left; (refine xa.cell ?_; (first | (focus (simp [go_sem]; done)) | (focus (simp [go_sem, *]; done)))))); (try (refine (fun (ha0f0 : wa.frozen? ⟨wr.heap.size, 0, none⟩ = false) => ?_) ?_; rotate_left; (refine xa.frozen (u := .int .i64 0) ?_ ?_; (first | (focus (simp [go_sem]; done)) | (focus (simp [go_sem, *]; done))); (first | (focus (simp [go_sem]; done)) | (focus (simp [go_sem, *]; done)))))); (try (refine (fun (ha01 : wa.cell? ⟨wr.heap.size, 1, none⟩ = some (.int .i64 0)) => ?_) ?_; rotate_left; (refine xa.cell ?_; (first | (focus (simp [go_sem]; done)) | (focus (simp [go_sem, *]; done)))))); (try (refine (fun (ha0f1 : wa.frozen? ⟨wr.heap.size, 1, none⟩ = false) => ?_) ?_; rotate_left; (refine xa.frozen (u := .int .i64 0) ?_ ?_; (first | (focus (simp [go_sem]; done)) | (focus (simp [go_sem, *]; done))); (first | (focus (simp [go_sem]; done)) | (focus (simp [go_sem, *]; done)))))); (try (have ha0l : wr.heap.size < wa.heap.size := World.block_lt_of_cell? _ _ ha00; have ha0l1 : wr.heap.size < wa.heap.size + 1 := Nat.lt_succ_of_lt ha0l; have ha0l2 : wr.heap.size < wa.heap.size + 1 + 1 := Nat.lt_succ_of_lt ha0l1)); (try (refine (fun (ha10 : wa.cell? ⟨wr.heap.size + 1, 0, none⟩ = some (.int .i64 0)) => ?_) ?_; rotate_left; (refine xa.cell ?_; (first | (focus (simp [go_sem]; done)) | (focus (simp [go_sem, *]; done)))))); (try (refine (fun (ha1f0 : wa.frozen? ⟨wr.heap.size + 1, 0, none⟩ = false) => ?_) ?_; rotate_left; (refine xa.frozen (u := .int .i64 0) ?_ ?_; (first | (focus (simp [go_sem]; done)) | (focus (simp [go_sem, *]; done))); (first | (focus (simp [go_sem]; done)) | (focus (simp [go_sem, *]; done)))))); (try (refine (fun (ha11 : wa.cell? ⟨wr.heap.size + 1, 1, none⟩ = some (.int .i64 0)) => ?_) ?_; rotate_left; (refine xa.cell ?_; (first | (focus (simp [go_sem]; done)) | (focus (simp [go_sem, *]; done)))))); (try (refine (fun (ha1f1 : wa.frozen? ⟨wr.heap.size + 1, 1, none⟩ = false) => ?_) ?_; rotate_left; (refine xa.frozen (u := .int .i64 0) ?_ ?_; (first | (focus (simp [go_sem]; done)) | (focus (simp [go_sem, *]; done))); (first | (focus (simp [go_sem]; done)) | (focus (simp [go_sem, *]; done)))))); (try (have ha1l : wr.heap.size + 1 < wa.heap.size := World.block_lt_of_cell? _ _ ha10; have ha1l1 : wr.heap.size + 1 < wa.heap.size + 1 := Nat.lt_succ_of_lt ha1l; have ha1l2 : wr.heap.size + 1 < wa.heap.size + 1 + 1 := Nat.lt_succ_of_lt ha1l1))))
              all_goals
                go_wp2_with fail
                go_meet
                refine ⟨_, _, rfl, rfl, ?_, ?_, ?_⟩
                all_goals first | (focus ((repeat (first | with_reducible exact Ext.refl _ | with_reducible exact Xa | with_reducible apply Ext.drew | with_reducible apply Ext.alloc | with_reducible (refine Ext.setCell ?_ (by first | (simp; done) | (simp; omega)) _))); done)) | (focus (simp [go_sem]; done)) | (focus (simp [go_sem, *]; done))
            case rest =>
            obtain ⟨g10, g11, rfl, rfl, a0, a1, XR6⟩ := hcut
            replace hm6 := hm6.ext XR6
            replace c06 := XR6.cell c06
            replace c16 := XR6.cell c16
            have Y6 := Y.trans XR6
            clear Y YW q0 q1 hc5 hf5 XR6 HBu
            by_cases hA : ht0_ 1 < hu 1
            · have hbf : lt t u = false := by
                rw [HLT2.out]
                rw [CO2.out (by omega), decide_eq_false (by omega)]
              have HO := Lib.hid (HPUT.out (p + 1) (HJ.trans (HPO.out.trans (if_neg (by rw [hbf]; simp)))))
              clear hbf
              obtain ⟨hc7, hf7, _, _⟩ := hm6.at_ (k := p + 1) (by omega)
              have ix7 : I64 (t : Int) := by unfold I64; omega
              have hm8 := hm6.stored (k := p + 1) (by omega) ix7
              have hput := ins_put (S := S) (x := t) (y := y) (R := []) hj
              rw [List.append_nil, List.append_nil] at hput
              rw [nums_set, hput] at hm8
              have g5 : ((p : Int) + 1).toNat = p + 1 := by omega
              have g6 : (0 : Int) ≤ (p : Int) + 1 := by omega
              have g7 : (p : Int) + 1 < ((S.length : Nat) : Int) + 1 := by omega
              have Y8 := Y6.setCell (p := ⟨G, p + 1, none⟩) (by rw [World.size_alloc]; exact hgb) (.int .i64 (t : Int))
              go_wp2
              go_roundw
              case rel => exact ⟨t + 1, by omega, by go_num, Y8, by rw [← HO.out, insAt_len]; exact hm8⟩
              case measure => simp [intOf]; omega
            · have hA' : ¬ ht0_ 1 < hu 1 := hA
              by_cases hB : hu 1 = ht0_ 1
              · have hB1 : (hu 1 == ht0_ 1) = true := by simp [hB]
                by_cases hC : lu 0 ≤ lt0 0
                · have hbf : lt t u = false := by
                    rw [HLT2.out]
                    rw [CS2.out hB.symm, decide_eq_false (by omega)]
                  have HO := Lib.hid (HPUT.out (p + 1) (HJ.trans (HPO.out.trans (if_neg (by rw [hbf]; simp)))))
                  clear hbf
                  obtain ⟨hc7, hf7, _, _⟩ := hm6.at_ (k := p + 1) (by omega)
                  have ix7 : I64 (t : Int) := by unfold I64; omega
                  have hm8 := hm6.stored (k := p + 1) (by omega) ix7
                  have hput := ins_put (S := S) (x := t) (y := y) (R := []) hj
                  rw [List.append_nil, List.append_nil] at hput
                  rw [nums_set, hput] at hm8
                  have g5 : ((p : Int) + 1).toNat = p + 1 := by omega
                  have g6 : (0 : Int) ≤ (p : Int) + 1 := by omega
                  have g7 : (p : Int) + 1 < ((S.length : Nat) : Int) + 1 := by omega
                  have Y8 := Y6.setCell (p := ⟨G, p + 1, none⟩) (by rw [World.size_alloc]; exact hgb) (.int .i64 (t : Int))
                  go_wp2
                  go_roundw
                  case rel => exact ⟨t + 1, by omega, by go_num, Y8, by rw [← HO.out, insAt_len]; exact hm8⟩
                  case measure => simp [intOf]; omega
                · have hbf : lt t u = true := by
                    rw [HLT2.out]
                    rw [CS2.out hB.symm, decide_eq_true (by omega)]
                  have HJ2 := HJ.trans (HPO.out.trans (if_pos hbf))
                  clear hbf
                  obtain ⟨hc5, hf5, _, _⟩ := hm6.at_ (k := p) (by omega)
                  have hS1 := ins_below (S := S) (x := y) (R := []) (j := p + 1) hj h0
                  rw [List.append_nil, Nat.add_sub_cancel, HUE.out] at hS1
                  rw [nums_ix, hS1] at hc5
                  clear hS1
                  obtain ⟨hc7, hf7, _, _⟩ := hm6.at_ (k := p + 1) (by omega)
                  have ix7 : I64 (u : Int) := by unfold I64; omega
                  have hm8 := hm6.stored (k := p + 1) (by omega) ix7
                  rw [nums_set, HSH.out] at hm8
                  have g5 : ((p : Int) + 1).toNat = p + 1 := by omega
                  have g6 : (0 : Int) ≤ (p : Int) + 1 := by omega
                  have g7 : (p : Int) + 1 < ((S.length : Nat) : Int) + 1 := by omega
                  have Y8 := Y6.setCell (p := ⟨G, p + 1, none⟩) (by rw [World.size_alloc]; exact hgb) (.int .i64 (u : Int))
                  have c08 := cl_far2 (b' := G) (j' := p + 1) (v := .int .i64 (u : Int)) hG7 c06
                  have c18 := cl_far2 (b' := G) (j' := p + 1) (v := .int .i64 (u : Int)) hG8 c16
                  go_wp2
                  go_roundw
                  case rel => exact ⟨p, u, by omega, by go_num, HJ2, Y8, c08, c18, hm8⟩
                  case measure => simp [intOf]
              · have hB1 : (hu 1 == ht0_ 1) = false := by simp [hB]
                have hbf : lt t u = true := by
                  rw [HLT2.out]
                  rw [CO2.out (fun q => hB q.symm), decide_eq_true (by omega)]
                have HJ2 := HJ.trans (HPO.out.trans (if_pos hbf))
                clear hbf
                obtain ⟨hc5, hf5, _, _⟩ := hm6.at_ (k := p) (by omega)
                have hS1 := ins_below (S := S) (x := y) (R := []) (j := p + 1) hj h0
                rw [List.append_nil, Nat.add_sub_cancel, HUE.out] at hS1
                rw [nums_ix, hS1] at hc5
                clear hS1
                obtain ⟨hc7, hf7, _, _⟩ := hm6.at_ (k := p + 1) (by omega)
                have ix7 : I64 (u : Int) := by unfold I64; omega
                have hm8 := hm6.stored (k := p + 1) (by omega) ix7
                rw [nums_set, HSH.out] at hm8
                have g5 : ((p : Int) + 1).toNat = p + 1 := by omega
                have g6 : (0 : Int) ≤ (p : Int) + 1 := by omega
                have g7 : (p : Int) + 1 < ((S.length : Nat) : Int) + 1 := by omega
                have Y8 := Y6.setCell (p := ⟨G, p + 1, none⟩) (by rw [World.size_alloc]; exact hgb) (.int .i64 (u : Int))
                have c08 := cl_far2 (b' := G) (j' := p + 1) (v := .int .i64 (u : Int)) hG7 c06
                have c18 := cl_far2 (b' := G) (j' := p + 1) (v := .int .i64 (u : Int)) hG8 c16
                go_wp2
                go_roundw
                case rel => exact ⟨p, u, by omega, by go_num, HJ2, Y8, c08, c18, hm8⟩
                case measure => simp [intOf]
          · obtain rfl : j = 0 := by omega
            have HO := Lib.hid (HPUT.out 0 HJ.out)
            obtain ⟨hc7, hf7, _, _⟩ := hm6.at_ (k := 0) (by omega)
            have ix7 : I64 (t : Int) := by unfold I64; omega
            have hm8 := hm6.stored (k := 0) (by omega) ix7
            have hput := ins_put (S := S) (x := t) (y := y) (R := []) hj
            rw [List.append_nil, List.append_nil] at hput
            rw [nums_set, hput] at hm8
            have Y8 := Y.setCell (p := ⟨G, 0, none⟩) (by rw [World.size_alloc]; exact hgb) (.int .i64 (t : Int))
            have g7_ : (0 : Int) < ((S.length : Nat) : Int) + 1 := by omega
            go_wp2
            go_roundw
            case rel => exact ⟨t + 1, by omega, by go_num, Y8, by rw [← HO.out, insAt_len]; exact hm8⟩
            case measure => simp [intOf]; omega
    · obtain rfl : t = R.length := by omega
      obtain ⟨A', c', rfl, hc1, hc2⟩ := hm.form
      go_wp2
      go_ret
      rw [HV.out]
      exact ⟨A', c', rfl, hc1, hc2, hm.more (by omega), XW⟩

end Go.Proofs.YtbbbgegmkmmjkaaGreatDoor

/- NumV -/
namespace Go.Proofs.YtbbbgegmkmmjkaaGreatDoor
open Go.RowKit Ring
set_option linter.unusedVariables false

def numV (n : Nat) (P : Nat → Nat → Int) (m : Nat) (L : Nat → Nat → Int) (f : Int) : Int := fdx (fun i => decide (f = ix (nums (readV n P m L)) i)) (readV n P m L).length + 1
def atV (n : Nat) (P : Nat → Nat → Int) (m : Nat) (L : Nat → Nat → Int) (x : Int) : Int := if inB x 1 ((readV n P m L).length : Nat) = true then ix (nums (readV n P m L)) (x - 1).toNat else -1
section
variable {n m : Nat} {P L : Nat → Nat → Int}
theorem numV_rng (f : Int) : 0 ≤ numV n P m L f ∧ numV n P m L f ≤ 20 := by
  have h := readV_len (n := n) (m := m) (P := P) (L := L)
  unfold numV
  rcases fdx_bd (fun i => decide (f = ix (nums (readV n P m L)) i)) (readV n P m L).length with g | g
  · omega
  · omega
end

end Go.Proofs.YtbbbgegmkmmjkaaGreatDoor

/- NumI -/
namespace Go.Proofs.YtbbbgegmkmmjkaaGreatDoor
open Go.RowKit Ring
set_option linter.unusedVariables false

set_option maxRecDepth 100000 in
set_option maxHeartbeats 4000000 in
theorem impl_NumberOf (A : Option Addr) (n c : Nat) (P : Nat → Nat → Int) (B : Option Addr) (m d : Nat) (L : Nat → Nat → Int) (hnc : n ≤ c) (hcm : c ≤ 9223372036854775807) (hmd : m ≤ d) (hdm : d ≤ 9223372036854775807) (f : Int) (hf : (-9223372036854775808 ≤ f ∧ f ≤ 9223372036854775807)) (w : World) (hr : Recs w 2 A n P) (hs : Recs w 2 B m L) :
    Calls Tryz.prog 24 #[.agg #[.slice A n c, .slice B m d], .int .i64 f] w fun e w' => e = .returned (.int .i64 (numV n P m L f)) ∧ Ext w w' := by
  have HRO := Lib.hid (fun W (Z : Ext w W) => impl_ReadingOrder A n c P B m d L hnc hcm hmd hdm W (hr.ext Z) (hs.ext Z))
  have hl20 := readV_len (n := n) (m := m) (P := P) (L := L)
  have hnr := numV_rng (n := n) (m := m) (P := P) (L := L) f
  have HV := Lib.hid (show numV n P m L f = fdx (fun i => decide (f = ix (nums (readV n P m L)) i)) (readV n P m L).length + 1 from rfl)
  generalize numV n P m L f = nv at *
  generalize readV n P m L = l at *
  go_enter Tryz.func24, Tryz.ntmps24
  go_wp2_with fail
  refine (HRO.out _ (by repeat (first | exact Ext.refl _ | apply Ext.alloc))).mono ?_
  rintro e w1 ⟨A5, c5, rfl, i5, j5, hm5, x1⟩
  have X1 : Ext w w1 := Ext.trans (by repeat (first | exact Ext.refl _ | apply Ext.alloc)) x1
  have HIX := Lib.hid (indexInt_any A5 l.length c5 (fun k _ => ix (nums l) k) f (by omega) w1 hm5.recs)
  clear hm5 x1
  generalize hq : fdx (fun i => decide (f = ix (nums l) i)) l.length = q at *
  have HQ := Lib.hid hq
  have hqr : -1 ≤ q ∧ q ≤ 20 := by have := HV.out; omega
  clear hq
  go_wp2_with fail
  refine HIX.out.mono ?_
  rintro e w2 ⟨rfl, x2⟩
  have X2 := X1.trans x2
  clear x2
  go_wp2
  go_ret
  exact ⟨ret_i HV.out.symm, X2⟩

set_option maxRecDepth 100000 in
set_option maxHeartbeats 4000000 in
theorem impl_FaceWithNumber (A : Option Addr) (n c : Nat) (P : Nat → Nat → Int) (B : Option Addr) (m d : Nat) (L : Nat → Nat → Int) (hnc : n ≤ c) (hcm : c ≤ 9223372036854775807) (hmd : m ≤ d) (hdm : d ≤ 9223372036854775807) (f : Int) (hf : (-9223372036854775808 ≤ f ∧ f ≤ 9223372036854775807)) (w : World) (hr : Recs w 2 A n P) (hs : Recs w 2 B m L) :
    Calls Tryz.prog 18 #[.agg #[.slice A n c, .slice B m d], .int .i64 f] w fun e w' => e = .returned (.int .i64 (atV n P m L f)) ∧ Ext w w' := by
  have HRO := Lib.hid (fun W (Z : Ext w W) => impl_ReadingOrder A n c P B m d L hnc hcm hmd hdm W (hr.ext Z) (hs.ext Z))
  have hl20 := readV_len (n := n) (m := m) (P := P) (L := L)
  have HV := Lib.hid (show atV n P m L f = if inB f 1 ((readV n P m L).length : Nat) = true then ix (nums (readV n P m L)) (f - 1).toNat else -1 from rfl)
  generalize atV n P m L f = nv at *
  generalize readV n P m L = l at *
  have HI := Lib.hid (fun W => within_any f 1 ((l.length : Nat) : Int) W)
  cases hin : inB f 1 ((l.length : Nat) : Int)
  · rw [hin] at HI
    have HR := Lib.hid (show nv = -1 by rw [HV.out, hin]; rfl)
    clear hin
    go_enter Tryz.func18, Tryz.ntmps18
    go_wp2_with fail
    refine (HRO.out _ (by repeat (first | exact Ext.refl _ | apply Ext.alloc))).mono ?_
    rintro e w1 ⟨A5, c5, rfl, i5, j5, hm5, x1⟩
    have X1 : Ext w w1 := Ext.trans (by repeat (first | exact Ext.refl _ | apply Ext.alloc)) x1
    clear hm5 x1
    go_wp2_with fail
    refine (HI.out _).mono ?_
    rintro e w2 ⟨rfl, x2⟩
    have X2 := X1.trans x2
    go_wp2
    go_ret
    exact ⟨ret_i HR.out.symm, X2⟩
  · rw [hin] at HI
    have hb := inB_of hin
    obtain ⟨k, rfl⟩ : ∃ k : Nat, f = (k : Int) + 1 := ⟨(f - 1).toNat, by omega⟩
    have hk : k < l.length := by omega
    have ek : ((k : Int) + 1 - 1).toNat = k := by omega
    have HR := Lib.hid (show nv = ix (nums l) k by rw [HV.out, hin, if_pos rfl, ek])
    clear hin ek
    go_enter Tryz.func18, Tryz.ntmps18
    go_wp2_with fail
    refine (HRO.out _ (by repeat (first | exact Ext.refl _ | apply Ext.alloc))).mono ?_
    rintro e w1 ⟨A5, c5, rfl, i5, j5, hm5, x1⟩
    have X1 : Ext w w1 := Ext.trans (by repeat (first | exact Ext.refl _ | apply Ext.alloc)) x1
    obtain ⟨G, rfl⟩ := hm5.some_ (by omega)
    obtain ⟨hcG, _, _, _⟩ := hm5.at_ hk
    clear hm5 x1
    go_wp2_with fail
    refine (HI.out _).mono ?_
    rintro e w2 ⟨rfl, x2⟩
    have X2 := X1.trans x2
    replace hcG := x2.cell hcG
    have u1 : (0 : Int) ≤ (k : Int) := by omega
    have u2 : (k : Int) < (l.length : Int) := by omega
    go_wp2
    go_ret
    exact ⟨ret_i HR.out.symm, X2⟩

end Go.Proofs.YtbbbgegmkmmjkaaGreatDoor

/- NumS -/
namespace Go.Proofs.YtbbbgegmkmmjkaaGreatDoor
open Go.RowKit Ring
set_option linter.unusedVariables false

set_option maxRecDepth 100000 in
set_option maxHeartbeats 4000000 in
theorem spec_NumberOf (A : Option Addr) (n c : Nat) (P : Nat → Nat → Int) (B : Option Addr) (m d : Nat) (L : Nat → Nat → Int) (hnc : n ≤ c) (hcm : c ≤ 9223372036854775807) (hmd : m ≤ d) (hdm : d ≤ 9223372036854775807) (f : Int) (hf : (-9223372036854775808 ≤ f ∧ f ≤ 9223372036854775807)) (w : World) (hr : Recs w 2 A n P) (hs : Recs w 2 B m L) :
    Calls Tryz.prog 23 #[.agg #[.slice A n c, .slice B m d], .int .i64 f] w fun e w' => e = .returned (.int .i64 (numV n P m L f)) ∧ Ext w w' := by
  have HRO := Lib.hid (fun W (Z : Ext w W) => spec_ReadingOrder A n c P B m d L hnc hcm hmd hdm W (hr.ext Z) (hs.ext Z))
  have hl20 := readV_len (n := n) (m := m) (P := P) (L := L)
  have HV := Lib.hid (show numV n P m L f = fdx (fun i => decide (f = ix (nums (readV n P m L)) i)) (readV n P m L).length + 1 from rfl)
  generalize numV n P m L f = nv at *
  generalize readV n P m L = l at *
  go_enter Tryz.func23, Tryz.ntmps23
  go_wp2_with fail
  refine (HRO.out _ (by repeat (first | exact Ext.refl _ | apply Ext.alloc))).mono ?_
  rintro e w1 ⟨A5, c5, rfl, i5, j5, hm5, x1⟩
  have X1 : Ext w w1 := Ext.trans (by repeat (first | exact Ext.refl _ | apply Ext.alloc)) x1
  have HM := Lib.hid hm5
  clear hm5 x1
  go_wp2
  go_loopw [6] (fun i wr => ∃ t : Nat, t ≤ l.length ∧ i = .int .i64 t ∧ Ext w1 wr ∧ Hid (∀ q, q < t → decide (f = ix (nums l) q) = false)) (fun i _ => l.length - (intOf i).toNat)
  case atStart => exact ⟨0, Nat.zero_le _, rfl, Ext.refl _, Lib.hid (fun q hq => absurd hq (by omega))⟩
  case round =>
    obtain ⟨t, ht, rfl, X, HALL⟩ := hrel
    have XW := X1.trans X
    by_cases hlt : t < l.length
    · obtain ⟨G, rfl⟩ := HM.out.some_ (by omega)
      obtain ⟨hcG, _, _, _⟩ := HM.out.at_ hlt
      replace hcG := X.cell hcG
      have u1 : (0 : Int) ≤ (t : Int) := by omega
      have u2 : (t : Int) < (l.length : Int) := by omega
      generalize hy : ix (nums l) t = y at *
      by_cases he : f = y
      · have HR := Lib.hid (show nv = (t : Int) + 1 by rw [HV.out, fdx_at hlt (by rw [hy]; exact decide_eq_true he) HALL.out])
        have d1 : (y == f) = true := by simp [he]
        clear hy he
        go_wp2
        go_ret
        exact ⟨ret_i HR.out.symm, XW⟩
      · have HN := Lib.hid (show decide (f = ix (nums l) t) = false by rw [hy]; exact decide_eq_false he)
        have d1 : (y == f) = false := by simp; exact fun q => he q.symm
        clear hy he
        go_wp2
        go_roundw
        case rel =>
          refine ⟨t + 1, by omega, by go_num, X, Lib.hid (fun q hq => ?_)⟩
          by_cases e : q = t
          · subst e; exact HN.out
          · exact HALL.out q (by omega)
        case measure => simp [intOf]; omega
    · obtain rfl : t = l.length := by omega
      have HR := Lib.hid (show nv = 0 by rw [HV.out, fdx_none HALL.out]; rfl)
      go_wp2
      go_ret
      exact ⟨ret_i HR.out.symm, XW⟩

end Go.Proofs.YtbbbgegmkmmjkaaGreatDoor
