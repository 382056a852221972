/-
  Texts of one kind, one behind the other: ReadV ReadI ReadK OrdI OrdS NumV NumI NumS. No conditions.
-/
import Derived.Test.YtgmhmlhdiklaaaaGreatDoorPanM
import Derived.Test.YtgmhmlhdiklaaaaGreatDoorGeoM
import Derived.Test.YtgmhmlhdiklaaaaGreatDoorDartM
import Derived.Test.YtgmhmlhdiklaaaaGreatDoorWhoM
import Derived.Deep.DeepCutAuto
import Derived.Deep.CutRange
import Derived.Deep.DrawnRows
import Derived.RowKit3
import Derived.Maps.AppendAt
import Derived.Test.YtgmhmlhdiklaaaaGreatDoorFdx
import Derived.Test.YtgmhmlhdiklaaaaGreatDoorSmallV
/- ReadV -/
namespace Go.Proofs.YtgmhmlhdiklaaaaGreatDoor
open Go.RowKit Ring
set_option linter.unusedVariables false

def cmpR (n : Nat) (P : Nat → Nat → Int) (m : Nat) (L : Nat → Nat → Int) (f g : Nat) : Int := if hiN n P m L f 1 = hiN n P m L g 1 then loN n P m L f 0 - loN n P m L g 0 else hiN n P m L g 1 - hiN n P m L f 1
def ltR (n : Nat) (P : Nat → Nat → Int) (m : Nat) (L : Nat → Nat → Int) : Nat → Nat → Bool := fun f g => decide (cmpR n P m L f g < 0)
/-- The faces below t but the wall. -/
def panesT (n : Nat) (P : Nat → Nat → Int) (m : Nat) (L : Nat → Nat → Int) (t : Nat) : List Nat := (List.range t).filter fun f => !decide ((f : Int) = outerV n P m L)
def readV (n : Nat) (P : Nat → Nat → Int) (m : Nat) (L : Nat → Nat → Int) : List Nat := srt (ltR n P m L) (panesT n P m L (facesV n P m L).length)
section
variable {n m : Nat} {P L : Nat → Nat → Int}
theorem cmpR_same {f g : Nat} (h : hiN n P m L f 1 = hiN n P m L g 1) : cmpR n P m L f g = loN n P m L f 0 - loN n P m L g 0 := if_pos h
theorem cmpR_other {f g : Nat} (h : ¬ hiN n P m L f 1 = hiN n P m L g 1) : cmpR n P m L f g = hiN n P m L g 1 - hiN n P m L f 1 := if_neg h
theorem panesT_yes {t : Nat} (h : ¬ (t : Int) = outerV n P m L) : panesT n P m L (t + 1) = panesT n P m L t ++ [t] := by simp [panesT, List.range_succ, List.filter_append, h]
theorem panesT_no {t : Nat} (h : (t : Int) = outerV n P m L) : panesT n P m L (t + 1) = panesT n P m L t := by simp [panesT, List.range_succ, List.filter_append, h]
theorem panesT_len (t : Nat) : (panesT n P m L t).length ≤ t := Nat.le_trans (List.length_filter_le _ _) (by simp)
theorem panesT_lt {t f : Nat} (h : f ∈ panesT n P m L t) : f < t := by simp [panesT] at h; exact h.1
/-- One of the faces is the wall. -/
theorem wall_in (hw : wholeB n P m L = true) : ∃ k : Nat, k < (facesV n P m L).length ∧ outerV n P m L = k := by
  obtain ⟨hwin, hm, hall⟩ := wholeB_get hw
  obtain ⟨f0, h1, h2⟩ := faces_sign hwin hall hm
  have hF := facesV_yes hw
  rcases outerV_cases (n := n) (m := m) (P := P) (L := L) with ⟨_, h⟩ | ⟨k, g1, g2, _⟩
  · have h3 := h f0 (by rw [hF]; exact h1)
    unfold faceA at h3
    rw [hF] at h3
    have h4 := (h2 f0 h1).1 rfl
    omega
  · exact ⟨k, g1, g2⟩
theorem panes_few (hw : wholeB n P m L = true) : (panesT n P m L (facesV n P m L).length).length < 20 := by
  obtain ⟨k, hk, ho⟩ := wall_in hw
  have hl := faces_len (n := n) (m := m) (P := P) (L := L)
  have : ∀ t, k < t → (panesT n P m L t).length < t := by
    intro t ht
    induction t with
    | zero => omega
    | succ t ih =>
      by_cases e : t = k
      · rw [panesT_no (by rw [ho, e])]
        have := panesT_len (n := n) (m := m) (P := P) (L := L) t
        omega
      · rw [panesT_yes (by rw [ho]; omega)]
        have := ih (by omega)
        simp; omega
  have := this _ hk
  omega
theorem readV_len : (readV n P m L).length ≤ 20 := by
  unfold readV
  rw [srt_len]
  have h1 := panesT_len (n := n) (m := m) (P := P) (L := L) (facesV n P m L).length
  have h2 := faces_len (n := n) (m := m) (P := P) (L := L)
  omega
theorem readV_lt {f : Nat} (h : f ∈ readV n P m L) : f < 20 := by
  have h1 := panesT_lt ((srt_mem _ _ _).1 h)
  have h2 := faces_len (n := n) (m := m) (P := P) (L := L)
  omega
theorem readV_no (h : wholeB n P m L = false) : readV n P m L = [] := by
  unfold readV
  rw [facesV_no h]; rfl
end

end Go.Proofs.YtgmhmlhdiklaaaaGreatDoor

/- ReadI -/
namespace Go.Proofs.YtgmhmlhdiklaaaaGreatDoor
open Go.RowKit Ring
set_option linter.unusedVariables false

attribute [local go_sem ↓] Go.wp_at_zero Go.wp_at_succ
attribute [local go_sem, local simp] Go.World.cell?_alloc_some Go.World.frozen?_alloc_past

set_option maxRecDepth 100000 in
set_option maxHeartbeats 4000000 in
theorem impl_topOf (A : Option Addr) (n c : Nat) (P : Nat → Nat → Int) (B : Option Addr) (m d : Nat) (L : Nat → Nat → Int) (hnc : n ≤ c) (hcm : c ≤ 9223372036854775807) (hmd : m ≤ d) (hdm : d ≤ 9223372036854775807) (f : Int) (hf : (-9223372036854775808 ≤ f ∧ f ≤ 9223372036854775807)) (w : World) (hr : Recs w 2 A n P) (hs : Recs w 2 B m L) :
    Calls Tryz.prog 21 #[.agg #[.slice A n c, .slice B m d], .int .i64 f] w fun e w' => e = .returned (.int .i64 (hiN n P m L f 1)) ∧ Ext w w' := by
  have HBX : Hid (∀ W, Ext w W → ∀ f : Int, (-9223372036854775808 ≤ f ∧ f ≤ 9223372036854775807) → Calls Tryz.prog 22 #[.agg #[.slice A n c, .slice B m d], .int .i64 f] W fun e w' => e = .returned (.tuple #[.agg #[.int .i64 (loN n P m L f 0), .int .i64 (loN n P m L f 1)], .agg #[.int .i64 (hiN n P m L f 0), .int .i64 (hiN n P m L f 1)]]) ∧ Ext W w') := Lib.hid (fun W Z f hf => impl_PaneBox A n c P B m d L hnc hcm hmd hdm f hf W (hr.ext Z) (hs.ext Z))
  have HB1 := Lib.hid (fun W Z => HBX.out W Z f hf)
  clear HBX
  generalize loN n P m L f = l at *
  generalize hiN n P m L f = h at *
  go_enter Tryz.func21, Tryz.ntmps21
  go_wp2_with fail
  refine (HB1.out _ (by repeat (first | exact Ext.refl _ | apply Ext.alloc))).mono ?_
  rintro e w1 ⟨rfl, x1⟩
  have X1 : Ext w w1 := Ext.trans (by repeat (first | exact Ext.refl _ | apply Ext.alloc)) x1
  go_wp2
  go_ret
  exact ⟨rfl, (X1.alloc _).alloc _⟩
set_option maxRecDepth 100000 in
set_option maxHeartbeats 2000000 in
theorem read_cmp (A : Option Addr) (n c : Nat) (P : Nat → Nat → Int) (B : Option Addr) (m d : Nat) (L : Nat → Nat → Int) (hnc : n ≤ c) (hcm : c ≤ 9223372036854775807) (hmd : m ≤ d) (hdm : d ≤ 9223372036854775807) (x y g2 : Nat) (hx : x < 1000) (hy : y < 1000) (w : World) (hr : Recs w 2 A n P) (hs : Recs w 2 B m L) (q0 : w.cell? ⟨g2, 0, none⟩ = some (.slice A n c)) (q1 : w.cell? ⟨g2, 1, none⟩ = some (.slice B m d)) :
    Calls Tryz.prog 20 #[.int .i64 (x : Int), .int .i64 (y : Int), .pointer (some ⟨g2, 0, none⟩)] w fun e w' => e = .returned (.int .i64 (cmpR n P m L x y)) ∧ Ext w w' := by
  have HBX : Hid (∀ W, Ext w W → ∀ f : Int, (-9223372036854775808 ≤ f ∧ f ≤ 9223372036854775807) → Calls Tryz.prog 22 #[.agg #[.slice A n c, .slice B m d], .int .i64 f] W fun e w' => e = .returned (.tuple #[.agg #[.int .i64 (loN n P m L f 0), .int .i64 (loN n P m L f 1)], .agg #[.int .i64 (hiN n P m L f 0), .int .i64 (hiN n P m L f 1)]]) ∧ Ext W w') := Lib.hid (fun W Z f hf => impl_PaneBox A n c P B m d L hnc hcm hmd hdm f hf W (hr.ext Z) (hs.ext Z))
  have HTO : Hid (∀ W, Ext w W → ∀ q : Nat, q < 1000 → Calls Tryz.prog 21 #[.agg #[.slice A n c, .slice B m d], .int .i64 (q : Int)] W fun e w' => e = .returned (.int .i64 (hiN n P m L q 1)) ∧ Ext W w') := Lib.hid (fun W Z q hq => impl_topOf A n c P B m d L hnc hcm hmd hdm q (by omega) W (hr.ext Z) (hs.ext Z))
  have hb1 := (lohi_rng (n := n) (m := m) (P := P) (L := L) (x : Int) (j := 1) (by omega)).2
  have hb2 := (lohi_rng (n := n) (m := m) (P := P) (L := L) (y : Int) (j := 1) (by omega)).2
  have hb3 := (lohi_rng (n := n) (m := m) (P := P) (L := L) (x : Int) (j := 0) (by omega)).1
  have hb4 := (lohi_rng (n := n) (m := m) (P := P) (L := L) (y : Int) (j := 0) (by omega)).1
  have HBF : Hid (∀ W, Ext w W → ∀ q : Nat, q < 1000 → Calls Tryz.prog 22 #[.agg #[.slice A n c, .slice B m d], .int .i64 (q : Int)] W fun e w' => e = .returned (.tuple #[.agg #[.int .i64 (loN n P m L q 0), .int .i64 (loN n P m L q 1)], .agg #[.int .i64 (hiN n P m L q 0), .int .i64 (hiN n P m L q 1)]]) ∧ Ext W w') := Lib.hid (fun W Z q hq => HBX.out W Z q (by omega))
  have CS := Lib.hid (@cmpR_same n m P L x y)
  have CO := Lib.hid (@cmpR_other n m P L x y)
  have Q0 := Lib.hid q0
  have Q1 := Lib.hid q1
  clear HBX
  generalize cmpR n P m L x y = cv at *
  generalize loN n P m L = lo at *
  generalize hiN n P m L = hi at *
  by_cases heq : hi (x : Int) 1 = hi (y : Int) 1
  · have HR := Lib.hid (CS.out heq)
    have d1 : (hi (x : Int) 1 != hi (y : Int) 1) = false := by simp [heq]
    go_enter Tryz.func20, Tryz.ntmps20
    go_wp2
    first | refine wp_region_gr2 (by kernel_rfl) (by kernel_rfl) ?_ | refine wp_region_gr (by kernel_rfl) (by kernel_rfl) ?_
    repeat (go_big_quiet_step ((go_at_call 21; exact gr_of (HTO.out _ (by repeat (first | exact Ext.refl _ | apply Ext.wgr | apply Ext.drew | apply Ext.drewN | apply Ext.alloc)) _ (by assumption)))))
    refine wpQuiet_nil ?_
    intro _ hw'
    obtain ⟨gq, hw''⟩ := hw'
    subst hw''
    have X1 := Ext.gr w gq
    clear q0 q1
    generalize wgr w gq = w1 at *
    have q0 := X1.cell Q0.out
    have q1 := X1.cell Q1.out
    go_wp2_with fail
    refine (HBF.out _ X1 x hx).mono ?_
    rintro e w2 ⟨rfl, x2⟩
    have X2 := X1.trans x2
    replace q0 := x2.cell q0
    replace q1 := x2.cell q1
    go_wp2_with fail
    refine (HBF.out _ ((X2.alloc _).alloc _) y hy).mono ?_
    rintro e w3 ⟨rfl, x3⟩
    have c0 := x3.cell (a := ⟨w2.heap.size, 0, none⟩) (u := .int .i64 (lo (x : Int) 0)) (by simp [go_sem])
    have c1 := x3.cell (a := ⟨w2.heap.size, 1, none⟩) (u := .int .i64 (lo (x : Int) 1)) (by simp [go_sem])
    have X3 := ((X2.alloc _).alloc _).trans x3
    clear x3
    go_wp2
    go_ret
    exact ⟨ret_i HR.out.symm, (X3.alloc _).alloc _⟩
  · have HR := Lib.hid (CO.out heq)
    have d1 : (hi (x : Int) 1 != hi (y : Int) 1) = true := by simp [heq]
    go_enter Tryz.func20, Tryz.ntmps20
    go_wp2
    first | refine wp_region_gr2 (by kernel_rfl) (by kernel_rfl) ?_ | refine wp_region_gr (by kernel_rfl) (by kernel_rfl) ?_
    repeat (go_big_quiet_step ((go_at_call 21; exact gr_of (HTO.out _ (by repeat (first | exact Ext.refl _ | apply Ext.wgr | apply Ext.drew | apply Ext.drewN | apply Ext.alloc)) _ (by assumption)))))
    refine wpQuiet_nil ?_
    intro _ hw'
    obtain ⟨gq, hw''⟩ := hw'
    subst hw''
    have X1 := Ext.gr w gq
    go_wp2
    go_ret
    exact ⟨ret_i HR.out.symm, X1⟩

end Go.Proofs.YtgmhmlhdiklaaaaGreatDoor

/- ReadK -/
namespace Go.Proofs.YtgmhmlhdiklaaaaGreatDoor
open Go.RowKit Ring
set_option linter.unusedVariables false

set_option maxHeartbeats 8000000 in
set_option maxRecDepth 100000 in
theorem read_insertion (g0 : Nat) (cf : Nat → Nat → Int) (pr : Nat → Prop) (wb : World)
    (HC : ∀ W, Ext wb W → ∀ x y : Nat, pr x → pr y → Calls Tryz.prog 20 #[.int .i64 (x : Int), .int .i64 (y : Int), .pointer (some ⟨g0, 0, none⟩)] W fun e w' => e = .returned (.int .i64 (cf x y)) ∧ Ext W w')
    (G c : Nat) (l : List Nat) (hl : l.length ≤ 20) (hp : ∀ x ∈ l, pr x) (hb : ∀ x ∈ l, x < 1000) (w : World) (X : Ext wb w) (hm : Mine wb.heap.size w 3 (.slice (some ⟨G, 0, none⟩) l.length c) l.length (nums l)) :
    Calls Tryz.prog 61 #[.slice (some ⟨G, 0, none⟩) l.length c, .int .i64 0, .int .i64 (l.length : Int), .func (.func 20) #[] #[.pointer (some ⟨g0, 0, none⟩)]] w fun e w' => e = .returned (.tuple #[]) ∧ Ext wb w' ∧ Mine wb.heap.size w' 3 (.slice (some ⟨G, 0, none⟩) l.length c) l.length (nums (srt (fun x y => decide (cf x y < 0)) l)) := by
  have hm1 : Mine wb.heap.size w 3 (.slice (some ⟨G, 0, none⟩) l.length c) l.length (nums (sortTo (fun x y => decide (cf x y < 0)) l 1)) := by rw [sortTo_one]; exact hm
  have HC' := Lib.hid HC
  have HP := Lib.hid hp
  have HBD := Lib.hid hb
  clear hm HC hp hb
  go_enter Tryz.func61, Tryz.ntmps61
  go_wp2
  go_loopw [8] (fun i wr => ∃ k : Nat, 1 ≤ k ∧ k ≤ l.length + 1 ∧ i = .int .i64 k ∧ Ext wb wr ∧ Mine wb.heap.size wr 3 (.slice (some ⟨G, 0, none⟩) l.length c) l.length (nums (sortTo (fun x y => decide (cf x y < 0)) l k))) (fun i _ => l.length + 1 - (intOf i).toNat)
  case atStart => exact ⟨1, by omega, by omega, rfl, X, hm1⟩
  case round =>
    clear hm1 X
    obtain ⟨k, hk1, hk2, rfl, X1, hm2⟩ := hrel
    by_cases hlt : k < l.length
    · have hxl : l.getD k 0 ∈ l := by rw [List.getD_eq_getElem?_getD, List.getElem?_eq_getElem hlt]; exact List.getElem_mem hlt
      have HOUT := Lib.hid (fun J (hJ : posOf ((fun x y => decide (cf x y < 0)) (l.getD k 0)) (srt (fun x y => decide (cf x y < 0)) (l.take k)) k = J) => sortTo_out (lt := fun x y => decide (cf x y < 0)) hlt hJ)
      have HX := Lib.hid (HP.out _ hxl)
      have hSl : (srt (fun x y => decide (cf x y < 0)) (l.take k)).length = k := take_srt_len (by omega)
      have HS : Hid (∀ q, q < k → pr ((srt (fun x y => decide (cf x y < 0)) (l.take k)).getD q 0)) := Lib.hid (fun q hq => srt_get (by rw [List.length_take]; omega) pr (fun y hy => HP.out y (List.mem_of_mem_take hy)))
      rw [sortTo_in hlt] at hm2
      have hRl : (l.drop (k + 1)).length = l.length - (k + 1) := List.length_drop
      generalize hS : srt (fun x y => decide (cf x y < 0)) (l.take k) = S at HOUT HS hSl hm2
      generalize l.getD k 0 = x at HOUT HX hm2
      generalize l.drop (k + 1) = R at HOUT hm2 hRl
      have k1 : (k : Int) < (l.length : Int) := by omega
      go_wp2
      go_loopw [9] (fun i3 wy => ∃ j : Nat, j ≤ k ∧ i3 = .int .i64 j ∧ Hid (posOf ((fun x y => decide (cf x y < 0)) x) S k = posOf ((fun x y => decide (cf x y < 0)) x) S j) ∧ Ext wb wy ∧ Mine wb.heap.size wy 3 (.slice (some ⟨G, 0, none⟩) l.length c) l.length (nums (insAt S j x ++ R))) (fun i3 _ => (intOf i3).toNat)
      case atStart => exact ⟨k, Nat.le_refl _, rfl, rfl, X1, hm2⟩
      case round =>
        clear X1 hm2
        obtain ⟨j, hj, rfl, HJ, Y, hm3⟩ := hrel
        have hjl : j < l.length := by omega
        have hjS : j ≤ S.length := by omega
        obtain ⟨hc1, hf1, _, _⟩ := hm3.at_ hjl
        rw [nums_ix, ins_at hjS] at hc1
        by_cases h0 : 0 < j
        · have hj1 : j - 1 < l.length := by omega
          obtain ⟨hc2, hf2, _, _⟩ := hm3.at_ hj1
          rw [nums_ix, ins_below hjS h0] at hc2
          have HPJ := HS.out (j - 1) (by omega)
          have HSW := Lib.hid (ins_swap (x := x) (R := R) hjS h0)
          have HPO : Hid (posOf ((fun x y => decide (cf x y < 0)) x) S j = if decide (cf x (S.getD (j - 1) 0) < 0) = true then posOf ((fun x y => decide (cf x y < 0)) x) S (j - 1) else j) := Lib.hid (by
            obtain ⟨q, rfl⟩ : ∃ q, j = q + 1 := ⟨j - 1, by omega⟩
            rfl)
          obtain ⟨p, hp⟩ : ∃ p, j = p + 1 := ⟨j - 1, by omega⟩
          subst hp
          rw [Nat.add_sub_cancel] at hc2 hf2 HPJ HSW HPO hj1
          have HCC := Lib.hid (fun W (Z : Ext wb W) => HC'.out W Z x (S.getD p 0) HX.out HPJ)
          have hyS := ins_below (x := x) (R := R) hjS h0
          rw [Nat.add_sub_cancel] at hyS
          generalize S.getD p 0 = y at hc2 HPJ HSW HPO HCC hyS
          obtain ⟨z, hz⟩ : ∃ z, z = cf x y := ⟨_, rfl⟩
          rw [← hz] at HPO HCC
          clear hz
          have d0 : decide ((p : Int) + 1 > 0) = true := decide_eq_true (by omega)
          have e1 : ((p : Int) + 1).toNat = p + 1 := by omega
          have e2 : (0 : Int) ≤ (p : Int) + 1 := by omega
          have e3 : (p : Int) + 1 < (l.length : Int) := by omega
          have e4 : (0 : Int) ≤ (p : Int) := by omega
          have e5 : (p : Int) < (l.length : Int) := by omega
          have e6 : IntKind.i64.wrap ((p : Int) + 1 - 1) = (p : Int) := by rw [IntKind.wrap_i64]; omega
          have e7 : IntKind.i64.wrap (p : Int) = (p : Int) := by rw [IntKind.wrap_i64]; omega
          by_cases hz : z < 0
          · have d1 : decide (z < 0) = true := by simpa using hz
            rw [if_pos d1] at HPO
            go_wp2
            first | refine wp_region_gr2 (by kernel_rfl) (by kernel_rfl) ?_ | refine wp_region_gr (by kernel_rfl) (by kernel_rfl) ?_
            repeat (go_big_quiet_step ((go_at_call 20; exact gr_of (HCC.out _ (by repeat (first | exact Y | apply Ext.wgr | apply Ext.drew | apply Ext.drewN | apply Ext.alloc))))))
            refine wpQuiet_nil ?_
            intro _ hw'
            obtain ⟨gq, hw''⟩ := hw'
            subst hw''
            have hm4 := hm3.gr gq
            have Y4 : Ext wb (wgr wr gq) := Y.wgr gq
            generalize wgr wr gq = wz at hm4 Y4 ⊢
            clear hm3 Y hc1 hf1 hc2 hf2
            obtain ⟨hc1, hf1, hgb, hgl⟩ := hm4.at_ hjl
            rw [nums_ix, ins_at hjS] at hc1
            obtain ⟨hc2, hf2, _, _⟩ := hm4.at_ hj1
            rw [nums_ix, hyS] at hc2
            go_wp2
            go_region
            have ix1 := hm4.ix_bd p
            rw [nums_ix, hyS] at ix1
            have ix2 := hm4.ix_bd (p + 1)
            rw [nums_ix, ins_at hjS] at ix2
            have hm5 := (hm4.stored hjl ix1).stored hj1 ix2
            rw [nums_set, nums_set, HSW.out] at hm5
            have Y5 := (((Y4.setCell (p := ⟨G, p + 1, none⟩) hgb (.int .i64 (y : Int))).setCell (p := ⟨G, p, none⟩) hgb (.int .i64 (x : Int))).drew)
            go_wp2
            go_roundw
            case rel => exact ⟨p, by omega, by go_num, HJ.trans HPO.out, Y5, hm5.drew⟩
            case measure => simp [intOf]
          · have d1 : decide (z < 0) = false := by simpa using hz
            rw [if_neg (by rw [d1]; simp)] at HPO
            have HO := Lib.hid (HOUT.out (p + 1) (HJ.trans HPO.out))
            go_wp2
            first | refine wp_region_gr2 (by kernel_rfl) (by kernel_rfl) ?_ | refine wp_region_gr (by kernel_rfl) (by kernel_rfl) ?_
            repeat (go_big_quiet_step ((go_at_call 20; exact gr_of (HCC.out _ (by repeat (first | exact Y | apply Ext.wgr | apply Ext.drew | apply Ext.drewN | apply Ext.alloc))))))
            refine wpQuiet_nil ?_
            intro _ hw'
            obtain ⟨gq, hw''⟩ := hw'
            subst hw''
            go_wp2
            go_roundw
            case rel => exact ⟨k + 1, by omega, by omega, by go_num, Y.wgr gq, by rw [← HO.out]; exact hm3.gr gq⟩
            case measure => simp [intOf]; omega
        · obtain rfl : j = 0 := by omega
          have d0 : decide ((0 : Int) > 0) = false := rfl
          have HO := Lib.hid (HOUT.out 0 HJ)
          go_wp2
          first | refine wp_region_gr2 (by kernel_rfl) (by kernel_rfl) ?_ | refine wp_region_gr (by kernel_rfl) (by kernel_rfl) ?_
          repeat (go_big_quiet_step (fail))
          refine wpQuiet_nil ?_
          intro _ hw'
          obtain ⟨gq, hw''⟩ := hw'
          subst hw''
          go_wp2
          go_roundw
          case rel => exact ⟨k + 1, by omega, by omega, by go_num, Y.wgr gq, by rw [← HO.out]; exact hm3.gr gq⟩
          case measure => simp [intOf]; omega
    · have he : sortTo (fun x y => decide (cf x y < 0)) l k = srt (fun x y => decide (cf x y < 0)) l := sortTo_all (by omega)
      rw [he] at hm2
      go_wp2
      go_end0
      exact ⟨rfl, X1, hm2⟩


set_option maxHeartbeats 2000000 in
set_option maxRecDepth 100000 in
theorem read_stable (g0 : Nat) (cf : Nat → Nat → Int) (pr : Nat → Prop) (wb : World)
    (HC : ∀ W, Ext wb W → ∀ x y : Nat, pr x → pr y → Calls Tryz.prog 20 #[.int .i64 (x : Int), .int .i64 (y : Int), .pointer (some ⟨g0, 0, none⟩)] W fun e w' => e = .returned (.int .i64 (cf x y)) ∧ Ext W w')
    (G c : Nat) (l : List Nat) (hl : l.length ≤ 20) (hp : ∀ x ∈ l, pr x) (hb : ∀ x ∈ l, x < 1000) (w : World) (X : Ext wb w) (hm : Mine wb.heap.size w 3 (.slice (some ⟨G, 0, none⟩) l.length c) l.length (nums l)) (h19 : l.length < 20) :
    Calls Tryz.prog 38 #[.slice (some ⟨G, 0, none⟩) l.length c, .int .i64 (l.length : Int), .func (.func 20) #[] #[.pointer (some ⟨g0, 0, none⟩)]] w fun e w' => e = .returned (.tuple #[]) ∧ Ext wb w' ∧ Mine wb.heap.size w' 3 (.slice (some ⟨G, 0, none⟩) l.length c) l.length (nums (srt (fun x y => decide (cf x y < 0)) l)) := by
  have HI := Lib.hid (read_insertion g0 cf pr wb HC G c l hl hp hb w X hm)
  clear HC hp hb hm
  have e1 : (l.length : Int) < 20 := by omega
  go_enter Tryz.func38, Tryz.ntmps38
  go_wp2
  refine wp_loop_rounds 1 ?_
  rw [rounds_succ]
  go_wp2_with (go_at_call 61; refine HI.out.mono ?_; rintro e w' ⟨rfl, hx⟩)
  refine wp_loop_rounds 1 ?_
  rw [rounds_succ]
  go_wp2
  go_end0
  exact ⟨rfl, hx⟩
set_option maxHeartbeats 2000000 in
theorem read_sort (g0 : Nat) (cf : Nat → Nat → Int) (pr : Nat → Prop) (wb : World)
    (HC : ∀ W, Ext wb W → ∀ x y : Nat, pr x → pr y → Calls Tryz.prog 20 #[.int .i64 (x : Int), .int .i64 (y : Int), .pointer (some ⟨g0, 0, none⟩)] W fun e w' => e = .returned (.int .i64 (cf x y)) ∧ Ext W w')
    (G c : Nat) (l : List Nat) (hl : l.length ≤ 20) (hp : ∀ x ∈ l, pr x) (hb : ∀ x ∈ l, x < 1000) (w : World) (X : Ext wb w) (hm : Mine wb.heap.size w 3 (.slice (some ⟨G, 0, none⟩) l.length c) l.length (nums l)) (h19 : l.length < 20) :
    Calls Tryz.prog 19 #[.slice (some ⟨G, 0, none⟩) l.length c, .func (.func 20) #[] #[.pointer (some ⟨g0, 0, none⟩)]] w fun e w' => e = .returned (.tuple #[]) ∧ Ext wb w' ∧ Mine wb.heap.size w' 3 (.slice (some ⟨G, 0, none⟩) l.length c) l.length (nums (srt (fun x y => decide (cf x y < 0)) l)) := by
  have HI := Lib.hid (read_stable g0 cf pr wb HC G c l hl hp hb w X hm h19)
  clear HC hp hb hm
  go_enter Tryz.func19, Tryz.ntmps19
  go_wp2_with (go_at_call 38; refine HI.out.mono ?_; rintro e w' ⟨rfl, hx⟩)
  go_end0
  exact ⟨rfl, hx⟩
set_option maxHeartbeats 4000000 in
set_option maxRecDepth 100000 in
theorem read_sort0 (g0 : Nat) (w : World) :
    Calls Tryz.prog 19 #[.slice none 0 0, .func (.func 20) #[] #[.pointer (some ⟨g0, 0, none⟩)]] w fun e w' => e = .returned (.tuple #[]) ∧ Ext w w' := by
  have HI : Hid (∀ W, Calls Tryz.prog 61 #[.slice none 0 0, .int .i64 0, .int .i64 0, .func (.func 20) #[] #[.pointer (some ⟨g0, 0, none⟩)]] W fun e w' => e = .returned (.tuple #[]) ∧ Ext W w') := Lib.hid (fun W => by
    go_enter Tryz.func61, Tryz.ntmps61
    go_wp2
    refine wp_loop_rounds 1 ?_
    rw [rounds_succ]
    go_wp2
    go_end0
    exact ⟨rfl, Ext.refl _⟩)
  have HS : Hid (∀ W, Calls Tryz.prog 38 #[.slice none 0 0, .int .i64 0, .func (.func 20) #[] #[.pointer (some ⟨g0, 0, none⟩)]] W fun e w' => e = .returned (.tuple #[]) ∧ Ext W w') := Lib.hid (fun W => by
    go_enter Tryz.func38, Tryz.ntmps38
    go_wp2
    refine wp_loop_rounds 1 ?_
    rw [rounds_succ]
    go_wp2_with (go_at_call 61; refine (HI.out _).mono ?_; rintro e w' ⟨rfl, hx⟩)
    refine wp_loop_rounds 1 ?_
    rw [rounds_succ]
    go_wp2
    go_end0
    exact ⟨rfl, hx⟩)
  clear HI
  go_enter Tryz.func19, Tryz.ntmps19
  go_wp2_with (go_at_call 38; refine (HS.out _).mono ?_; rintro e w' ⟨rfl, hx⟩)
  go_end0
  exact ⟨rfl, hx⟩

end Go.Proofs.YtgmhmlhdiklaaaaGreatDoor

/- OrdI -/
namespace Go.Proofs.YtgmhmlhdiklaaaaGreatDoor
open Go.RowKit Ring
set_option linter.unusedVariables false

set_option maxRecDepth 100000 in
set_option maxHeartbeats 8000000 in
theorem impl_ReadingOrder (A : Option Addr) (n c : Nat) (P : Nat → Nat → Int) (B : Option Addr) (m d : Nat) (L : Nat → Nat → Int) (hnc : n ≤ c) (hcm : c ≤ 9223372036854775807) (hmd : m ≤ d) (hdm : d ≤ 9223372036854775807) (w : World) (hr : Recs w 2 A n P) (hs : Recs w 2 B m L) :
    Calls Tryz.prog 6 #[.agg #[.slice A n c, .slice B m d]] w (PostI w 3 (readV n P m L).length (nums (readV n P m L))) := by
  have HIsWhole : Hid (∀ W, Ext w W → Calls Tryz.prog 16 #[.agg #[.slice A n c, .slice B m d]] W fun e w' => e = .returned (.bool (wholeB n P m L)) ∧ Ext W w') := Lib.hid (fun W Z => impl_IsWhole A n c P B m d L hnc hcm hmd hdm W (hr.ext Z) (hs.ext Z))
  have HOuterFace : Hid (∀ W, Ext w W → Calls Tryz.prog 17 #[.agg #[.slice A n c, .slice B m d]] W fun e w' => e = .returned (.int .i64 (outerV n P m L)) ∧ Ext W w') := Lib.hid (fun W Z => impl_OuterFace A n c P B m d L hnc hcm hmd hdm W (hr.ext Z) (hs.ext Z))
  have HFO : Hid (∀ W, Ext w W → Calls Tryz.prog 18 #[.agg #[.slice A n c, .slice B m d]] W (PostF W (facesV n P m L))) := Lib.hid (fun W Z => impl_FacesOf A n c P B m d L hnc hcm hmd hdm W (hr.ext Z) (hs.ext Z))
  have hlen := faces_len (n := n) (m := m) (P := P) (L := L)
  have hor := outerV_rng (n := n) (m := m) (P := P) (L := L)
  have q0 : (w.alloc (.cells #[.slice A n c, .slice B m d] 27)).cell? ⟨w.heap.size, 0, none⟩ = some (.slice A n c) := by simp [go_sem]
  have q1 : (w.alloc (.cells #[.slice A n c, .slice B m d] 27)).cell? ⟨w.heap.size, 1, none⟩ = some (.slice B m d) := by simp [go_sem]
  cases hw : wholeB n P m L
  · rw [hw] at HIsWhole
    have HV := Lib.hid (readV_no hw)
    clear hw
    go_enter Tryz.func6, Tryz.ntmps6
    go_wp2_with fail
    refine (HIsWhole.out _ (by repeat (first | exact Ext.refl _ | apply Ext.alloc))).mono ?_
    rintro e w1 ⟨rfl, x1⟩
    have X1 : Ext w w1 := Ext.trans (by repeat (first | exact Ext.refl _ | apply Ext.alloc)) x1
    go_wp2
    go_ret
    rw [HV.out]
    exact ⟨none, 0, rfl, Nat.le_refl _, by omega, Mine.nil_ _ _ _, X1⟩
  · rw [hw] at HIsWhole
    have hfew := panes_few hw
    have HLTR := Lib.hid (fun f (h : f ∈ panesT n P m L (facesV n P m L).length) => panesT_lt h)
    have HV := Lib.hid (show readV n P m L = srt (fun x y => decide (cmpR n P m L x y < 0)) (panesT n P m L (facesV n P m L).length) from rfl)
    have HPY := Lib.hid (fun t h => panesT_yes (n := n) (m := m) (P := P) (L := L) (t := t) h)
    have HPN := Lib.hid (fun t h => panesT_no (n := n) (m := m) (P := P) (L := L) (t := t) h)
    have HPL := Lib.hid (fun t => panesT_len (n := n) (m := m) (P := P) (L := L) t)
    have HP0 := Lib.hid (show panesT n P m L 0 = [] from rfl)
    clear hw
    obtain ⟨wb, hwb⟩ : ∃ wb, wb = w.alloc (.cells #[.slice A n c, .slice B m d] 27) := ⟨_, rfl⟩
    have XB : Ext w wb := by rw [hwb]; exact (Ext.refl w).alloc _
    have hsz : wb.heap.size = w.heap.size + 1 := by rw [hwb]; simp
    rw [← hwb] at q0 q1
    have Q0 := Lib.hid q0
    have Q1 := Lib.hid q1
    have HCMP := Lib.hid (fun W (Z : Ext wb W) (x y : Nat) (hx : x < 1000) (hy : y < 1000) => read_cmp A n c P B m d L hnc hcm hmd hdm x y w.heap.size hx hy W (hr.ext (XB.trans Z)) (hs.ext (XB.trans Z)) (Z.cell q0) (Z.cell q1))
    clear hr hs
    generalize facesV n P m L = R at *
    generalize outerV n P m L = o at *
    generalize panesT n P m L = pt at *
    go_enter Tryz.func6, Tryz.ntmps6
    go_wp2_with fail
    rw [← hwb]
    refine (HIsWhole.out _ XB).mono ?_
    rintro e w1 ⟨rfl, x1⟩
    replace q0 := x1.cell q0
    replace q1 := x1.cell q1
    go_wp2_with fail
    refine (HOuterFace.out _ (XB.trans x1)).mono ?_
    rintro e w2 ⟨rfl, x2⟩
    replace q0 := x2.cell q0
    replace q1 := x2.cell q1
    go_wp2_with fail
    refine (HFO.out _ ((XB.trans x1).trans x2)).mono ?_
    rintro e w3 ⟨AF, cF, rfl, iF, jF, hF, x3⟩
    have X3 : Ext wb w3 := (x1.trans x2).trans x3
    have hm0 : Mine wb.heap.size w3 3 (.slice none 0 0) (pt 0).length (nums (pt 0)) := by rw [HP0.out]; exact Mine.nil_ _ _ _
    clear q0 q1 x1 x2 x3 hF hwb
    go_wp2
    go_loopw [4, 14] (fun v i wr => ∃ t : Nat, t ≤ R.length ∧ i = .int .i64 t ∧ Ext wb wr ∧ ((pt t).length = 0 → v = .slice none 0 0) ∧ Mine wb.heap.size wr 3 v (pt t).length (nums (pt t))) (fun _ i _ => R.length - (intOf i).toNat)
    case atStart => exact ⟨0, Nat.zero_le _, rfl, X3, fun _ => rfl, hm0⟩
    case round =>
      clear hm0 X3
      obtain ⟨t, ht, rfl, X, hnil, hm⟩ := hrel
      have hpl := HPL.out t
      by_cases hlt : t < R.length
      · by_cases ho : (t : Int) = o
        · have HP := Lib.hid (HPN.out t ho)
          have d1 : ((t : Int) != o) = false := by simp [ho]
          clear ho
          go_wp2
          go_roundw
          case rel => exact ⟨t + 1, by omega, by go_num, X, by rw [HP.out]; exact hnil, by rw [HP.out]; exact hm⟩
          case measure => simp [intOf]; omega
        · have HP := Lib.hid (HPY.out t ho)
          have d1 : ((t : Int) != o) = true := by simp [ho]
          clear ho hnil
          have hz := X.size
          go_wp2_with (at_builtin; refine append_int _ rfl _ _ rfl wb.heap.size _ _ _ rfl (hm.alloc _) (t : Int) _ rfl (cell_new1 (by simp)) (by unfold I64; omega) (by omega) (by rw [World.size_alloc]; omega) ?_; intro v2 w4 hm4 hg4; have he4 := (hm.alloc (.cells #[.int .i64 (t : Int)] 3)).fresh (X.alloc (.cells #[.int .i64 (t : Int)] 3)) (Nat.le_refl _) hg4 rfl)
          go_roundw
          case rel => exact ⟨t + 1, by omega, by go_num, he4, by rw [HP.out]; simp, by rw [HP.out, nums_snoc, List.length_append]; exact hm4⟩
          case measure => simp [intOf]; omega
      · obtain rfl : t = R.length := by omega
        by_cases h0 : (pt R.length).length = 0
        · obtain rfl := hnil h0
          have HV2 : Hid (readV n P m L = []) := Lib.hid (by rw [HV.out, List.eq_nil_of_length_eq_zero h0]; rfl)
          have HS0 := Lib.hid (fun W => read_sort0 w.heap.size W)
          go_wp2_with fail
          refine (HS0.out _).mono ?_
          rintro e w9 ⟨rfl, x9⟩
          go_wp2
          go_ret
          rw [HV2.out]
          exact ⟨none, 0, rfl, Nat.le_refl _, by omega, Mine.nil_ _ _ _, (XB.trans X).trans x9⟩
        · obtain ⟨A', c', rfl, hc1, hc2⟩ := hm.form
          obtain ⟨G, rfl⟩ := hm.some_ (by omega)
          have HS := Lib.hid (read_sort w.heap.size (cmpR n P m L) (fun x => x < 1000) wb HCMP.out G c' (pt R.length) (by omega) (fun x hx => by have := HLTR.out x hx; omega) (fun x hx => by have := HLTR.out x hx; omega) _ X hm hfew)
          go_wp2_with fail
          refine HS.out.mono ?_
          rintro e w9 ⟨rfl, X9, hm9⟩
          go_wp2
          go_ret
          have hla : (readV n P m L).length = (pt R.length).length := by rw [HV.out]; exact srt_len _ _
          rw [hla, HV.out]
          exact ⟨_, _, rfl, hc1, hc2, hm9.more (by omega), XB.trans X9⟩

end Go.Proofs.YtgmhmlhdiklaaaaGreatDoor

/- OrdS -/
namespace Go.Proofs.YtgmhmlhdiklaaaaGreatDoor
open Go.RowKit Ring
set_option linter.unusedVariables false

attribute [local go_sem ↓] Go.wp_at_zero Go.wp_at_succ
attribute [local go_sem, local simp] Go.World.cell?_alloc_some Go.World.frozen?_alloc_past

theorem cell_of_blk {w w' : World} {k o : Nat} (h : w'.heap[k]? = w.heap[k]?) : w'.cell? ⟨k, o, none⟩ = w.cell? ⟨k, o, none⟩ := by
  unfold World.cell?
  rw [h]
/-- append of one int, with where the row lies afterwards. -/
theorem append_intA (w : World) {ops : Array Oper} {rest : List Oper} {o : Oper} {a : Act} {Q : Exit → Act → World → Prop} (hgd : o.guard = none) (s x : Operand)
    (ho : o.op = .call { callee := .builtin .append, args := #[s, x], argTypes := #[29, 29] })
    (base : Nat) (v : Value) (n : Nat) (zs : List Int) (hs : a.eval s = v) (hm : Mine base w 3 v n zs) (z : Int) (b : Nat) (hx : a.eval x = .slice (some ⟨b, 0, none⟩) 1 1) (hc : w.cell? ⟨b, 0, none⟩ = some (.int .i64 z)) (hz64 : I64 z)
    (hn : n ≤ 1000000000000) (hbase : base ≤ w.heap.size)
    (h : ∀ v' w', Mine base w' 3 v' (n + 1) (zs ++ [z]) → w.grownBy w' v.ownBlock → (v'.ownBlock = v.ownBlock ∨ v'.ownBlock = some w.heap.size) → wpList Tryz.prog ops Q rest (a.put o.dst v') w') : wpList Tryz.prog ops Q (o :: rest) a w := by
  obtain ⟨i0, hi, hz0, hz1, hz2⟩ := info_parts int_info
  refine wpList_append_own_at w hgd s x 29 ho base 3 i0 (.int .i64 0) 1 8 Tryz.underlying29 hi hz0 hz1 hz2 rfl (by decide) v n _ hs hm.2.1 ⟨b, 0, none⟩ 1 1 [.int .i64 z] hx rfl ?_ ?_ (by simp only [maxLen]; omega) (by omega) hbase ?_
  · intro j u hj
    match j, hj with
    | 0, hj => simp at hj; subst hj; simpa [Addr.add] using hc
  · intro u hu; simp at hu; subst hu; rfl
  · intro v' w' hown hg _ hat
    refine h v' w' ⟨by simp [hm.1], by simpa using hown, ?_⟩ hg hat
    intro y hy
    rcases List.mem_append.1 hy with q | q
    · exact hm.2.2 y q
    · simp at q; subst q; exact hz64

end Go.Proofs.YtgmhmlhdiklaaaaGreatDoor

/- NumV -/
namespace Go.Proofs.YtgmhmlhdiklaaaaGreatDoor
open Go.RowKit Ring
set_option linter.unusedVariables false

def numV (n : Nat) (P : Nat → Nat → Int) (m : Nat) (L : Nat → Nat → Int) (f : Int) : Int := fdx (fun i => decide (f = ix (nums (readV n P m L)) i)) (readV n P m L).length + 1
def atV (n : Nat) (P : Nat → Nat → Int) (m : Nat) (L : Nat → Nat → Int) (x : Int) : Int := if inB x 1 ((readV n P m L).length : Nat) = true then ix (nums (readV n P m L)) (x - 1).toNat else -1
section
variable {n m : Nat} {P L : Nat → Nat → Int}
theorem numV_rng (f : Int) : 0 ≤ numV n P m L f ∧ numV n P m L f ≤ 20 := by
  have h := readV_len (n := n) (m := m) (P := P) (L := L)
  unfold numV
  rcases fdx_bd (fun i => decide (f = ix (nums (readV n P m L)) i)) (readV n P m L).length with g | g
  · omega
  · omega
end

end Go.Proofs.YtgmhmlhdiklaaaaGreatDoor

/- NumI -/
namespace Go.Proofs.YtgmhmlhdiklaaaaGreatDoor
open Go.RowKit Ring
set_option linter.unusedVariables false

set_option maxRecDepth 100000 in
set_option maxHeartbeats 4000000 in
theorem impl_NumberOf (A : Option Addr) (n c : Nat) (P : Nat → Nat → Int) (B : Option Addr) (m d : Nat) (L : Nat → Nat → Int) (hnc : n ≤ c) (hcm : c ≤ 9223372036854775807) (hmd : m ≤ d) (hdm : d ≤ 9223372036854775807) (f : Int) (hf : (-9223372036854775808 ≤ f ∧ f ≤ 9223372036854775807)) (w : World) (hr : Recs w 2 A n P) (hs : Recs w 2 B m L) :
    Calls Tryz.prog 9 #[.agg #[.slice A n c, .slice B m d], .int .i64 f] w fun e w' => e = .returned (.int .i64 (numV n P m L f)) ∧ Ext w w' := by
  have HRO := Lib.hid (fun W (Z : Ext w W) => impl_ReadingOrder A n c P B m d L hnc hcm hmd hdm W (hr.ext Z) (hs.ext Z))
  have hl20 := readV_len (n := n) (m := m) (P := P) (L := L)
  have hnr := numV_rng (n := n) (m := m) (P := P) (L := L) f
  have HV := Lib.hid (show numV n P m L f = fdx (fun i => decide (f = ix (nums (readV n P m L)) i)) (readV n P m L).length + 1 from rfl)
  generalize numV n P m L f = nv at *
  generalize readV n P m L = l at *
  go_enter Tryz.func9, Tryz.ntmps9
  go_wp2_with fail
  refine (HRO.out _ (by repeat (first | exact Ext.refl _ | apply Ext.alloc))).mono ?_
  rintro e w1 ⟨A5, c5, rfl, i5, j5, hm5, x1⟩
  have X1 : Ext w w1 := Ext.trans (by repeat (first | exact Ext.refl _ | apply Ext.alloc)) x1
  have HIX := Lib.hid (indexInt_any A5 l.length c5 (fun k _ => ix (nums l) k) f (by omega) w1 hm5.recs)
  clear hm5 x1
  generalize hq : fdx (fun i => decide (f = ix (nums l) i)) l.length = q at *
  have HQ := Lib.hid hq
  have hqr : -1 ≤ q ∧ q ≤ 20 := by have := HV.out; omega
  clear hq
  go_wp2_with fail
  refine HIX.out.mono ?_
  rintro e w2 ⟨rfl, x2⟩
  have X2 := X1.trans x2
  clear x2
  go_wp2
  go_ret
  exact ⟨ret_i HV.out.symm, X2⟩

set_option maxRecDepth 100000 in
set_option maxHeartbeats 4000000 in
theorem impl_FaceWithNumber (A : Option Addr) (n c : Nat) (P : Nat → Nat → Int) (B : Option Addr) (m d : Nat) (L : Nat → Nat → Int) (hnc : n ≤ c) (hcm : c ≤ 9223372036854775807) (hmd : m ≤ d) (hdm : d ≤ 9223372036854775807) (f : Int) (hf : (-9223372036854775808 ≤ f ∧ f ≤ 9223372036854775807)) (w : World) (hr : Recs w 2 A n P) (hs : Recs w 2 B m L) :
    Calls Tryz.prog 10 #[.agg #[.slice A n c, .slice B m d], .int .i64 f] w fun e w' => e = .returned (.int .i64 (atV n P m L f)) ∧ Ext w w' := by
  have HRO := Lib.hid (fun W (Z : Ext w W) => impl_ReadingOrder A n c P B m d L hnc hcm hmd hdm W (hr.ext Z) (hs.ext Z))
  have hl20 := readV_len (n := n) (m := m) (P := P) (L := L)
  have HV := Lib.hid (show atV n P m L f = if inB f 1 ((readV n P m L).length : Nat) = true then ix (nums (readV n P m L)) (f - 1).toNat else -1 from rfl)
  generalize atV n P m L f = nv at *
  generalize readV n P m L = l at *
  have HI := Lib.hid (fun W => within_any f 1 ((l.length : Nat) : Int) W)
  cases hin : inB f 1 ((l.length : Nat) : Int)
  · rw [hin] at HI
    have HR := Lib.hid (show nv = -1 by rw [HV.out, hin]; rfl)
    clear hin
    go_enter Tryz.func10, Tryz.ntmps10
    go_wp2_with fail
    refine (HRO.out _ (by repeat (first | exact Ext.refl _ | apply Ext.alloc))).mono ?_
    rintro e w1 ⟨A5, c5, rfl, i5, j5, hm5, x1⟩
    have X1 : Ext w w1 := Ext.trans (by repeat (first | exact Ext.refl _ | apply Ext.alloc)) x1
    clear hm5 x1
    go_wp2_with fail
    refine (HI.out _).mono ?_
    rintro e w2 ⟨rfl, x2⟩
    have X2 := X1.trans x2
    go_wp2
    go_ret
    exact ⟨ret_i HR.out.symm, X2⟩
  · rw [hin] at HI
    have hb := inB_of hin
    obtain ⟨k, rfl⟩ : ∃ k : Nat, f = (k : Int) + 1 := ⟨(f - 1).toNat, by omega⟩
    have hk : k < l.length := by omega
    have ek : ((k : Int) + 1 - 1).toNat = k := by omega
    have HR := Lib.hid (show nv = ix (nums l) k by rw [HV.out, hin, if_pos rfl, ek])
    clear hin ek
    go_enter Tryz.func10, Tryz.ntmps10
    go_wp2_with fail
    refine (HRO.out _ (by repeat (first | exact Ext.refl _ | apply Ext.alloc))).mono ?_
    rintro e w1 ⟨A5, c5, rfl, i5, j5, hm5, x1⟩
    have X1 : Ext w w1 := Ext.trans (by repeat (first | exact Ext.refl _ | apply Ext.alloc)) x1
    obtain ⟨G, rfl⟩ := hm5.some_ (by omega)
    obtain ⟨hcG, _, _, _⟩ := hm5.at_ hk
    clear hm5 x1
    go_wp2_with fail
    refine (HI.out _).mono ?_
    rintro e w2 ⟨rfl, x2⟩
    have X2 := X1.trans x2
    replace hcG := x2.cell hcG
    have u1 : (0 : Int) ≤ (k : Int) := by omega
    have u2 : (k : Int) < (l.length : Int) := by omega
    go_wp2
    go_ret
    exact ⟨ret_i HR.out.symm, X2⟩

end Go.Proofs.YtgmhmlhdiklaaaaGreatDoor

/- NumS -/
namespace Go.Proofs.YtgmhmlhdiklaaaaGreatDoor
open Go.RowKit Ring
set_option linter.unusedVariables false
end Go.Proofs.YtgmhmlhdiklaaaaGreatDoor
