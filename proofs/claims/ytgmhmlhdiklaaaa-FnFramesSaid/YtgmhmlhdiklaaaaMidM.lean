/-
  Texts of one kind, one behind the other: MidV MidI MidS HingeV HingeI HingeS. No conditions.
-/
import Derived.Test.YtgmhmlhdiklaaaaSmaM
import Derived.Deep.DeepCutAuto
import Derived.Deep.CutRange
import Derived.Deep.DrawnRows
import Derived.RowKit3
/- MidV -/
namespace Go.Proofs.Ytgmhmlhdiklaaaa
open Go.RowKit Ring
set_option linter.unusedVariables false

def momD (P L : Nat → Nat → Int) (j y : Nat) : Int := (P (orgN L y) j + P (endN L y) j) * crsD P L y
def momL (P L : Nat → Nat → Int) (j : Nat) (l : List Nat) (t : Nat) : Int := psum (fun i => momD P L j (l.getD i 0)) t
def midV (n : Nat) (P : Nat → Nat → Int) (m : Nat) (L : Nat → Nat → Int) : Int × Int × Int :=
  if totalV n P m L ≤ 0 then (0, 0, 0) else (-(momL P L 0 ((facesV n P m L).getD (outerV n P m L).toNat []) ((facesV n P m L).getD (outerV n P m L).toNat []).length), -(momL P L 1 ((facesV n P m L).getD (outerV n P m L).toNat []) ((facesV n P m L).getD (outerV n P m L).toNat []).length), 3 * totalV n P m L)
def tup3 (v : Int × Int × Int) : Value := .tuple #[.int .i64 v.1, .int .i64 v.2.1, .int .i64 v.2.2]
theorem mom_box {a b : Int} (h1 : 0 ≤ a) (h2 : a ≤ 40) (h3 : -400 ≤ b) (h4 : b ≤ 400) : -16000 ≤ a * b ∧ a * b ≤ 16000 := by
  have g1 : a * b ≤ a * 400 := Int.mul_le_mul_of_nonneg_left h4 h1
  have g2 : a * (-400) ≤ a * b := Int.mul_le_mul_of_nonneg_left h3 h1
  omega
theorem tup3_form (v : Int × Int × Int) : ∃ a b c : Int, tup3 v = .tuple #[.int .i64 a, .int .i64 b, .int .i64 c] := ⟨_, _, _, rfl⟩
section
variable {n m : Nat} {P L : Nat → Nat → Int}
theorem midV_no (h : totalV n P m L ≤ 0) : midV n P m L = (0, 0, 0) := if_pos h
theorem midV_yes {k : Nat} (h : 0 < totalV n P m L) (hk : outerV n P m L = k) : midV n P m L = (-(momL P L 0 ((facesV n P m L).getD k []) ((facesV n P m L).getD k []).length), -(momL P L 1 ((facesV n P m L).getD k []) ((facesV n P m L).getD k []).length), 3 * totalV n P m L) := by
  unfold midV
  rw [if_neg (by omega), hk]; rfl
theorem total_out : (outerV n P m L = -1 ∧ totalV n P m L = -1) ∨ ∃ k : Nat, k < (facesV n P m L).length ∧ outerV n P m L = k ∧ 0 ≤ totalV n P m L := by
  rcases outerV_cases (n := n) (m := m) (P := P) (L := L) with ⟨h, _⟩ | ⟨k, h1, h2, _⟩
  · left
    refine ⟨h, ?_⟩
    unfold totalV
    rw [h]
    exact areaV_no (inB_no (by omega))
  · right
    refine ⟨k, h1, h2, ?_⟩
    unfold totalV
    rw [h2, areaV_yes h1]
    unfold absI; omega
theorem momD_box (hN : NodesOk n P) (hE : Ends n m L) {x j : Nat} (hj : j < 2) (hx : x < 2 * m) : -16000 ≤ momD P L j x ∧ momD P L j x ≤ 16000 := by
  have h := crsD_box hN hE hx
  have h1 : 0 ≤ P (orgN L x) j ∧ P (orgN L x) j ≤ 20 ∧ 0 ≤ P (endN L x) j ∧ P (endN L x) j ≤ 20 := by
    match j, hj with
    | 0, _ => omega
    | 1, _ => omega
  have h2 := mom_box (a := P (orgN L x) j + P (endN L x) j) (b := crsD P L x) (by omega) (by omega) (by omega) (by omega)
  unfold momD
  omega
theorem midV_rng : (-640000 ≤ (midV n P m L).1 ∧ (midV n P m L).1 ≤ 640000) ∧ (0 ≤ (midV n P m L).2.2 ∧ (midV n P m L).2.2 ≤ 48000) := by
  have ht := totalV_rng (n := n) (m := m) (P := P) (L := L)
  rcases total_out (n := n) (m := m) (P := P) (L := L) with ⟨_, h⟩ | ⟨k, hk, ho, h0⟩
  · rw [midV_no (by omega)]; simp
  · by_cases g : totalV n P m L ≤ 0
    · rw [midV_no g]; simp
    · rw [midV_yes (by omega) ho]
      obtain ⟨hwin, _, h40, hlt⟩ := faces_row hk
      have hN := (winB_get hwin).2.1
      have hb := psum_box (f := fun i => momD P L 0 (((facesV n P m L).getD k []).getD i 0)) (M := 16000) (t := ((facesV n P m L).getD k []).length) (fun i hi => momD_box hN (win_ends hwin) (by omega) (hlt i hi))
      show (-640000 ≤ -(momL P L 0 ((facesV n P m L).getD k []) ((facesV n P m L).getD k []).length) ∧ -(momL P L 0 ((facesV n P m L).getD k []) ((facesV n P m L).getD k []).length) ≤ 640000) ∧ (0 ≤ 3 * totalV n P m L ∧ 3 * totalV n P m L ≤ 48000)
      unfold momL
      omega
end

end Go.Proofs.Ytgmhmlhdiklaaaa

/- MidI -/
namespace Go.Proofs.Ytgmhmlhdiklaaaa
open Go.RowKit Ring
set_option linter.unusedVariables false

attribute [local go_sem ↓] Go.wp_at_zero Go.wp_at_succ
attribute [local go_sem, local simp] Go.World.cell?_alloc_some Go.World.frozen?_alloc_past

set_option maxRecDepth 100000 in
set_option maxHeartbeats 200000000 in
theorem impl_MiddleOf (A : Option Addr) (n c : Nat) (P : Nat → Nat → Int) (B : Option Addr) (m d : Nat) (L : Nat → Nat → Int) (hnc : n ≤ c) (hcm : c ≤ 9223372036854775807) (hmd : m ≤ d) (hdm : d ≤ 9223372036854775807) (w : World) (hr : Recs w 2 A n P) (hs : Recs w 2 B m L) :
    Calls Try.prog 33 #[.agg #[.slice A n c, .slice B m d]] w fun e w' => e = .returned (tup3 (midV n P m L)) ∧ Ext w w' := by
  have q0 : (w.alloc (.cells #[.slice A n c, .slice B m d] 27)).cell? ⟨w.heap.size, 0, none⟩ = some (.slice A n c) := by simp [go_sem]
  have q1 : (w.alloc (.cells #[.slice A n c, .slice B m d] 27)).cell? ⟨w.heap.size, 1, none⟩ = some (.slice B m d) := by simp [go_sem]
  have HTotalArea : Hid (∀ W, Ext w W → Calls Try.prog 68 #[.agg #[.slice A n c, .slice B m d]] W fun e w' => e = .returned (.int .i64 (totalV n P m L)) ∧ Ext W w') := Lib.hid (fun W Z => impl_TotalArea A n c P B m d L hnc hcm hmd hdm W (hr.ext Z) (hs.ext Z))
  have HOuterFace : Hid (∀ W, Ext w W → Calls Try.prog 65 #[.agg #[.slice A n c, .slice B m d]] W fun e w' => e = .returned (.int .i64 (outerV n P m L)) ∧ Ext W w') := Lib.hid (fun W Z => impl_OuterFace A n c P B m d L hnc hcm hmd hdm W (hr.ext Z) (hs.ext Z))
  have HFO : Hid (∀ W, Ext w W → Calls Try.prog 64 #[.agg #[.slice A n c, .slice B m d]] W (PostF W (facesV n P m L))) := Lib.hid (fun W Z => impl_FacesOf A n c P B m d L hnc hcm hmd hdm W (hr.ext Z) (hs.ext Z))
  have hlen := faces_len (n := n) (m := m) (P := P) (L := L)
  have har := totalV_rng (n := n) (m := m) (P := P) (L := L)
  by_cases hT : totalV n P m L ≤ 0
  · have HR := Lib.hid (midV_no hT)
    go_enter Try.func33, Try.ntmps33
    go_wp2_with fail
    refine (HTotalArea.out _ (by repeat (first | exact Ext.refl _ | apply Ext.alloc))).mono ?_
    rintro e w1 ⟨rfl, x1⟩
    replace q0 := x1.cell q0
    replace q1 := x1.cell q1
    have X1 : Ext w w1 := Ext.trans (by repeat (first | exact Ext.refl _ | apply Ext.alloc)) x1
    go_wp2
    go_ret3
    refine ⟨?_, X1⟩
    rw [HR.out]; rfl
  · replace hT : 0 < totalV n P m L := by omega
    have hk_ : ∃ k : Nat, k < (facesV n P m L).length ∧ outerV n P m L = k := by
      rcases total_out (n := n) (m := m) (P := P) (L := L) with ⟨_, h⟩ | ⟨k, h1, h2, _⟩
      · omega
      · exact ⟨k, h1, h2⟩
    obtain ⟨k, hk, ho⟩ := hk_
    obtain ⟨hwin, _, h40, hlt⟩ := faces_row hk
    obtain ⟨⟨hn1, hn12, hm20⟩, hN, _⟩ := winB_get hwin
    have hE := win_ends hwin
    have HCB := Lib.hid (fun x (hx : x < 2 * m) => crsD_box hN hE hx)
    have HON := Lib.hid (fun x (hx : x < 2 * m) => orgN_lt hE hx)
    have HEN := Lib.hid (fun x (hx : x < 2 * m) => endN_lt hE hx)
    have HD := Lib.hid (fun W (Z : Ext w W) (x : Nat) (hx : x < 2 * m) => (show Calls Try.prog 69 #[.agg #[.slice A n c, .slice B m d], .int .i64 (x : Int)] W fun e w' => e = .returned (.int .i64 (orgN L x : Nat)) ∧ Ext W w' from by have z := impl_dartFrom A n c P B m d L hnc hcm hmd hdm x hx hm20 W (hr.ext Z) (hs.ext Z); rwa [orgI_eq hE hx] at z))
    have HMD := Lib.hid (fun j x (hj : j < 2) (hx : x < 2 * m) => momD_box hN hE hj hx)
    have HR := Lib.hid (midV_yes hT ho)
    have HPS := Lib.hid (fun j t (hj : j < 2) (h : t ≤ ((facesV n P m L).getD k []).length) => psum_box (f := fun i => momD P L j (((facesV n P m L).getD k []).getD i 0)) (M := 16000) (t := t) (fun i hi => momD_box hN hE hj (hlt i (by omega))))
    have HLT := Lib.hid hlt
    clear hwin hN hE hlt
    rw [ho] at HOuterFace
    generalize totalV n P m L = T at *
    generalize facesV n P m L = R at *
    generalize hl : R.getD k [] = l at *
    have kk1 : (0 : Int) ≤ (k : Int) := by omega
    have kk2 : (k : Int) < (R.length : Int) := by omega
    go_enter Try.func33, Try.ntmps33
    go_wp2_with fail
    refine (HTotalArea.out _ (by repeat (first | exact Ext.refl _ | apply Ext.alloc))).mono ?_
    rintro e w1 ⟨rfl, x1⟩
    replace q0 := x1.cell q0
    replace q1 := x1.cell q1
    have X1 : Ext (w.alloc (.cells #[.slice A n c, .slice B m d] 27)) w1 := Ext.trans (by repeat (first | exact Ext.refl _ | apply Ext.alloc)) x1
    have XW1 : Ext w w1 := ((Ext.refl w).alloc _).trans X1
    clear x1
    go_upto_region 4 with fail
    go_cut [20, 21, 22] from 15 to 22 (fun s20 s21 s22 wx => ∃ (Bk : Option Addr) (ck : Nat), s20 = .slice Bk l.length ck ∧ s21 = .int .i64 (l.length : Int) ∧ s22 = .int .i64 0 ∧ l.length ≤ ck ∧ ck ≤ 9223372036854775807 ∧ Recs wx 1 Bk l.length (fun i _ => ((l.getD i 0 : Nat) : Int)) ∧ wx.cell? ⟨w.heap.size, 0, none⟩ = some (.slice A n c) ∧ wx.cell? ⟨w.heap.size, 1, none⟩ = some (.slice B m d) ∧ Ext (w.alloc (.cells #[.slice A n c, .slice B m d] 27)) wx)
    case first =>
      go_region_with (first
        | (go_at_call 64; refine (HFO.out _ XW1.drew).mono ?_; rintro e wa ⟨AF, cF, rfl, iF, jF, hF, xa⟩; have q0a := xa.cell q0; have q1a := xa.cell q1; have Xa := X1.drew.trans xa; obtain ⟨b', o', Bk, ck, rfl, hb', hck, i1, i2, hrow⟩ := hF.at_ hk; rw [hl] at hck i1 hrow)
        | (go_at_call 65; refine (HOuterFace.out _ (((Ext.refl w).alloc _).trans Xa)).mono ?_; rintro e wb ⟨rfl, xb⟩; have q0b := xb.cell q0a; have q1b := xb.cell q1a; have Xb := Xa.trans xb; replace hck := xb.cell hck; replace hrow := hrow.ext xb))
      all_goals
        go_wp2_with fail
        go_meet
        exact ⟨_, _, rfl, rfl, rfl, i1, i2, hrow, q0b, q1b, Xb⟩
    case rest =>
    obtain ⟨Bk, ck, rfl, rfl, rfl, i1, i2, hrow, q0b, q1b, XF⟩ := hcut
    have ROW := Lib.hid hrow
    have Q0 := Lib.hid q0b
    have Q1 := Lib.hid q1b
    clear q0b q1b hrow q0 q1 X1 XW1
    have q0 := Q0.out
    have q1 := Q1.out
    go_wp2
    go_loopw [5, 6, 22] (fun vx vy i wr => ∃ t : Nat, t ≤ l.length ∧ vx = .int .i64 (-(momL P L 0 l t)) ∧ vy = .int .i64 (-(momL P L 1 l t)) ∧ i = .int .i64 t ∧ Ext (w.alloc (.cells #[.slice A n c, .slice B m d] 27)) wr ∧ wr.cell? ⟨w.heap.size, 0, none⟩ = some (.slice A n c) ∧ wr.cell? ⟨w.heap.size, 1, none⟩ = some (.slice B m d) ∧ Ext wc wr) (fun _ _ i _ => l.length - (intOf i).toNat)
    case atStart => exact ⟨0, Nat.zero_le _, rfl, rfl, rfl, XF, Q0.out, Q1.out, Ext.refl _⟩
    case round =>
      clear q0 q1
      obtain ⟨t, ht, rfl, rfl, rfl, X, q0, q1, XROW⟩ := hrel
      have hrow := ROW.out
      have XWr := Ext.trans ((Ext.refl w).alloc _) X
      have hp0 := HPS.out 0 t (by omega) ht
      have hp1 := HPS.out 1 t (by omega) ht
      have m0 : momL P L 0 l t = psum (fun i => momD P L 0 (l.getD i 0)) t := rfl
      have m1 : momL P L 1 l t = psum (fun i => momD P L 1 (l.getD i 0)) t := rfl
      rw [← m0] at hp0
      rw [← m1] at hp1
      clear m0 m1
      by_cases hlt' : t < l.length
      · obtain ⟨br, or_, rfl, hbr, c0⟩ := hrow.at1 hlt'
        replace c0 := XROW.cell c0
        have hy := HLT.out t hlt'
        have HS0 : Hid (momL P L 0 l (t + 1) = momL P L 0 l t + momD P L 0 (l.getD t 0)) := Lib.hid rfl
        have HS1 : Hid (momL P L 1 l (t + 1) = momL P L 1 l t + momD P L 1 (l.getD t 0)) := Lib.hid rfl
        generalize hyd : l.getD t 0 = y at *
        obtain ⟨b, o, rfl, hb, nu0, nu1⟩ := hr.at2 (HON.out y hy)
        obtain ⟨nv0, nv1⟩ := hr.cell2 (HEN.out y hy)
        have hu := HON.out y hy
        have hv := HEN.out y hy
        have HCBy := Lib.hid (HCB.out y hy)
        have HM0 := Lib.hid (HMD.out 0 y (by omega) hy)
        have HM1 := Lib.hid (HMD.out 1 y (by omega) hy)
        have u1 : (0 : Int) ≤ (t : Int) := by omega
        have u2 : (t : Int) < (l.length : Int) := by omega
        have k3 : (0 : Int) ≤ (orgN L y : Int) := by omega
        have k4 : (orgN L y : Int) < (n : Int) := by omega
        have k5 : (0 : Int) ≤ (endN L y : Int) := by omega
        have k6 : (endN L y : Int) < (n : Int) := by omega
        replace nu0 := XWr.cell nu0
        replace nu1 := XWr.cell nu1
        replace nv0 := XWr.cell nv0
        replace nv1 := XWr.cell nv1
        have HD1 := Lib.hid (fun W Z => HD.out W Z y hy)
        have HD2 : Hid (∀ W, Ext w W → Calls Try.prog 69 #[.agg #[.slice (some ⟨b, o, none⟩) n c, .slice B m d], .int .i64 ((tw y : Nat) : Int)] W fun e w' => e = .returned (.int .i64 (endN L y : Nat)) ∧ Ext W w') := Lib.hid (fun W Z => HD.out W Z (tw y) (tw_lt hy))
        have by_ := bits_tw (d := y) (by omega)
        clear hr hs hrow
        go_upto_region 7 with fail
        go_cut [9, 10] from 23 to 70 (fun s8 s9 wx => At2 wx s8 (P (orgN L y) 0) (P (orgN L y) 1) ∧ At2 wx s9 (P (endN L y) 0) (P (endN L y) 1) ∧ Ext (w.alloc (.cells #[.slice (some ⟨b, o, none⟩) n c, .slice B m d] 27)) wx ∧ Ext wr wx)
        case first =>
          have ZX := X.size
          rw [World.size_alloc] at ZX
          have ZX' : w.heap.size ≤ wr.heap.size := by omega
          go_region_held3 (fun w' => w'.cell? ⟨w.heap.size, 0, none⟩ = some (.slice (some ⟨b, o, none⟩) n c) ∧ w'.cell? ⟨w.heap.size, 1, none⟩ = some (.slice B m d) ∧ w'.cell? ⟨b, o + (orgN L y) * 2, none⟩ = some (.int .i64 (P (orgN L y) 0)) ∧ w'.cell? ⟨b, o + (orgN L y) * 2 + 1, none⟩ = some (.int .i64 (P (orgN L y) 1)) ∧ w'.cell? ⟨b, o + (endN L y) * 2, none⟩ = some (.int .i64 (P (endN L y) 0)) ∧ w'.cell? ⟨b, o + (endN L y) * 2 + 1, none⟩ = some (.int .i64 (P (endN L y) 1))) (exact (fun (Z : Ext wr _) => ⟨Z.cell q0, Z.cell q1, Z.cell nu0, Z.cell nu1, Z.cell nv0, Z.cell nv1⟩) (by repeat (first | with_reducible exact Ext.refl _ | with_reducible exact Xb | with_reducible exact Xa | with_reducible apply Ext.drew | with_reducible apply Ext.alloc | with_reducible (refine Ext.setCell ?_ (by first | (simp; done) | (simp; omega)) _)))) (first
            | (have _u := Xa; go_at_call 69; refine (HD2.out _ (Ext.trans XWr (by repeat (first | with_reducible exact Ext.refl _ | with_reducible exact Xb | with_reducible exact Xa | with_reducible exact X | with_reducible apply Ext.drew | with_reducible apply Ext.alloc | with_reducible (refine Ext.setCell ?_ (by first | (simp; done) | (simp; omega)) _))))).mono ?_; rintro e wb ⟨rfl, xb⟩; have Xb : Ext wr _ := Ext.trans (by repeat (first | with_reducible exact Ext.refl _ | with_reducible exact Xb | with_reducible exact Xa | with_reducible exact X | with_reducible apply Ext.drew | with_reducible apply Ext.alloc | with_reducible (refine Ext.setCell ?_ (by first | (simp; done) | (simp; omega)) _))) xb; have Zb := Xb.size; have Zab := xb.size; (try (refine (fun (hb00 : wb.cell? ⟨wr.heap.size, 0, none⟩ = some (.int .i64 0)) => ?_) ?_; rotate_left; (refine xb.cell ?_; (first | (focus (simp [go_sem]; done)) | (focus (simp [go_sem, *]; done)))))); (try (refine (fun (hb0f0 : wb.frozen? ⟨wr.heap.size, 0, none⟩ = false) => ?_) ?_; rotate_left; (refine xb.frozen (u := .int .i64 0) ?_ ?_; (first | (focus (simp [go_sem]; done)) | (focus (simp [go_sem, *]; done))); (first | (focus (simp [go_sem]; done)) | (focus (simp [go_sem, *]; done)))))); (try (refine (fun (hb01 : wb.cell? ⟨wr.heap.size, 1, none⟩ = some (.int .i64 0)) => ?_) ?_; rotate_left; (refine xb.cell ?_; (first | (focus (simp [go_sem]; done)) | (focus (simp [go_sem, *]; done)))))); (try (refine (fun (hb0f1 : wb.frozen? ⟨wr.heap.size, 1, none⟩ = false) => ?_) ?_; rotate_left; (refine xb.frozen (u := .int .i64 0) ?_ ?_; (first | (focus (simp [go_sem]; done)) | (focus (simp [go_sem, *]; done))); (first | (focus (simp [go_sem]; done)) | (focus (simp [go_sem, *]; done)))))); (try (have hb0l : wr.heap.size < wb.heap.size := World.block_lt_of_cell? _ _ hb00; have hb0l1 : wr.heap.size < wb.heap.size + 1 := Nat.lt_succ_of_lt hb0l; have hb0l2 : wr.heap.size < wb.heap.size + 1 + 1 := Nat.lt_succ_of_lt hb0l1)); (try (refine (fun (hb10 : wb.cell? ⟨wr.heap.size + 1, 0, none⟩ = some (.int .i64 0)) => ?_) ?_; rotate_left; (refine xb.cell ?_; (first | (focus (simp [go_sem]; done)) | (focus (simp [go_sem, *]; done)))))); (try (refine (fun (hb1f0 : wb.frozen? ⟨wr.heap.size + 1, 0, none⟩ = false) => ?_) ?_; rotate_left; (refine xb.frozen (u := .int .i64 0) ?_ ?_; (first | (focus (simp [go_sem]; done)) | (focus (simp [go_sem, *]; done))); (first | (focus (simp [go_sem]; done)) | (focus (simp [go_sem, *]; done)))))); (try (refine (fun (hb11 : wb.cell? ⟨wr.heap.size + 1, 1, none⟩ = some (.int .i64 0)) => ?_) ?_; rotate_left; (refine xb.cell ?_; (first | (focus (simp [go_sem]; done)) | (focus (simp [go_sem, *]; done)))))); (try (refine (fun (hb1f1 : wb.frozen? ⟨wr.heap.size + 1, 1, none⟩ = false) => ?_) ?_; rotate_left; (refine xb.frozen (u := .int .i64 0) ?_ ?_; (first | (focus (simp [go_sem]; done)) | (focus (simp [go_sem, *]; done))); (first | (focus (simp [go_sem]; done)) | (focus (simp [go_sem, *]; done)))))); (try (have hb1l : wr.heap.size + 1 < wb.heap.size := World.block_lt_of_cell? _ _ hb10; have hb1l1 : wr.heap.size + 1 < wb.heap.size + 1 := Nat.lt_succ_of_lt hb1l; have hb1l2 : wr.heap.size + 1 < wb.heap.size + 1 + 1 := Nat.lt_succ_of_lt hb1l1)); (try (refine (fun (hc00 : wb.cell? ⟨wa.heap.size, 0, none⟩ = some (.int .i64 0)) => ?_) ?_; rotate_left; (refine xb.cell ?_; (first | (focus (simp [go_sem]; done)) | (focus (simp [go_sem, *]; done)))))); (try (refine (fun (hc0f0 : wb.frozen? ⟨wa.heap.size, 0, none⟩ = false) => ?_) ?_; rotate_left; (refine xb.frozen (u := .int .i64 0) ?_ ?_; (first | (focus (simp [go_sem]; done)) | (focus (simp [go_sem, *]; done))); (first | (focus (simp [go_sem]; done)) | (focus (simp [go_sem, *]; done)))))); (try (refine (fun (hc01 : wb.cell? ⟨wa.heap.size, 1, none⟩ = some (.int .i64 0)) => ?_) ?_; rotate_left; (refine xb.cell ?_; (first | (focus (simp [go_sem]; done)) | (focus (simp [go_sem, *]; done)))))); (try (refine (fun (hc0f1 : wb.frozen? ⟨wa.heap.size, 1, none⟩ = false) => ?_) ?_; rotate_left; (refine xb.frozen (u := .int .i64 0) ?_ ?_; (first | (focus (simp [go_sem]; done)) | (focus (simp [go_sem, *]; done))); (first | (focus (simp [go_sem]; done)) | (focus (simp [go_sem, *]; done)))))); (try (have hc0l : wa.heap.size < wb.heap.size := World.block_lt_of_cell? _ _ hc00; have hc0l1 : wa.heap.size < wb.heap.size + 1 := Nat.lt_succ_of_lt hc0l; have hc0l2 : wa.heap.size < wb.heap.size + 1 + 1 := Nat.lt_succ_of_lt hc0l1)); (try (refine (fun (hc10 : wb.cell? ⟨wa.heap.size + 1, 0, none⟩ = some (.int .i64 0)) => ?_) ?_; rotate_left; (refine xb.cell ?_; (first | (focus (simp [go_sem]; done)) | (focus (simp [go_sem, *]; done)))))); (try (refine (fun (hc1f0 : wb.frozen? ⟨wa.heap.size + 1, 0, none⟩ = false) => ?_) ?_; rotate_left; (refine xb.frozen (u := .int .i64 0) ?_ ?_; (first | (focus (simp [go_sem]; done)) | (focus (simp [go_sem, *]; done))); (first | (focus (simp [go_sem]; done)) | (focus (simp [go_sem, *]; done)))))); (try (refine (fun (hc11 : wb.cell? ⟨wa.heap.size + 1, 1, none⟩ = some (.int .i64 0)) => ?_) ?_; rotate_left; (refine xb.cell ?_; (first | (focus (simp [go_sem]; done)) | (focus (simp [go_sem, *]; done)))))); (try (refine (fun (hc1f1 : wb.frozen? ⟨wa.heap.size + 1, 1, none⟩ = false) => ?_) ?_; rotate_left; (refine xb.frozen (u := .int .i64 0) ?_ ?_; (first | (focus (simp [go_sem]; done)) | (focus (simp [go_sem, *]; done))); (first | (focus (simp [go_sem]; done)) | (focus (simp [go_sem, *]; done)))))); (try (have hc1l : wa.heap.size + 1 < wb.heap.size := World.block_lt_of_cell? _ _ hc10; have hc1l1 : wa.heap.size + 1 < wb.heap.size + 1 := Nat.lt_succ_of_lt hc1l; have hc1l2 : wa.heap.size + 1 < wb.heap.size + 1 + 1 := Nat.lt_succ_of_lt hc1l1)))
            | (go_at_call 69; refine (HD1.out _ (Ext.trans XWr (by repeat (first | with_reducible exact Ext.refl _ | with_reducible exact Xb | with_reducible exact Xa | with_reducible exact X | with_reducible apply Ext.drew | with_reducible apply Ext.alloc | with_reducible (refine Ext.setCell ?_ (by first | (simp; done) | (simp; omega)) _))))).mono ?_; rintro e wa ⟨rfl, xa⟩; have Xa : Ext wr _ := Ext.trans (by repeat (first | with_reducible exact Ext.refl _ | with_reducible exact Xb | with_reducible exact Xa | with_reducible exact X | with_reducible apply Ext.drew | with_reducible apply Ext.alloc | with_reducible (refine Ext.setCell ?_ (by first | (simp; done) | (simp; omega)) _))) xa; have Za := Xa.size; (try (refine (fun (ha00 : wa.cell? ⟨wr.heap.size, 0, none⟩ = some (.int .i64 0)) => ?_) ?_; rotate_left; (refine xa.cell ?_; (first | (focus (simp [go_sem]; done)) | (focus (simp [go_sem, *]; done)))))); (try (refine (fun (ha0f0 : wa.frozen? ⟨wr.heap.size, 0, none⟩ = false) => ?_) ?_; rotate_left; (refine xa.frozen (u := .int .i64 0) ?_ ?_; (first | (focus (simp [go_sem]; done)) | (focus (simp [go_sem, *]; done))); (first | (focus (simp [go_sem]; done)) | (focus (simp [go_sem, *]; done)))))); (try (refine (fun (ha01 : wa.cell? ⟨wr.heap.size, 1, none⟩ = some (.int .i64 0)) => ?_) ?_; rotate_left; (refine xa.cell ?_; (first | (focus (simp [go_sem]; done)) | (focus (simp [go_sem, *]; done)))))); (try (refine (fun (ha0f1 : wa.frozen? ⟨wr.heap.size, 1, none⟩ = false) => ?_) ?_; rotate_left; (refine xa.frozen (u := .int .i64 0) ?_ ?_; (first | (focus (simp [go_sem]; done)) | (focus (simp [go_sem, *]; done))); (first | (focus (simp [go_sem]; done)) | (focus (simp [go_sem, *]; done)))))); (try (have ha0l : wr.heap.size < wa.heap.size := World.block_lt_of_cell? _ _ ha00; have ha0l1 : wr.heap.size < wa.heap.size + 1 := Nat.lt_succ_of_lt ha0l; have ha0l2 : wr.heap.size < wa.heap.size + 1 + 1 := Nat.lt_succ_of_lt ha0l1)); (try (refine (fun (ha10 : wa.cell? ⟨wr.heap.size + 1, 0, none⟩ = some (.int .i64 0)) => ?_) ?_; rotate_left; (refine xa.cell ?_; (first | (focus (simp [go_sem]; done)) | (focus (simp [go_sem, *]; done)))))); (try (refine (fun (ha1f0 : wa.frozen? ⟨wr.heap.size + 1, 0, none⟩ = false) => ?_) ?_; rotate_left; (refine xa.frozen (u := .int .i64 0) ?_ ?_; (first | (focus (simp [go_sem]; done)) | (focus (simp [go_sem, *]; done))); (first | (focus (simp [go_sem]; done)) | (focus (simp [go_sem, *]; done)))))); (try (refine (fun (ha11 : wa.cell? ⟨wr.heap.size + 1, 1, none⟩ = some (.int .i64 0)) => ?_) ?_; rotate_left; (refine xa.cell ?_; (first | (focus (simp [go_sem]; done)) | (focus (simp [go_sem, *]; done)))))); (try (refine (fun (ha1f1 : wa.frozen? ⟨wr.heap.size + 1, 1, none⟩ = false) => ?_) ?_; rotate_left; (refine xa.frozen (u := .int .i64 0) ?_ ?_; (first | (focus (simp [go_sem]; done)) | (focus (simp [go_sem, *]; done))); (first | (focus (simp [go_sem]; done)) | (focus (simp [go_sem, *]; done)))))); (try (have ha1l : wr.heap.size + 1 < wa.heap.size := World.block_lt_of_cell? _ _ ha10; have ha1l1 : wr.heap.size + 1 < wa.heap.size + 1 := Nat.lt_succ_of_lt ha1l; have ha1l2 : wr.heap.size + 1 < wa.heap.size + 1 + 1 := Nat.lt_succ_of_lt ha1l1))))
          all_goals
            go_wp2_with fail
            go_meet
            refine ⟨⟨_, rfl, ?_, ?_⟩, ⟨_, rfl, ?_, ?_⟩, Ext.trans X ?_, ?_⟩
            all_goals first | (focus ((repeat (first | with_reducible exact Ext.refl _ | with_reducible exact Xb | with_reducible exact Xa | with_reducible exact X | with_reducible apply Ext.drew | with_reducible apply Ext.alloc | with_reducible (refine Ext.setCell ?_ (by first | (simp; done) | (simp; omega)) _))); done)) | (focus (simp [go_sem]; done)) | (focus (simp [go_sem, *]; done))
        case rest =>
        obtain ⟨⟨g8, rfl, a0, a1⟩, ⟨g9, rfl, b0, b1⟩, X4, XR4⟩ := hcut
        have q04 := XR4.cell q0
        have q14 := XR4.cell q1
        clear nu0 nu1 nv0 nv1 c0 q0 q1
        obtain ⟨e1, e2, e3, e4, e5⟩ := HCBy.out
        have e6 := HM0.out
        have e7 := HM1.out
        have hcr : crsD P L y = P (orgN L y) 0 * P (endN L y) 1 - P (orgN L y) 1 * P (endN L y) 0 := rfl
        have hd0 : momD P L 0 y = (P (orgN L y) 0 + P (endN L y) 0) * crsD P L y := rfl
        have hd1 : momD P L 1 y = (P (orgN L y) 1 + P (endN L y) 1) * crsD P L y := rfl
        generalize P (orgN L y) 0 = p0 at *
        generalize P (orgN L y) 1 = p1 at *
        generalize P (endN L y) 0 = z0 at *
        generalize P (endN L y) 1 = z1 at *
        generalize hm1 : p0 * z1 = y1 at *
        generalize hm2 : p1 * z0 = y2 at *
        generalize crsD P L y = cr at *
        have w1_ : IntKind.i64.wrap (y1 - y2) = cr := by rw [IntKind.wrap_i64]; omega
        have w2_ : IntKind.i64.wrap (p0 + z0) = p0 + z0 := by rw [IntKind.wrap_i64]; omega
        have w3_ : IntKind.i64.wrap (p1 + z1) = p1 + z1 := by rw [IntKind.wrap_i64]; omega
        have HS2 : Hid (momL P L 0 l (t + 1) = momL P L 0 l t + momD P L 0 y) := HS0
        have HS3 : Hid (momL P L 1 l (t + 1) = momL P L 1 l t + momD P L 1 y) := HS1
        generalize momD P L 0 y = d0 at *
        generalize momD P L 1 y = d1 at *
        generalize momL P L 0 l t = S0 at *
        generalize momL P L 1 l t = S1 at *
        have hd0' := hd0.symm
        have hd1' := hd1.symm
        clear hd0 hd1 hcr
        go_wp2
        go_roundw
        case rel => exact ⟨t + 1, by omega, by rw [HS2.out]; go_num, by rw [HS3.out]; go_num, by go_num, X4, q04, q14, XROW.trans XR4⟩
        case measure => simp [intOf]; omega
      · obtain rfl : t = l.length := by omega
        go_wp2_with fail
        refine (HTotalArea.out _ XWr).mono ?_
        rintro e w9 ⟨rfl, x9⟩
        go_wp2
        go_ret3
        refine ⟨?_, XWr.trans x9⟩
        rw [HR.out]; rfl

end Go.Proofs.Ytgmhmlhdiklaaaa

/- MidS -/
namespace Go.Proofs.Ytgmhmlhdiklaaaa
open Go.RowKit Ring
set_option linter.unusedVariables false

attribute [local go_sem ↓] Go.wp_at_zero Go.wp_at_succ
attribute [local go_sem, local simp] Go.World.cell?_alloc_some Go.World.frozen?_alloc_past
end Go.Proofs.Ytgmhmlhdiklaaaa

/- HingeV -/
namespace Go.Proofs.Ytgmhmlhdiklaaaa
open Go.RowKit Ring
set_option linter.unusedVariables false

def forceP (g x d sd ap : Int) : Int × Int := if (decide (0 ≤ g) && decide (d ≠ 0) && inB sd 0 20 && inB ap 1 40) = true then (g * absI (x - sd * d), d * ap) else (0, 0)
def forceV (n : Nat) (P : Nat → Nat → Int) (m : Nat) (L : Nat → Nat → Int) (t sd ap : Int) : Int × Int := forceP (glassV n P m L t) (midV n P m L).1 (midV n P m L).2.2 sd ap
def tup2 (v : Int × Int) : Value := .tuple #[.int .i64 v.1, .int .i64 v.2]
theorem tup2_form (v : Int × Int) : ∃ a b : Int, tup2 v = .tuple #[.int .i64 a, .int .i64 b] := ⟨_, _, rfl⟩
def holdB (v : Int × Int) (l : Int) : Bool := decide (0 < v.2) && inB l 0 1000000 && decide (v.1 ≤ l * v.2)
theorem mul_bd {a b A B : Int} (h1 : 0 ≤ a) (h2 : a ≤ A) (h3 : 0 ≤ b) (h4 : b ≤ B) : 0 ≤ a * b ∧ a * b ≤ A * B := by
  have h5 := Int.mul_nonneg h1 h3
  have h6 : a * b ≤ A * B := Int.mul_le_mul h2 h4 h3 (by omega)
  omega
theorem absI_rng {x M : Int} (h1 : -M ≤ x) (h2 : x ≤ M) : 0 ≤ absI x ∧ absI x ≤ M := by unfold absI; omega
theorem forceP_rng {g x d sd ap : Int} (hg : g ≤ 320000) (hx : -640000 ≤ x ∧ x ≤ 640000) (hd : 0 ≤ d ∧ d ≤ 48000) : (0 ≤ (forceP g x d sd ap).1 ∧ (forceP g x d sd ap).1 ≤ 512000000000) ∧ (0 ≤ (forceP g x d sd ap).2 ∧ (forceP g x d sd ap).2 ≤ 1920000) := by
  unfold forceP
  split
  · rename_i h
    rw [Bool.and_eq_true, Bool.and_eq_true, Bool.and_eq_true] at h
    have h1 : 0 ≤ g := by simpa using h.1.1.1
    have h2 := inB_of h.1.2
    have h3 := inB_of h.2
    have m1 := mul_bd (a := sd) (b := d) (A := 20) (B := 48000) (by omega) (by omega) (by omega) (by omega)
    have m2 := absI_rng (x := x - sd * d) (M := 1600000) (by omega) (by omega)
    have m3 := mul_bd (a := g) (b := absI (x - sd * d)) (A := 320000) (B := 1600000) (by omega) (by omega) (by omega) (by omega)
    have m4 := mul_bd (a := d) (b := ap) (A := 48000) (B := 40) (by omega) (by omega) (by omega) (by omega)
    show (0 ≤ g * absI (x - sd * d) ∧ g * absI (x - sd * d) ≤ 512000000000) ∧ (0 ≤ d * ap ∧ d * ap ≤ 1920000)
    omega
  · simp
theorem forceP_no {g x d sd ap : Int} (h : (decide (0 ≤ g) && decide (d ≠ 0) && inB sd 0 20 && inB ap 1 40) = false) : forceP g x d sd ap = (0, 0) := if_neg (by rw [h]; simp)
theorem forceP_yes {g x d sd ap : Int} (h : (decide (0 ≤ g) && decide (d ≠ 0) && inB sd 0 20 && inB ap 1 40) = true) : forceP g x d sd ap = (g * absI (x - sd * d), d * ap) := if_pos h
theorem ret_2 {v : Int × Int} {a b : Int} (h : v = (a, b)) : Ending.returned (.tuple #[.int .i64 a, .int .i64 b]) = .returned (tup2 v) := by rw [h]; rfl

end Go.Proofs.Ytgmhmlhdiklaaaa

/- HingeI -/
namespace Go.Proofs.Ytgmhmlhdiklaaaa
open Go.RowKit Ring
set_option linter.unusedVariables false

set_option maxRecDepth 100000 in
set_option maxHeartbeats 8000000 in
theorem impl_HingeForce (A : Option Addr) (n c : Nat) (P : Nat → Nat → Int) (B : Option Addr) (m d : Nat) (L : Nat → Nat → Int) (hnc : n ≤ c) (hcm : c ≤ 9223372036854775807) (hmd : m ≤ d) (hdm : d ≤ 9223372036854775807) (t sd ap : Int) (ht : (-9223372036854775808 ≤ t ∧ t ≤ 9223372036854775807)) (hsd : (-9223372036854775808 ≤ sd ∧ sd ≤ 9223372036854775807)) (hap : (-9223372036854775808 ≤ ap ∧ ap ≤ 9223372036854775807)) (w : World) (hr : Recs w 2 A n P) (hs : Recs w 2 B m L) :
    Calls Try.prog 39 #[.agg #[.slice A n c, .slice B m d], .int .i64 t, .int .i64 sd, .int .i64 ap] w fun e w' => e = .returned (tup2 (forceV n P m L t sd ap)) ∧ Ext w w' := by
  have q0 : (w.alloc (.cells #[.slice A n c, .slice B m d] 27)).cell? ⟨w.heap.size, 0, none⟩ = some (.slice A n c) := by simp [go_sem]
  have q1 : (w.alloc (.cells #[.slice A n c, .slice B m d] 27)).cell? ⟨w.heap.size, 1, none⟩ = some (.slice B m d) := by simp [go_sem]
  have HGlassWeight : Hid (∀ W, Ext w W → Calls Try.prog 37 #[.agg #[.slice A n c, .slice B m d], .int .i64 t] W fun e w' => e = .returned (.int .i64 (glassV n P m L t)) ∧ Ext W w') := Lib.hid (fun W Z => impl_GlassWeight A n c P B m d L hnc hcm hmd hdm t ht W (hr.ext Z) (hs.ext Z))
  have HMiddleOf : Hid (∀ W, Ext w W → Calls Try.prog 33 #[.agg #[.slice A n c, .slice B m d]] W fun e w' => e = .returned (tup3 (midV n P m L)) ∧ Ext W w') := Lib.hid (fun W Z => impl_MiddleOf A n c P B m d L hnc hcm hmd hdm W (hr.ext Z) (hs.ext Z))
  have HI1 := Lib.hid (fun W => within_any sd 0 20 W)
  have HI2 := Lib.hid (fun W => within_any ap 1 40 W)
  have hg := glassV_rng (n := n) (m := m) (P := P) (L := L) t
  have hmr := midV_rng (n := n) (m := m) (P := P) (L := L)
  have HV := Lib.hid (show forceV n P m L t sd ap = forceP (glassV n P m L t) (midV n P m L).1 (midV n P m L).2.2 sd ap from rfl)
  generalize glassV n P m L t = g at *
  generalize midV n P m L = mv at *
  obtain ⟨x, y, d'⟩ := mv
  have HM : Hid (∀ W, Ext w W → Calls Try.prog 33 #[.agg #[.slice A n c, .slice B m d]] W fun e w' => e = .returned (.tuple #[.int .i64 x, .int .i64 y, .int .i64 d']) ∧ Ext W w') := Lib.hid HMiddleOf.out
  have HV2 : Hid (forceV n P m L t sd ap = forceP g x d' sd ap) := Lib.hid HV.out
  have hmr2 : (-640000 ≤ x ∧ x ≤ 640000) ∧ (0 ≤ d' ∧ d' ≤ 48000) := hmr
  clear hmr HV HMiddleOf
  by_cases hg0 : g < 0
  · have hg1 : ¬ 0 ≤ g := by omega
    have HR := Lib.hid (HV2.out.trans (forceP_no (by rw [decide_eq_false hg1]; rfl)))
    go_enter Try.func39, Try.ntmps39
    go_wp2_with fail
    refine (HGlassWeight.out _ (by repeat (first | exact Ext.refl _ | apply Ext.alloc))).mono ?_
    rintro e w1 ⟨rfl, x1⟩
    replace q0 := x1.cell q0
    replace q1 := x1.cell q1
    have X1 : Ext w w1 := Ext.trans (by repeat (first | exact Ext.refl _ | apply Ext.alloc)) x1
    go_wp2_with fail
    refine (HM.out _ X1).mono ?_
    rintro e w2 ⟨rfl, x2⟩
    replace q0 := x2.cell q0
    replace q1 := x2.cell q1
    have X2 : Ext w w2 := Ext.trans X1 x2
    go_wp2
    go_ret2
    refine ⟨?_, X2⟩
    exact ret_2 HR.out
  · have hg1 : 0 ≤ g := by omega
    by_cases hd0 : d' = 0
    · subst hd0
      have HR := Lib.hid (HV2.out.trans (forceP_no (by simp)))
      go_enter Try.func39, Try.ntmps39
      go_wp2_with fail
      refine (HGlassWeight.out _ (by repeat (first | exact Ext.refl _ | apply Ext.alloc))).mono ?_
      rintro e w1 ⟨rfl, x1⟩
      replace q0 := x1.cell q0
      replace q1 := x1.cell q1
      have X1 : Ext w w1 := Ext.trans (by repeat (first | exact Ext.refl _ | apply Ext.alloc)) x1
      go_wp2_with fail
      refine (HM.out _ X1).mono ?_
      rintro e w2 ⟨rfl, x2⟩
      replace q0 := x2.cell q0
      replace q1 := x2.cell q1
      have X2 : Ext w w2 := Ext.trans X1 x2
      go_wp2
      go_ret2
      refine ⟨?_, X2⟩
      exact ret_2 HR.out
    · have hd1 : (d' == 0) = false := beq_eq_false_iff_ne.2 hd0
      cases h1 : inB sd 0 20
      · rw [h1] at HI1
        have HR := Lib.hid (HV2.out.trans (forceP_no (by rw [h1]; simp)))
        go_enter Try.func39, Try.ntmps39
        go_wp2_with fail
        refine (HGlassWeight.out _ (by repeat (first | exact Ext.refl _ | apply Ext.alloc))).mono ?_
        rintro e w1 ⟨rfl, x1⟩
        replace q0 := x1.cell q0
        replace q1 := x1.cell q1
        have X1 : Ext w w1 := Ext.trans (by repeat (first | exact Ext.refl _ | apply Ext.alloc)) x1
        go_wp2_with fail
        refine (HM.out _ X1).mono ?_
        rintro e w2 ⟨rfl, x2⟩
        replace q0 := x2.cell q0
        replace q1 := x2.cell q1
        have X2 : Ext w w2 := Ext.trans X1 x2
        go_wp2_with fail
        refine (HI1.out _).mono ?_
        rintro e w3 ⟨rfl, x3⟩
        replace q0 := x3.cell q0
        replace q1 := x3.cell q1
        have X3 : Ext w w3 := Ext.trans X2 x3
        go_wp2
        go_ret2
        refine ⟨?_, X3⟩
        exact ret_2 HR.out
      · rw [h1] at HI1
        cases h2 : inB ap 1 40
        · rw [h2] at HI2
          have HR := Lib.hid (HV2.out.trans (forceP_no (by rw [h2]; simp)))
          go_enter Try.func39, Try.ntmps39
          go_wp2_with fail
          refine (HGlassWeight.out _ (by repeat (first | exact Ext.refl _ | apply Ext.alloc))).mono ?_
          rintro e w1 ⟨rfl, x1⟩
          replace q0 := x1.cell q0
          replace q1 := x1.cell q1
          have X1 : Ext w w1 := Ext.trans (by repeat (first | exact Ext.refl _ | apply Ext.alloc)) x1
          go_wp2_with fail
          refine (HM.out _ X1).mono ?_
          rintro e w2 ⟨rfl, x2⟩
          replace q0 := x2.cell q0
          replace q1 := x2.cell q1
          have X2 : Ext w w2 := Ext.trans X1 x2
          go_wp2_with fail
          refine (HI1.out _).mono ?_
          rintro e w3 ⟨rfl, x3⟩
          replace q0 := x3.cell q0
          replace q1 := x3.cell q1
          have X3 : Ext w w3 := Ext.trans X2 x3
          go_wp2_with fail
          refine (HI2.out _).mono ?_
          rintro e w4 ⟨rfl, x4⟩
          replace q0 := x4.cell q0
          replace q1 := x4.cell q1
          have X4 : Ext w w4 := Ext.trans X3 x4
          go_wp2
          go_ret2
          refine ⟨?_, X4⟩
          exact ret_2 HR.out
        · rw [h2] at HI2
          have b1 := inB_of h1
          have b2 := inB_of h2
          have HR3 := HV2.out.trans (forceP_yes (x := x) (g := g) (by rw [h1, h2, decide_eq_true hg1, decide_eq_true (show d' ≠ 0 from hd0)]; rfl))
          have m1 := mul_bd (a := sd) (b := d') (A := 20) (B := 48000) (by omega) (by omega) (by omega) (by omega)
          have m4 := mul_bd (a := d') (b := ap) (A := 48000) (B := 40) (by omega) (by omega) (by omega) (by omega)
          clear h1 h2 HV2
          generalize hz2 : sd * d' = z2 at *
          generalize hz3 : d' * ap = z3 at *
          have HSZ0 := fun W => size_any (x - z2) (by omega) W
          have hMw : IntKind.i64.wrap (x - z2) = x - z2 := by rw [IntKind.wrap_i64]; omega
          generalize hM : x - z2 = M at *
          by_cases hneg : 0 ≤ M
          · have eA : absI M = M := by unfold absI; omega
            rw [eA] at HR3
            rw [eA] at HSZ0
            have m3 := mul_bd (a := g) (b := M) (A := 320000) (B := 1600000) (by omega) (by omega) (by omega) (by omega)
            have HR := Lib.hid HR3
            have HSZ := Lib.hid HSZ0
            clear HR3 eA HSZ0
            generalize hz1 : g * M = z1 at *
            go_enter Try.func39, Try.ntmps39
            go_wp2_with fail
            refine (HGlassWeight.out _ (by repeat (first | exact Ext.refl _ | apply Ext.alloc))).mono ?_
            rintro e w1 ⟨rfl, x1⟩
            replace q0 := x1.cell q0
            replace q1 := x1.cell q1
            have X1 : Ext w w1 := Ext.trans (by repeat (first | exact Ext.refl _ | apply Ext.alloc)) x1
            go_wp2_with fail
            refine (HM.out _ X1).mono ?_
            rintro e w2 ⟨rfl, x2⟩
            replace q0 := x2.cell q0
            replace q1 := x2.cell q1
            have X2 : Ext w w2 := Ext.trans X1 x2
            go_wp2_with fail
            refine (HI1.out _).mono ?_
            rintro e w3 ⟨rfl, x3⟩
            replace q0 := x3.cell q0
            replace q1 := x3.cell q1
            have X3 : Ext w w3 := Ext.trans X2 x3
            go_wp2_with fail
            refine (HI2.out _).mono ?_
            rintro e w4 ⟨rfl, x4⟩
            replace q0 := x4.cell q0
            replace q1 := x4.cell q1
            have X4 : Ext w w4 := Ext.trans X3 x4
            go_wp2_with fail
            refine (HSZ.out _).mono ?_
            rintro e w5 ⟨rfl, x5⟩
            replace q0 := x5.cell q0
            replace q1 := x5.cell q1
            have X5 : Ext w w5 := Ext.trans X4 x5
            go_wp2
            go_ret2
            exact ⟨ret_2 HR.out, X5⟩
          · have eA : absI M = (-M) := by unfold absI; omega
            rw [eA] at HR3
            rw [eA] at HSZ0
            have m3 := mul_bd (a := g) (b := (-M)) (A := 320000) (B := 1600000) (by omega) (by omega) (by omega) (by omega)
            have HR := Lib.hid HR3
            have HSZ := Lib.hid HSZ0
            clear HR3 eA HSZ0
            generalize hz1 : g * (-M) = z1 at *
            go_enter Try.func39, Try.ntmps39
            go_wp2_with fail
            refine (HGlassWeight.out _ (by repeat (first | exact Ext.refl _ | apply Ext.alloc))).mono ?_
            rintro e w1 ⟨rfl, x1⟩
            replace q0 := x1.cell q0
            replace q1 := x1.cell q1
            have X1 : Ext w w1 := Ext.trans (by repeat (first | exact Ext.refl _ | apply Ext.alloc)) x1
            go_wp2_with fail
            refine (HM.out _ X1).mono ?_
            rintro e w2 ⟨rfl, x2⟩
            replace q0 := x2.cell q0
            replace q1 := x2.cell q1
            have X2 : Ext w w2 := Ext.trans X1 x2
            go_wp2_with fail
            refine (HI1.out _).mono ?_
            rintro e w3 ⟨rfl, x3⟩
            replace q0 := x3.cell q0
            replace q1 := x3.cell q1
            have X3 : Ext w w3 := Ext.trans X2 x3
            go_wp2_with fail
            refine (HI2.out _).mono ?_
            rintro e w4 ⟨rfl, x4⟩
            replace q0 := x4.cell q0
            replace q1 := x4.cell q1
            have X4 : Ext w w4 := Ext.trans X3 x4
            go_wp2_with fail
            refine (HSZ.out _).mono ?_
            rintro e w5 ⟨rfl, x5⟩
            replace q0 := x5.cell q0
            replace q1 := x5.cell q1
            have X5 : Ext w w5 := Ext.trans X4 x5
            go_wp2
            go_ret2
            exact ⟨ret_2 HR.out, X5⟩

set_option maxRecDepth 100000 in
set_option maxHeartbeats 8000000 in
theorem impl_HingeHolds (A : Option Addr) (n c : Nat) (P : Nat → Nat → Int) (B : Option Addr) (m d : Nat) (L : Nat → Nat → Int) (hnc : n ≤ c) (hcm : c ≤ 9223372036854775807) (hmd : m ≤ d) (hdm : d ≤ 9223372036854775807) (t sd ap l : Int) (ht : (-9223372036854775808 ≤ t ∧ t ≤ 9223372036854775807)) (hsd : (-9223372036854775808 ≤ sd ∧ sd ≤ 9223372036854775807)) (hap : (-9223372036854775808 ≤ ap ∧ ap ≤ 9223372036854775807)) (hl : (-9223372036854775808 ≤ l ∧ l ≤ 9223372036854775807)) (w : World) (hr : Recs w 2 A n P) (hs : Recs w 2 B m L) :
    Calls Try.prog 40 #[.agg #[.slice A n c, .slice B m d], .int .i64 t, .int .i64 sd, .int .i64 ap, .int .i64 l] w fun e w' => e = .returned (.bool (holdB (forceV n P m L t sd ap) l)) ∧ Ext w w' := by
  have q0 : (w.alloc (.cells #[.slice A n c, .slice B m d] 27)).cell? ⟨w.heap.size, 0, none⟩ = some (.slice A n c) := by simp [go_sem]
  have q1 : (w.alloc (.cells #[.slice A n c, .slice B m d] 27)).cell? ⟨w.heap.size, 1, none⟩ = some (.slice B m d) := by simp [go_sem]
  have HHingeForce : Hid (∀ W, Ext w W → Calls Try.prog 39 #[.agg #[.slice A n c, .slice B m d], .int .i64 t, .int .i64 sd, .int .i64 ap] W fun e w' => e = .returned (tup2 (forceV n P m L t sd ap)) ∧ Ext W w') := Lib.hid (fun W Z => impl_HingeForce A n c P B m d L hnc hcm hmd hdm t sd ap ht hsd hap W (hr.ext Z) (hs.ext Z))
  have HI1 := Lib.hid (fun W => within_any l 0 1000000 W)
  have hg := glassV_rng (n := n) (m := m) (P := P) (L := L) t
  have hmr := midV_rng (n := n) (m := m) (P := P) (L := L)
  have hfr : (0 ≤ (forceV n P m L t sd ap).1 ∧ (forceV n P m L t sd ap).1 ≤ 512000000000) ∧ (0 ≤ (forceV n P m L t sd ap).2 ∧ (forceV n P m L t sd ap).2 ≤ 1920000) := forceP_rng hg.2 hmr.1 hmr.2
  clear hg hmr
  generalize forceV n P m L t sd ap = v at *
  obtain ⟨x, d'⟩ := v
  have HF : Hid (∀ W, Ext w W → Calls Try.prog 39 #[.agg #[.slice A n c, .slice B m d], .int .i64 t, .int .i64 sd, .int .i64 ap] W fun e w' => e = .returned (.tuple #[.int .i64 x, .int .i64 d']) ∧ Ext W w') := Lib.hid HHingeForce.out
  have hfr2 : (0 ≤ x ∧ x ≤ 512000000000) ∧ (0 ≤ d' ∧ d' ≤ 1920000) := hfr
  have HV : Hid (holdB (x, d') l = (decide (0 < d') && inB l 0 1000000 && decide (x ≤ l * d'))) := Lib.hid rfl
  clear hfr HHingeForce
  by_cases hd0 : d' = 0
  · subst hd0
    have HR := Lib.hid (show holdB (x, 0) l = false by rw [HV.out]; simp)
    go_enter Try.func40, Try.ntmps40
    go_wp2_with fail
    refine (HF.out _ (by repeat (first | exact Ext.refl _ | apply Ext.alloc))).mono ?_
    rintro e w1 ⟨rfl, x1⟩
    replace q0 := x1.cell q0
    replace q1 := x1.cell q1
    have X1 : Ext w w1 := Ext.trans (by repeat (first | exact Ext.refl _ | apply Ext.alloc)) x1
    go_wp2
    go_ret
    exact ⟨ret_b HR.out.symm, X1⟩
  · have hd1 : (d' == 0) = false := beq_eq_false_iff_ne.2 hd0
    have hd2 : (d' != 0) = true := by simp [hd0]
    have hd3 : 0 < d' := by omega
    cases h1 : inB l 0 1000000
    · rw [h1] at HI1
      have HR := Lib.hid (show holdB (x, d') l = false by rw [HV.out, h1]; simp)
      clear h1
      go_enter Try.func40, Try.ntmps40
      go_wp2_with fail
      refine (HF.out _ (by repeat (first | exact Ext.refl _ | apply Ext.alloc))).mono ?_
      rintro e w1 ⟨rfl, x1⟩
      replace q0 := x1.cell q0
      replace q1 := x1.cell q1
      have X1 : Ext w w1 := Ext.trans (by repeat (first | exact Ext.refl _ | apply Ext.alloc)) x1
      go_wp2_with fail
      refine (HI1.out _).mono ?_
      rintro e w2 ⟨rfl, x2⟩
      replace q0 := x2.cell q0
      replace q1 := x2.cell q1
      have X2 : Ext w w2 := Ext.trans X1 x2
      go_wp2
      go_ret
      exact ⟨ret_b HR.out.symm, X2⟩
    · rw [h1] at HI1
      have b1 := inB_of h1
      have m1 := mul_bd (a := l) (b := d') (A := 1000000) (B := 1920000) (by omega) (by omega) (by omega) (by omega)
      have HR := Lib.hid (show holdB (x, d') l = decide (x ≤ l * d') by rw [HV.out, h1, decide_eq_true hd3]; rfl)
      clear h1
      generalize hz : l * d' = z at *
      go_enter Try.func40, Try.ntmps40
      go_wp2_with fail
      refine (HF.out _ (by repeat (first | exact Ext.refl _ | apply Ext.alloc))).mono ?_
      rintro e w1 ⟨rfl, x1⟩
      replace q0 := x1.cell q0
      replace q1 := x1.cell q1
      have X1 : Ext w w1 := Ext.trans (by repeat (first | exact Ext.refl _ | apply Ext.alloc)) x1
      go_wp2_with fail
      refine (HI1.out _).mono ?_
      rintro e w2 ⟨rfl, x2⟩
      replace q0 := x2.cell q0
      replace q1 := x2.cell q1
      have X2 : Ext w w2 := Ext.trans X1 x2
      go_wp2
      go_ret
      exact ⟨ret_b HR.out.symm, X2⟩

end Go.Proofs.Ytgmhmlhdiklaaaa

/- HingeS -/
namespace Go.Proofs.Ytgmhmlhdiklaaaa
open Go.RowKit Ring
set_option linter.unusedVariables false
end Go.Proofs.Ytgmhmlhdiklaaaa
