/-
  The reference drops a lead. No conditions.
-/
import Derived.Deep.DeepCutAuto
import Derived.Deep.CutRange
import Derived.Deep.DrawnRows
import Derived.RowKit3
import Derived.Laws.OwnMore
import Derived.Laws.Closers25b
import Derived.Maps.AppendAt
import Derived.Laws.AppendOwnNone
import Derived.Deep.RegionLaw
import Derived.Deep.RegionHeld3
import Derived.Test.YtgmhmlhdiklaaaaGreatDoorWdC
import Derived.Test.YtgmhmlhdiklaaaaGreatDoorWinUse
namespace Go.Proofs.YtgmhmlhdiklaaaaGreatDoor
open Go.RowKit
set_option linter.unusedVariables false
set_option linter.unusedSimpArgs false

theorem winB_sub {n m m' : Nat} {P L : Nat → Nat → Int} (h : winB n P m L = true) (σ : Nat → Nat) (hm : m' ≤ m) (hs : ∀ k, k < m' → σ k < m) (hi : ∀ k, k < m' → ∀ i, i < k → σ i < σ k) : winB n P m' (fun k j => L (σ k) j) = true := by
  unfold winB at h ⊢
  rw [Bool.and_eq_true, Bool.and_eq_true] at h ⊢
  obtain ⟨⟨h1, h2⟩, h3⟩ := h
  refine ⟨⟨?_, h2⟩, allB_yes fun k hk => ?_⟩
  · unfold sizeB at h1 ⊢
    rw [Bool.and_eq_true] at h1 ⊢
    refine ⟨h1.1, ?_⟩
    have := h1.2
    simp at this ⊢
    omega
  · have hl := allB_get h3 (hs k hk)
    unfold leadAt at hl ⊢
    rw [Bool.and_eq_true, Bool.and_eq_true] at hl ⊢
    refine ⟨⟨hl.1.1, allB_yes fun i hik => ?_⟩, hl.2⟩
    exact allB_get hl.1.2 (hi k hk i hik)
theorem winB_congrL {n m : Nat} {P L L' : Nat → Nat → Int} (h : ∀ k, k < m → ∀ j, j < 2 → L k j = L' k j) : winB n P m L = winB n P m L' := by
  unfold winB
  congr 1
  have hk2 : ∀ k, k < m → leadAt n P L k = leadAt n P L' k := by
    intro k hk
    have e0 := h k hk 0 (by omega)
    have e1 := h k hk 1 (by omega)
    have ef : ∀ i, i < m → fromN L i = fromN L' i := fun i hi => by unfold fromN; rw [h i hi 0 (by omega)]
    have et : ∀ i, i < m → toN L i = toN L' i := fun i hi => by unfold toN; rw [h i hi 1 (by omega)]
    have hc : ∀ a b : Bool, (a = true ↔ b = true) → a = b := by decide
    refine hc _ _ ?_
    constructor <;> intro q <;> unfold leadAt at q ⊢ <;> rw [Bool.and_eq_true, Bool.and_eq_true] at q ⊢
    · refine ⟨⟨by rw [← e0, ← e1]; exact q.1.1, allB_yes fun i hi => ?_⟩, allB_yes fun v hv => ?_⟩
      · have := allB_get q.1.2 hi
        unfold crossAt at this ⊢
        rwa [ef k hk, et k hk, ef i (by omega), et i (by omega)] at this
      · have := allB_get q.2 hv
        unfold onAt at this ⊢
        rwa [ef k hk, et k hk] at this
    · refine ⟨⟨by rw [e0, e1]; exact q.1.1, allB_yes fun i hi => ?_⟩, allB_yes fun v hv => ?_⟩
      · have := allB_get q.1.2 hi
        unfold crossAt at this ⊢
        rwa [← ef k hk, ← et k hk, ← ef i (by omega), ← et i (by omega)] at this
      · have := allB_get q.2 hv
        unfold onAt at this ⊢
        rwa [← ef k hk, ← et k hk] at this
  have hc : ∀ a b : Bool, (a = true ↔ b = true) → a = b := by decide
  refine hc _ _ ⟨fun q => allB_yes fun k hk => ?_, fun q => allB_yes fun k hk => ?_⟩
  · rw [← hk2 k hk]; exact allB_get q hk
  · rw [hk2 k hk]; exact allB_get q hk
theorem suf_recs2 {w : World} {g n c k : Nat} {zs : List Int} (h : Recs w 2 (some ⟨g, 0, none⟩) n (FW zs)) {A : Addr} (hA : (if c = k then some (⟨g, 0, none⟩ : Addr) else some ⟨g, k * 2, none⟩) = some A) (hc : n ≤ c ∧ k ≤ n) : Recs w 2 (some A) (n - k) (fun j i => FW zs (k + j) i) := by
  refine ⟨fun hn => ?_, fun j i => h.2 _ i⟩
  rw [if_neg (by omega)] at hA
  injection hA with e
  subst e
  obtain ⟨b, o, e1, hb, hcell⟩ := h.1 (by omega)
  injection e1 with e1
  injection e1 with e1 e2
  subst e1 e2
  refine ⟨_, k * 2, rfl, hb, fun j hj i hi => ?_⟩
  have := hcell (k + j) (by omega) i hi
  rw [show 0 + (k + j) * 2 + i = k * 2 + j * 2 + i by omega] at this
  exact this
theorem flat_parts {ys : List Int} {m j : Nat} (hl : ys.length = m * 2) (hj : j < m) : flat 2 j (FW ys) ++ flat 2 (m - (j + 1)) (fun k i => FW ys (j + 1 + k) i) = ys.take (j * 2) ++ ys.drop ((j + 1) * 2) := by
  congr 1
  · apply ext_ix (by rw [flat_len, List.length_take]; omega)
    intro i hi
    rw [flat_len] at hi
    have e : i = i / 2 * 2 + i % 2 := by omega
    rw [e, flat_ix (by omega) (by omega), ← e]
    show ix ys (i / 2 * 2 + i % 2) = _
    rw [← e, ix_get (by omega), ix_get (by rw [List.length_take]; omega)]
    simp
  · apply ext_ix (by rw [flat_len, List.length_drop]; omega)
    intro i hi
    rw [flat_len] at hi
    have e : i = i / 2 * 2 + i % 2 := by omega
    rw [e, flat_ix (by omega) (by omega), ← e]
    show ix ys ((j + 1 + i / 2) * 2 + i % 2) = _
    rw [show (j + 1 + i / 2) * 2 + i % 2 = (j + 1) * 2 + i by omega, ix_get (by omega), ix_get (by rw [List.length_drop]; omega)]
    simp
/-- A lead dropped: the window stays valid. -/
theorem winB_drop {n m : Nat} {P : Nat → Nat → Int} {ys : List Int} (hl : ys.length = m * 2) (h : winB n P m (FW ys) = true) {j : Nat} (hj : j < m) :
    winB n P (m - 1) (FW (ys.take (j * 2) ++ ys.drop ((j + 1) * 2))) = true := by
  have h1 := winB_sub h (m' := m - 1) (fun k => if k < j then k else k + 1) (by omega) (fun k hk => by split <;> omega) (fun k hk i hi => by split <;> split <;> omega)
  rw [← h1]
  refine winB_congrL fun k hk i hi => ?_
  show ix _ (k * 2 + i) = ix ys ((if k < j then k else k + 1) * 2 + i)
  split
  · rw [ix_get (by simp; omega), ix_get (by omega), List.getElem_append_left (by simp; omega)]
    simp
  · rw [ix_get (by simp; omega), ix_get (by omega), List.getElem_append_right (by simp; omega)]
    simp
    congr 1
    omega

/-- A call hands back a valid window of its own, and a bool. -/
def PostWd (w : World) (e : Ending) (w' : World) : Prop :=
  ∃ A n c zs B m d ys b, e = .returned (.tuple #[.agg #[.slice A n c, .slice B m d], .bool b]) ∧ OwnWn w.heap.size w' A n c zs B m d ys ∧ winB n (FW zs) m (FW ys) = true ∧ Ext w w'

attribute [local go_sem ↓] Go.wp_at_zero Go.wp_at_succ
attribute [local go_sem, local simp] Go.World.cell?_alloc_some Go.World.frozen?_alloc_past
set_option maxRecDepth 100000 in
set_option maxHeartbeats 4000000 in
theorem DropLead_any (b0 : Nat) (w : World) (A : Option Addr) (n c : Nat) (zs : List Int) (B : Option Addr) (m d : Nat) (ys : List Int) (h : OwnWn b0 w A n c zs B m d ys) (hw : winB n (FW zs) m (FW ys) = true) (j : Nat) (hj : j ≤ 1000) :
    Calls Tryz.prog 47 #[.agg #[.slice A n c, .slice B m d], .int .i64 (j : Int)] w (PostWd w) := by
  have hsz := (winB_get hw).1
  have HW := Lib.hid (fun W (Z : Ext w W) => spec_WindowOk A n c (FW zs) B m d (FW ys) h.1 h.2.1 h.2.2.1 h.2.2.2.1 W (h.recsP.ext Z) (h.recsL.ext Z))
  have HC := Lib.hid (fun W (Z : Ext w W) => l04Copy_any b0 W A n c zs B m d ys (h.ext Z) (by omega) (by omega))
  have HI := Lib.hid (fun W => l01In_any (j : Int) 0 ((m : Int) - 1) W)
  rw [hw] at HW
  go_enter Tryz.func47, Tryz.ntmps47
  go_wp2_with fail
  refine (HC.out _ (((Ext.refl w).alloc _).alloc _)).mono ?_
  rintro e w1 ⟨A1, c1, B1, d1, rfl, ho1, x1⟩
  have q0 := x1.cell (a := ⟨w.heap.size, 0, none⟩) (u := .slice A n c) (by simp [go_sem])
  have q1 := x1.cell (a := ⟨w.heap.size, 1, none⟩) (u := .slice B m d) (by simp [go_sem])
  have r0 := x1.cell (a := ⟨w.heap.size + 1, 0, none⟩) (u := .slice none 0 0) (by simp [go_sem])
  have r1 := x1.cell (a := ⟨w.heap.size + 1, 1, none⟩) (u := .slice none 0 0) (by simp [go_sem])
  have f0 := x1.frozen (a := ⟨w.heap.size + 1, 0, none⟩) (u := .slice none 0 0) (by simp [go_sem]) (by simp [go_sem])
  have f1 := x1.frozen (a := ⟨w.heap.size + 1, 1, none⟩) (u := .slice none 0 0) (by simp [go_sem]) (by simp [go_sem])
  have X1 : Ext w w1 := Ext.trans (((Ext.refl w).alloc _).alloc _) x1
  have hs1 := x1.size
  simp only [World.size_alloc] at ho1 hs1
  have hs1' : (w1.alloc (.cells #[.slice A1 n c1, .slice B1 m d1] 27)).heap.size = w1.heap.size + 1 := by rw [World.size_alloc]
  have y0 : Ext w1 (w1.alloc (.cells #[.slice A1 n c1, .slice B1 m d1] 27)) := (Ext.refl _).alloc _
  have qq1 := Lib.hid q1
  have HQ := Lib.hid (fun W (Z : Ext w1 W) => (⟨Z.cell q0, Z.cell q1, Z.cell r0, Z.cell r1, Z.frozen r0 f0, Z.frozen r1 f1⟩ : _ ∧ _ ∧ _ ∧ _ ∧ _ ∧ _))
  have HG := Lib.hid (fun W (Z : Ext (w1.alloc (.cells #[.slice A1 n c1, .slice B1 m d1] 27)) W) => (⟨Z.cell (a := ⟨w1.heap.size, 0, none⟩) (u := .slice A1 n c1) (by simp [go_sem]), Z.cell (a := ⟨w1.heap.size, 1, none⟩) (u := .slice B1 m d1) (by simp [go_sem]), Z.frozen (a := ⟨w1.heap.size, 0, none⟩) (u := .slice A1 n c1) (by simp [go_sem]) (by simp [go_sem]), Z.frozen (a := ⟨w1.heap.size, 1, none⟩) (u := .slice B1 m d1) (by simp [go_sem]) (by simp [go_sem])⟩ : _ ∧ _ ∧ _ ∧ _))
  have HO := Lib.hid (fun W (Z : Ext w1 W) => ho1.ext Z)
  have HL := Lib.hid (fun W (Z : Ext w W) => h.recsL.ext Z)
  have HBn := Lib.hid h.2.2.2.2.2.none_
  have HZl := Lib.hid h.2.2.2.2.2.1
  have hmd := h.2.2.1
  have HF := Lib.hid h.2.2.2.2.2
  clear r0 r1 f0 f1 x1 ho1 h
  by_cases hk : j < m
  · obtain ⟨gB, rfl⟩ := HF.out.some_ (by omega)
    have hin : inB (j : Int) 0 ((m : Int) - 1) = true := by unfold inB; simp; omega
    rw [hin] at HI
    clear hin
    go_wp2_with fail
    refine (HW.out _ (X1.trans y0)).mono ?_
    rintro e w2 ⟨rfl, x2⟩
    obtain ⟨q0, q1, r0, r1, f0, f1⟩ := HQ.out _ (y0.trans x2)
    go_wp2_with fail
    refine (HI.out _).mono ?_
    rintro e w3 ⟨rfl, x3⟩
    have Y3 := x2.trans x3
    have Z3 := y0.trans Y3
    obtain ⟨q0, q1, r0, r1, f0, f1⟩ := HQ.out _ Z3
    obtain ⟨g0, g1, h0, h1⟩ := HG.out _ Y3
    have hs3 := Y3.size
    rw [hs1'] at hs3
    have HP1 := Lib.hid (fun W (Z : Ext w3 W) => (show Recs W 2 (some ⟨gB, 0, none⟩) j (FW ys) from (HL.out _ ((X1.trans Z3).trans Z)).take_ (by omega)))
    obtain ⟨A2, hA2⟩ : ∃ A2 : Addr, (if d = j + 1 then some (⟨gB, 0, none⟩ : Addr) else some ⟨gB, (j + 1) * 2, none⟩) = some A2 := by split <;> exact ⟨_, rfl⟩
    have HP2 := Lib.hid (fun W (Z : Ext w3 W) => (show Recs W 2 (some A2) (m - (j + 1)) (fun k i => FW ys (j + 1 + k) i) from suf_recs2 (HL.out _ ((X1.trans Z3).trans Z)) hA2 (by omega)))
    have XX3 := X1.trans Z3
    have HO3 := Lib.hid (HO.out _ Z3)
    have HWD := Lib.hid (winB_drop HZl.out hw hk)
    clear hw Y3 x2 x3 X1 y0
    clear HQ HG HL HF HW HC HI
    have e1 : IntKind.i64.wrap ((j : Int) + 1) = (j : Int) + 1 := IntWalk.i64_in _ (by omega)
    have e2 : (0 : Int) ≤ (j : Int) + 1 := by omega
    have e3 : ((j : Int) + 1).toNat = j + 1 := by omega
    have e4 : j ≤ d := by omega
    have e5 : ¬ ((m : Int) < (j : Int) + 1) := by omega
    go_wp2_with fail
    go_region_held3 (fun w' => w'.cell? ⟨w.heap.size, 1, none⟩ = some (.slice (some ⟨gB, 0, none⟩) m d)) (first | (refine (fun (Z : Ext w3 _) => Z.cell q1) ?_; (focus ((repeat (first | with_reducible exact Ext.refl _ | with_reducible exact Xb | with_reducible exact Xa | with_reducible apply Ext.drew | with_reducible apply Ext.alloc)); done))) | (refine (fun (Z : Ext w1 _) => Z.cell qq1.out) (Ext.setCell (Z3.trans Xb) ?_ _); (focus (exact Nat.le_refl _)))) (first
      | (refine step_litLead rfl _ _ rfl w3.heap.size _ rfl ?_ (some ⟨gB, 0, none⟩) j d (FW ys) rfl ?_ (fun q => by cases q) (by omega) ?_ ?_; (first | (refine litLead _ _ _ ?_ ?_; (focus (first | rfl | (simp only [World.size_alloc, World.size_drew]; done); done)); (focus (first | (exact Nat.le_refl _) | (simp only [World.size_alloc, World.size_drew]; omega) | ((try simp only [World.size_alloc, World.size_drew]); have := Xa.size; omega); done))) | (refine (litLead _ _ _ ?_ ?_).ext ((Ext.refl _).drew); (focus (first | rfl | (simp only [World.size_alloc, World.size_drew]; done); done)); (focus (first | (exact Nat.le_refl _) | (simp only [World.size_alloc, World.size_drew]; omega) | ((try simp only [World.size_alloc, World.size_drew]); have := Xa.size; omega); done))) | (refine (litLead _ _ _ ?_ ?_).ext (((Ext.refl _).alloc _)); (focus (first | rfl | (simp only [World.size_alloc, World.size_drew]; done); done)); (focus (first | (exact Nat.le_refl _) | (simp only [World.size_alloc, World.size_drew]; omega) | ((try simp only [World.size_alloc, World.size_drew]); have := Xa.size; omega); done))) | (refine (litLead _ _ _ ?_ ?_).ext (((Ext.refl _).alloc _).drew); (focus (first | rfl | (simp only [World.size_alloc, World.size_drew]; done); done)); (focus (first | (exact Nat.le_refl _) | (simp only [World.size_alloc, World.size_drew]; omega) | ((try simp only [World.size_alloc, World.size_drew]); have := Xa.size; omega); done))) | (refine (litLead _ _ _ ?_ ?_).ext (((Ext.refl _).drew.alloc _)); (focus (first | rfl | (simp only [World.size_alloc, World.size_drew]; done); done)); (focus (first | (exact Nat.le_refl _) | (simp only [World.size_alloc, World.size_drew]; omega) | ((try simp only [World.size_alloc, World.size_drew]); have := Xa.size; omega); done)))); (focus (refine HP1.out _ ?_; (repeat (first | with_reducible exact Ext.refl _ | with_reducible exact Xb | with_reducible exact Xa | with_reducible apply Ext.drew | with_reducible apply Ext.alloc)); done)); (focus (first | (exact Nat.le_refl _) | (simp only [World.size_alloc, World.size_drew]; omega) | ((try simp only [World.size_alloc, World.size_drew]); have := Xa.size; omega); done)); intro Aa ca wa ia ja hma xa; (refine (fun (Xa : Ext w3 wa) => ?_) (Ext.trans ?_ xa); rotate_left; (focus ((repeat (first | with_reducible exact Ext.refl _ | with_reducible exact Xb | with_reducible exact Xa | with_reducible apply Ext.drew | with_reducible apply Ext.alloc)); done))))
      | (refine step_appLead rfl _ _ rfl w3.heap.size _ _ _ rfl hma (some A2) (m - (j + 1)) (d - (j + 1)) (fun k i => FW ys (j + 1 + k) i) rfl ?_ (fun q => by cases q) (by omega) ?_ ?_; (focus (refine HP2.out _ ?_; (repeat (first | with_reducible exact Ext.refl _ | with_reducible exact Xb | with_reducible exact Xa | with_reducible apply Ext.drew | with_reducible apply Ext.alloc)); done)); (focus (first | (exact Nat.le_refl _) | (simp only [World.size_alloc, World.size_drew]; omega) | ((try simp only [World.size_alloc, World.size_drew]); have := Xa.size; omega); done)); intro Ab cb wb ib jb hmb gb; have Xb : Ext w3 wb := hma.ext_of Xa (Nat.le_refl _) gb; have k0 := Xb.cell g0; have k1 := Xb.cell g1; have z1 := Xb.frozen g1 h1))
    have s0 := Xb.cell r0
    have s1 := Xb.cell r1
    have t0 := Xb.frozen r0 f0
    have t1 := Xb.frozen r1 f1
    have HA := Lib.hid ((HO.out _ (Ext.setCell (p := ⟨w1.heap.size, 1, none⟩) (Z3.trans Xb) (Nat.le_refl _) (.slice Ab (j + (m - (j + 1))) cb))).2.2.2.2.1)
    have HB := Lib.hid hmb
    have HX := Lib.hid (Ext.setCell (p := ⟨w1.heap.size, 1, none⟩) (XX3.trans Xb) (by show w.heap.size ≤ w1.heap.size; omega) (.slice Ab (j + (m - (j + 1))) cb))
    have HFR := Lib.hid (⟨HO3.out.1, HO3.out.2.1, ib, jb⟩ : n ≤ c1 ∧ c1 ≤ 9223372036854775807 ∧ j + (m - (j + 1)) ≤ cb ∧ cb ≤ 9223372036854775807)
    have HLL := Lib.hid (show ys.take (j * 2) ++ ys.drop ((j + 1) * 2) = flat 2 j (FW ys) ++ flat 2 (m - (j + 1)) (fun k i => FW ys (j + 1 + k) i) from (flat_parts HZl.out hk).symm)
    clear hmb hma gb xa Xa HO HO3 Z3 XX3 q0 q1 e1 e2 e3 e4 e5 hA2 HP1 HP2
    go_wp2
    rw [show m - 1 = j + (m - (j + 1)) by omega, HLL.out] at HWD
    refine bodyPost_ret (v := .tuple #[.agg #[.slice A1 n c1, .slice Ab (j + (m - (j + 1))) cb], .bool true]) (by simp [results, Tryz.results47, go_sem, s0, s1]) rfl ⟨A1, n, c1, zs, Ab, _, cb, _, true, rfl, ⟨HFR.out.1, HFR.out.2.1, HFR.out.2.2.1, HFR.out.2.2.2, ?_, ?_⟩, HWD.out, ?_⟩
    · exact ((HA.out.far (p := ⟨w.heap.size + 1, 0, none⟩) (by show w.heap.size + 1 < _; omega) _).far (p := ⟨w.heap.size + 1, 1, none⟩) (by show w.heap.size + 1 < _; omega) _).more (by omega)
    · exact (((HB.out.far (p := ⟨w1.heap.size, 1, none⟩) (by show w1.heap.size < _; omega) _).far (p := ⟨w.heap.size + 1, 0, none⟩) (by show w.heap.size + 1 < _; omega) _).far (p := ⟨w.heap.size + 1, 1, none⟩) (by show w.heap.size + 1 < _; omega) _).more (by omega)
    · exact (HX.out.setCell (p := ⟨w.heap.size + 1, 0, none⟩) (by show w.heap.size ≤ w.heap.size + 1; omega) _).setCell (p := ⟨w.heap.size + 1, 1, none⟩) (by show w.heap.size ≤ w.heap.size + 1; omega) _
  · have hin : inB (j : Int) 0 ((m : Int) - 1) = false := by unfold inB; simp; omega
    rw [hin] at HI
    clear hin
    go_wp2_with fail
    refine (HW.out _ (X1.trans y0)).mono ?_
    rintro e w2 ⟨rfl, x2⟩
    obtain ⟨q0, q1, r0, r1, f0, f1⟩ := HQ.out _ (y0.trans x2)
    go_wp2_with fail
    refine (HI.out _).mono ?_
    rintro e w3 ⟨rfl, x3⟩
    have Y3 := x2.trans x3
    have Z3 := y0.trans Y3
    obtain ⟨q0, q1, r0, r1, f0, f1⟩ := HQ.out _ Z3
    obtain ⟨g0, g1, h0, h1⟩ := HG.out _ Y3
    have HO3 := Lib.hid (HO.out _ Z3)
    have XX3 := Lib.hid (X1.trans Z3)
    go_wp2
    refine bodyPost_ret (v := .tuple #[.agg #[.slice A1 n c1, .slice B1 m d1], .bool false]) (by simp [results, Tryz.results47, go_sem, r0, r1]) rfl ⟨A1, n, c1, zs, B1, m, d1, ys, false, rfl, ?_, hw, ?_⟩
    · exact ((HO3.out.far (p := ⟨w.heap.size + 1, 0, none⟩) (by show w.heap.size + 1 < _; omega) _).far (p := ⟨w.heap.size + 1, 1, none⟩) (by show w.heap.size + 1 < _; omega) _).more (by omega)
    · exact (XX3.out.setCell (p := ⟨w.heap.size + 1, 0, none⟩) (by show w.heap.size ≤ w.heap.size + 1; omega) _).setCell (p := ⟨w.heap.size + 1, 1, none⟩) (by show w.heap.size ≤ w.heap.size + 1; omega) _

end Go.Proofs.YtgmhmlhdiklaaaaGreatDoor
