/-
  A face replaced, on the program's side. No conditions.
-/
import Derived.Test.YtdnddmeoncekiaaRepV
import Derived.Test.YtdnddmeoncekiaaRepW
import Derived.Test.YtdnddmeoncekiaaMayI
namespace Go.Proofs.Ytdnddmeoncekiaa
open Go.RowKit Ring
set_option linter.unusedVariables false

set_option maxHeartbeats 1000000 in
theorem copyInts_any (Ah : Option Addr) (nh ch : Nat) (fh : Nat → Nat → Int) (ih : nh ≤ ch) (jh : ch ≤ 9223372036854775807) (hA : Ah = none → nh = 0 ∧ ch = 0) (hnn : nh ≤ 1048576) (w : World) (rh : Recs w 1 Ah nh fh) :
    Calls Try.prog 53 #[.slice Ah nh ch] w (PostI w 3 nh (tab nh fun k => fh k 0)) := by
  go_enter Try.func53, Try.ntmps53
  go_wp2_with (at_builtin; refine append_all _ rfl _ _ rfl w.heap.size _ rfl (Mine.nil_ _ _ _) Ah nh ch fh rfl rh hA (by omega) (Nat.le_refl _) ?_; intro v2 w2 hm2 hg2; have he2 := (Mine.nil_ w.heap.size w 3).fresh (Ext.refl w) (Nat.le_refl _) hg2 rfl)
  obtain ⟨A', c', rfl, hc1, hc2⟩ := hm2.form
  go_wp2
  go_ret
  exact ⟨A', c', rfl, hc1, hc2, hm2, he2⟩

set_option maxRecDepth 100000 in
set_option maxHeartbeats 8000000 in
theorem impl_ReplaceFace (A : Option Addr) (n c : Nat) (P : Nat → Nat → Int) (B : Option Addr) (m d : Nat) (L : Nat → Nat → Int) (hnc : n ≤ c) (hcm : c ≤ 9223372036854775807) (hmd : m ≤ d) (hdm : d ≤ 9223372036854775807) (Ah : Option Addr) (nh ch : Nat) (fh : Nat → Nat → Int) (ih : nh ≤ ch) (jh : ch ≤ 9223372036854775807) (f y s : Int) (hf : (-9223372036854775808 ≤ f ∧ f ≤ 9223372036854775807)) (hy : (-9223372036854775808 ≤ y ∧ y ≤ 9223372036854775807)) (hsh : (-9223372036854775808 ≤ s ∧ s ≤ 9223372036854775807)) (hA : Ah = none → nh = 0 ∧ ch = 0) (hnn : nh ≤ 1048576) (w : World) (hr : Recs w 2 A n P) (hs : Recs w 2 B m L) (rh : Recs w 1 Ah nh fh) :
    Calls Try.prog 25 #[.agg #[.slice A n c, .slice B m d], .slice Ah nh ch, .int .i64 f, .int .i64 y, .int .i64 s] w (PostIB w 3 nh (replL n P m L nh fh f y s) (replB n P m L nh fh f y s)) := by
  have HMR := Lib.hid (fun W (Z : Ext w W) => impl_MayReplace A n c P B m d L hnc hcm hmd hdm Ah nh ch fh ih jh f s hf hsh W (hr.ext Z) (hs.ext Z) (rh.ext Z))
  have HIY := Lib.hid (fun W => within_any y 1 3000 W)
  have HLL := Lib.hid (show replL n P m L nh fh f y s = if replB n P m L nh fh f y s = true then (tab nh fun k => fh k 0).set f.toNat y else tab nh fun k => fh k 0 from rfl)
  have HBB := Lib.hid (show replB n P m L nh fh f y s = (mayB n P m L nh fh f s && inB y 1 3000 && decide (fh f.toNat 0 ≤ y)) from rfl)
  have HCP := Lib.hid (fun W (Z : Ext w W) => copyInts_any Ah nh ch fh ih jh hA hnn W (rh.ext Z))
  have q0 : (w.alloc (.cells #[.slice A n c, .slice B m d] 31)).cell? ⟨w.heap.size, 0, none⟩ = some (.slice A n c) := by simp [go_sem]
  have q1 : (w.alloc (.cells #[.slice A n c, .slice B m d] 31)).cell? ⟨w.heap.size, 1, none⟩ = some (.slice B m d) := by simp [go_sem]
  clear hr hs
  have HGET := Lib.hid (fun h => may_get (n := n) (m := m) (P := P) (L := L) (nh := nh) (fh := fh) (f := f) (s := s) h)
  generalize replL n P m L nh fh f y s = lr at *
  generalize replB n P m L nh fh f y s = br at *
  cases hmb : mayB n P m L nh fh f s
  · rw [hmb] at HMR HBB
    have HB := Lib.hid (show br = false by rw [HBB.out]; rfl)
    have HL := Lib.hid (show lr = tab nh fun k => fh k 0 by rw [HLL.out, HB.out]; rfl)
    clear hmb HGET
    go_enter Try.func25, Try.ntmps25
    go_wp2_with fail
    refine (HCP.out _ (by repeat (first | exact Ext.refl _ | apply Ext.alloc))).mono ?_
    rintro e w1 ⟨Ao, co, rfl, io, jo, hm, x1⟩
    replace q0 := x1.cell q0
    replace q1 := x1.cell q1
    have X1 : Ext w w1 := Ext.trans (by repeat (first | exact Ext.refl _ | apply Ext.alloc)) x1
    replace hm := hm.more (base' := w.heap.size) (by rw [World.size_alloc]; omega)
    clear x1
    go_wp2_with fail
    refine (HMR.out _ X1).mono ?_
    rintro e w2 ⟨rfl, x2⟩
    have X2 := X1.trans x2
    replace hm := hm.ext x2
    clear x2
    go_wp2
    go_ret2
    rw [HB.out, HL.out]
    exact ⟨Ao, co, rfl, io, jo, hm, X2⟩
  · rw [hmb] at HMR HBB
    obtain ⟨hf0, hf1, hbd⟩ := HGET.out hmb
    have HBD := Lib.hid hbd
    clear hmb hbd HGET
    obtain ⟨k, rfl⟩ : ∃ k : Nat, f = (k : Int) := ⟨f.toNat, by omega⟩
    have hk : k < nh := by omega
    rw [show ((k : Int)).toNat = k by omega] at HLL HBB
    cases hiy : inB y 1 3000
    · rw [hiy] at HIY HBB
      have HB := Lib.hid (show br = false by rw [HBB.out]; rfl)
      have HL := Lib.hid (show lr = tab nh fun k => fh k 0 by rw [HLL.out, HB.out]; rfl)
      clear hiy
      go_enter Try.func25, Try.ntmps25
      go_wp2_with fail
      refine (HCP.out _ (by repeat (first | exact Ext.refl _ | apply Ext.alloc))).mono ?_
      rintro e w1 ⟨Ao, co, rfl, io, jo, hm, x1⟩
      replace q0 := x1.cell q0
      replace q1 := x1.cell q1
      have X1 : Ext w w1 := Ext.trans (by repeat (first | exact Ext.refl _ | apply Ext.alloc)) x1
      replace hm := hm.more (base' := w.heap.size) (by rw [World.size_alloc]; omega)
      clear x1
      go_wp2_with fail
      refine (HMR.out _ X1).mono ?_
      rintro e w2 ⟨rfl, x2⟩
      have X2 := X1.trans x2
      replace hm := hm.ext x2
      clear x2
      go_wp2_with fail
      refine (HIY.out _).mono ?_
      rintro e w3 ⟨rfl, x3⟩
      have X3 := X2.trans x3
      replace hm := hm.ext x3
      clear x3
      go_wp2
      go_ret2
      rw [HB.out, HL.out]
      exact ⟨Ao, co, rfl, io, jo, hm, X3⟩
    · rw [hiy] at HIY HBB
      clear hiy
      have hbk := HBD.out k hk
      have k1 : (0 : Int) ≤ (k : Int) := by omega
      have k2 : (k : Int) < (nh : Int) := by omega
      obtain ⟨bb, oo, hAA, hb_, c0⟩ := rh.at1 hk
      subst hAA
      have C0 := Lib.hid c0
      clear c0
      generalize hfk : fh k 0 = yk at *
      by_cases hlt : y < yk
      · have HB := Lib.hid (show br = false by rw [HBB.out, decide_eq_false (by omega)]; rfl)
        have HL := Lib.hid (show lr = tab nh fun k => fh k 0 by rw [HLL.out, HB.out]; rfl)
        go_enter Try.func25, Try.ntmps25
        go_wp2_with fail
        refine (HCP.out _ (by repeat (first | exact Ext.refl _ | apply Ext.alloc))).mono ?_
        rintro e w1 ⟨Ao, co, rfl, io, jo, hm, x1⟩
        replace q0 := x1.cell q0
        replace q1 := x1.cell q1
        have X1 : Ext w w1 := Ext.trans (by repeat (first | exact Ext.refl _ | apply Ext.alloc)) x1
        replace hm := hm.more (base' := w.heap.size) (by rw [World.size_alloc]; omega)
        clear x1
        go_wp2_with fail
        refine (HMR.out _ X1).mono ?_
        rintro e w2 ⟨rfl, x2⟩
        have X2 := X1.trans x2
        replace hm := hm.ext x2
        clear x2
        go_wp2_with fail
        refine (HIY.out _).mono ?_
        rintro e w3 ⟨rfl, x3⟩
        have X3 := X2.trans x3
        replace hm := hm.ext x3
        clear x3
        have c0 := X3.cell C0.out
        go_wp2
        go_ret2
        rw [HB.out, HL.out]
        exact ⟨Ao, co, rfl, io, jo, hm, X3⟩
      · have HB := Lib.hid (show br = true by rw [HBB.out, decide_eq_true (by omega)]; rfl)
        have HL := Lib.hid (show lr = (tab nh fun k => fh k 0).set k y by rw [HLL.out, HB.out]; rfl)
        go_enter Try.func25, Try.ntmps25
        go_wp2_with fail
        refine (HCP.out _ (by repeat (first | exact Ext.refl _ | apply Ext.alloc))).mono ?_
        rintro e w1 ⟨Ao, co, rfl, io, jo, hm, x1⟩
        replace q0 := x1.cell q0
        replace q1 := x1.cell q1
        have X1 : Ext w w1 := Ext.trans (by repeat (first | exact Ext.refl _ | apply Ext.alloc)) x1
        replace hm := hm.more (base' := w.heap.size) (by rw [World.size_alloc]; omega)
        clear x1
        go_wp2_with fail
        refine (HMR.out _ X1).mono ?_
        rintro e w2 ⟨rfl, x2⟩
        have X2 := X1.trans x2
        replace hm := hm.ext x2
        clear x2
        go_wp2_with fail
        refine (HIY.out _).mono ?_
        rintro e w3 ⟨rfl, x3⟩
        have X3 := X2.trans x3
        replace hm := hm.ext x3
        clear x3
        have c0 := X3.cell C0.out
        obtain ⟨G, rfl⟩ := hm.some_ (by omega)
        obtain ⟨g0, g1, g2, g3⟩ := hm.at_ hk
        have hm9 := hm.stored (k := k) (z := y) hk (by unfold I64; omega)
        have X9 := X3.setCell (p := ⟨G, k, none⟩) g2 (.int .i64 y)
        clear hm
        go_wp2
        go_ret2
        rw [HB.out, HL.out]
        exact ⟨some ⟨G, 0, none⟩, co, rfl, io, jo, hm9, X9⟩

end Go.Proofs.Ytdnddmeoncekiaa
