/-
  Texts of one kind, one behind the other: SmallV SmallI SmallS. No conditions.
-/
import Derived.Test.YtgmhmlhdiklaaaaAreM
import Derived.Test.YtgmhmlhdiklaaaaNodeSun
/- SmallV -/
namespace Go.Proofs.Ytgmhmlhdiklaaaa
open Go.RowKit Ring
set_option linter.unusedVariables false

theorem res3 {fn : Func} {t u v : Tmp} (h : fn.results = #[.tmp t, .tmp u, .tmp v]) (tmps : Array Value) (P : Program) (w : World) :
    (results fn tmps).run P w = .ok (.tuple #[tmps.getD t undef, tmps.getD u undef, tmps.getD v undef]) w := by simp [results, h]
theorem ret_b {a b : Bool} (h : a = b) : Ending.returned (.bool a) = .returned (.bool b) := by rw [h]
theorem ret_v {a b : Value} (h : a = b) : Ending.returned a = .returned b := by rw [h]
section
variable (n : Nat) (P : Nat → Nat → Int) (m : Nat) (L : Nat → Nat → Int)
def loadV (f p : Int) : Int := if (decide (0 ≤ areaV n P m L f) && inB p 0 1000) = true then areaV n P m L f * p else -1
def bearB (v t : Int) : Bool := decide (0 ≤ v) && inB t 1 20 && decide (v ≤ 500 * t * t)
def leastV (v : Int) : Int := if 0 ≤ fdx (fun i => bearB v ((i : Int) + 1)) 20 then fdx (fun i => bearB v ((i : Int) + 1)) 20 + 1 else -1
def glassV (t : Int) : Int := if (wholeB n P m L && inB t 1 20) = true then totalV n P m L * t else -1
def histB (k : Nat) (h : Nat → Nat → Int) : Bool := wholeB n P m L && decide ((k : Int) = ((facesV n P m L).length : Nat)) && allB k (fun i => inB (h i 0) 0 3000)
end
section
variable {n m : Nat} {P L : Nat → Nat → Int}
theorem mul_rng {a p : Int} (h1 : 0 ≤ a) (h2 : a ≤ 16000) (h3 : 0 ≤ p) (h4 : p ≤ 1000) : 0 ≤ a * p ∧ a * p ≤ 16000000 := by
  have h5 := Int.mul_nonneg h1 h3
  have h6 : a * p ≤ 16000 * 1000 := Int.mul_le_mul h2 h4 h3 (by omega)
  omega
theorem loadV_rng (f p : Int) : -1 ≤ loadV n P m L f p ∧ loadV n P m L f p ≤ 16000000 := by
  unfold loadV
  split
  · rename_i h
    rw [Bool.and_eq_true] at h
    have h1 := inB_of h.2
    have h2 := areaV_rng (n := n) (m := m) (P := P) (L := L) f
    have h3 : 0 ≤ areaV n P m L f := by simpa using h.1
    have := mul_rng (a := areaV n P m L f) (p := p) h3 (by omega) (by omega) (by omega)
    omega
  · omega
theorem totalV_rng : -1 ≤ totalV n P m L ∧ totalV n P m L ≤ 16000 := areaV_rng _
theorem glassV_rng (t : Int) : -20 ≤ glassV n P m L t ∧ glassV n P m L t ≤ 320000 := by
  unfold glassV
  split
  · rename_i h
    rw [Bool.and_eq_true] at h
    have h1 := inB_of h.2
    have h2 := totalV_rng (n := n) (m := m) (P := P) (L := L)
    rcases Int.lt_or_le (totalV n P m L) 0 with g | g
    · have e : totalV n P m L = -1 := by omega
      rw [e]; omega
    · have h5 := Int.mul_nonneg g (show 0 ≤ t by omega)
      have h6 : totalV n P m L * t ≤ 16000 * 20 := Int.mul_le_mul h2.2 (by omega) (by omega) (by omega)
      omega
  · omega
theorem sq_rng {t : Int} (h1 : 1 ≤ t) (h2 : t ≤ 20) : 0 ≤ 500 * t * t ∧ 500 * t * t ≤ 200000 := by
  have h5 := Int.mul_nonneg (a := 500 * t) (b := t) (by omega) (by omega)
  have h6 : 500 * t * t ≤ 10000 * 20 := Int.mul_le_mul (by omega) h2 (by omega) (by omega)
  omega
end

def spotV (n : Nat) (P : Nat → Nat → Int) (m : Nat) (L : Nat → Nat → Int) (f z x y u : Int) : Value := if (decide (0 ≤ areaV n P m L f) && sunB x y u && inB z 0 1000) = true then .tuple #[.int .i64 (areaV n P m L f * u), .int .i64 y, .bool true] else .tuple #[.int .i64 0, .int .i64 0, .bool false]
theorem spotV_form (n : Nat) (P : Nat → Nat → Int) (m : Nat) (L : Nat → Nat → Int) (f z x y u : Int) : ∃ a b : Int, ∃ c : Bool, spotV n P m L f z x y u = .tuple #[.int .i64 a, .int .i64 b, .bool c] := by
  unfold spotV
  split
  · exact ⟨_, _, _, rfl⟩
  · exact ⟨_, _, _, rfl⟩
theorem sunB_rng {x y u : Int} (h : sunB x y u = true) : (-1000 ≤ x ∧ x ≤ 1000) ∧ (1 ≤ y ∧ y ≤ 1000) ∧ 1 ≤ u ∧ u ≤ 100 := by
  unfold sunB at h
  rw [Bool.and_eq_true, Bool.and_eq_true] at h
  exact ⟨inB_of h.1.1, inB_of h.1.2, inB_of h.2⟩

end Go.Proofs.Ytgmhmlhdiklaaaa

/- SmallI -/
namespace Go.Proofs.Ytgmhmlhdiklaaaa
open Go.RowKit Ring
set_option linter.unusedVariables false

set_option maxRecDepth 100000 in
set_option maxHeartbeats 4000000 in
theorem impl_LoadOn (A : Option Addr) (n c : Nat) (P : Nat → Nat → Int) (B : Option Addr) (m d : Nat) (L : Nat → Nat → Int) (hnc : n ≤ c) (hcm : c ≤ 9223372036854775807) (hmd : m ≤ d) (hdm : d ≤ 9223372036854775807) (f p : Int) (hf : (-9223372036854775808 ≤ f ∧ f ≤ 9223372036854775807)) (hp : (-9223372036854775808 ≤ p ∧ p ≤ 9223372036854775807)) (w : World) (hr : Recs w 2 A n P) (hs : Recs w 2 B m L) :
    Calls Try.prog 29 #[.agg #[.slice A n c, .slice B m d], .int .i64 f, .int .i64 p] w fun e w' => e = .returned (.int .i64 (loadV n P m L f p)) ∧ Ext w w' := by
  have q0 : (w.alloc (.cells #[.slice A n c, .slice B m d] 27)).cell? ⟨w.heap.size, 0, none⟩ = some (.slice A n c) := by simp [go_sem]
  have q1 : (w.alloc (.cells #[.slice A n c, .slice B m d] 27)).cell? ⟨w.heap.size, 1, none⟩ = some (.slice B m d) := by simp [go_sem]
  have HAreaOf : Hid (∀ W, Ext w W → Calls Try.prog 58 #[.agg #[.slice A n c, .slice B m d], .int .i64 f] W fun e w' => e = .returned (.int .i64 (areaV n P m L f)) ∧ Ext W w') := Lib.hid (fun W Z => impl_AreaOf A n c P B m d L hnc hcm hmd hdm f hf W (hr.ext Z) (hs.ext Z))
  have HI := Lib.hid (fun W => within_any p 0 1000 W)
  have har := areaV_rng (n := n) (m := m) (P := P) (L := L) f
  have HV := Lib.hid (show loadV n P m L f p = if (decide (0 ≤ areaV n P m L f) && inB p 0 1000) = true then areaV n P m L f * p else -1 from rfl)
  generalize areaV n P m L f = a at *
  by_cases ha : a < 0
  · have HR := Lib.hid (show loadV n P m L f p = -1 by rw [HV.out, if_neg (by simp; intro; omega)])
    go_enter Try.func29, Try.ntmps29
    go_wp2_with fail
    refine (HAreaOf.out _ (by repeat (first | exact Ext.refl _ | apply Ext.alloc))).mono ?_
    rintro e w1 ⟨rfl, x1⟩
    replace q0 := x1.cell q0
    replace q1 := x1.cell q1
    have X1 : Ext w w1 := Ext.trans (by repeat (first | exact Ext.refl _ | apply Ext.alloc)) x1
    go_wp2
    go_ret
    exact ⟨ret_i HR.out.symm, X1⟩
  · cases hin : inB p 0 1000
    · rw [hin] at HI
      have HR := Lib.hid (show loadV n P m L f p = -1 by rw [HV.out, hin, if_neg (by simp)])
      clear hin
      go_enter Try.func29, Try.ntmps29
      go_wp2_with fail
      refine (HAreaOf.out _ (by repeat (first | exact Ext.refl _ | apply Ext.alloc))).mono ?_
      rintro e w1 ⟨rfl, x1⟩
      replace q0 := x1.cell q0
      replace q1 := x1.cell q1
      have X1 : Ext w w1 := Ext.trans (by repeat (first | exact Ext.refl _ | apply Ext.alloc)) x1
      go_wp2_with fail
      refine (HI.out _).mono ?_
      rintro e w2 ⟨rfl, x2⟩
      replace q0 := x2.cell q0
      replace q1 := x2.cell q1
      have X2 : Ext w w2 := Ext.trans X1 x2
      go_wp2
      go_ret
      exact ⟨ret_i HR.out.symm, X2⟩
    · rw [hin] at HI
      have hb := inB_of hin
      have HR := Lib.hid (show loadV n P m L f p = a * p by rw [HV.out, hin, if_pos (by simp; omega)])
      have hm := mul_rng (a := a) (p := p) (by omega) (by omega) (by omega) (by omega)
      clear hin
      generalize hyy : a * p = yy at *
      go_enter Try.func29, Try.ntmps29
      go_wp2_with fail
      refine (HAreaOf.out _ (by repeat (first | exact Ext.refl _ | apply Ext.alloc))).mono ?_
      rintro e w1 ⟨rfl, x1⟩
      replace q0 := x1.cell q0
      replace q1 := x1.cell q1
      have X1 : Ext w w1 := Ext.trans (by repeat (first | exact Ext.refl _ | apply Ext.alloc)) x1
      go_wp2_with fail
      refine (HI.out _).mono ?_
      rintro e w2 ⟨rfl, x2⟩
      replace q0 := x2.cell q0
      replace q1 := x2.cell q1
      have X2 : Ext w w2 := Ext.trans X1 x2
      go_wp2
      go_ret
      exact ⟨ret_i HR.out.symm, X2⟩

set_option maxRecDepth 100000 in
set_option maxHeartbeats 4000000 in
theorem impl_BearsLoad (A : Option Addr) (n c : Nat) (P : Nat → Nat → Int) (B : Option Addr) (m d : Nat) (L : Nat → Nat → Int) (hnc : n ≤ c) (hcm : c ≤ 9223372036854775807) (hmd : m ≤ d) (hdm : d ≤ 9223372036854775807) (f p t : Int) (hf : (-9223372036854775808 ≤ f ∧ f ≤ 9223372036854775807)) (hp : (-9223372036854775808 ≤ p ∧ p ≤ 9223372036854775807)) (ht : (-9223372036854775808 ≤ t ∧ t ≤ 9223372036854775807)) (w : World) (hr : Recs w 2 A n P) (hs : Recs w 2 B m L) :
    Calls Try.prog 28 #[.agg #[.slice A n c, .slice B m d], .int .i64 f, .int .i64 p, .int .i64 t] w fun e w' => e = .returned (.bool (bearB (loadV n P m L f p) t)) ∧ Ext w w' := by
  have q0 : (w.alloc (.cells #[.slice A n c, .slice B m d] 27)).cell? ⟨w.heap.size, 0, none⟩ = some (.slice A n c) := by simp [go_sem]
  have q1 : (w.alloc (.cells #[.slice A n c, .slice B m d] 27)).cell? ⟨w.heap.size, 1, none⟩ = some (.slice B m d) := by simp [go_sem]
  have HLoadOn : Hid (∀ W, Ext w W → Calls Try.prog 29 #[.agg #[.slice A n c, .slice B m d], .int .i64 f, .int .i64 p] W fun e w' => e = .returned (.int .i64 (loadV n P m L f p)) ∧ Ext W w') := Lib.hid (fun W Z => impl_LoadOn A n c P B m d L hnc hcm hmd hdm f p hf hp W (hr.ext Z) (hs.ext Z))
  have HI := Lib.hid (fun W => within_any t 1 20 W)
  have har := loadV_rng (n := n) (m := m) (P := P) (L := L) f p
  generalize loadV n P m L f p = v at *
  by_cases ha : v < 0
  · have ha' : ¬ 0 ≤ v := by omega
    have HR := Lib.hid (show bearB v t = false by simp [bearB]; intro h; omega)
    go_enter Try.func28, Try.ntmps28
    go_wp2_with fail
    refine (HLoadOn.out _ (by repeat (first | exact Ext.refl _ | apply Ext.alloc))).mono ?_
    rintro e w1 ⟨rfl, x1⟩
    replace q0 := x1.cell q0
    replace q1 := x1.cell q1
    have X1 : Ext w w1 := Ext.trans (by repeat (first | exact Ext.refl _ | apply Ext.alloc)) x1
    go_wp2
    go_ret
    exact ⟨ret_b HR.out.symm, X1⟩
  · have ha' : 0 ≤ v := by omega
    cases hin : inB t 1 20
    · rw [hin] at HI
      have HR := Lib.hid (show bearB v t = false by simp [bearB, hin])
      clear hin
      go_enter Try.func28, Try.ntmps28
      go_wp2_with fail
      refine (HLoadOn.out _ (by repeat (first | exact Ext.refl _ | apply Ext.alloc))).mono ?_
      rintro e w1 ⟨rfl, x1⟩
      replace q0 := x1.cell q0
      replace q1 := x1.cell q1
      have X1 : Ext w w1 := Ext.trans (by repeat (first | exact Ext.refl _ | apply Ext.alloc)) x1
      go_wp2_with fail
      refine (HI.out _).mono ?_
      rintro e w2 ⟨rfl, x2⟩
      replace q0 := x2.cell q0
      replace q1 := x2.cell q1
      have X2 : Ext w w2 := Ext.trans X1 x2
      go_wp2
      go_ret
      exact ⟨ret_b HR.out.symm, X2⟩
    · rw [hin] at HI
      have hb := inB_of hin
      have hsq := sq_rng (t := t) (by omega) (by omega)
      have HE := Lib.hid (show bearB v t = decide (v ≤ 500 * t * t) by simp [bearB, hin, ha'])
      clear hin
      generalize hyy : 500 * t * t = y at *
      have HR := HE
      go_enter Try.func28, Try.ntmps28
      go_wp2_with fail
      refine (HLoadOn.out _ (by repeat (first | exact Ext.refl _ | apply Ext.alloc))).mono ?_
      rintro e w1 ⟨rfl, x1⟩
      replace q0 := x1.cell q0
      replace q1 := x1.cell q1
      have X1 : Ext w w1 := Ext.trans (by repeat (first | exact Ext.refl _ | apply Ext.alloc)) x1
      go_wp2_with fail
      refine (HI.out _).mono ?_
      rintro e w2 ⟨rfl, x2⟩
      replace q0 := x2.cell q0
      replace q1 := x2.cell q1
      have X2 : Ext w w2 := Ext.trans X1 x2
      go_wp2
      go_ret
      exact ⟨ret_b HR.out.symm, X2⟩

set_option maxRecDepth 100000 in
set_option maxHeartbeats 4000000 in
theorem impl_GlassWeight (A : Option Addr) (n c : Nat) (P : Nat → Nat → Int) (B : Option Addr) (m d : Nat) (L : Nat → Nat → Int) (hnc : n ≤ c) (hcm : c ≤ 9223372036854775807) (hmd : m ≤ d) (hdm : d ≤ 9223372036854775807) (t : Int) (ht : (-9223372036854775808 ≤ t ∧ t ≤ 9223372036854775807)) (w : World) (hr : Recs w 2 A n P) (hs : Recs w 2 B m L) :
    Calls Try.prog 37 #[.agg #[.slice A n c, .slice B m d], .int .i64 t] w fun e w' => e = .returned (.int .i64 (glassV n P m L t)) ∧ Ext w w' := by
  have q0 : (w.alloc (.cells #[.slice A n c, .slice B m d] 27)).cell? ⟨w.heap.size, 0, none⟩ = some (.slice A n c) := by simp [go_sem]
  have q1 : (w.alloc (.cells #[.slice A n c, .slice B m d] 27)).cell? ⟨w.heap.size, 1, none⟩ = some (.slice B m d) := by simp [go_sem]
  have HIsWhole : Hid (∀ W, Ext w W → Calls Try.prog 63 #[.agg #[.slice A n c, .slice B m d]] W fun e w' => e = .returned (.bool (wholeB n P m L)) ∧ Ext W w') := Lib.hid (fun W Z => impl_IsWhole A n c P B m d L hnc hcm hmd hdm W (hr.ext Z) (hs.ext Z))
  have HTotalArea : Hid (∀ W, Ext w W → Calls Try.prog 68 #[.agg #[.slice A n c, .slice B m d]] W fun e w' => e = .returned (.int .i64 (totalV n P m L)) ∧ Ext W w') := Lib.hid (fun W Z => impl_TotalArea A n c P B m d L hnc hcm hmd hdm W (hr.ext Z) (hs.ext Z))
  have HI := Lib.hid (fun W => within_any t 1 20 W)
  have har := totalV_rng (n := n) (m := m) (P := P) (L := L)
  have HV := Lib.hid (show glassV n P m L t = if (wholeB n P m L && inB t 1 20) = true then totalV n P m L * t else -1 from rfl)
  generalize totalV n P m L = a at *
  cases hw : wholeB n P m L
  · rw [hw] at HIsWhole
    have HR := Lib.hid (show glassV n P m L t = -1 by rw [HV.out, hw, if_neg (by simp)])
    clear hw
    go_enter Try.func37, Try.ntmps37
    go_wp2_with fail
    refine (HIsWhole.out _ (by repeat (first | exact Ext.refl _ | apply Ext.alloc))).mono ?_
    rintro e w1 ⟨rfl, x1⟩
    replace q0 := x1.cell q0
    replace q1 := x1.cell q1
    have X1 : Ext w w1 := Ext.trans (by repeat (first | exact Ext.refl _ | apply Ext.alloc)) x1
    go_wp2
    go_ret
    exact ⟨ret_i HR.out.symm, X1⟩
  · rw [hw] at HIsWhole
    cases hin : inB t 1 20
    · rw [hin] at HI
      have HR := Lib.hid (show glassV n P m L t = -1 by rw [HV.out, hin, if_neg (by simp)])
      clear hin hw
      go_enter Try.func37, Try.ntmps37
      go_wp2_with fail
      refine (HIsWhole.out _ (by repeat (first | exact Ext.refl _ | apply Ext.alloc))).mono ?_
      rintro e w1 ⟨rfl, x1⟩
      replace q0 := x1.cell q0
      replace q1 := x1.cell q1
      have X1 : Ext w w1 := Ext.trans (by repeat (first | exact Ext.refl _ | apply Ext.alloc)) x1
      go_wp2_with fail
      refine (HI.out _).mono ?_
      rintro e w2 ⟨rfl, x2⟩
      replace q0 := x2.cell q0
      replace q1 := x2.cell q1
      have X2 : Ext w w2 := Ext.trans X1 x2
      go_wp2
      go_ret
      exact ⟨ret_i HR.out.symm, X2⟩
    · rw [hin] at HI
      have hb := inB_of hin
      have HR := Lib.hid (show glassV n P m L t = a * t by rw [HV.out, hin, hw, if_pos (by simp)])
      have hm : -20 ≤ a * t ∧ a * t ≤ 16000000 := by
        rcases Int.lt_or_le a 0 with g | g
        · have e : a = -1 := by omega
          subst e; omega
        · have := mul_rng (a := a) (p := t) (by omega) (by omega) (by omega) (by omega)
          omega
      clear hin hw
      generalize hyy : a * t = yy at *
      go_enter Try.func37, Try.ntmps37
      go_wp2_with fail
      refine (HIsWhole.out _ (by repeat (first | exact Ext.refl _ | apply Ext.alloc))).mono ?_
      rintro e w1 ⟨rfl, x1⟩
      replace q0 := x1.cell q0
      replace q1 := x1.cell q1
      have X1 : Ext w w1 := Ext.trans (by repeat (first | exact Ext.refl _ | apply Ext.alloc)) x1
      go_wp2_with fail
      refine (HI.out _).mono ?_
      rintro e w2 ⟨rfl, x2⟩
      replace q0 := x2.cell q0
      replace q1 := x2.cell q1
      have X2 : Ext w w2 := Ext.trans X1 x2
      go_wp2_with fail
      refine (HTotalArea.out _ X2).mono ?_
      rintro e w3 ⟨rfl, x3⟩
      replace q0 := x3.cell q0
      replace q1 := x3.cell q1
      have X3 : Ext w w3 := Ext.trans X2 x3
      go_wp2
      go_ret
      exact ⟨ret_i HR.out.symm, X3⟩

set_option maxRecDepth 100000 in
set_option maxHeartbeats 4000000 in
theorem impl_SpotArea (A : Option Addr) (n c : Nat) (P : Nat → Nat → Int) (B : Option Addr) (m d : Nat) (L : Nat → Nat → Int) (hnc : n ≤ c) (hcm : c ≤ 9223372036854775807) (hmd : m ≤ d) (hdm : d ≤ 9223372036854775807) (f z x y u : Int) (hf : (-9223372036854775808 ≤ f ∧ f ≤ 9223372036854775807)) (hz : (-9223372036854775808 ≤ z ∧ z ≤ 9223372036854775807)) (w : World) (hr : Recs w 2 A n P) (hs : Recs w 2 B m L) :
    Calls Try.prog 20 #[.agg #[.slice A n c, .slice B m d], .int .i64 f, .int .i64 z, .agg #[.int .i64 x, .int .i64 y, .int .i64 u]] w fun e w' => e = .returned (spotV n P m L f z x y u) ∧ Ext w w' := by
  have q0 : ((w.alloc (.cells #[.slice A n c, .slice B m d] 27)).alloc (.cells #[.int .i64 x, .int .i64 y, .int .i64 u] 42)).cell? ⟨w.heap.size, 0, none⟩ = some (.slice A n c) := by simp [go_sem]
  have q1 : ((w.alloc (.cells #[.slice A n c, .slice B m d] 27)).alloc (.cells #[.int .i64 x, .int .i64 y, .int .i64 u] 42)).cell? ⟨w.heap.size, 1, none⟩ = some (.slice B m d) := by simp [go_sem]
  have s0 : ((w.alloc (.cells #[.slice A n c, .slice B m d] 27)).alloc (.cells #[.int .i64 x, .int .i64 y, .int .i64 u] 42)).cell? ⟨w.heap.size + 1, 0, none⟩ = some (.int .i64 x) := by simp [go_sem]
  have s1 : ((w.alloc (.cells #[.slice A n c, .slice B m d] 27)).alloc (.cells #[.int .i64 x, .int .i64 y, .int .i64 u] 42)).cell? ⟨w.heap.size + 1, 1, none⟩ = some (.int .i64 y) := by simp [go_sem]
  have s2 : ((w.alloc (.cells #[.slice A n c, .slice B m d] 27)).alloc (.cells #[.int .i64 x, .int .i64 y, .int .i64 u] 42)).cell? ⟨w.heap.size + 1, 2, none⟩ = some (.int .i64 u) := by simp [go_sem]
  have HAreaOf : Hid (∀ W, Ext w W → Calls Try.prog 58 #[.agg #[.slice A n c, .slice B m d], .int .i64 f] W fun e w' => e = .returned (.int .i64 (areaV n P m L f)) ∧ Ext W w') := Lib.hid (fun W Z => impl_AreaOf A n c P B m d L hnc hcm hmd hdm f hf W (hr.ext Z) (hs.ext Z))
  have HI := Lib.hid (fun W => within_any z 0 1000 W)
  have HSun := Lib.hid (fun W => impl_SunOk x y u W)
  have har := areaV_rng (n := n) (m := m) (P := P) (L := L) f
  have HV := Lib.hid (show spotV n P m L f z x y u = if (decide (0 ≤ areaV n P m L f) && sunB x y u && inB z 0 1000) = true then .tuple #[.int .i64 (areaV n P m L f * u), .int .i64 y, .bool true] else .tuple #[.int .i64 0, .int .i64 0, .bool false] from rfl)
  generalize areaV n P m L f = a at *
  by_cases ha : a < 0
  · have HR := Lib.hid (show spotV n P m L f z x y u = .tuple #[.int .i64 0, .int .i64 0, .bool false] by rw [HV.out, if_neg (by simp; intro; omega)])
    go_enter Try.func20, Try.ntmps20
    go_wp2_with fail
    refine (HAreaOf.out _ (by repeat (first | exact Ext.refl _ | apply Ext.alloc))).mono ?_
    rintro e w1 ⟨rfl, x1⟩
    replace q0 := x1.cell q0
    replace q1 := x1.cell q1
    replace s0 := x1.cell s0
    replace s1 := x1.cell s1
    replace s2 := x1.cell s2
    have X1 : Ext w w1 := Ext.trans (by repeat (first | exact Ext.refl _ | apply Ext.alloc)) x1
    go_wp2
    go_ret3
    refine ⟨?_, X1⟩
    rw [HR.out]; rfl
  · cases hsun : sunB x y u
    · rw [hsun] at HSun
      have HR := Lib.hid (show spotV n P m L f z x y u = .tuple #[.int .i64 0, .int .i64 0, .bool false] by rw [HV.out, hsun, if_neg (by simp)])
      clear hsun
      go_enter Try.func20, Try.ntmps20
      go_wp2_with fail
      refine (HAreaOf.out _ (by repeat (first | exact Ext.refl _ | apply Ext.alloc))).mono ?_
      rintro e w1 ⟨rfl, x1⟩
      replace q0 := x1.cell q0
      replace q1 := x1.cell q1
      replace s0 := x1.cell s0
      replace s1 := x1.cell s1
      replace s2 := x1.cell s2
      have X1 : Ext w w1 := Ext.trans (by repeat (first | exact Ext.refl _ | apply Ext.alloc)) x1
      go_wp2_with fail
      refine (HSun.out _).mono ?_
      rintro e w2 ⟨rfl, x2⟩
      replace q0 := x2.cell q0
      replace q1 := x2.cell q1
      replace s0 := x2.cell s0
      replace s1 := x2.cell s1
      replace s2 := x2.cell s2
      have X2 : Ext w w2 := Ext.trans X1 x2
      go_wp2
      go_ret3
      refine ⟨?_, X2⟩
      rw [HR.out]; rfl
    · rw [hsun] at HSun
      cases hin : inB z 0 1000
      · rw [hin] at HI
        have HR := Lib.hid (show spotV n P m L f z x y u = .tuple #[.int .i64 0, .int .i64 0, .bool false] by rw [HV.out, hin, if_neg (by simp)])
        clear hin hsun
        go_enter Try.func20, Try.ntmps20
        go_wp2_with fail
        refine (HAreaOf.out _ (by repeat (first | exact Ext.refl _ | apply Ext.alloc))).mono ?_
        rintro e w1 ⟨rfl, x1⟩
        replace q0 := x1.cell q0
        replace q1 := x1.cell q1
        replace s0 := x1.cell s0
        replace s1 := x1.cell s1
        replace s2 := x1.cell s2
        have X1 : Ext w w1 := Ext.trans (by repeat (first | exact Ext.refl _ | apply Ext.alloc)) x1
        go_wp2_with fail
        refine (HSun.out _).mono ?_
        rintro e w2 ⟨rfl, x2⟩
        replace q0 := x2.cell q0
        replace q1 := x2.cell q1
        replace s0 := x2.cell s0
        replace s1 := x2.cell s1
        replace s2 := x2.cell s2
        have X2 : Ext w w2 := Ext.trans X1 x2
        go_wp2_with fail
        refine (HI.out _).mono ?_
        rintro e w3 ⟨rfl, x3⟩
        replace q0 := x3.cell q0
        replace q1 := x3.cell q1
        replace s0 := x3.cell s0
        replace s1 := x3.cell s1
        replace s2 := x3.cell s2
        have X3 : Ext w w3 := Ext.trans X2 x3
        go_wp2
        go_ret3
        refine ⟨?_, X3⟩
        rw [HR.out]; rfl
      · rw [hin] at HI
        have hsr := sunB_rng hsun
        have HR := Lib.hid (show spotV n P m L f z x y u = .tuple #[.int .i64 (a * u), .int .i64 y, .bool true] by rw [HV.out, hin, hsun, if_pos (by simp; omega)])
        have hm := mul_rng (a := a) (p := u) (by omega) (by omega) (by omega) (by omega)
        clear hin hsun
        generalize hyy : a * u = yy at *
        go_enter Try.func20, Try.ntmps20
        go_wp2_with fail
        refine (HAreaOf.out _ (by repeat (first | exact Ext.refl _ | apply Ext.alloc))).mono ?_
        rintro e w1 ⟨rfl, x1⟩
        replace q0 := x1.cell q0
        replace q1 := x1.cell q1
        replace s0 := x1.cell s0
        replace s1 := x1.cell s1
        replace s2 := x1.cell s2
        have X1 : Ext w w1 := Ext.trans (by repeat (first | exact Ext.refl _ | apply Ext.alloc)) x1
        go_wp2_with fail
        refine (HSun.out _).mono ?_
        rintro e w2 ⟨rfl, x2⟩
        replace q0 := x2.cell q0
        replace q1 := x2.cell q1
        replace s0 := x2.cell s0
        replace s1 := x2.cell s1
        replace s2 := x2.cell s2
        have X2 : Ext w w2 := Ext.trans X1 x2
        go_wp2_with fail
        refine (HI.out _).mono ?_
        rintro e w3 ⟨rfl, x3⟩
        replace q0 := x3.cell q0
        replace q1 := x3.cell q1
        replace s0 := x3.cell s0
        replace s1 := x3.cell s1
        replace s2 := x3.cell s2
        have X3 : Ext w w3 := Ext.trans X2 x3
        go_wp2
        first | refine wp_region_gr2 (by kernel_rfl) (by kernel_rfl) ?_ | refine wp_region_gr (by kernel_rfl) (by kernel_rfl) ?_
        repeat (go_big_quiet_step (fail))
        refine wpQuiet_nil ?_
        intro _ hw'
        obtain ⟨gq, hw''⟩ := hw'
        subst hw''
        have X4 := X3.wgr gq
        go_wp2
        go_ret3
        refine ⟨?_, X4⟩
        rw [HR.out]; rfl

set_option maxRecDepth 100000 in
set_option maxHeartbeats 4000000 in
theorem impl_LeastThickness (A : Option Addr) (n c : Nat) (P : Nat → Nat → Int) (B : Option Addr) (m d : Nat) (L : Nat → Nat → Int) (hnc : n ≤ c) (hcm : c ≤ 9223372036854775807) (hmd : m ≤ d) (hdm : d ≤ 9223372036854775807) (f p : Int) (hf : (-9223372036854775808 ≤ f ∧ f ≤ 9223372036854775807)) (hp : (-9223372036854775808 ≤ p ∧ p ≤ 9223372036854775807)) (w : World) (hr : Recs w 2 A n P) (hs : Recs w 2 B m L) :
    Calls Try.prog 27 #[.agg #[.slice A n c, .slice B m d], .int .i64 f, .int .i64 p] w fun e w' => e = .returned (.int .i64 (leastV (loadV n P m L f p))) ∧ Ext w w' := by
  have q0 : (w.alloc (.cells #[.slice A n c, .slice B m d] 27)).cell? ⟨w.heap.size, 0, none⟩ = some (.slice A n c) := by simp [go_sem]
  have q1 : (w.alloc (.cells #[.slice A n c, .slice B m d] 27)).cell? ⟨w.heap.size, 1, none⟩ = some (.slice B m d) := by simp [go_sem]
  have har := loadV_rng (n := n) (m := m) (P := P) (L := L) f p
  generalize hv : loadV n P m L f p = v at *
  have HBears : Hid (∀ W (t : Int) (ht : (-9223372036854775808 ≤ t ∧ t ≤ 9223372036854775807)), Ext w W → Calls Try.prog 28 #[.agg #[.slice A n c, .slice B m d], .int .i64 f, .int .i64 p, .int .i64 t] W fun e w' => e = .returned (.bool (bearB v t)) ∧ Ext W w') := Lib.hid (fun W t ht Z => by have z := impl_BearsLoad A n c P B m d L hnc hcm hmd hdm f p t hf hp ht W (hr.ext Z) (hs.ext Z); rwa [hv] at z)
  have Q0 := Lib.hid q0
  have Q1 := Lib.hid q1
  clear hv q0 q1
  have HV := Lib.hid (show leastV v = if 0 ≤ fdx (fun i => bearB v ((i : Int) + 1)) 20 then fdx (fun i => bearB v ((i : Int) + 1)) 20 + 1 else -1 from rfl)
  go_enter Try.func27, Try.ntmps27
  go_wp2
  go_loopw [7] (fun i wr => ∃ k : Nat, k ≤ 20 ∧ i = .int .i64 ((k : Int) + 1) ∧ Ext (w.alloc (.cells #[.slice A n c, .slice B m d] 27)) wr ∧ ∀ j, j < k → bearB v ((j : Int) + 1) = false) (fun i _ => 22 - (intOf i).toNat)
  case atStart => exact ⟨0, by omega, rfl, Ext.refl _, fun j hj => absurd hj (by omega)⟩
  case round =>
    obtain ⟨k, hk, rfl, X, hall⟩ := hrel
    have HALL := Lib.hid hall
    clear hall
    have q0 := X.cell Q0.out
    have q1 := X.cell Q1.out
    have XW := ((Ext.refl w).alloc (.cells #[.slice A n c, .slice B m d] 27)).trans X
    by_cases hlt : k < 20
    · have HB := Lib.hid (fun W Z => HBears.out W ((k : Int) + 1) (by omega) Z)
      cases hb : bearB v ((k : Int) + 1)
      · have HALL2 : Hid (∀ j, j < k + 1 → bearB v ((j : Int) + 1) = false) := Lib.hid (fun j hj => by
          by_cases e : j = k
          · rw [e]; exact hb
          · exact HALL.out j (by omega))
        rw [hb] at HB
        clear hb
        go_wp2_with fail
        refine (HB.out _ XW).mono ?_
        rintro e w5 ⟨rfl, x5⟩
        go_wp2
        go_roundw
        case rel => exact ⟨k + 1, by omega, by go_num, X.trans x5, HALL2.out⟩
        case measure => simp [intOf]; omega
      · rw [hb] at HB
        have HR := Lib.hid (show leastV v = (k : Int) + 1 by rw [HV.out, fdx_at (j := k) hlt hb HALL.out, if_pos (by omega)])
        clear hb
        go_wp2_with fail
        refine (HB.out _ XW).mono ?_
        rintro e w5 ⟨rfl, x5⟩
        go_wp2
        go_ret
        exact ⟨ret_i HR.out.symm, XW.trans x5⟩
    · obtain rfl : k = 20 := by omega
      have HR := Lib.hid (show leastV v = -1 by rw [HV.out, fdx_none HALL.out, if_neg (by omega)])
      go_wp2
      go_ret
      exact ⟨ret_i HR.out.symm, XW⟩

end Go.Proofs.Ytgmhmlhdiklaaaa

/- SmallS -/
namespace Go.Proofs.Ytgmhmlhdiklaaaa
open Go.RowKit Ring
set_option linter.unusedVariables false
end Go.Proofs.Ytgmhmlhdiklaaaa
