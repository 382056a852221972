/-
  What the small functions over areas answer. Plain.
-/
import Derived.Test.YtgmhmlhdiklaaaaGreatDoorAreM
namespace Go.Proofs.YtgmhmlhdiklaaaaGreatDoor
open Go.RowKit Ring
set_option linter.unusedVariables false

theorem res3 {fn : Func} {t u v : Tmp} (h : fn.results = #[.tmp t, .tmp u, .tmp v]) (tmps : Array Value) (P : Program) (w : World) :
    (results fn tmps).run P w = .ok (.tuple #[tmps.getD t undef, tmps.getD u undef, tmps.getD v undef]) w := by simp [results, h]
theorem ret_b {a b : Bool} (h : a = b) : Ending.returned (.bool a) = .returned (.bool b) := by rw [h]
theorem ret_v {a b : Value} (h : a = b) : Ending.returned a = .returned b := by rw [h]
section
variable (n : Nat) (P : Nat → Nat → Int) (m : Nat) (L : Nat → Nat → Int)
def loadV (f p : Int) : Int := if (decide (0 ≤ areaV n P m L f) && inB p 0 1000) = true then areaV n P m L f * p else -1
def bearB (v t : Int) : Bool := decide (0 ≤ v) && inB t 1 20 && decide (v ≤ 500 * t * t)
def leastV (v : Int) : Int := if 0 ≤ fdx (fun i => bearB v ((i : Int) + 1)) 20 then fdx (fun i => bearB v ((i : Int) + 1)) 20 + 1 else -1
def glassV (t : Int) : Int := if (wholeB n P m L && inB t 1 20) = true then totalV n P m L * t else -1
def histB (k : Nat) (h : Nat → Nat → Int) : Bool := wholeB n P m L && decide ((k : Int) = ((facesV n P m L).length : Nat)) && allB k (fun i => inB (h i 0) 0 3000)
end
section
variable {n m : Nat} {P L : Nat → Nat → Int}
theorem mul_rng {a p : Int} (h1 : 0 ≤ a) (h2 : a ≤ 16000) (h3 : 0 ≤ p) (h4 : p ≤ 1000) : 0 ≤ a * p ∧ a * p ≤ 16000000 := by
  have h5 := Int.mul_nonneg h1 h3
  have h6 : a * p ≤ 16000 * 1000 := Int.mul_le_mul h2 h4 h3 (by omega)
  omega
theorem loadV_rng (f p : Int) : -1 ≤ loadV n P m L f p ∧ loadV n P m L f p ≤ 16000000 := by
  unfold loadV
  split
  · rename_i h
    rw [Bool.and_eq_true] at h
    have h1 := inB_of h.2
    have h2 := areaV_rng (n := n) (m := m) (P := P) (L := L) f
    have h3 : 0 ≤ areaV n P m L f := by simpa using h.1
    have := mul_rng (a := areaV n P m L f) (p := p) h3 (by omega) (by omega) (by omega)
    omega
  · omega
theorem totalV_rng : -1 ≤ totalV n P m L ∧ totalV n P m L ≤ 16000 := areaV_rng _
theorem glassV_rng (t : Int) : -20 ≤ glassV n P m L t ∧ glassV n P m L t ≤ 320000 := by
  unfold glassV
  split
  · rename_i h
    rw [Bool.and_eq_true] at h
    have h1 := inB_of h.2
    have h2 := totalV_rng (n := n) (m := m) (P := P) (L := L)
    rcases Int.lt_or_le (totalV n P m L) 0 with g | g
    · have e : totalV n P m L = -1 := by omega
      rw [e]; omega
    · have h5 := Int.mul_nonneg g (show 0 ≤ t by omega)
      have h6 : totalV n P m L * t ≤ 16000 * 20 := Int.mul_le_mul h2.2 (by omega) (by omega) (by omega)
      omega
  · omega
theorem sq_rng {t : Int} (h1 : 1 ≤ t) (h2 : t ≤ 20) : 0 ≤ 500 * t * t ∧ 500 * t * t ≤ 200000 := by
  have h5 := Int.mul_nonneg (a := 500 * t) (b := t) (by omega) (by omega)
  have h6 : 500 * t * t ≤ 10000 * 20 := Int.mul_le_mul (by omega) h2 (by omega) (by omega)
  omega
end

def spotV (n : Nat) (P : Nat → Nat → Int) (m : Nat) (L : Nat → Nat → Int) (f z x y u : Int) : Value := if (decide (0 ≤ areaV n P m L f) && sunB x y u && inB z 0 1000) = true then .tuple #[.int .i64 (areaV n P m L f * u), .int .i64 y, .bool true] else .tuple #[.int .i64 0, .int .i64 0, .bool false]
theorem spotV_form (n : Nat) (P : Nat → Nat → Int) (m : Nat) (L : Nat → Nat → Int) (f z x y u : Int) : ∃ a b : Int, ∃ c : Bool, spotV n P m L f z x y u = .tuple #[.int .i64 a, .int .i64 b, .bool c] := by
  unfold spotV
  split
  · exact ⟨_, _, _, rfl⟩
  · exact ⟨_, _, _, rfl⟩
theorem sunB_rng {x y u : Int} (h : sunB x y u = true) : (-1000 ≤ x ∧ x ≤ 1000) ∧ (1 ≤ y ∧ y ≤ 1000) ∧ 1 ≤ u ∧ u ≤ 100 := by
  unfold sunB at h
  rw [Bool.and_eq_true, Bool.and_eq_true] at h
  exact ⟨inB_of h.1.1, inB_of h.1.2, inB_of h.2⟩

end Go.Proofs.YtgmhmlhdiklaaaaGreatDoor
