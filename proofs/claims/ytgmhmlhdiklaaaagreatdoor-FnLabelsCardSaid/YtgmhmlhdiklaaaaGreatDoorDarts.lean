/-
  Darts of a window, their order around a node, the next dart of a face, the rounds. Plain.
-/
import Derived.Test.YtgmhmlhdiklaaaaGreatDoorWinUse
import Derived.Test.YtgmhmlhdiklaaaaGreatDoorRing
import Derived.Test.YtgmhmlhdiklaaaaGreatDoorTurn
namespace Go.Proofs.YtgmhmlhdiklaaaaGreatDoor
open Go.RowKit Ring
set_option linter.unusedVariables false

theorem res2 {fn : Func} {t u : Tmp} (h : fn.results = #[.tmp t, .tmp u]) (tmps : Array Value) (P : Program) (w : World) :
    (results fn tmps).run P w = .ok (.tuple #[tmps.getD t undef, tmps.getD u undef]) w := by simp [results, h]

def tw (d : Nat) : Nat := if d % 2 = 0 then d + 1 else d - 1
theorem tw_lt {d m : Nat} (h : d < 2 * m) : tw d < 2 * m := by unfold tw; split <;> omega
theorem tw_tw (d : Nat) : tw (tw d) = d := by unfold tw; split <;> split <;> omega
theorem tw_half (d : Nat) : tw d / 2 = d / 2 := by unfold tw; split <;> omega
theorem tw_even {d : Nat} (h : d % 2 = 0) : tw d = d + 1 := if_pos h
theorem tw_odd {d : Nat} (h : d % 2 = 1) : tw d = d - 1 := if_neg (by omega)
theorem bits_tw {d : Nat} (h : d < 40) : bits .xor .i64 (d : Int) 1 = ((tw d : Nat) : Int) := by
  have H : ∀ d : Fin 40, bits .xor .i64 ((d.val : Nat) : Int) 1 = ((tw d.val : Nat) : Int) := by decide +kernel
  exact H ⟨d, h⟩

def orgN (L : Nat → Nat → Int) (d : Nat) : Nat := if d % 2 = 0 then fromN L (d / 2) else toN L (d / 2)
def endN (L : Nat → Nat → Int) (d : Nat) : Nat := orgN L (tw d)
/-- What the program reads as a dart's beginning. -/
def orgI (L : Nat → Nat → Int) (d : Nat) : Int := if d % 2 = 0 then L (d / 2) 0 else L (d / 2) 1

/-- All leads lie in the range of the nodes, and each goes up. -/
def Ends (n m : Nat) (L : Nat → Nat → Int) : Prop := ∀ k, k < m → L k 0 = (fromN L k : Nat) ∧ L k 1 = (toN L k : Nat) ∧ fromN L k < toN L k ∧ toN L k < n
theorem orgI_eq {n m : Nat} {L : Nat → Nat → Int} (h : Ends n m L) {d : Nat} (hd : d < 2 * m) : orgI L d = (orgN L d : Nat) := by
  have := h (d / 2) (by omega)
  unfold orgI orgN
  split <;> omega
theorem orgN_lt {n m : Nat} {L : Nat → Nat → Int} (h : Ends n m L) {d : Nat} (hd : d < 2 * m) : orgN L d < n := by
  have := h (d / 2) (by omega)
  unfold orgN
  split <;> omega
theorem org_ne {n m : Nat} {L : Nat → Nat → Int} (h : Ends n m L) {d : Nat} (hd : d < 2 * m) : orgN L (tw d) ≠ orgN L d := by
  have := h (d / 2) (by omega)
  unfold orgN
  rw [tw_half]
  unfold tw
  rcases Nat.mod_two_eq_zero_or_one d with q | q
  · have q2 : ¬ (d + 1) % 2 = 0 := by omega
    simp only [if_pos q, if_neg q2]; omega
  · have q1 : ¬ d % 2 = 0 := by omega
    have q2 : (d - 1) % 2 = 0 := by omega
    simp only [if_neg q1, if_pos q2]; omega
theorem endN_lt {n m : Nat} {L : Nat → Nat → Int} (h : Ends n m L) {d : Nat} (hd : d < 2 * m) : endN L d < n := orgN_lt h (tw_lt hd)

def hpV (a0 a1 b0 b1 : Int) : Int := if a1 < b1 ∨ b1 = a1 ∧ a0 < b0 then 0 else 1
theorem hpV_bd (a0 a1 b0 b1 : Int) : hpV a0 a1 b0 b1 = 0 ∨ hpV a0 a1 b0 b1 = 1 := by unfold hpV; split <;> simp
def befV (a0 a1 b0 b1 c0 c1 : Int) : Bool := decide (hpV a0 a1 b0 b1 < hpV a0 a1 c0 c1) || (decide (hpV a0 a1 b0 b1 = hpV a0 a1 c0 c1) && decide (0 < trn a0 a1 b0 b1 c0 c1))
/-- Does the dart d come before the dart e around the node k? -/
def ltD (P L : Nat → Nat → Int) (k d e : Nat) : Bool := befV (P k 0) (P k 1) (P (endN L d) 0) (P (endN L d) 1) (P (endN L e) 0) (P (endN L e) 1)
def atN (L : Nat → Nat → Int) (k M : Nat) : List Nat := (List.range M).filter fun d => decide (orgN L d = k)
theorem atN_mem {L : Nat → Nat → Int} {k M d : Nat} : d ∈ atN L k M ↔ d < M ∧ orgN L d = k := by simp [atN]
theorem atN_yes {L : Nat → Nat → Int} {k M : Nat} (h : orgN L M = k) : atN L k (M + 1) = atN L k M ++ [M] := by simp [atN, List.range_succ, List.filter_append, h]
theorem atN_no {L : Nat → Nat → Int} {k M : Nat} (h : orgN L M ≠ k) : atN L k (M + 1) = atN L k M := by simp [atN, List.range_succ, List.filter_append, h]
theorem atN_nodup (L : Nat → Nat → Int) (k M : Nat) : (atN L k M).Nodup := List.Nodup.sublist List.filter_sublist List.nodup_range
/-- The darts at a node in their order. -/
def arr (P L : Nat → Nat → Int) (m k : Nat) : List Nat := srt (ltD P L k) (atN L k (2 * m))
section
variable {P L : Nat → Nat → Int} {n m : Nat}
theorem arr_mem {k d : Nat} : d ∈ arr P L m k ↔ d < 2 * m ∧ orgN L d = k := (srt_mem _ _ _).trans atN_mem
theorem arr_nodup (k : Nat) : (arr P L m k).Nodup := srt_nodup _ (atN_nodup L k (2 * m))
theorem arr_lt {k d : Nat} (h : d ∈ arr P L m k) : d < 2 * m := (arr_mem.1 h).1
theorem arr_self {d : Nat} (hd : d < 2 * m) : d ∈ arr P L m (orgN L d) := arr_mem.2 ⟨hd, rfl⟩
/-- The next dart of the face to the left. -/
def nxt (P L : Nat → Nat → Int) (m d : Nat) : Nat := prd (arr P L m (endN L d)) (tw d)
theorem nxt_mem {d : Nat} (hd : d < 2 * m) : nxt P L m d ∈ arr P L m (endN L d) := prd_mem (arr_self (tw_lt hd))
theorem nxt_lt {d : Nat} (hd : d < 2 * m) : nxt P L m d < 2 * m := arr_lt (nxt_mem hd)
theorem nxt_org {d : Nat} (hd : d < 2 * m) : orgN L (nxt P L m d) = endN L d := (arr_mem.1 (nxt_mem (P := P) hd)).2
theorem nxt_bij (P L : Nat → Nat → Int) (m : Nat) : Bij (nxt P L m) (2 * m) := by
  refine ⟨fun d hd => nxt_lt hd, fun d e hd he h => ?_⟩
  have h1 := nxt_org (P := P) (L := L) hd
  have h2 := nxt_org (P := P) (L := L) he
  rw [h] at h1
  have h3 : endN L d = endN L e := h1.symm.trans h2
  unfold nxt at h
  rw [← h3] at h
  have h4 := prd_inj (arr_nodup _) (arr_self (tw_lt hd)) (by rw [show orgN L (tw d) = endN L d from rfl, h3]; exact arr_self (tw_lt he)) h
  have := congrArg tw h4
  rwa [tw_tw, tw_tw] at this
theorem nxt_ne (h : Ends n m L) {d : Nat} (hd : d < 2 * m) : nxt P L m d ≠ d := by
  intro e
  have h1 := nxt_org (P := P) (L := L) hd
  rw [e] at h1
  exact org_ne h hd h1.symm
/-- The faces: rounds of darts. -/
def fcs (P L : Nat → Nat → Int) (m : Nat) : List (List Nat) := rnds (nxt P L m) (2 * m) (2 * m)
theorem fcs_few (h : Ends n m L) : (fcs P L m).length ≤ m := by
  have := rnds_few (nxt_bij P L m) (fun d hd => nxt_ne h hd) (d := 2 * m) (Nat.le_refl _)
  unfold fcs
  omega
theorem fcs_lt {r : List Nat} (hr : r ∈ fcs P L m) {d : Nat} (hd : d ∈ r) : d < 2 * m := by
  obtain ⟨_, h2, _⟩ := rnds_ok (nxt_bij P L m) (2 * m) (Nat.le_refl _)
  exact h2 d (List.mem_flatten.2 ⟨r, hr, hd⟩)
theorem fcs_len {r : List Nat} (hr : r ∈ fcs P L m) : 1 ≤ r.length ∧ r.length ≤ 2 * m := by
  obtain ⟨e, he, rfl⟩ := rnds_mem hr
  rw [rnd_len]
  exact ⟨per_pos _ _ _, per_le (nxt_bij P L m) he⟩
theorem fcs_all {d : Nat} (hd : d < 2 * m) : d ∈ (fcs P L m).flatten := (rnds_ok (nxt_bij P L m) (2 * m) (Nat.le_refl _)).2.2.2 d hd
theorem fcs_nodup : (fcs P L m).flatten.Nodup := (rnds_ok (nxt_bij P L m) (2 * m) (Nat.le_refl _)).1
theorem fcs_some (hm : 0 < m) : 0 < (fcs P L m).length := by
  have h := fcs_all (P := P) (L := L) (d := 0) (m := m) (by omega)
  rcases Nat.eq_zero_or_pos (fcs P L m).length with g | g
  · rw [List.length_eq_zero_iff.1 g] at h
    cases h
  · exact g
end

end Go.Proofs.YtgmhmlhdiklaaaaGreatDoor
