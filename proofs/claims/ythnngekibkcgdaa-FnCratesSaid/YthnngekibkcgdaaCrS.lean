/-
  The law's copy of a row of crates, its size, the test for equality of two. No conditions.
-/
import Derived.Test.YthnngekibkcgdaaCrK
import Derived.Test.YthnngekibkcgdaaToCrate
import Derived.Test.YthnngekibkcgdaaInts
import Derived.Deep.RegionHeld3
namespace Go.Proofs.Ythnngekibkcgdaa
open Go.RowKit
set_option linter.unusedVariables false

theorem infoCrate : (Try.prog.info? 44).map (fun i => (i.zero, i.size, i.bytes)) = some (some (Value.agg #[.slice none 0 0, .int .i64 0]), 2, 32) := by kernel_rfl
theorem madeCrate (n : Nat) : (madeCells (Value.agg #[.slice none 0 0, .int .i64 0]).cells (n * 2)).toList = cellsK n (fun _ => .slice none 0 0) (fun _ => 0) := by
  apply List.ext_getElem (by simp [cellsK, madeCells])
  intro q h1 h2
  have h3 : q % 2 = 0 ∨ q % 2 = 1 := by omega
  rcases h3 with h | h <;> simp [madeCells, cellsK, Value.cells, h]
/-- A call hands back a row of crates of its own. -/
def PostK (w : World) (n : Nat) (l : Nat → List Int) (z : Nat → Int) (e : Ending) (w' : World) : Prop :=
  ∃ A c, e = .returned (.slice A n c) ∧ n ≤ c ∧ c ≤ 9223372036854775807 ∧ MineK w.heap.size w' 44 3 (.slice A n c) n l z ∧ Ext w w'
theorem tab_self (l : List Int) : tab l.length (fun i => ix l i) = l := by
  apply ext_ix (tab_len _ _)
  intro k hk
  rw [tab_len] at hk
  rw [tab_ix hk]
/-- The first k of what l, z say, nothing behind. -/
def uptK {α : Type} (d : α) (l : Nat → α) (k : Nat) : Nat → α := fun i => if i < k then l i else d
theorem uptK_put {α : Type} (d : α) (l : Nat → α) (k : Nat) : upd (uptK d l k) k (l k) = uptK d l (k + 1) := by
  funext i
  unfold upd uptK
  by_cases e : i = k
  · rw [if_pos e, if_pos (by omega), e]
  · rw [if_neg e]
    by_cases q : i < k
    · rw [if_pos q, if_pos (by omega)]
    · rw [if_neg q, if_neg (by omega)]
theorem MineK.congr {base : Nat} {w : World} {E F : TypeId} {v : Value} {n : Nat} {l l' : Nat → List Int} {z z' : Nat → Int} (h : MineK base w E F v n l z) (h1 : ∀ k, k < n → l k = l' k ∧ z k = z' k) (h2 : ∀ k, I64 (z' k)) : MineK base w E F v n l' z' := by
  obtain ⟨ps, a1, a2, a3, a4⟩ := h
  refine ⟨ps, by rw [← cellsK_congr (fun k hk => ⟨rfl, (h1 k hk).2⟩)]; exact a1, fun k hk => ?_, h2, a4⟩
  rw [← (h1 k hk).1]
  exact a2 k hk

/-- The size of a row of crates is within the bound, or the answer lies below 0. -/
def PostZK (w : World) (n : Nat) (l : Nat → List Int) (e : Ending) (w' : World) : Prop :=
  ∃ r : Int, e = .returned (.int .i64 r) ∧ (r < 0 ∨ (0 ≤ r ∧ r ≤ 1048576 ∧ n ≤ 1048576 ∧ ∀ k, k < n → (l k).length ≤ 1048576)) ∧ Ext w w'
end Go.Proofs.Ythnngekibkcgdaa
