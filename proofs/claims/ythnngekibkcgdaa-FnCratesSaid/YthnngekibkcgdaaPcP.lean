/-
  What the packing of crates hands back. No conditions.
-/
import Derived.Test.YthnngekibkcgdaaPcC
import Derived.Test.YthnngekibkcgdaaPcK
import Derived.Test.YthnngekibkcgdaaCrateC
namespace Go.Proofs.Ythnngekibkcgdaa
open Go.RowKit Ring
set_option linter.unusedVariables false

/-- A call hands back a row of crates of its own, all of one limit, and b. -/
def PostKB (w : World) (N : Nat) (l : Nat → List Int) (lim : Int) (b : Bool) (e : Ending) (w' : World) : Prop :=
  ∃ A c, e = .returned (.tuple #[.slice A N c, .bool b]) ∧ N ≤ c ∧ c ≤ 9223372036854775807 ∧ MineK w.heap.size w' 44 3 (.slice A N c) N l (fun _ => lim) ∧ Ext w w'
theorem MineK.nil_ (base : Nat) (w : World) (l : Nat → List Int) (z : Nat → Int) (hz : ∀ k, I64 (z k)) : MineK base w 44 3 (.slice none 0 0) 0 l z :=
  ⟨fun _ => .slice none 0 0, World.ownsRow_nil _ _ _ _, fun k hk => absurd hk (by omega), hz, fun j k hj => absurd hj (by omega)⟩
theorem nums_range (n : Nat) : nums (List.range n) = tab n fun i => ((i : Nat) : Int) := rfl
theorem ix_nums_at {f : Nat → Nat → Int} {n i : Nat} (h : i < n) : ∃ k : Nat, k < n ∧ (ordN f n).getD i 0 = k ∧ ix (nums (ordN f n)) i = (k : Int) := ⟨_, ordN_at h, rfl, nums_ix⟩
theorem upd_nums (L : Nat → List Nat) (t : Nat) (r : List Nat) : (fun j => nums (upd L t r j)) = upd (fun j => nums (L j)) t (nums r) := by
  funext j
  unfold upd
  split <;> rfl
/-- The first p by g, the others by h. -/
def mixK (g h : Nat → List Int) (p : Nat) : Nat → List Int := fun j => if j < p then g j else h j
theorem mixK_at (g h : Nat → List Int) (p : Nat) : mixK g h p p = h p := if_neg (by omega)
theorem mixK_0 (g h : Nat → List Int) : mixK g h 0 = h := by funext j; exact if_neg (by omega)
theorem mixK_next (g h : Nat → List Int) (p : Nat) : upd (mixK g h p) p (g p) = mixK g h (p + 1) := by
  funext i
  unfold upd mixK
  by_cases e : i = p
  · rw [if_pos e, if_pos (by omega), e]
  · rw [if_neg e]
    by_cases q : i < p
    · rw [if_pos q, if_pos (by omega)]
    · rw [if_neg q, if_neg (by omega)]
theorem tab_snoc0 (m : Nat) (g : Nat → Int) : tab (m + 1) g = tab m g ++ [g m] := by unfold tab; rw [List.range_succ]; simp

end Go.Proofs.Ythnngekibkcgdaa
