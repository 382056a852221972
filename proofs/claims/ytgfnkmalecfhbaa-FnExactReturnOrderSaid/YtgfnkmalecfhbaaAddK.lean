/-
  Words for the law of added deposits. No conditions.
-/
import Derived.Test.YtgfnkmalecfhbaaAddV
namespace Go.Proofs.Ytgfnkmalecfhbaa
open Go.RowKit
set_option linter.unusedVariables false

theorem cell_of_dep {w w' : World} {k o : Nat} (h : w'.heap[k]? = w.heap[k]?) : w'.cell? ⟨k, o, none⟩ = w.cell? ⟨k, o, none⟩ := by
  unfold World.cell?
  rw [h]
theorem MineS.apartD {B base : Nat} {w : World} {E : TypeId} {s : Nat} {v v' : Value} {n : Nat} {zs : List Int} (h : MineS base w E s v' n zs) (hB : B ≤ base) (o : Old B v) : v.ownBlock = none ∨ v.ownBlock ≠ v'.ownBlock := by
  by_cases q : v.ownBlock = none
  · exact .inl q
  · right
    intro e
    obtain ⟨k, hk⟩ := Option.ne_none_iff_exists'.1 q
    have h1 := o k hk
    have h2 := h.lt k (by rw [← e]; exact hk)
    omega
theorem MineS.apartE {B base : Nat} {w : World} {E : TypeId} {s : Nat} {v v' : Value} {n : Nat} {zs : List Int} (h : MineS base w E s v' n zs) (hB : B ≤ base) (o : Old B v) : v'.ownBlock = none ∨ v'.ownBlock ≠ v.ownBlock := by
  by_cases q : v'.ownBlock = none
  · exact .inl q
  · right
    intro e
    obtain ⟨k, hk⟩ := Option.ne_none_iff_exists'.1 q
    have h1 := h.lt k hk
    have h2 := o k (by rw [← e]; exact hk)
    omega
theorem addN_le {n : Nat} {f : Nat → Nat → Int} {x y z : Int} : addN n f x y z ≤ n + 1 := by
  unfold addN; split <;> omega

end Go.Proofs.Ytgfnkmalecfhbaa
