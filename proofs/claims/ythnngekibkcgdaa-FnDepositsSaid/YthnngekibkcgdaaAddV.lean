/-
  What the adding of a deposit answers; its step in a drawn region. No conditions.
-/
import Derived.Test.YthnngekibkcgdaaDepB
import Derived.Test.YthnngekibkcgdaaDepC
import Derived.Test.YthnngekibkcgdaaMarkDep
import Derived.Deep.RegionLaw
import Derived.Laws.OwnMore
namespace Go.Proofs.Ythnngekibkcgdaa
open Go.RowKit
set_option linter.unusedVariables false

def addZ (n : Nat) (f : Nat → Nat → Int) (x y z : Int) : List Int := flat 3 n f ++ [x, y, z]
def addB (n : Nat) (f : Nat → Nat → Int) (x y z : Int) : Bool := depB n f && depB (n + 1) (fun k j => ix (addZ n f x y z) (k * 3 + j))
def addN (n : Nat) (f : Nat → Nat → Int) (x y z : Int) : Nat := if addB n f x y z = true then n + 1 else n
def addL (n : Nat) (f : Nat → Nat → Int) (x y z : Int) : List Int := if addB n f x y z = true then addZ n f x y z else flat 3 n f
/-- append of one deposit as a step of a region that draws its order. -/
theorem step_append_dep {ops : Array Oper} {o : Oper} {a : Act} {w : World} {K : Act → World → Prop} {Q : Exit → Act → World → Prop} {E : Prop}
    (hgd : o.guard = none) (s x : Operand) (ho : o.op = .call { callee := .builtin .append, args := #[s, x], argTypes := #[24, 24] })
    (base : Nat) (v : Value) (n : Nat) (zs : List Int) (hs : a.eval s = v) (hm : MineS base w 31 3 v n zs) (p q r : Int) (b : Nat) (hx : a.eval x = .slice (some ⟨b, 0, none⟩) 1 1)
    (h0 : w.cell? ⟨b, 0, none⟩ = some (.int .i64 p)) (h1 : w.cell? ⟨b, 1, none⟩ = some (.int .i64 q)) (h2 : w.cell? ⟨b, 2, none⟩ = some (.int .i64 r)) (ip : I64 p) (iq : I64 q) (ir : I64 r)
    (hn : n ≤ 100000000000) (hbase : base ≤ w.heap.size)
    (hK : ∀ v' w', MineS base w' 31 3 v' (n + 1) (zs ++ [p, q, r]) → w.grownBy w' v.ownBlock → K (a.put o.dst v') w') :
    if Region.wanted o (yielded ops a.tmps) = true then Oper.wp Try.prog o a w K Q else E := by
  have hw : Region.wanted o (yielded ops a.tmps) = true := by simp [Region.wanted, hgd]
  rw [if_pos hw]
  obtain ⟨i0, hi, hz0, hz1, hz2⟩ := info_parts infoDeposit
  obtain ⟨v', w', hrun, hown, hg, _, _⟩ := run_append_own_at (P := Try.prog) w base 24 o.type 31 i0 (Value.agg #[.int .i64 0, .int .i64 0, .int .i64 0]) 3 24 Try.underlying24 hi hz0 hz1 hz2 rfl (by decide) v n _ hm.2.1 ⟨b, 0, none⟩ 1 1 [.int .i64 p, .int .i64 q, .int .i64 r] rfl (by
    intro j u hj
    match j, hj with
    | 0, hj => simp at hj; subst hj; simpa [Addr.add] using h0
    | 1, hj => simp at hj; subst hj; simpa [Addr.add] using h1
    | 2, hj => simp at hj; subst hj; simpa [Addr.add] using h2) (by
    intro u hu
    simp at hu
    rcases hu with rfl | rfl | rfl <;> rfl) (by simp only [maxLen]; omega) (by omega) hbase
  unfold Oper.wp
  simp [execOp, ho, resolve, invoke, builtin, hs, hx, hrun, Result.andThen]
  refine hK v' w' ⟨by simp [hm.1]; omega, by simpa using hown, ?_⟩ hg
  intro y hy
  rcases List.mem_append.1 hy with e | e
  · exact hm.2.2 y e
  · simp at e
    rcases e with rfl | rfl | rfl
    · exact ip
    · exact iq
    · exact ir

theorem litS (W : World) : MineS W.heap.size (W.alloc (.cells #[] 31)) 31 3 (.slice (some ⟨W.heap.size, 0, none⟩) 0 0) 0 [] :=
  ⟨rfl, by simpa using World.ownsRow_made (base := W.heap.size) (e := 31) (size := 3) W #[] 0 (Nat.le_refl _) (by simp [maxLen]) (by simp), by simp⟩
theorem litG (W : World) (g base : Nat) (hg : g = W.heap.size) (hb : base ≤ W.heap.size) : MineS base (W.alloc (.cells #[] 31)) 31 3 (.slice (some ⟨g, 0, none⟩) 0 0) 0 [] := by
  subst hg
  exact (litS W).more hb
/-- append of a whole row of deposits to an empty row of the call's own, as a step of a region that draws its order. -/
theorem step_append_deps {ops : Array Oper} {o : Oper} {a : Act} {w : World} {K : Act → World → Prop} {Q : Exit → Act → World → Prop} {E : Prop}
    (hgd : o.guard = none) (s x : Operand) (ho : o.op = .call { callee := .builtin .append, args := #[s, x], argTypes := #[24, 24] })
    (base : Nat) (v : Value) (hs : a.eval s = v) (hm : MineS base w 31 3 v 0 []) (A : Option Addr) (n c : Nat) (f : Nat → Nat → Int) (hx : a.eval x = .slice A n c) (hr : Recs w 3 A n f) (hA : A = none → n = 0 ∧ c = 0)
    (hn : n ≤ 100000000000) (hbase : base ≤ w.heap.size)
    (hK : ∀ v' w', MineS base w' 31 3 v' n (flat 3 n f) → (∀ b, Ext b w → b.heap.size ≤ base → Ext b w') → (∀ k j u, v.ownBlock ≠ some k → w.cell? ⟨k, j, none⟩ = some u → w'.cell? ⟨k, j, none⟩ = some u) → K (a.put o.dst v') w') :
    if Region.wanted o (yielded ops a.tmps) = true then Oper.wp Try.prog o a w K Q else E := by
  have hw : Region.wanted o (yielded ops a.tmps) = true := by simp [Region.wanted, hgd]
  rw [if_pos hw]
  obtain ⟨i0, hi, hz0, hz1, hz2⟩ := info_parts infoDeposit
  have key : ∃ v' w', (Builtin.append_ #[24, 24] o.type #[v, .slice A n c]).run Try.prog w = .ok v' w' ∧ MineS base w' 31 3 v' n (flat 3 n f) ∧ w.grownBy w' v.ownBlock := by
    cases A with
    | none =>
      obtain ⟨rfl, rfl⟩ := hA rfl
      exact ⟨v, w, run_append_owned_none (P := Try.prog) (w := w) base 24 o.type 31 i0 3 Try.underlying24 hi v 0 _ hm.2.1, hm, (Ext.refl w).grownBy _⟩
    | some ad =>
      obtain ⟨v', w', hrun, hown, hg, _, _⟩ := run_append_own_at (P := Try.prog) w base 24 o.type 31 i0 (Value.agg #[.int .i64 0, .int .i64 0, .int .i64 0]) 3 24 Try.underlying24 hi hz0 hz1 hz2 rfl (by decide) v 0 _ hm.2.1 ad n c ((flat 3 n f).map (Value.int .i64)) (by simp [flat_len]) (rcells3 hr rfl) (by
        intro u hu
        obtain ⟨z, _, rfl⟩ := List.mem_map.1 hu
        rfl) (by simp only [maxLen]; omega) (by omega) hbase
      rw [Nat.zero_add] at hown
      exact ⟨v', w', hrun, ⟨flat_len _ _ _, by simpa using hown, flat_bd hr⟩, hg⟩
  obtain ⟨v', w', hrun, h1, hg⟩ := key
  unfold Oper.wp
  simp [execOp, ho, resolve, invoke, builtin, hs, hx, hrun, Result.andThen]
  refine hK v' w' h1 (fun b X hb => hm.fresh X hb hg rfl) (fun k j u hk hc => ?_)
  have hlt := World.block_lt_of_cell? _ _ hc
  have e := hg.block k hlt (fun q => hk q.symm)
  unfold World.cell? at hc ⊢
  rw [e]
  exact hc

end Go.Proofs.Ythnngekibkcgdaa
