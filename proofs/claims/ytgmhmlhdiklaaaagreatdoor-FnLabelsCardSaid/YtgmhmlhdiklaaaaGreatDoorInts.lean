/-
  The laws' own words on slices of integers: a copy, a test for equality, marks. No conditions.
-/
import Derived.Test.YtgmhmlhdiklaaaaGreatDoorRows
import Derived.Test.YtgmhmlhdiklaaaaGreatDoorKitC
namespace Go.Proofs.YtgmhmlhdiklaaaaGreatDoor
open Go.RowKit
set_option linter.unusedVariables false

theorem int_info : (Tryz.prog.info? 3).map (fun i => (i.zero, i.size, i.bytes)) = some (some (.int .i64 0), 1, 8) := by kernel_rfl
theorem madeInts (n : Nat) : (madeCells (Value.int .i64 0).cells (n * 1)).toList = (tab n fun _ => 0).map (Value.int .i64) := by
  rw [Nat.mul_one]
  have := toList_madeCells_one (.int .i64 0) n
  rw [show (Value.int .i64 0).cells = #[.int .i64 0] from rfl, this]
  apply List.ext_getElem (by simp [tab])
  intro k h1 h2
  simp [tab]
/-- append of one integer, over this program. -/
theorem append_int (w : World) {ops : Array Oper} {rest : List Oper} {o : Oper} {a : Act} {Q : Exit → Act → World → Prop} (hgd : o.guard = none) (s x : Operand)
    (ho : o.op = .call { callee := .builtin .append, args := #[s, x], argTypes := #[29, 29] })
    (base : Nat) (v : Value) (n : Nat) (zs : List Int) (hs : a.eval s = v) (hm : Mine base w 3 v n zs) (z : Int) (b : Nat) (hx : a.eval x = .slice (some ⟨b, 0, none⟩) 1 1) (hc : w.cell? ⟨b, 0, none⟩ = some (.int .i64 z)) (hz64 : I64 z)
    (hn : n ≤ 1000000000000) (hbase : base ≤ w.heap.size)
    (h : ∀ v' w', Mine base w' 3 v' (n + 1) (zs ++ [z]) → w.grownBy w' v.ownBlock → wpList Tryz.prog ops Q rest (a.put o.dst v') w') : wpList Tryz.prog ops Q (o :: rest) a w := by
  obtain ⟨i0, hi, hz0, hz1, hz2⟩ := info_parts int_info
  exact wpList_append_one w hgd s x 29 ho base 3 i0 Tryz.underlying29 hi hz0 hz1 hz2 v n zs hs hm z b hx hc hz64 hn hbase h
def upto (k : Nat) (f : Nat → Nat → Int) (j : Nat) : Int := if j < k then f j 0 else 0
theorem upto_set {n k : Nat} {f : Nat → Nat → Int} (hk : k < n) : (tab n (upto k f)).set k (f k 0) = tab n (upto (k + 1) f) := by
  have := tab_set (f := upto k f) (g := upto (k + 1) f) hk (fun j hj => by
    by_cases e : j = k
    · subst e; simp
    · rw [if_neg e]; unfold upto; by_cases q : j < k
      · rw [if_pos q, if_pos (by omega)]
      · rw [if_neg q, if_neg (by omega)])
  rwa [show upto (k + 1) f k = f k 0 by unfold upto; rw [if_pos (by omega)]] at this
theorem upto_full {n : Nat} {f : Nat → Nat → Int} : tab n (upto n f) = tab n (fun k => f k 0) := by
  apply List.map_congr_left
  intro j hj
  unfold upto
  rw [if_pos (by simpa using hj)]

def marks (k0 : Int) (zs : List Int) (j i : Nat) : Int := if i < j then k0 + i else ix zs i
theorem marks_zero {k0 : Int} {zs : List Int} {n : Nat} (h : zs.length = n) : tab n (marks k0 zs 0) = zs := by
  apply ext_ix (by rw [tab_len, h])
  intro k hk
  rw [tab_len] at hk
  rw [tab_ix hk]; unfold marks; rw [if_neg (by omega)]
theorem marks_set {n k : Nat} {k0 : Int} {zs : List Int} (hk : k < n) : (tab n (marks k0 zs k)).set k (k0 + k) = tab n (marks k0 zs (k + 1)) := by
  have := tab_set (f := marks k0 zs k) (g := marks k0 zs (k + 1)) hk (fun j hj => by
    by_cases e : j = k
    · subst e; simp
    · rw [if_neg e]; unfold marks; by_cases q : j < k
      · rw [if_pos q, if_pos (by omega)]
      · rw [if_neg q, if_neg (by omega)])
  rwa [show marks k0 zs (k + 1) k = k0 + k by unfold marks; rw [if_pos (by omega)]] at this
theorem marks_full {n : Nat} {k0 : Int} {zs : List Int} : tab n (marks k0 zs n) = tab n (fun k => k0 + k) := by
  apply List.map_congr_left
  intro j hj
  unfold marks
  rw [if_pos (by simpa using hj)]

theorem grownBy_setCell {w wr : World} {g : Nat} (h : w.grownBy wr (some g)) (i : Nat) (u : Value) : w.grownBy (wr.setCell ⟨g, i, none⟩ u) (some g) :=
  ⟨h.os, h.tape, h.output, by simpa [World.setCell] using h.size, fun k hk hne => (Below.heap_setCell _ _ u k (by rintro rfl; exact hne rfl)).trans (h.block k hk hne)⟩

/-- A row of the call's own has been written with k0, k0 + 1, .. -/
def PostM (base : Nat) (w : World) (v : Value) (n : Nat) (k0 : Int) (e : Ending) (w' : World) : Prop :=
  e = .returned (.int .i64 (k0 + n)) ∧ Mine base w' 3 v n (tab n fun k => k0 + k) ∧ w.grownBy w' v.ownBlock

end Go.Proofs.YtgmhmlhdiklaaaaGreatDoor
