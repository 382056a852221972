/-
  A row of ints copied by append; what hands back a row and a bool. No conditions.
-/
import Derived.Test.YtdnddmeoncekiaaInts
import Derived.Test.YtdnddmeoncekiaaKitR
import Derived.Maps.AppendAt
import Derived.Laws.AppendOwnNone
namespace Go.Proofs.Ytdnddmeoncekiaa
open Go.RowKit
set_option linter.unusedVariables false

/-- A call hands back a row of its own that holds zs, and b. -/
def PostIB (w : World) (E : TypeId) (n : Nat) (zs : List Int) (b : Bool) (e : Ending) (w' : World) : Prop :=
  ∃ A c, e = .returned (.tuple #[.slice A n c, .bool b]) ∧ n ≤ c ∧ c ≤ 9223372036854775807 ∧ Mine w.heap.size w' E (.slice A n c) n zs ∧ Ext w w'
theorem rcells {w : World} {A : Option Addr} {n : Nat} {f : Nat → Nat → Int} (h : Recs w 1 A n f) {ad : Addr} (hA : A = some ad) : ∀ j u, ((tab n fun k => f k 0).map (Value.int .i64))[j]? = some u → w.cell? (ad.add j) = some u := by
  intro j u hj
  have hlt : j < n := by
    have := (List.getElem?_eq_some_iff.1 hj).1
    simpa [tab] using this
  obtain ⟨b, o, hA2, hb, hc⟩ := h.at1 hlt
  rw [hA] at hA2
  injection hA2 with e
  subst e
  rw [List.getElem?_map, List.getElem?_eq_getElem (by simpa [tab] using hlt)] at hj
  simp [tab] at hj
  subst hj
  by_cases h0 : j = 0
  · subst h0; simpa [Addr.add] using hc
  · simpa [Addr.add, h0] using hc
theorem none_cap {base n c : Nat} {w : World} {E : TypeId} {A : Option Addr} {zs : List Int} (h : Mine base w E (.slice A n c) n zs) (hA : A = none) : n = 0 ∧ c = 0 := by
  rcases h.2.1.2 with ⟨hv, _⟩ | ⟨g, cap, cur, hv, _⟩
  · injection hv with e1 e2 e3
    exact ⟨e2, e3⟩
  · injection hv with e1 e2 e3
    rw [hA] at e1
    cases e1
/-- append of a whole row of ints to an empty row of the call's own. -/
theorem append_all (w : World) {ops : Array Oper} {rest : List Oper} {o : Oper} {a : Act} {Q : Exit → Act → World → Prop} (hgd : o.guard = none) (s x : Operand)
    (ho : o.op = .call { callee := .builtin .append, args := #[s, x], argTypes := #[35, 35] })
    (base : Nat) (v : Value) (hs : a.eval s = v) (hm : Mine base w 3 v 0 []) (A : Option Addr) (n c : Nat) (f : Nat → Nat → Int) (hx : a.eval x = .slice A n c) (hr : Recs w 1 A n f) (hA : A = none → n = 0 ∧ c = 0)
    (hn : n ≤ 1000000000000) (hbase : base ≤ w.heap.size)
    (h : ∀ v' w', Mine base w' 3 v' n (tab n fun k => f k 0) → w.grownBy w' v.ownBlock → wpList Try.prog ops Q rest (a.put o.dst v') w') : wpList Try.prog ops Q (o :: rest) a w := by
  obtain ⟨i0, hi, hz0, hz1, hz2⟩ := info_parts int_info
  have hb : ∀ z ∈ (tab n fun k => f k 0), I64 z := by
    intro z hz
    simp [tab] at hz
    obtain ⟨k, _, rfl⟩ := hz
    exact hr.2 k 0
  cases A with
  | none =>
    obtain ⟨rfl, rfl⟩ := hA rfl
    refine wpList_append_own_none hgd s x 35 ho base 3 i0 1 Try.underlying35 hi v 0 _ hs hm.2.1 hx ?_
    exact h v w hm ((Ext.refl w).grownBy _)
  | some ad =>
    refine wpList_append_own_at w hgd s x 35 ho base 3 i0 (.int .i64 0) 1 8 Try.underlying35 hi hz0 hz1 hz2 rfl (by decide) v 0 _ hs hm.2.1 ad n c ((tab n fun k => f k 0).map (Value.int .i64)) hx (by simp [tab]) (rcells hr rfl) ?_ (by simp only [maxLen]; omega) (by omega) hbase ?_
    · intro u hu
      obtain ⟨z, _, rfl⟩ := List.mem_map.1 hu
      rfl
    · intro v' w' hown hg _ _
      rw [Nat.zero_add] at hown
      exact h v' w' ⟨by simp [tab], by simpa using hown, hb⟩ hg

end Go.Proofs.Ytdnddmeoncekiaa
