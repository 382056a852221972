/-
  Rows of deposits: copied, appended to, marked. No conditions.
-/
import Derived.Test.YthnngekibkcgdaaInts
import Derived.Test.YthnngekibkcgdaaKitE
import Derived.Test.YthnngekibkcgdaaKitR
import Derived.Test.YthnngekibkcgdaaToDepositS
import Derived.Maps.AppendAt
import Derived.Laws.AppendOwnNone
namespace Go.Proofs.Ythnngekibkcgdaa
open Go.RowKit
set_option linter.unusedVariables false

/-- A call hands back a row of deposits of its own, and b. -/
def PostSB (w : World) (n : Nat) (zs : List Int) (b : Bool) (e : Ending) (w' : World) : Prop :=
  ∃ A c, e = .returned (.tuple #[.slice A n c, .bool b]) ∧ n ≤ c ∧ c ≤ 9223372036854775807 ∧ MineS w.heap.size w' 31 3 (.slice A n c) n zs ∧ Ext w w'
theorem MineS.fresh {w w' : World} {base : Nat} {E : TypeId} {s : Nat} {v : Value} {n : Nat} {zs : List Int} (h : MineS base w E s v n zs) {a : World} (he : Ext a w) (hb : a.heap.size ≤ base) {row : Option Nat} (hg : w.grownBy w' row) (hr : row = v.ownBlock) : Ext a w' :=
  he.grown hg fun k hk => by rw [hr] at hk; have := h.lt k hk; omega
theorem noneS_cap {base n c s : Nat} {w : World} {E : TypeId} {A : Option Addr} {zs : List Int} (h : MineS base w E s (.slice A n c) n zs) (hA : A = none) : n = 0 ∧ c = 0 := by
  rcases h.2.1.2 with ⟨hv, _⟩ | ⟨g, cap, cur, hv, _⟩
  · injection hv with e1 e2 e3
    exact ⟨e2, e3⟩
  · injection hv with e1 e2 e3
    rw [hA] at e1
    cases e1
theorem rcells3 {w : World} {A : Option Addr} {n : Nat} {f : Nat → Nat → Int} (h : Recs w 3 A n f) {ad : Addr} (hA : A = some ad) : ∀ j u, ((flat 3 n f).map (Value.int .i64))[j]? = some u → w.cell? (ad.add j) = some u := by
  intro j u hj
  have hlt : j < n * 3 := by
    have := (List.getElem?_eq_some_iff.1 hj).1
    simpa [flat, tab] using this
  obtain ⟨b, o, hA2, hb, hc⟩ := h.1 (by omega)
  rw [hA] at hA2
  injection hA2 with e
  subst e
  have hcell := hc (j / 3) (by omega) (j % 3) (by omega)
  rw [List.getElem?_map, List.getElem?_eq_getElem (by simpa [flat, tab] using hlt)] at hj
  simp [flat, tab] at hj
  subst hj
  rw [show o + j / 3 * 3 + j % 3 = o + j by omega] at hcell
  by_cases h0 : j = 0
  · subst h0; simpa [Addr.add] using hcell
  · simpa [Addr.add, h0] using hcell
theorem flat_bd {w : World} {A : Option Addr} {n : Nat} {f : Nat → Nat → Int} (h : Recs w 3 A n f) : ∀ z ∈ flat 3 n f, I64 z := by
  intro z hz
  simp [flat, tab] at hz
  obtain ⟨k, _, rfl⟩ := hz
  exact h.2 _ _
/-- append of a whole row of deposits to an empty row of the call's own. -/
theorem append_deps (w : World) {ops : Array Oper} {rest : List Oper} {o : Oper} {a : Act} {Q : Exit → Act → World → Prop} (hgd : o.guard = none) (s x : Operand)
    (ho : o.op = .call { callee := .builtin .append, args := #[s, x], argTypes := #[24, 24] })
    (base : Nat) (v : Value) (hs : a.eval s = v) (hm : MineS base w 31 3 v 0 []) (A : Option Addr) (n c : Nat) (f : Nat → Nat → Int) (hx : a.eval x = .slice A n c) (hr : Recs w 3 A n f) (hA : A = none → n = 0 ∧ c = 0)
    (hn : n ≤ 100000000000) (hbase : base ≤ w.heap.size)
    (h : ∀ v' w', MineS base w' 31 3 v' n (flat 3 n f) → w.grownBy w' v.ownBlock → wpList Try.prog ops Q rest (a.put o.dst v') w') : wpList Try.prog ops Q (o :: rest) a w := by
  obtain ⟨i0, hi, hz0, hz1, hz2⟩ := info_parts infoDeposit
  cases A with
  | none =>
    obtain ⟨rfl, rfl⟩ := hA rfl
    refine wpList_append_own_none hgd s x 24 ho base 31 i0 3 Try.underlying24 hi v 0 _ hs hm.2.1 hx ?_
    exact h v w hm ((Ext.refl w).grownBy _)
  | some ad =>
    refine wpList_append_own_at w hgd s x 24 ho base 31 i0 (Value.agg #[.int .i64 0, .int .i64 0, .int .i64 0]) 3 24 Try.underlying24 hi hz0 hz1 hz2 rfl (by decide) v 0 _ hs hm.2.1 ad n c ((flat 3 n f).map (Value.int .i64)) hx (by simp [flat_len]) (rcells3 hr rfl) ?_ (by simp only [maxLen]; omega) (by omega) hbase ?_
    · intro u hu
      obtain ⟨z, _, rfl⟩ := List.mem_map.1 hu
      rfl
    · intro v' w' hown hg _ _
      rw [Nat.zero_add] at hown
      exact h v' w' ⟨flat_len _ _ _, by simpa using hown, flat_bd hr⟩ hg
/-- append of one deposit to a row of the call's own. -/
theorem append_dep (w : World) {ops : Array Oper} {rest : List Oper} {o : Oper} {a : Act} {Q : Exit → Act → World → Prop} (hgd : o.guard = none) (s x : Operand)
    (ho : o.op = .call { callee := .builtin .append, args := #[s, x], argTypes := #[24, 24] })
    (base : Nat) (v : Value) (n : Nat) (zs : List Int) (hs : a.eval s = v) (hm : MineS base w 31 3 v n zs) (p q r : Int) (b : Nat) (hx : a.eval x = .slice (some ⟨b, 0, none⟩) 1 1)
    (h0 : w.cell? ⟨b, 0, none⟩ = some (.int .i64 p)) (h1 : w.cell? ⟨b, 1, none⟩ = some (.int .i64 q)) (h2 : w.cell? ⟨b, 2, none⟩ = some (.int .i64 r)) (ip : I64 p) (iq : I64 q) (ir : I64 r)
    (hn : n ≤ 100000000000) (hbase : base ≤ w.heap.size)
    (h : ∀ v' w', MineS base w' 31 3 v' (n + 1) (zs ++ [p, q, r]) → w.grownBy w' v.ownBlock → wpList Try.prog ops Q rest (a.put o.dst v') w') : wpList Try.prog ops Q (o :: rest) a w := by
  obtain ⟨i0, hi, hz0, hz1, hz2⟩ := info_parts infoDeposit
  refine wpList_append_own_at w hgd s x 24 ho base 31 i0 (Value.agg #[.int .i64 0, .int .i64 0, .int .i64 0]) 3 24 Try.underlying24 hi hz0 hz1 hz2 rfl (by decide) v n _ hs hm.2.1 ⟨b, 0, none⟩ 1 1 [.int .i64 p, .int .i64 q, .int .i64 r] hx rfl ?_ ?_ (by simp only [maxLen]; omega) (by omega) hbase ?_
  · intro j u hj
    match j, hj with
    | 0, hj => simp at hj; subst hj; simpa [Addr.add] using h0
    | 1, hj => simp at hj; subst hj; simpa [Addr.add] using h1
    | 2, hj => simp at hj; subst hj; simpa [Addr.add] using h2
  · intro u hu
    simp at hu
    rcases hu with rfl | rfl | rfl <;> rfl
  · intro v' w' hown hg _ _
    refine h v' w' ⟨by simp [hm.1]; omega, by simpa using hown, ?_⟩ hg
    intro y hy
    rcases List.mem_append.1 hy with e | e
    · exact hm.2.2 y e
    · simp at e
      rcases e with rfl | rfl | rfl
      · exact ip
      · exact iq
      · exact ir

set_option maxHeartbeats 1000000 in
theorem copyDeposits_any (A : Option Addr) (n c : Nat) (f : Nat → Nat → Int) (hnc : n ≤ c) (hcm : c ≤ 9223372036854775807) (hA : A = none → n = 0 ∧ c = 0) (hn : n ≤ 1048577) (w : World) (hr : Recs w 3 A n f) :
    Calls Try.prog 23 #[.slice A n c] w (PostS w 31 3 n (flat 3 n f)) := by
  go_enter Try.func23, Try.ntmps23
  go_wp2_with (at_builtin; refine append_deps _ rfl _ _ rfl w.heap.size _ rfl (MineS.nil_ _ _ _ _) A n c f rfl hr hA (by omega) (Nat.le_refl _) ?_; intro v2 w2 hm2 hg2; have he2 := (MineS.nil_ w.heap.size w 31 3).fresh (Ext.refl w) (Nat.le_refl _) hg2 rfl)
  obtain ⟨A', c', rfl, hc1, hc2⟩ := hm2.form
  go_wp2
  go_ret
  exact ⟨A', c', rfl, hc1, hc2, hm2, he2⟩

end Go.Proofs.Ythnngekibkcgdaa
