/-
  A row of crates beside a row of ints that grows along with it ('MineX': the blocks are apart). No conditions.
-/
import Derived.Test.YthnngekibkcgdaaCrS
import Derived.Test.YthnngekibkcgdaaOutK
namespace Go.Proofs.Ythnngekibkcgdaa
open Go.RowKit
set_option linter.unusedVariables false

/-- A row of crates of the call's own that lies apart from the block S. -/
def MineX (base : Nat) (w : World) (v : Value) (n : Nat) (l : Nat → List Int) (z : Nat → Int) (S : Option Nat) : Prop :=
  ∃ ps : Nat → Value, w.ownsRow base 44 2 v n (cellsK n ps z) ∧ (∀ k, k < n → Mine base w 3 (ps k) (l k).length (l k) ∧ Apart (ps k).ownBlock v.ownBlock ∧ Apart v.ownBlock (ps k).ownBlock) ∧ (∀ k, I64 (z k)) ∧ (∀ j k, j < n → k < n → j ≠ k → Apart (ps j).ownBlock (ps k).ownBlock) ∧ Apart v.ownBlock S ∧ ∀ k, k < n → Apart (ps k).ownBlock S
theorem grownBy_after {a b c : World} {r : Option Nat} (X : Ext a b) (h : b.grownBy c r) : a.grownBy c r :=
  ⟨h.os.trans X.below.os, h.tape.trans X.below.tape, h.output.trans X.below.output, Nat.le_trans X.size h.size, fun k hk hne => (h.block k (Nat.lt_of_lt_of_le hk X.size) hne).trans (X.below.block k hk)⟩
theorem Apart.symm {a b : Option Nat} (h : Apart a b) : Apart b a := by
  rcases h with h | h
  · by_cases q : b = none
    · exact .inl q
    · right; rw [h]; exact q
  · by_cases q : b = none
    · exact .inl q
    · exact .inr fun e => h e.symm
theorem Apart.of_lt {a : Option Nat} {N : Nat} (h : ∀ b, a = some b → b < N) : Apart a (some N) := by
  by_cases q : a = none
  · exact .inl q
  · right
    intro e
    have := h N e
    omega
theorem Apart.of_le {a c : Option Nat} {N : Nat} (h : ∀ b, a = some b → b < N) (h2 : ∀ b, c = some b → N ≤ b) : Apart a c := by
  by_cases q : a = none
  · exact .inl q
  · right
    intro e
    obtain ⟨b, hb⟩ := Option.ne_none_iff_exists'.1 q
    have := h b hb
    have := h2 b (by rw [← e]; exact hb)
    omega
section
variable {base : Nat} {w w' : World} {v : Value} {n : Nat} {l : Nat → List Int} {z : Nat → Int} {S : Option Nat}
theorem MineX.apartS (h : MineX base w v n l z S) : Apart S v.ownBlock := by
  obtain ⟨ps, h1, h2, h3, h4, h5, h6⟩ := h
  exact h5.symm
theorem MineX.toK (h : MineX base w v n l z S) : MineK base w 44 3 v n l z := by
  obtain ⟨ps, h1, h2, h3, h4, _⟩ := h
  exact ⟨ps, h1, h2, h3, h4⟩
theorem MineX.nil_ (base : Nat) (w : World) (l : Nat → List Int) (z : Nat → Int) (hz : ∀ k, I64 (z k)) (S : Option Nat) : MineX base w (.slice none 0 0) 0 l z S :=
  ⟨fun _ => .slice none 0 0, World.ownsRow_nil _ _ _ _, fun k hk => absurd hk (by omega), hz, fun j k hj => absurd hj (by omega), .inl rfl, fun k hk => absurd hk (by omega)⟩
theorem MineX.kept {row S' : Option Nat} (h : MineX base w v n l z S) (hg : w.grownBy w' row) (hr : row = none ∨ row = S) (hS : S' = S ∨ ∀ b, S' = some b → w.heap.size ≤ b) : MineX base w' v n l z S' := by
  obtain ⟨ps, h1, h2, h3, h4, h5, h6⟩ := h
  have ne : ∀ u : Value, Apart u.ownBlock S → u.ownBlock = none ∨ u.ownBlock ≠ row := by
    intro u hu
    rcases hr with e | e
    · rw [e]; by_cases q : u.ownBlock = none
      · exact .inl q
      · exact .inr q
    · rw [e]; exact hu
  have ap : ∀ u : Value, (∀ k, u.ownBlock = some k → base ≤ k ∧ k < w.heap.size) → Apart u.ownBlock S → Apart u.ownBlock S' := by
    intro u hl hu
    rcases hS with e | e
    · rw [e]; exact hu
    · exact Apart.of_le (fun b hb => (hl b hb).2) e
  exact ⟨ps, h1.kept hg (ne v h5), fun k hk => ⟨(h2 k hk).1.kept hg (ne _ (h6 k hk)), (h2 k hk).2⟩, h3, h4, ap v h1.lt h5, fun k hk => ap _ (h2 k hk).1.lt (h6 k hk)⟩
theorem MineX.ext (h : MineX base w v n l z S) (X : Ext w w') : MineX base w' v n l z S := h.kept (X.grownBy none) (.inl rfl) (.inl rfl)
theorem MineX.form (h : MineX base w v n l z S) : ∃ A c, v = .slice A n c ∧ n ≤ c ∧ c ≤ 9223372036854775807 := h.toK.form
theorem MineX.lt (h : MineX base w v n l z S) : ∀ k, v.ownBlock = some k → base ≤ k ∧ k < w.heap.size := by
  obtain ⟨ps, h1, _⟩ := h
  exact h1.lt
theorem MineX.some_ {A : Option Addr} {c : Nat} (h : MineX base w (.slice A n c) n l z S) (hn : 0 < n) : ∃ g, A = some ⟨g, 0, none⟩ := h.toK.some_ hn
/-- The panes of crate k: where they lie, and what holds when they have been appended to and stored again. -/
theorem MineX.row {g c k : Nat} (h : MineX base w (.slice (some ⟨g, 0, none⟩) n c) n l z S) (hk : k < n) (hS : ∀ b, S = some b → b < w.heap.size) :
    ∃ pv, w.cell? ⟨g, k * 2, none⟩ = some pv ∧ w.cell? ⟨g, k * 2 + 1, none⟩ = some (.int .i64 (z k)) ∧ w.frozen? ⟨g, k * 2, none⟩ = false ∧ Mine base w 3 pv (l k).length (l k) ∧ base ≤ g ∧ g < w.heap.size ∧ Apart S pv.ownBlock ∧ Apart S (some g) ∧
      ∀ (w' : World) (pv' : Value) (l' : List Int), w.grownBy w' pv.ownBlock → Mine base w' 3 pv' l'.length l' → (pv'.ownBlock = pv.ownBlock ∨ ∀ b, pv'.ownBlock = some b → w.heap.size ≤ b) →
        w'.cell? ⟨g, k * 2, none⟩ = some pv ∧ w'.frozen? ⟨g, k * 2, none⟩ = false ∧ MineX base (w'.setCell ⟨g, k * 2, none⟩ pv') (.slice (some ⟨g, 0, none⟩) n c) n (upd l k l') z S := by
  obtain ⟨ps, h1, h2, h3, h4, h5, h6⟩ := h
  have hlt := h1.lt g rfl
  refine ⟨ps k, by rw [h1.cellAt _ (by omega), cellsK_0 hk], by rw [h1.cellAt _ (by omega), cellsK_1 hk], h1.frozenAt _, (h2 k hk).1, hlt.1, hlt.2, (h6 k hk).symm, Apart.symm h5, ?_⟩
  intro w' pv' l' hg hm hpv
  have b1 : w'.ownsRow base 44 2 (.slice (some ⟨g, 0, none⟩) n c) n (cellsK n ps z) := h1.kept hg (h2 k hk).2.2
  have b2 : ∀ j, j < n → j ≠ k → Mine base w' 3 (ps j) (l j).length (l j) := fun j hj hjk => (h2 j hj).1.kept hg (h4 j k hj hk hjk)
  have hpg : Apart pv'.ownBlock (some g) := by
    rcases hpv with e | e
    · rw [e]; exact (h2 k hk).2.1
    · exact (Apart.of_le (a := some g) (fun b hb => by injection hb with hb; omega) e).symm
  have hpS : Apart pv'.ownBlock S := by
    rcases hpv with e | e
    · rw [e]; exact h6 k hk
    · exact (Apart.of_le hS e).symm
  have hpj : ∀ j, j < n → j ≠ k → Apart (ps j).ownBlock pv'.ownBlock := by
    intro j hj hjk
    rcases hpv with e | e
    · rw [e]; exact h4 j k hj hk hjk
    · exact Apart.of_le (fun b hb => ((h2 j hj).1.lt b hb).2) e
  have s0 := b1.stored (k * 2) pv'
  rw [cellsK_set0] at s0
  refine ⟨by rw [b1.cellAt _ (by omega), cellsK_0 hk], b1.frozenAt _, upd ps k pv', s0.1, fun j hj => ?_, h3, fun i j hi hj hij => ?_, h5, fun j hj => ?_⟩
  · by_cases q : j = k
    · subst q
      rw [upd_at, upd_at]
      exact ⟨hm.kept s0.2 hpg, hpg, hpg.symm⟩
    · rw [upd_ne q, upd_ne q]
      exact ⟨(b2 j hj q).kept s0.2 (h2 j hj).2.1, (h2 j hj).2⟩
  · by_cases qi : i = k
    · subst qi
      rw [upd_at, upd_ne (Ne.symm hij)]
      exact (hpj j hj (Ne.symm hij)).symm
    · by_cases qj : j = k
      · subst qj
        rw [upd_at, upd_ne hij]
        exact hpj i hi hij
      · rw [upd_ne qi, upd_ne qj]
        exact h4 i j hi hj hij
  · by_cases q : j = k
    · subst q; rw [upd_at]; exact hpS
    · rw [upd_ne q]; exact h6 j hj
end
/-- append of a crate without panes. -/
theorem append_crate (w : World) {ops : Array Oper} {rest : List Oper} {o : Oper} {a : Act} {Q : Exit → Act → World → Prop} (hgd : o.guard = none) (s x : Operand)
    (ho : o.op = .call { callee := .builtin .append, args := #[s, x], argTypes := #[38, 38] })
    (base : Nat) (v : Value) (n : Nat) (l : Nat → List Int) (lim : Int) (S : Option Nat) (hs : a.eval s = v) (hm : MineX base w v n l (fun _ => lim) S) (hl : l n = []) (b : Nat) (hx : a.eval x = .slice (some ⟨b, 0, none⟩) 1 1)
    (h0 : w.cell? ⟨b, 0, none⟩ = some (.slice none 0 0)) (h1 : w.cell? ⟨b, 1, none⟩ = some (.int .i64 lim)) (hS : ∀ b, S = some b → b < w.heap.size)
    (hn : n ≤ 100000000000) (hbase : base ≤ w.heap.size)
    (h : ∀ v' w', MineX base w' v' (n + 1) l (fun _ => lim) S → w.grownBy w' v.ownBlock → wpList Try.prog ops Q rest (a.put o.dst v') w') : wpList Try.prog ops Q (o :: rest) a w := by
  obtain ⟨i0, hi, hz0, hz1, hz2⟩ := info_parts infoCrate
  obtain ⟨ps, a1, a2, a3, a4, a5, a6⟩ := hm
  refine wpList_append_own_at w hgd s x 38 ho base 44 i0 (Value.agg #[.slice none 0 0, .int .i64 0]) 2 32 Try.underlying38 hi hz0 hz1 hz2 rfl (by decide) v n _ hs a1 ⟨b, 0, none⟩ 1 1 [.slice none 0 0, .int .i64 lim] hx rfl ?_ ?_ (by simp only [maxLen]; omega) (by omega) hbase ?_
  · intro j u hj
    match j, hj with
    | 0, hj => simp at hj; subst hj; simpa [Addr.add] using h0
    | 1, hj => simp at hj; subst hj; simpa [Addr.add] using h1
  · intro u hu
    simp at hu
    rcases hu with rfl | rfl <;> rfl
  · intro v' w' hown hg _ hat
    have hA : ∀ u : Value, (∀ k, u.ownBlock = some k → base ≤ k ∧ k < w.heap.size) → Apart u.ownBlock v.ownBlock → Apart u.ownBlock v'.ownBlock := by
      intro u hu hap
      rcases hat with e | e
      · rw [e]; exact hap
      · rw [e]; exact Apart.of_lt fun b hb => (hu b hb).2
    refine h v' w' ⟨upd ps n (.slice none 0 0), ?_, fun k hk => ?_, a3, fun i j hi hj hij => ?_, ?_, fun k hk => ?_⟩ hg
    · have e : cellsK (n + 1) (upd ps n (.slice none 0 0)) (fun _ => lim) = cellsK n ps (fun _ => lim) ++ [.slice none 0 0, .int .i64 lim] := by
        rw [cellsK_snoc, upd_at, cellsK_congr (ps' := ps) (z' := fun _ => lim) fun k hk => ⟨upd_ne (by omega), rfl⟩]
      rw [e]
      simpa using hown
    · by_cases q : k = n
      · subst q
        rw [upd_at, hl]
        exact ⟨Mine.nil_ _ _ _, .inl rfl, Apart.symm (.inl rfl)⟩
      · rw [upd_ne q]
        have hk2 : k < n := by omega
        have hap := hA _ (a2 k hk2).1.lt (a2 k hk2).2.1
        exact ⟨(a2 k hk2).1.kept hg (a2 k hk2).2.1, hap, hap.symm⟩
    · by_cases qi : i = n
      · subst qi; rw [upd_at]; exact .inl rfl
      · by_cases qj : j = n
        · subst qj; rw [upd_at]; exact Apart.symm (.inl rfl)
        · rw [upd_ne qi, upd_ne qj]; exact a4 i j (by omega) (by omega) hij
    · rcases hat with e | e
      · rw [e]; exact a5
      · rw [e]; exact (Apart.of_lt hS).symm
    · by_cases q : k = n
      · subst q; rw [upd_at]; exact .inl rfl
      · rw [upd_ne q]; exact a6 k (by omega)
/-- append of one int to a row of the call's own, and where the row lies then. -/
theorem append_int_at (w : World) {ops : Array Oper} {rest : List Oper} {o : Oper} {a : Act} {Q : Exit → Act → World → Prop} (hgd : o.guard = none) (s x : Operand)
    (ho : o.op = .call { callee := .builtin .append, args := #[s, x], argTypes := #[26, 26] })
    (base : Nat) (v : Value) (n : Nat) (zs : List Int) (hs : a.eval s = v) (hm : Mine base w 3 v n zs) (z : Int) (b : Nat) (hx : a.eval x = .slice (some ⟨b, 0, none⟩) 1 1) (hc : w.cell? ⟨b, 0, none⟩ = some (.int .i64 z)) (hz64 : I64 z)
    (hn : n ≤ 1000000000000) (hbase : base ≤ w.heap.size)
    (h : ∀ v' w', Mine base w' 3 v' (n + 1) (zs ++ [z]) → w.grownBy w' v.ownBlock → (v'.ownBlock = v.ownBlock ∨ v'.ownBlock = some w.heap.size) → wpList Try.prog ops Q rest (a.put o.dst v') w') : wpList Try.prog ops Q (o :: rest) a w := by
  obtain ⟨i0, hi, hz0, hz1, hz2⟩ := info_parts int_info
  refine wpList_append_own_at w hgd s x 26 ho base 3 i0 (.int .i64 0) 1 8 Try.underlying26 hi hz0 hz1 hz2 rfl (by decide) v n _ hs hm.2.1 ⟨b, 0, none⟩ 1 1 [.int .i64 z] hx rfl ?_ ?_ (by simp only [maxLen]; omega) (by omega) hbase ?_
  · intro j u hj
    match j, hj with
    | 0, hj => simp at hj; subst hj; simpa [Addr.add] using hc
  · intro u hu; simp at hu; subst hu; rfl
  · intro v' w' hown hg _ hat
    refine h v' w' ⟨by simp [hm.1], by simpa using hown, ?_⟩ hg hat
    intro q hq
    rcases List.mem_append.1 hq with q1 | q1
    · exact hm.2.2 q q1
    · simp at q1; subst q1; exact hz64

end Go.Proofs.Ythnngekibkcgdaa
