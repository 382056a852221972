/-
  Rows of crates: how an argument reads ('Crs'), a row that the call has made itself ('MineK'): read, kept, stored into. Nothing of the program stands here. No conditions.
-/
import Derived.Test.YthnngekibkcgdaaKitE
import Derived.Test.YthnngekibkcgdaaKitR
import Derived.Test.YthnngekibkcgdaaInts
namespace Go.Proofs.Ythnngekibkcgdaa
open Go.RowKit
set_option linter.unusedVariables false

/-- The slice at A holds n crates: panes l, limits z. -/
def Crs (w : World) (A : Option Addr) (n : Nat) (l : Nat → List Int) (z : Nat → Int) : Prop :=
  (0 < n → ∃ b o, A = some ⟨b, o, none⟩ ∧ b < w.heap.size ∧ ∀ k, k < n → ∃ B d, w.cell? ⟨b, o + k * 2, none⟩ = some (.slice B (l k).length d) ∧ w.cell? ⟨b, o + k * 2 + 1, none⟩ = some (.int .i64 (z k)) ∧ (l k).length ≤ d ∧ d ≤ 9223372036854775807 ∧ Recs w 1 B (l k).length (fun i _ => ix (l k) i)) ∧ ∀ k, I64 (z k)
section
variable {w w' : World} {A : Option Addr} {n : Nat} {l : Nat → List Int} {z : Nat → Int}
theorem Crs.ext (h : Crs w A n l z) (X : Ext w w') : Crs w' A n l z := by
  refine ⟨fun hn => ?_, h.2⟩
  obtain ⟨b, o, e, hb, hc⟩ := h.1 hn
  refine ⟨b, o, e, Nat.lt_of_lt_of_le hb X.size, fun k hk => ?_⟩
  obtain ⟨B, d, c0, c1, i1, i2, hr⟩ := hc k hk
  exact ⟨B, d, X.cell c0, X.cell c1, i1, i2, hr.ext X⟩
theorem Crs.at_ (h : Crs w A n l z) {k : Nat} (hk : k < n) : ∃ b o B d, A = some ⟨b, o, none⟩ ∧ b < w.heap.size ∧ w.cell? ⟨b, o + k * 2, none⟩ = some (.slice B (l k).length d) ∧ w.cell? ⟨b, o + k * 2 + 1, none⟩ = some (.int .i64 (z k)) ∧ (l k).length ≤ d ∧ d ≤ 9223372036854775807 ∧ Recs w 1 B (l k).length (fun i _ => ix (l k) i) := by
  obtain ⟨b, o, e, hb, hc⟩ := h.1 (by omega)
  obtain ⟨B, d, q⟩ := hc k hk
  exact ⟨b, o, B, d, e, hb, q⟩
end
/-- The cells of n crates. -/
def cellsK (n : Nat) (ps : Nat → Value) (z : Nat → Int) : List Value := (List.range (n * 2)).map fun i => if i % 2 = 0 then ps (i / 2) else .int .i64 (z (i / 2))
theorem cellsK_len (n : Nat) (ps : Nat → Value) (z : Nat → Int) : (cellsK n ps z).length = n * 2 := by simp [cellsK]
theorem cellsK_0 {n k : Nat} {ps : Nat → Value} {z : Nat → Int} (h : k < n) : (cellsK n ps z)[k * 2]? = some (ps k) := by
  unfold cellsK
  rw [List.getElem?_map, List.getElem?_range (by omega)]
  simp
theorem cellsK_1 {n k : Nat} {ps : Nat → Value} {z : Nat → Int} (h : k < n) : (cellsK n ps z)[k * 2 + 1]? = some (.int .i64 (z k)) := by
  unfold cellsK
  rw [List.getElem?_map, List.getElem?_range (by omega)]
  simp
  rw [show (k * 2 + 1) / 2 = k by omega]
def upd {α : Type} (f : Nat → α) (k : Nat) (a : α) : Nat → α := fun i => if i = k then a else f i
theorem upd_at {α : Type} (f : Nat → α) (k : Nat) (a : α) : upd f k a k = a := if_pos rfl
theorem upd_ne {α : Type} {f : Nat → α} {k i : Nat} {a : α} (h : i ≠ k) : upd f k a i = f i := if_neg h
theorem cellsK_set0 {n k : Nat} {ps : Nat → Value} {z : Nat → Int} (u : Value) : (cellsK n ps z).set (k * 2) u = cellsK n (upd ps k u) z := by
  apply List.ext_getElem (by simp [cellsK])
  intro i h1 h2
  rw [List.getElem_set]
  simp only [cellsK, List.getElem_map, List.getElem_range]
  by_cases e : k * 2 = i
  · subst e
    rw [if_pos rfl, if_pos (by omega), show k * 2 / 2 = k by omega, upd_at]
  · rw [if_neg e]
    by_cases q : i % 2 = 0
    · rw [if_pos q, if_pos q, upd_ne (by omega)]
    · rw [if_neg q, if_neg q]
theorem cellsK_set1 {n k : Nat} {ps : Nat → Value} {z : Nat → Int} (u : Int) : (cellsK n ps z).set (k * 2 + 1) (.int .i64 u) = cellsK n ps (upd z k u) := by
  apply List.ext_getElem (by simp [cellsK])
  intro i h1 h2
  rw [List.getElem_set]
  simp only [cellsK, List.getElem_map, List.getElem_range]
  by_cases e : k * 2 + 1 = i
  · subst e
    rw [if_pos rfl, if_neg (by omega), show (k * 2 + 1) / 2 = k by omega, upd_at]
  · rw [if_neg e]
    by_cases q : i % 2 = 0
    · rw [if_pos q, if_pos q]
    · rw [if_neg q, if_neg q, upd_ne (by omega)]
theorem cellsK_snoc {n : Nat} {ps : Nat → Value} {z : Nat → Int} : cellsK (n + 1) ps z = cellsK n ps z ++ [ps n, .int .i64 (z n)] := by
  unfold cellsK
  rw [show (n + 1) * 2 = n * 2 + 1 + 1 by omega, List.range_succ, List.range_succ]
  simp only [List.map_append, List.map_cons, List.map_nil, List.append_assoc, List.cons_append, List.nil_append]
  rw [if_pos (by omega), if_neg (by omega), show n * 2 / 2 = n by omega, show (n * 2 + 1) / 2 = n by omega]
theorem cellsK_congr {n : Nat} {ps ps' : Nat → Value} {z z' : Nat → Int} (h : ∀ k, k < n → ps k = ps' k ∧ z k = z' k) : cellsK n ps z = cellsK n ps' z' := by
  unfold cellsK
  apply List.map_congr_left
  intro i hi
  have := h (i / 2) (by simp at hi; omega)
  rw [this.1, this.2]
/-- Two blocks apart. -/
def Apart (a b : Option Nat) : Prop := a = none ∨ a ≠ b
/-- The value v is a row of n crates of the call's own, panes l (rows of its own too, in blocks apart), limits z. -/
def MineK (base : Nat) (w : World) (E F : TypeId) (v : Value) (n : Nat) (l : Nat → List Int) (z : Nat → Int) : Prop :=
  ∃ ps : Nat → Value, w.ownsRow base E 2 v n (cellsK n ps z) ∧ (∀ k, k < n → Mine base w F (ps k) (l k).length (l k) ∧ Apart (ps k).ownBlock v.ownBlock ∧ Apart v.ownBlock (ps k).ownBlock) ∧ (∀ k, I64 (z k)) ∧ ∀ j k, j < n → k < n → j ≠ k → Apart (ps j).ownBlock (ps k).ownBlock
section
variable {base : Nat} {w w' : World} {E F : TypeId} {v : Value} {n : Nat} {l : Nat → List Int} {z : Nat → Int}
theorem MineK.kept {row : Option Nat} (h : MineK base w E F v n l z) (hg : w.grownBy w' row) (hr : ∀ k, row = some k → k < base ∨ w.heap.size ≤ k) : MineK base w' E F v n l z := by
  obtain ⟨ps, h1, h2, h3, h4⟩ := h
  have ne : ∀ u : Value, (∀ k, u.ownBlock = some k → base ≤ k ∧ k < w.heap.size) → u.ownBlock = none ∨ u.ownBlock ≠ row := by
    intro u hu
    by_cases q : u.ownBlock = none
    · exact .inl q
    · right
      intro e
      obtain ⟨k, hk⟩ := Option.ne_none_iff_exists'.1 q
      have p1 := hu k hk
      have p2 := hr k (by rw [← e]; exact hk)
      omega
  exact ⟨ps, h1.kept hg (ne v h1.lt), fun k hk => ⟨(h2 k hk).1.kept hg (ne _ (h2 k hk).1.lt), (h2 k hk).2⟩, h3, h4⟩
theorem MineK.ext (h : MineK base w E F v n l z) (X : Ext w w') : MineK base w' E F v n l z := h.kept (X.grownBy none) (by simp)
theorem MineK.form (h : MineK base w E F v n l z) : ∃ A c, v = .slice A n c ∧ n ≤ c ∧ c ≤ 9223372036854775807 := by
  obtain ⟨ps, h1, _⟩ := h
  rcases h1.2 with ⟨rfl, hn⟩ | ⟨g, cap, cur, rfl, _, _, h1, h2, _⟩
  · exact ⟨none, 0, by rw [hn], by omega, by omega⟩
  · exact ⟨_, cap, rfl, h1, by simpa [maxLen] using h2⟩
theorem MineK.some_ {A : Option Addr} {c : Nat} (h : MineK base w E F (.slice A n c) n l z) (hn : 0 < n) : ∃ g, A = some ⟨g, 0, none⟩ := by
  obtain ⟨ps, h1, _⟩ := h
  rcases h1.2 with ⟨_, h0⟩ | ⟨g, cap, cur, hv, _⟩
  · omega
  · injection hv with e1 e2 e3
    exact ⟨g, e1⟩
theorem MineK.more {base' : Nat} (h : MineK base w E F v n l z) (hb : base' ≤ base) : MineK base' w E F v n l z := by
  obtain ⟨ps, ⟨a1, a2⟩, h2, h3, h4⟩ := h
  refine ⟨ps, ⟨a1, ?_⟩, fun k hk => ⟨(h2 k hk).1.more hb, (h2 k hk).2⟩, h3, h4⟩
  rcases a2 with h1 | ⟨g, cap, cur, h1, h2, h3⟩
  · exact .inl h1
  · exact .inr ⟨g, cap, cur, h1, by omega, h3⟩
theorem MineK.crs {A : Option Addr} {c : Nat} (h : MineK base w E F (.slice A n c) n l z) : Crs w A n l z := by
  obtain ⟨ps, h1, h2, h3, h4⟩ := h
  refine ⟨fun hn => ?_, h3⟩
  rcases h1.2 with ⟨_, h0⟩ | ⟨g, cap, cur, hv, hb, hh, _⟩
  · omega
  · injection hv with e1 e2 e3
    subst e1 e3
    refine ⟨g, 0, rfl, (h1.lt g rfl).2, fun k hk => ?_⟩
    obtain ⟨A2, c2, e, i2, j2⟩ := (h2 k hk).1.form
    have hm := (h2 k hk).1
    rw [e] at hm
    refine ⟨A2, c2, ?_, ?_, i2, j2, hm.recs⟩
    · rw [Nat.zero_add, h1.cellAt _ (by omega), cellsK_0 hk, e]
    · rw [Nat.zero_add, h1.cellAt _ (by omega), cellsK_1 hk]
/-- Where the panes of crate k lie, and what is owed when they turn (row k's own block alone, or a new block). -/
theorem MineK.row {g c k : Nat} (h : MineK base w E F (.slice (some ⟨g, 0, none⟩) n c) n l z) (hk : k < n) :
    ∃ pv, w.cell? ⟨g, k * 2, none⟩ = some pv ∧ w.cell? ⟨g, k * 2 + 1, none⟩ = some (.int .i64 (z k)) ∧ w.frozen? ⟨g, k * 2, none⟩ = false ∧ w.frozen? ⟨g, k * 2 + 1, none⟩ = false ∧ Mine base w F pv (l k).length (l k) ∧ base ≤ g ∧ g < w.heap.size ∧ Apart (some g) pv.ownBlock ∧
      ∀ (w' : World) (row : Option Nat) (pv' : Value) (l' : List Int) (z' : Int), w.grownBy w' row → (row = pv.ownBlock ∨ row = none) → Mine base w' F pv' l'.length l' → (pv'.ownBlock = pv.ownBlock ∨ ∀ b, pv'.ownBlock = some b → w.heap.size ≤ b) → I64 z' →
        (pv' = pv → z' = z k → MineK base w' E F (.slice (some ⟨g, 0, none⟩) n c) n (upd l k l') z) ∧
        (z' = z k → MineK base (w'.setCell ⟨g, k * 2, none⟩ pv') E F (.slice (some ⟨g, 0, none⟩) n c) n (upd l k l') z) ∧
        MineK base ((w'.setCell ⟨g, k * 2, none⟩ pv').setCell ⟨g, k * 2 + 1, none⟩ (.int .i64 z')) E F (.slice (some ⟨g, 0, none⟩) n c) n (upd l k l') (upd z k z') ∧
        (pv' = pv → MineK base (w'.setCell ⟨g, k * 2 + 1, none⟩ (.int .i64 z')) E F (.slice (some ⟨g, 0, none⟩) n c) n (upd l k l') (upd z k z')) := by
  obtain ⟨ps, h1, h2, h3, h4⟩ := h
  have hlt := h1.lt g rfl
  refine ⟨ps k, by rw [h1.cellAt _ (by omega), cellsK_0 hk], by rw [h1.cellAt _ (by omega), cellsK_1 hk], h1.frozenAt _, h1.frozenAt _, (h2 k hk).1, hlt.1, hlt.2, (h2 k hk).2.2, ?_⟩
  intro w' row pv' l' z' hg hrow hm hpv hz
  have hgne : row ≠ some g := by
    rcases hrow with e | e
    · rw [e]
      rcases (h2 k hk).2.1 with q | q
      · rw [q]; simp
      · exact q
    · rw [e]; simp
  have b1 : w'.ownsRow base E 2 (.slice (some ⟨g, 0, none⟩) n c) n (cellsK n ps z) := h1.kept hg (.inr fun e => hgne e.symm)
  have b2 : ∀ j, j < n → j ≠ k → Mine base w' F (ps j) (l j).length (l j) := by
    intro j hj hjk
    refine (h2 j hj).1.kept hg ?_
    rcases hrow with e | e
    · rw [e]; exact h4 j k hj hk hjk
    · rw [e]; by_cases q : (ps j).ownBlock = none
      · exact .inl q
      · exact .inr q
  have hpg : Apart pv'.ownBlock (some g) ∧ Apart (some g) pv'.ownBlock := by
    rcases hpv with e | e
    · rw [e]; exact (h2 k hk).2
    · constructor
      · by_cases q : pv'.ownBlock = none
        · exact .inl q
        · right; intro e2; have := e g e2; omega
      · right; intro e2; have := e g e2.symm; omega
  have hpj : ∀ j, j < n → j ≠ k → Apart (ps j).ownBlock pv'.ownBlock ∧ Apart pv'.ownBlock (ps j).ownBlock := by
    intro j hj hjk
    rcases hpv with e | e
    · rw [e]; exact ⟨h4 j k hj hk hjk, h4 k j hk hj (Ne.symm hjk)⟩
    · have hl := (h2 j hj).1.lt
      constructor
      · by_cases q : (ps j).ownBlock = none
        · exact .inl q
        · right
          intro e2
          obtain ⟨b, hb⟩ := Option.ne_none_iff_exists'.1 q
          have := hl b hb
          have := e b (by rw [← e2]; exact hb)
          omega
      · by_cases q : pv'.ownBlock = none
        · exact .inl q
        · right
          intro e2
          obtain ⟨b, hb⟩ := Option.ne_none_iff_exists'.1 q
          have := e b hb
          have := hl b (by rw [← e2]; exact hb)
          omega
  have fin : ∀ (W : World) (z2 : Nat → Int), W.ownsRow base E 2 (.slice (some ⟨g, 0, none⟩) n c) n (cellsK n (upd ps k pv') z2) → w'.grownBy W (some g) → (∀ i, I64 (z2 i)) → MineK base W E F (.slice (some ⟨g, 0, none⟩) n c) n (upd l k l') z2 := by
    intro W z2 o1 o2 o3
    refine ⟨upd ps k pv', o1, fun j hj => ?_, o3, fun i j hi hj hij => ?_⟩
    · by_cases q : j = k
      · subst q
        rw [upd_at, upd_at]
        exact ⟨hm.kept o2 hpg.1, hpg⟩
      · rw [upd_ne q, upd_ne q]
        exact ⟨(b2 j hj q).kept o2 (h2 j hj).2.1, (h2 j hj).2⟩
    · by_cases qi : i = k
      · subst qi
        rw [upd_at, upd_ne (Ne.symm hij)]
        exact (hpj j hj (Ne.symm hij)).2
      · by_cases qj : j = k
        · subst qj
          rw [upd_at, upd_ne hij]
          exact (hpj i hi hij).1
        · rw [upd_ne qi, upd_ne qj]
          exact h4 i j hi hj hij
  have zz : ∀ i, I64 (upd z k z' i) := by
    intro i
    unfold upd
    split
    · exact hz
    · exact h3 i
  have same : pv' = ps k → upd ps k pv' = ps := by
    intro e
    funext i
    unfold upd
    split
    · rename_i q; rw [e, q]
    · rfl
  have s0 := b1.stored (k * 2) pv'
  rw [cellsK_set0] at s0
  have s1 := s0.1.stored (k * 2 + 1) (.int .i64 z')
  rw [cellsK_set1] at s1
  have s2 := b1.stored (k * 2 + 1) (.int .i64 z')
  rw [cellsK_set1] at s2
  refine ⟨fun e1 e2 => ?_, fun e => ?_, ?_, fun e => ?_⟩
  · exact fin w' z (by rw [same e1]; exact b1) (World.grownBy.refl _ _) h3
  · exact fin _ z s0.1 s0.2 h3
  · refine fin _ _ s1.1 (grownBy_setCell s0.2 (k * 2 + 1) (.int .i64 z')) zz
  · exact fin _ _ (by rw [same e]; exact s2.1) s2.2 zz
end

end Go.Proofs.Ythnngekibkcgdaa
