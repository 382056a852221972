/-
  A row of ints that began empty (nil or an empty literal) and is appended to later: 'Out'. No conditions.
-/
import Derived.Test.YthnngekibkcgdaaInts
import Derived.ArgAppend
import Derived.Maps.AppendAt
namespace Go.Proofs.Ythnngekibkcgdaa
open Go.RowKit
set_option linter.unusedVariables false

/-- A row of ints that began empty: still that, or a row of the call's own in newer blocks. -/
def Out (base0 base : Nat) (w : World) (v : Value) (l : List Int) : Prop := (l = [] ∧ (∃ ao, v = .slice ao 0 0) ∧ Mine base0 w 3 v 0 []) ∨ (base0 ≤ base ∧ Mine base w 3 v l.length l)
section
variable {base0 base : Nat} {w w' : World} {v : Value} {l : List Int}
theorem Out.ext (h : Out base0 base w v l) (X : Ext w w') : Out base0 base w' v l := by
  rcases h with ⟨h1, h2, h3⟩ | ⟨h1, h2⟩
  · exact .inl ⟨h1, h2, h3.ext X⟩
  · exact .inr ⟨h1, h2.ext X⟩
theorem Out.mine (h : Out base0 base w v l) : Mine base0 w 3 v l.length l := by
  rcases h with ⟨h1, h2, h3⟩ | ⟨h1, h2⟩
  · subst h1; exact h3
  · exact h2.more h1
theorem Out.form (h : Out base0 base w v l) : ∃ A c, v = .slice A l.length c ∧ l.length ≤ c ∧ c ≤ 9223372036854775807 := h.mine.form
theorem Out.nil_ (base0 base : Nat) (w : World) : Out base0 base w (.slice none 0 0) [] := .inl ⟨rfl, ⟨_, rfl⟩, Mine.nil_ _ _ _⟩
theorem Out.lit0 (base : Nat) (w : World) : Out w.heap.size base (w.alloc (.cells #[] 3)) (.slice (some ⟨w.heap.size, 0, none⟩) 0 0) [] := .inl ⟨rfl, ⟨_, rfl⟩, Mine.lit0 w 3⟩
end
theorem append_out (w : World) {ops : Array Oper} {rest : List Oper} {o : Oper} {a : Act} {Q : Exit → Act → World → Prop} (hgd : o.guard = none) (s x : Operand)
    (ho : o.op = .call { callee := .builtin .append, args := #[s, x], argTypes := #[26, 26] })
    (base0 : Nat) (b0 : World) (v : Value) (l : List Int) (hs : a.eval s = v) (hm : Out base0 b0.heap.size w v l) (X : Ext b0 w) (hb : base0 ≤ b0.heap.size) (z : Int) (b : Nat) (hx : a.eval x = .slice (some ⟨b, 0, none⟩) 1 1) (hc : w.cell? ⟨b, 0, none⟩ = some (.int .i64 z)) (hz64 : I64 z)
    (hn : l.length ≤ 1000000000000)
    (h : ∀ v' w', Out base0 b0.heap.size w' v' (l ++ [z]) → Ext b0 w' → wpList Try.prog ops Q rest (a.put o.dst v') w') : wpList Try.prog ops Q (o :: rest) a w := by
  rcases hm with ⟨h1, ⟨ao, h2⟩, h3⟩ | ⟨h1, h2⟩
  · subst h1
    obtain ⟨i0, hi, hz0, hz1, hz2⟩ := info_parts int_info
    refine wpList_append_grows w hgd s x 26 ho 3 i0 (.int .i64 0) 1 8 Try.underlying26 hi hz0 hz1 hz2 rfl (by decide) ao 0 0 [] (hs.trans h2) (fun _ => ⟨rfl, rfl⟩) rfl (fun _ _ j u hj => by simp at hj) ⟨b, 0, none⟩ 1 1 [.int .i64 z] hx rfl ?_ ?_ (by decide) (by simp [maxLen]) (by decide) ?_
    · intro j u hj
      match j, hj with
      | 0, hj => simp at hj; subst hj; simpa [Addr.add] using hc
    · intro u hu; simp at hu; subst hu; rfl
    · intro v' w' h1 h2
      have hm : Mine w.heap.size w' 3 v' 1 [z] := ⟨rfl, by simpa using h1, fun y hy => by simp at hy; subst hy; exact hz64⟩
      exact h v' w' (.inr ⟨hb, hm.more X.size⟩) (X.trans ((Ext.refl w).grown h2 (by simp)))
  · refine append_int w hgd s x ho b0.heap.size v l.length l hs h2 z b hx hc hz64 hn X.size ?_
    intro v' w' hm hg
    refine h v' w' (.inr ⟨hb, by simpa using hm⟩) (h2.ext_of X (Nat.le_refl _) hg)

end Go.Proofs.Ythnngekibkcgdaa
