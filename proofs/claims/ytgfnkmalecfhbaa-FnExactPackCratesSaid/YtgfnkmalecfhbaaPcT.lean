/-
  Words for the packing of crates on the reference's side. No conditions.
-/
import Derived.Test.YtgfnkmalecfhbaaPcP
import Derived.Test.YtgfnkmalecfhbaaInsU
import Derived.ArgAppend
namespace Go.Proofs.Ytgfnkmalecfhbaa
open Go.RowKit Ring
set_option linter.unusedVariables false

theorem MineK.toX {base : Nat} {w : World} {v : Value} {n : Nat} {l : Nat → List Int} {z : Nat → Int} (h : MineK base w 64 3 v n l z) : MineX base w v n l z none := by
  obtain ⟨ps, h1, h2, h3, h4⟩ := h
  have ap : ∀ a : Option Nat, Apart a none := fun a => by
    cases a with
    | none => exact .inl rfl
    | some b => exact .inr (by simp)
  exact ⟨ps, h1, h2, h3, h4, ap _, fun k hk => ap _⟩
/-- append of a crate without panes to an empty row. -/
theorem append_crate0 (w : World) {ops : Array Oper} {rest : List Oper} {o : Oper} {a : Act} {Q : Exit → Act → World → Prop} (hgd : o.guard = none) (s x : Operand)
    (ho : o.op = .call { callee := .builtin .append, args := #[s, x], argTypes := #[42, 42] })
    (ao : Option Addr) (hs : a.eval s = .slice ao 0 0) (l : Nat → List Int) (lim : Int) (hl : l 0 = []) (hlim : I64 lim) (b : Nat) (hx : a.eval x = .slice (some ⟨b, 0, none⟩) 1 1)
    (h0 : w.cell? ⟨b, 0, none⟩ = some (.slice none 0 0)) (h1 : w.cell? ⟨b, 1, none⟩ = some (.int .i64 lim))
    (h : ∀ v' w', MineK w.heap.size w' 64 3 v' 1 l (fun _ => lim) → Ext w w' → wpList Try.prog ops Q rest (a.put o.dst v') w') : wpList Try.prog ops Q (o :: rest) a w := by
  obtain ⟨i0, hi, hz0, hz1, hz2⟩ := info_parts infoCrate
  refine wpList_append_grows w hgd s x 42 ho 64 i0 (Value.agg #[.slice none 0 0, .int .i64 0]) 2 32 Try.underlying42 hi hz0 hz1 hz2 rfl (by decide) ao 0 0 [] hs (fun _ => ⟨rfl, rfl⟩) rfl (fun _ _ j u hj => by simp at hj) ⟨b, 0, none⟩ 1 1 [.slice none 0 0, .int .i64 lim] hx rfl ?_ ?_ (by decide) (by simp [maxLen]) (by decide) ?_
  · intro j u hj
    match j, hj with
    | 0, hj => simp at hj; subst hj; simpa [Addr.add] using h0
    | 1, hj => simp at hj; subst hj; simpa [Addr.add] using h1
  · intro u hu
    simp at hu
    rcases hu with rfl | rfl <;> rfl
  · intro v' w' h1 h2
    refine h v' w' ⟨fun _ => .slice none 0 0, by simpa [cellsK, List.range_succ] using h1, fun k hk => ?_, fun _ => hlim, fun _ _ _ _ _ => .inl rfl⟩ ((Ext.refl w).grown h2 (by simp))
    obtain rfl : k = 0 := by omega
    rw [hl]
    exact ⟨Mine.nil_ _ _ _, .inl rfl, Apart.symm (.inl rfl)⟩

theorem srt_put {lt : Nat → Nat → Bool} {l : List Nat} {x J : Nat} (h : posOf (lt x) (srt lt l) (srt lt l).length = J) : insAt (srt lt l) J x = srt lt (l ++ [x]) := by
  rw [srt_snoc]; unfold ins1; rw [h]
theorem litK (w : World) (l : Nat → List Int) (z : Nat → Int) (hz : ∀ k, I64 (z k)) : MineK w.heap.size (w.alloc (.cells #[] 64)) 64 3 (.slice (some ⟨w.heap.size, 0, none⟩) 0 0) 0 l z :=
  ⟨fun _ => .slice none 0 0, by simpa [cellsK] using World.ownsRow_made (base := w.heap.size) (e := 64) (size := 2) w #[] 0 (Nat.le_refl _) (by simp [maxLen]) (by simp), fun k hk => absurd hk (by omega), hz, fun _ _ hj => absurd hj (by omega)⟩
theorem noneI_cap {base n c : Nat} {w : World} {E : TypeId} {zs : List Int} (h : Mine base w E (.slice none n c) n zs) : n = 0 ∧ c = 0 := by
  rcases h.2.1.2 with ⟨hv, _⟩ | ⟨g, cap, cur, hv, _⟩
  · injection hv with e1 e2 e3
    exact ⟨e2, e3⟩
  · injection hv with e1 e2 e3
    cases e1
theorem Mine.head_ {base n c : Nat} {w : World} {E : TypeId} {zs : List Int} {ad : Addr} (h : Mine base w E (.slice (some ad) n c) n zs) : ∃ g, ad = ⟨g, 0, none⟩ := by
  rcases h.2.1.2 with ⟨hv, _⟩ | ⟨g, cap, cur, hv, _⟩
  · injection hv with e1 e2 e3
    cases e1
  · injection hv with e1 e2 e3
    injection e1 with e1
    exact ⟨g, e1⟩
theorem ordN_eq (f : Nat → Nat → Int) (n : Nat) : ordN f n = srt (wlt f) (List.range n) := rfl

theorem append_crate_out (w : World) {ops : Array Oper} {rest : List Oper} {o : Oper} {a : Act} {Q : Exit → Act → World → Prop} (hgd : o.guard = none) (s x : Operand)
    (ho : o.op = .call { callee := .builtin .append, args := #[s, x], argTypes := #[42, 42] })
    (b0 : World) (v : Value) (m : Nat) (l : Nat → List Int) (lim : Int) (hlim : I64 lim) (hs : a.eval s = v) (hm : (m = 0 ∧ ∃ ao, v = .slice ao 0 0) ∨ MineK b0.heap.size w 64 3 v m l (fun _ => lim)) (X : Ext b0 w) (hl : l m = []) (b : Nat) (hx : a.eval x = .slice (some ⟨b, 0, none⟩) 1 1)
    (h0 : w.cell? ⟨b, 0, none⟩ = some (.slice none 0 0)) (h1 : w.cell? ⟨b, 1, none⟩ = some (.int .i64 lim)) (hn : m ≤ 100000000000)
    (h : ∀ v' w', MineK b0.heap.size w' 64 3 v' (m + 1) l (fun _ => lim) → Ext b0 w' → wpList Try.prog ops Q rest (a.put o.dst v') w') : wpList Try.prog ops Q (o :: rest) a w := by
  rcases hm with ⟨rfl, ao, e⟩ | hm
  · exact append_crate0 w hgd s x ho ao (hs.trans e) l lim hl hlim b hx h0 h1 fun v' w' q1 q2 => h v' w' (q1.more X.size) (X.trans q2)
  · exact append_crate w hgd s x ho b0.heap.size v m l lim none hs hm.toX hl b hx h0 h1 (fun b hb => by cases hb) hn X.size fun v' w' q1 q2 => h v' w' q1.toK (X.grown q2 fun k hk => (hm.toX.lt k hk).1)

theorem upd_srtN (L : Nat → List Nat) (t : Nat) (r : List Nat) : (fun j => srtN (upd L t r j)) = upd (fun j => srtN (L j)) t (srtN r) := by
  funext j
  unfold upd
  split <;> rfl

end Go.Proofs.Ytgfnkmalecfhbaa
