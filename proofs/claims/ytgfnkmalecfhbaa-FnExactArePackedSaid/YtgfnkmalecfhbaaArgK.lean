/-
  A row of crates as an argument. Nothing of the program stands here. No conditions.
-/
import Derived.Test.YtgfnkmalecfhbaaCrS
namespace Go.Proofs.Ytgfnkmalecfhbaa
open Go.RowKit Go.ChangeShapes Go.WideShapes Go.Deep
set_option linter.unusedVariables false

theorem Recs.congr {w : World} {A : Option Addr} {n : Nat} {f g : Nat → Nat → Int} (h : Recs w 1 A n f) (he : ∀ k, k < n → f k 0 = g k 0) (hb : ∀ k j, -9223372036854775808 ≤ g k j ∧ g k j ≤ 9223372036854775807) : Recs w 1 A n g :=
  ⟨fun hn => by
    obtain ⟨b, o, e, hlt, hc⟩ := h.1 hn
    refine ⟨b, o, e, hlt, fun k hk j hj => ?_⟩
    obtain rfl : j = 0 := by omega
    rw [← he k hk]
    exact hc k hk 0 hj, hb⟩
theorem ix_bd {l : List Int} (h : ∀ x ∈ l, I64 x) (k : Nat) : I64 (ix l k) := by
  by_cases hk : k < l.length
  · rw [ix_get hk]; exact h _ (List.getElem_mem hk)
  · rw [ix_out (by omega)]; exact I64.zero
theorem Crs.upt {w : World} {A : Option Addr} {n : Nat} {l : Nat → List Int} {z : Nat → Int} (h : Crs w A n l z) : Crs w A n (uptK [] l n) (uptK 0 z n) := by
  refine ⟨fun hn => ?_, fun k => ?_⟩
  · obtain ⟨b, o, e, hb, hc⟩ := h.1 hn
    refine ⟨b, o, e, hb, fun k hk => ?_⟩
    rw [show uptK [] l n k = l k from if_pos hk, show uptK 0 z n k = z k from if_pos hk]
    exact hc k hk
  · unfold uptK
    split
    · exact h.2 k
    · exact I64.zero
section
variable {H : Type} {enc : TypeId × Value → H} {P : Program} {w : World} {r : Reach} {b0 : Nat} {v : Value} {d : DataW H} {p : List MemPlace}
theorem openK {t e : TypeId} {f0 f1 : Field} {e0 : TypeId} (ht : P.underlying t = some (.slice e)) (he : P.underlying e = some (.struct #[f0, f1])) (hone : oneCellFields P #[f0, f1] = true) (hC : P.cellsOf e = 2)
    (ht0 : P.underlying f0.type = some (.slice e0)) (he0 : P.underlying e0 = some (.int .i64)) (hC0 : P.cellsOf e0 = 1) (h1 : P.underlying f1.type = some (.int .i64))
    (hv : Value.okWide P w r b0 t v) (h : DataW.Trod enc P w 0 (fun _ => true) true t v d p) : ∃ A n c l z, v = .slice A n c ∧ n ≤ c ∧ c ≤ 9223372036854775807 ∧ Crs w A n l z := by
  obtain ⟨A, n, c, rfl⟩ := okWide_slice ht hv
  obtain ⟨fuel, hf⟩ := h
  have hf' : DataW.trod enc P w 0 (fun _ => true) true fuel t [.slice A n c] = some (d, p) := by simpa [Value.cells] using hf
  rcases open_slice ht hf' with ⟨hcs, _⟩ | ⟨a, len, cap, m, n', D, Pl, hcs, hb, hl, hm, hmm, hx, hi⟩
  · simp only [List.cons.injEq, and_true] at hcs
    injection hcs with e1 e2 e3
    subst e1 e2 e3
    exact ⟨none, 0, 0, fun _ => [], fun _ => 0, rfl, Nat.le_refl _, by omega, fun hn => absurd hn (by omega), fun _ => I64.zero⟩
  · simp only [List.cons.injEq, and_true] at hcs
    injection hcs with e1 e2 e3
    subst e1 e2 e3
    simp only [if_true] at hmm
    have key : ∀ k, k < n → ∃ (B : Option Addr) (m d : Nat) (f : Nat → Nat → Int) (y : Int), w.cell? (a.add (k * 2)) = some (.slice B m d) ∧ w.cell? (a.add (k * 2 + 1)) = some (.int .i64 y) ∧ I64 y ∧ m ≤ d ∧ d ≤ 9223372036854775807 ∧ Recs w 1 B m f := by
      intro k hk
      obtain ⟨cs', hc, ht'⟩ := hi k (by omega)
      rw [hC] at hc
      obtain ⟨ys, n2, hn2, hy, hlen, hyl, hfl⟩ := DataW.trod_struct he ht'
      have hlen2 : cs'.length = 2 := (World.cells?_some hc).2.1
      have hyl2 : ys.length = 2 := by simpa using hyl
      obtain ⟨_, hcl, hat⟩ := World.cells?_some hc
      have g : ∀ j (hj : j < 2), DataW.trod enc P w 0 (fun _ => true) true n2 (#[f0, f1][j]'(by simpa using hj)).type [cs'[j]'(by omega)] = some (ys[j]'(by omega)) ∧ w.cell? (a.add (k * 2 + j)) = some (cs'[j]'(by omega)) := by
        intro j hj
        have hfj : #[f0, f1][j]? = some (#[f0, f1][j]'(by simpa using hj)) := Array.getElem?_eq_getElem (by simpa using hj)
        obtain ⟨ho, hk1⟩ := hone_of hone j _ hfj
        have hcell := hat j (by omega)
        have h1 := hfl j _ hfj
        rw [ho, hk1] at h1
        have hone' : (cs'.drop j).take 1 = [cs'[j]'(by omega)] := by
          rw [List.drop_eq_getElem_cons (by omega)]
          rfl
        have hys : ys[j]? = some (ys[j]'(by omega)) := List.getElem?_eq_getElem (by omega)
        rw [hone', hys] at h1
        refine ⟨h1, ?_⟩
        rw [← Go.Deep.add_add, hcell, List.getElem?_eq_getElem (by omega)]
      obtain ⟨g0, c0⟩ := g 0 (by omega)
      obtain ⟨g1, c1⟩ := g 1 (by omega)
      obtain ⟨B, m2, d2, f, e0', k1, k2, k3⟩ := open_intrecs (v := cs'[0]'(by omega)) ht0 he0 hC0 g0
      obtain ⟨y, ey, _, wy⟩ := DataW.trod_int h1 g1
      simp only [List.cons.injEq, and_true] at ey
      rw [e0'] at c0
      rw [ey] at c1
      exact ⟨B, m2, d2, f, y, c0, c1, wf64 wy, k1, by simpa [maxLen] using k2, k3⟩
    by_cases hn : 0 < n
    · obtain ⟨_, _, _, _, _, h0, _⟩ := key 0 hn
      have hs : a.spot = none := by simpa [Addr.add] using spot_of_cell h0
      have hblk : a.block < w.heap.size := by
        have := World.block_lt_of_cell? _ _ h0
        rwa [add_plain hs] at this
      have key' : ∀ k, k < n → ∃ (B : Option Addr) (d : Nat) (l : List Int) (y : Int), w.cell? ⟨a.block, a.off + k * 2, none⟩ = some (.slice B l.length d) ∧ w.cell? ⟨a.block, a.off + k * 2 + 1, none⟩ = some (.int .i64 y) ∧ I64 y ∧ l.length ≤ d ∧ d ≤ 9223372036854775807 ∧ Recs w 1 B l.length (fun i _ => ix l i) := by
        intro k hk
        obtain ⟨B, m2, d2, f, y, q0, q1, q2, q3, q4, q5⟩ := key k hk
        rw [add_plain hs] at q0 q1
        refine ⟨B, d2, tab m2 (fun i => f i 0), y, by rw [tab_len]; exact q0, by rw [show a.off + k * 2 + 1 = a.off + (k * 2 + 1) by omega]; exact q1, q2, by rw [tab_len]; exact q3, q4, ?_⟩
        rw [tab_len]
        refine q5.congr (fun i hi => (tab_ix (f := fun i => f i 0) hi).symm) (fun i _ => ix_bd (fun x hx => ?_) i)
        simp only [tab, List.mem_map] at hx
        obtain ⟨i, _, rfl⟩ := hx
        exact q5.2 i 0
      clear key
      classical
      have kb : ∀ k, ∃ (B : Option Addr) (d : Nat) (l : List Int) (y : Int), I64 y ∧ (k < n → w.cell? ⟨a.block, a.off + k * 2, none⟩ = some (.slice B l.length d) ∧ w.cell? ⟨a.block, a.off + k * 2 + 1, none⟩ = some (.int .i64 y) ∧ l.length ≤ d ∧ d ≤ 9223372036854775807 ∧ Recs w 1 B l.length (fun i _ => ix l i)) := by
        intro k
        by_cases hk : k < n
        · obtain ⟨B, d2, l, y, q0, q1, q2, q3, q4, q5⟩ := key' k hk
          exact ⟨B, d2, l, y, q2, fun _ => ⟨q0, q1, q3, q4, q5⟩⟩
        · exact ⟨none, 0, [], 0, I64.zero, fun h => absurd h hk⟩
      obtain ⟨fB, kb⟩ := Classical.axiomOfChoice kb
      obtain ⟨fd, kb⟩ := Classical.axiomOfChoice kb
      obtain ⟨fl, kb⟩ := Classical.axiomOfChoice kb
      obtain ⟨fy, kb⟩ := Classical.axiomOfChoice kb
      refine ⟨some a, n, c, fl, fy, rfl, hl, by simpa [maxLen] using hm, fun _ => ⟨a.block, a.off, by obtain ⟨_, _, _⟩ := a; simp only at hs; rw [hs], hblk, fun k hk => ?_⟩, fun k => (kb k).1⟩
      obtain ⟨q0, q1, q3, q4, q5⟩ := (kb k).2 hk
      exact ⟨fB k, fd k, q0, q1, q3, q4, q5⟩
    · exact ⟨some a, n, c, fun _ => [], fun _ => 0, rfl, hl, by simpa [maxLen] using hm, fun h => absurd h hn, fun _ => I64.zero⟩
end

end Go.Proofs.Ytgfnkmalecfhbaa
