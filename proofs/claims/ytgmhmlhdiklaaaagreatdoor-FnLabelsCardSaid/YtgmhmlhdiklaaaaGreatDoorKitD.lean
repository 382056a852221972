/-
  A slice of bytes as an argument. Nothing of the program stands here. No conditions.
-/
import Derived.Test.YtgmhmlhdiklaaaaGreatDoorKitC
namespace Go.Proofs.YtgmhmlhdiklaaaaGreatDoor
open Go.RowKit Go.ChangeShapes Go.WideShapes Go.Deep

/-- The slice '.slice A n c' of bytes holds g. -/
def BRecs (w : World) (A : Option Addr) (n : Nat) (g : Nat → Int) : Prop :=
  (0 < n → ∃ b o, A = some ⟨b, o, none⟩ ∧ b < w.heap.size ∧ ∀ k, k < n → w.cell? ⟨b, o + k, none⟩ = some (.int .u8 (g k))) ∧ ∀ k, 0 ≤ g k ∧ g k ≤ 255
theorem BRecs.ext {w w' : World} {A : Option Addr} {n : Nat} {g : Nat → Int} (h : BRecs w A n g) (he : Ext w w') : BRecs w' A n g :=
  ⟨fun hn => by
    obtain ⟨b, o, e, hb, hc⟩ := h.1 hn
    have hs := he.size
    exact ⟨b, o, e, by omega, fun k hk => he.cell (hc k hk)⟩, h.2⟩
theorem wf8 {z : Int} (h : (Lit.int .u8 z).wf = true) : 0 ≤ z ∧ z ≤ 255 := by
  simpa [Lit.wf, IntKind.min, IntKind.max, IntKind.signed, IntKind.bits] using h
def byteAt (w : World) (a : Addr) : Int := match w.cell? a with | some (.int .u8 z) => if 0 ≤ z ∧ z ≤ 255 then z else 0 | _ => 0
theorem byteAt_bd (w : World) (a : Addr) : 0 ≤ byteAt w a ∧ byteAt w a ≤ 255 := by
  unfold byteAt
  split
  · split <;> omega
  · omega
theorem byteAt_eq {w : World} {a : Addr} {z : Int} (h : w.cell? a = some (.int .u8 z)) (hw : (Lit.int .u8 z).wf = true) : byteAt w a = z := by
  unfold byteAt
  rw [h]
  simp only
  rw [if_pos (wf8 hw)]
section
variable {H : Type} {enc : TypeId × Value → H} {P : Program} {w : World} {r : Reach} {b0 : Nat} {v : Value} {d : DataW H} {p : List MemPlace}
theorem openB {t e : TypeId} (ht : P.underlying t = some (.slice e)) (he : P.underlying e = some (.int .u8)) (hC : P.cellsOf e = 1)
    (hv : Value.okWide P w r b0 t v) (h : DataW.Trod enc P w 0 (fun _ => true) true t v d p) : ∃ A n c g, v = .slice A n c ∧ n ≤ c ∧ c ≤ 9223372036854775807 ∧ BRecs w A n g := by
  obtain ⟨A, n, c, rfl⟩ := okWide_slice ht hv
  obtain ⟨fuel, hf⟩ := h
  have hf' : DataW.trod enc P w 0 (fun _ => true) true fuel t [.slice A n c] = some (d, p) := by simpa [Value.cells] using hf
  rcases open_ints ht he hC hf' with ⟨hcs, _⟩ | ⟨a, len, cap, zs, hcs, hb, hl, hm, hz, hx, hcell, hwz⟩
  · simp only [List.cons.injEq, and_true] at hcs
    injection hcs with e1 e2 e3
    subst e1 e2 e3
    exact ⟨none, 0, 0, fun _ => 0, rfl, Nat.le_refl _, by omega, fun hn => absurd hn (by omega), fun _ => by show (0 : Int) ≤ 0 ∧ (0 : Int) ≤ 255; omega⟩
  · simp only [List.cons.injEq, and_true] at hcs
    injection hcs with e1 e2 e3
    subst e1 e2 e3
    simp only [if_true] at hz
    refine ⟨some a, n, c, fun k => byteAt w (a.add k), rfl, hl, by simpa [maxLen] using hm, fun hn => ?_, fun k => byteAt_bd _ _⟩
    have h0 := hcell 0 (by omega)
    have hs : a.spot = none := by simpa [Addr.add] using spot_of_cell h0
    have hblk : a.block < w.heap.size := by
      have := World.block_lt_of_cell? _ _ h0
      rwa [add_plain hs] at this
    refine ⟨a.block, a.off, by obtain ⟨_, _, _⟩ := a; simp only at hs; rw [hs], hblk, fun k hk => ?_⟩
    have hk' := hcell k (by omega)
    have hw : (Lit.int .u8 (zs.getD k 0)).wf = true := hwz _ (by
      rw [List.getD_eq_getElem?_getD, List.getElem?_eq_getElem (by omega)]
      exact List.getElem_mem _)
    show _ = some (Value.int .u8 (byteAt w (a.add k)))
    rw [byteAt_eq hk' hw, ← hk', add_plain hs]
end
end Go.Proofs.YtgmhmlhdiklaaaaGreatDoor
