/-
  A row of structs of s integers that a call has made itself ('MineS'): how it is read, kept, stored into and appended to. Nothing of the program stands here. No conditions.
-/
import Derived.Test.YtgmhmlhdiklaaaaGreatDoorKitC
namespace Go.Proofs.YtgmhmlhdiklaaaaGreatDoor
open Go.RowKit
set_option linter.unusedVariables false

def MineS (base : Nat) (w : World) (E : TypeId) (s : Nat) (v : Value) (n : Nat) (zs : List Int) : Prop :=
  zs.length = n * s ∧ w.ownsRow base E s v n (zs.map (Value.int .i64)) ∧ ∀ z ∈ zs, I64 z

section
variable {base n s : Nat} {w w' : World} {E : TypeId} {v : Value} {zs : List Int}
theorem MineS.nil_ (base : Nat) (w : World) (E : TypeId) (s : Nat) : MineS base w E s (.slice none 0 0) 0 [] := ⟨by simp, World.ownsRow_nil _ _ _ _, by simp⟩
theorem MineS.form (h : MineS base w E s v n zs) : ∃ A c, v = .slice A n c ∧ n ≤ c ∧ c ≤ 9223372036854775807 := by
  rcases h.2.1.2 with ⟨rfl, hn⟩ | ⟨g, cap, cur, rfl, _, _, h1, h2, _⟩
  · exact ⟨none, 0, by rw [hn], by omega, by omega⟩
  · exact ⟨_, cap, rfl, h1, by simpa [maxLen] using h2⟩
theorem MineS.ix_bd (h : MineS base w E s v n zs) (k : Nat) : I64 (ix zs k) := by
  by_cases hk : k < zs.length
  · rw [ix_get hk]; exact h.2.2 _ (List.getElem_mem _)
  · rw [ix_out (by omega)]; exact I64.zero
theorem mul_lt {k j n s : Nat} (hk : k < n) (hj : j < s) : k * s + j < n * s := by
  have : (k + 1) * s ≤ n * s := Nat.mul_le_mul_right s hk
  rw [Nat.add_mul] at this
  omega
theorem MineS.recs {A : Option Addr} {c : Nat} (h : MineS base w E s (.slice A n c) n zs) : Recs w s A n (fun k j => ix zs (k * s + j)) := by
  refine ⟨fun hn => ?_, fun k j => h.ix_bd (k * s + j)⟩
  rcases h.2.1.2 with ⟨_, h0⟩ | ⟨g, cap, cur, hv, hb, hh, h1, h2, h3, h4⟩
  · omega
  · injection hv with e1 e2 e3
    subst e1 e3
    have hlt : g < w.heap.size := by
      rcases Nat.lt_or_ge g w.heap.size with q | q
      · exact q
      · rw [Array.getElem?_eq_none q] at hh; cases hh
    refine ⟨g, 0, rfl, hlt, fun k hk j hj => ?_⟩
    have hm := mul_lt hk hj
    have hc := h.2.1.cellAt (k * s + j) hm
    have hz : zs.length = n * s := h.1
    show _ = some (Value.int .i64 (ix zs (k * s + j)))
    rw [Nat.zero_add, hc, List.getElem?_map, List.getElem?_eq_getElem (by omega), ix_get (by omega)]
    rfl
theorem MineS.kept {row : Option Nat} (h : MineS base w E s v n zs) (hg : w.grownBy w' row) (hne : v.ownBlock = none ∨ v.ownBlock ≠ row) : MineS base w' E s v n zs :=
  ⟨h.1, h.2.1.kept hg hne, h.2.2⟩
theorem MineS.ext (h : MineS base w E s v n zs) (he : Ext w w') : MineS base w' E s v n zs :=
  h.kept (he.grownBy none) (by cases v.ownBlock <;> simp)
theorem MineS.alloc (h : MineS base w E s v n zs) (o : Obj) : MineS base (w.alloc o) E s v n zs := h.ext (.alloc (.refl _) _)
theorem MineS.more {base' : Nat} (h : MineS base w E s v n zs) (hb : base' ≤ base) : MineS base' w E s v n zs := by
  refine ⟨h.1, ⟨h.2.1.1, ?_⟩, h.2.2⟩
  rcases h.2.1.2 with h1 | ⟨g, cap, cur, h1, h2, h3⟩
  · exact .inl h1
  · exact .inr ⟨g, cap, cur, h1, by omega, h3⟩
theorem MineS.lt (h : MineS base w E s v n zs) : ∀ k, v.ownBlock = some k → base ≤ k ∧ k < w.heap.size := h.2.1.lt
theorem MineS.old (h : MineS base w E s v n zs) : Old w.heap.size v := fun k hk => (h.lt k hk).2
theorem MineS.at_ {g c k j : Nat} (h : MineS base w E s (.slice (some ⟨g, 0, none⟩) n c) n zs) (hk : k < n) (hj : j < s) :
    w.cell? ⟨g, k * s + j, none⟩ = some (.int .i64 (ix zs (k * s + j))) ∧ w.frozen? ⟨g, k * s + j, none⟩ = false ∧ base ≤ g ∧ g < w.heap.size := by
  have hm := mul_lt hk hj
  have hc := h.2.1.cellAt (k * s + j) hm
  have hz : zs.length = n * s := h.1
  rw [List.getElem?_map, List.getElem?_eq_getElem (by omega)] at hc
  refine ⟨by rw [hc, ix_get (by omega)]; rfl, h.2.1.frozenAt _, h.lt g rfl⟩
theorem MineS.stored {g c i : Nat} {z : Int} (h : MineS base w E s (.slice (some ⟨g, 0, none⟩) n c) n zs) (hz : I64 z) :
    MineS base (w.setCell ⟨g, i, none⟩ (.int .i64 z)) E s (.slice (some ⟨g, 0, none⟩) n c) n (zs.set i z) := by
  refine ⟨by simpa using h.1, ?_, ?_⟩
  · have := (h.2.1.stored i (.int .i64 z)).1
    rwa [← List.map_set] at this
  · intro x hx
    rcases List.mem_or_eq_of_mem_set hx with q | q
    · exact h.2.2 x q
    · rw [q]; exact hz
theorem MineS.some_ {A : Option Addr} {c : Nat} (h : MineS base w E s (.slice A n c) n zs) (hn : 0 < n) : ∃ g, A = some ⟨g, 0, none⟩ := by
  rcases h.2.1.2 with ⟨_, h0⟩ | ⟨g, cap, cur, hv, _⟩
  · omega
  · injection hv with e1 e2 e3
    exact ⟨g, e1⟩
theorem MineS.far (h : MineS base w E s v n zs) {p : Addr} (hp : p.block < base) (u : Value) : MineS base (w.setCell p u) E s v n zs :=
  h.kept (row := some p.block) ⟨rfl, rfl, rfl, by simp [World.setCell], fun k _ hne => Below.heap_setCell _ _ _ _ (by rintro rfl; exact hne rfl)⟩ (by
    by_cases q : v.ownBlock = none
    · exact .inl q
    · right
      intro e
      have := h.lt _ e
      omega)
theorem MineS.ext_of {a : World} (h : MineS base w E s v n zs) (X : Ext a w) (hb : a.heap.size ≤ base) (hg : w.grownBy w' v.ownBlock) : Ext a w' :=
  X.grown hg fun k hk => by have := h.lt k hk; omega
end

/-- A call hands back a row of structs of its own. -/
def PostS (w : World) (E : TypeId) (s n : Nat) (zs : List Int) (e : Ending) (w' : World) : Prop :=
  ∃ A c, e = .returned (.slice A n c) ∧ n ≤ c ∧ c ≤ 9223372036854775807 ∧ MineS w.heap.size w' E s (.slice A n c) n zs ∧ Ext w w'

/-- The numbers of the first n rows of a function of two numbers, one behind the other. -/
def flat (s n : Nat) (f : Nat → Nat → Int) : List Int := tab (n * s) fun i => f (i / s) (i % s)
theorem flat_len (s n : Nat) (f : Nat → Nat → Int) : (flat s n f).length = n * s := tab_len _ _
theorem flat_ix {s n : Nat} {f : Nat → Nat → Int} {k j : Nat} (hk : k < n) (hj : j < s) : ix (flat s n f) (k * s + j) = f k j := by
  unfold flat
  rw [tab_ix (mul_lt hk hj)]
  have h1 : (k * s + j) / s = k := by
    rw [Nat.add_comm, Nat.add_mul_div_right _ _ (by omega), Nat.div_eq_of_lt hj, Nat.zero_add]
  have h2 : (k * s + j) % s = j := by
    rw [Nat.add_comm, Nat.add_mul_mod_self_right, Nat.mod_eq_of_lt hj]
  rw [h1, h2]
end Go.Proofs.YtgmhmlhdiklaaaaGreatDoor
