/-
  General words for every proof of this seat: a world that has only grown ('World.gr'), a slice that reads as a list, one walk for every order of a region. Nothing of the program stands here. No conditions.
-/
import Derived.WalkKit
import Derived.ProofKit
import Derived.OpenShut
import Derived.Below
import Derived.Carry
import Derived.Laws.OwnMore
import Derived.Laws.Rows
import Derived.Deep.Draws
import Derived.Deep.Slices
import Derived.BigQuiet
import Derived.OwnWalk
import Derived.Lib.Hide
import Derived.IntWalk
namespace Go.Proofs.YtgmhmlhdiklaaaaGreatDoor
open Go.RowKit

/-- What a world may gain: new blocks behind the old ones, and another count of draws. -/
structure Gr where
  objs : Array Obj
  n : Nat

instance : Inhabited Gr := ⟨⟨#[], 0⟩⟩

def wgr (w : World) (g : Gr) : World := { w with heap := w.heap ++ g.objs, drawn := g.n }

section
variable (w : World) (g h : Gr) (a : Addr) (o : Obj)
@[simp, go_sem] theorem wgr_wgr : wgr (wgr w g) h = wgr w ⟨g.objs ++ h.objs, h.n⟩ := by
  simp [wgr, Array.append_assoc]
@[simp, go_sem] theorem size_wgr : (wgr w g).heap.size = w.heap.size + g.objs.size := by simp [wgr]
@[simp, go_sem] theorem drew_wgr : (wgr w g).drew = wgr w ⟨g.objs, g.n + 1⟩ := rfl
@[simp, go_sem] theorem drewN_wgr (k : Nat) : (wgr w g).drewN k = wgr w ⟨g.objs, g.n + k⟩ := rfl
@[simp, go_sem] theorem wgr_drew : wgr w.drew g = wgr w g := rfl
@[simp, go_sem] theorem wgr_drewN (k : Nat) : wgr (w.drewN k) g = wgr w g := rfl
@[simp, go_sem] theorem tape_wgr : (wgr w g).tape = w.tape := rfl
theorem heap_wgr (k : Nat) (hk : k < w.heap.size) : (wgr w g).heap[k]? = w.heap[k]? := by
  simp [wgr, Array.getElem?_append_left hk]
@[simp, go_sem] theorem cell_wgr (hs : (w.cell? a).isSome = true) : (wgr w g).cell? a = w.cell? a := by
  obtain ⟨u, hu⟩ := Option.isSome_iff_exists.1 hs
  have hb := World.block_lt_of_cell? w a hu
  unfold World.cell?
  rw [heap_wgr w g a.block hb]
@[simp, go_sem] theorem frozen_wgr (hs : (w.cell? a).isSome = true) : (wgr w g).frozen? a = w.frozen? a := by
  obtain ⟨u, hu⟩ := Option.isSome_iff_exists.1 hs
  have hb := World.block_lt_of_cell? w a hu
  unfold World.frozen?
  rw [heap_wgr w g a.block hb]
end

/-- The world w' is w grown. -/
def Ext (w w' : World) : Prop := ∃ g, w' = wgr w g

theorem wgr_self (w : World) : w = wgr w ⟨#[], w.drawn⟩ := by simp [wgr]
theorem Ext.refl (w : World) : Ext w w := ⟨⟨#[], w.drawn⟩, wgr_self w⟩
theorem Ext.gr (w : World) (g : Gr) : Ext w (wgr w g) := ⟨g, rfl⟩
theorem Ext.trans {a b c : World} (h : Ext a b) (k : Ext b c) : Ext a c := by
  obtain ⟨g, rfl⟩ := h
  obtain ⟨g', rfl⟩ := k
  exact ⟨_, wgr_wgr a g g'⟩
theorem Ext.of_below {w w' : World} (h : Below w.heap.size w w') : Ext w w' := by
  refine ⟨⟨w'.heap.extract w.heap.size w'.heap.size, w'.drawn⟩, ?_⟩
  have hh : w'.heap = w.heap ++ w'.heap.extract w.heap.size w'.heap.size := by
    apply Array.ext_getElem?
    intro k
    by_cases hk : k < w.heap.size
    · rw [Array.getElem?_append_left hk, h.block k hk]
    · have hk' : w.heap.size ≤ k := by omega
      rw [Array.getElem?_append_right hk', Array.getElem?_extract]
      have hs := h.size
      by_cases h2 : k < w'.heap.size
      · rw [if_pos (by omega)]
        congr 1
        omega
      · rw [if_neg (by omega), Array.getElem?_eq_none (by omega)]
  cases w'
  cases w
  have e1 := h.os
  have e2 := h.tape
  have e3 := h.output
  simp only at e1 e2 e3 hh ⊢
  subst e1 e2 e3
  unfold wgr
  congr 1
theorem Ext.below {w w' : World} (h : Ext w w') : Below w.heap.size w w' := by
  obtain ⟨g, rfl⟩ := h
  exact ⟨rfl, rfl, rfl, by simp, fun k hk => heap_wgr w g k hk⟩
theorem Ext.alloc {a w : World} (h : Ext a w) (o : Obj) : Ext a (w.alloc o) := .of_below (h.below.alloc h.below.size o)
theorem Ext.drew {a w : World} (h : Ext a w) : Ext a w.drew := .of_below h.below.drew
theorem Ext.drewN {a w : World} (h : Ext a w) (k : Nat) : Ext a (w.drewN k) := by
  obtain ⟨g, rfl⟩ := h
  exact ⟨_, drewN_wgr a g k⟩
theorem Ext.wgr {a w : World} (h : Ext a w) (g : Gr) : Ext a (wgr w g) := h.trans ⟨g, rfl⟩
theorem Ext.setCell {a w : World} (h : Ext a w) {p : Addr} (hp : a.heap.size ≤ p.block) (u : Value) : Ext a (w.setCell p u) := .of_below (h.below.setCell hp u)
theorem Ext.grown {a w w' : World} {row : Option Nat} (h : Ext a w) (hg : w.grownBy w' row) (hr : ∀ k, row = some k → a.heap.size ≤ k) : Ext a w' :=
  .of_below (h.below.grown hg h.below.size hr)

/-- A region that draws its order, whose operations only read and whose callees at most make new memory: one walk of the text's order serves every order. -/
theorem wp_region_gr {P : Program} {id : Nat} {Q : Exit → Act → World → Prop} {a : Act} {w : World} {l : List Oper} (hm : P.follows .mixedOrders = true) (hB : Region.lexB .any l.toArray = true)
    (h : wpQuiet P l.toArray (fun w' => ∃ g : Gr, w' = Go.Proofs.YtgmhmlhdiklaaaaGreatDoor.wgr w g) (fun a' => ∀ w', (∃ g : Gr, w' = Go.Proofs.YtgmhmlhdiklaaaaGreatDoor.wgr w g) → Q .normal a' w') l a) : (Code.region id l.toArray true).wp P Q a w :=
  wp_region_quiet (C := fun w' => ∃ g : Gr, w' = Go.Proofs.YtgmhmlhdiklaaaaGreatDoor.wgr w g) hm hB ⟨⟨#[], w.drawn + 1⟩, by simp [Go.Proofs.YtgmhmlhdiklaaaaGreatDoor.wgr]⟩ (by simpa using h)

/-- The same from a world that has grown already: the class is that of the first world. -/
theorem wp_region_gr2 {P : Program} {id : Nat} {Q : Exit → Act → World → Prop} {a : Act} {w : World} {g0 : Gr} {l : List Oper} (hm : P.follows .mixedOrders = true) (hB : Region.lexB .any l.toArray = true)
    (h : wpQuiet P l.toArray (fun w' => ∃ g : Gr, w' = Go.Proofs.YtgmhmlhdiklaaaaGreatDoor.wgr w g) (fun a' => ∀ w', (∃ g : Gr, w' = Go.Proofs.YtgmhmlhdiklaaaaGreatDoor.wgr w g) → Q .normal a' w') l a) : (Code.region id l.toArray true).wp P Q a (Go.Proofs.YtgmhmlhdiklaaaaGreatDoor.wgr w g0) :=
  wp_region_quiet (C := fun w' => ∃ g : Gr, w' = Go.Proofs.YtgmhmlhdiklaaaaGreatDoor.wgr w g) hm hB ⟨⟨g0.objs, g0.n + 1⟩, by simp [Go.Proofs.YtgmhmlhdiklaaaaGreatDoor.wgr]⟩ (by simpa using h)

/-- A callee's contract, met inside such a region. -/
theorem gr_of {P : Program} {f : FuncId} {args : Array Value} {w : World} {g : Gr} {v : Value}
    (h : Calls P f args (wgr w g) fun e w' => e = .returned v ∧ Ext (wgr w g) w') : Calls P f args (wgr w g) fun e w'' => e = .returned v ∧ ∃ k, w'' = wgr w k :=
  h.mono fun _ _ ⟨he, k, hk⟩ => ⟨he, _, hk.trans (wgr_wgr w g k)⟩

attribute [irreducible] Go.Proofs.YtgmhmlhdiklaaaaGreatDoor.wgr

theorem Ext.cell {w w' : World} (h : Ext w w') {a : Addr} {u : Value} (hc : w.cell? a = some u) : w'.cell? a = some u := by
  obtain ⟨g, rfl⟩ := h
  rw [cell_wgr _ _ _ (by rw [hc]; rfl)]; exact hc

theorem Ext.frozen {w w' : World} (h : Ext w w') {a : Addr} {u : Value} (hc : w.cell? a = some u) (hf : w.frozen? a = false) : w'.frozen? a = false := by
  obtain ⟨g, rfl⟩ := h
  rw [frozen_wgr _ _ _ (by rw [hc]; rfl)]; exact hf

/-- The slice '.slice A n c' holds the cells xs (size cells an element). -/
def Reads (w : World) (size : Nat) (A : Option Addr) (n : Nat) (xs : List Value) : Prop :=
  xs.length = n * size ∧ (0 < n → ∃ b o, A = some ⟨b, o, none⟩ ∧ b < w.heap.size ∧ ∀ j u, xs[j]? = some u → w.cell? ⟨b, o + j, none⟩ = some u)

section
variable {w w' : World} {size n : Nat} {A : Option Addr} {xs : List Value}
theorem Reads.nil_ : Reads w size none 0 [] := ⟨by simp, fun h => absurd h (by omega)⟩
theorem Reads.ext (h : Reads w size A n xs) (he : Ext w w') : Reads w' size A n xs :=
  ⟨h.1, fun hn => by
    obtain ⟨b, o, e, hb, hc⟩ := h.2 hn
    obtain ⟨g, rfl⟩ := he
    exact ⟨b, o, e, by simp; omega, fun j u hu => by rw [cell_wgr _ _ _ (by rw [hc j u hu]; rfl)]; exact hc j u hu⟩⟩
theorem Reads.gr (h : Reads w size A n xs) (g : Gr) : Reads (wgr w g) size A n xs := h.ext ⟨g, rfl⟩
theorem Reads.at1 {k : Nat} (h : Reads w 1 A n xs) (hk : k < n) : ∃ b o u, A = some ⟨b, o, none⟩ ∧ b < w.heap.size ∧ xs[k]? = some u ∧ w.cell? ⟨b, o + k, none⟩ = some u := by
  obtain ⟨b, o, e, hb, hc⟩ := h.2 (by omega)
  have hl : k < xs.length := by have := h.1; omega
  exact ⟨b, o, xs[k], e, hb, List.getElem?_eq_getElem hl, hc k _ (List.getElem?_eq_getElem hl)⟩
end

end Go.Proofs.YtgmhmlhdiklaaaaGreatDoor
