/-
  A row of integers that a call has made itself ('Mine'): how it is read, kept, stored into and appended to. Nothing of the program stands here. No conditions.
-/
import Derived.Test.YtgmhmlhdiklaaaaGreatDoorKitB
namespace Go.Proofs.YtgmhmlhdiklaaaaGreatDoor
open Go.RowKit

def ix (zs : List Int) (k : Nat) : Int := zs.getD k 0
set_option linter.unusedVariables false
theorem ix_get {zs : List Int} {k : Nat} (h : k < zs.length) : ix zs k = zs[k] := by simp [ix, h]
theorem ix_out {zs : List Int} {k : Nat} (h : zs.length ≤ k) : ix zs k = 0 := by simp [ix, h]
theorem ix_snoc {zs : List Int} {x : Int} {k : Nat} : ix (zs ++ [x]) k = if k < zs.length then ix zs k else if k = zs.length then x else 0 := by
  unfold ix
  rw [List.getD_eq_getElem?_getD, List.getD_eq_getElem?_getD]
  by_cases h : k < zs.length
  · rw [if_pos h, List.getElem?_append_left h]
  · rw [if_neg h, List.getElem?_append_right (by omega)]
    by_cases e : k = zs.length
    · subst e; simp
    · rw [if_neg e, List.getElem?_eq_none (by simp; omega)]; rfl
theorem ext_ix {xs ys : List Int} (h : xs.length = ys.length) (hk : ∀ k, k < xs.length → ix xs k = ix ys k) : xs = ys := by
  apply List.ext_getElem h
  intro k h1 h2
  have := hk k h1
  rwa [ix_get h1, ix_get h2] at this

/-- The first n values of a function, as a list. -/
def tab (n : Nat) (f : Nat → Int) : List Int := (List.range n).map f
theorem tab_len (n : Nat) (f : Nat → Int) : (tab n f).length = n := by simp [tab]
theorem tab_ix {n : Nat} {f : Nat → Int} {k : Nat} (h : k < n) : ix (tab n f) k = f k := by
  rw [ix_get (by simpa [tab] using h)]; simp [tab]
theorem tab_set {n k : Nat} {f g : Nat → Int} (hk : k < n) (h : ∀ j, j < n → g j = if j = k then g k else f j) : (tab n f).set k (g k) = tab n g := by
  apply List.ext_getElem (by simp [tab])
  intro j h1 h2
  have hj : j < n := by simpa [tab] using h2
  rw [List.getElem_set]
  have := h j hj
  by_cases e : k = j
  · subst e; simp [tab]
  · rw [if_neg e]; rw [if_neg (Ne.symm e)] at this; simp [tab, this]

def I64 (z : Int) : Prop := -9223372036854775808 ≤ z ∧ z ≤ 9223372036854775807
theorem I64.zero : I64 0 := by unfold I64; omega

/-- The slice value v, of n integers, is a row that the call has made itself, in a block from base on, and holds zs. -/
def Mine (base : Nat) (w : World) (E : TypeId) (v : Value) (n : Nat) (zs : List Int) : Prop :=
  zs.length = n ∧ w.ownsRow base E 1 v n (zs.map (Value.int .i64)) ∧ ∀ z ∈ zs, I64 z

theorem Ext.grownBy {w w' : World} (h : Ext w w') (row : Option Nat) : w.grownBy w' row :=
  ⟨h.below.os, h.below.tape, h.below.output, h.below.size, fun k hk _ => h.below.block k hk⟩

section
variable {base n : Nat} {w w' : World} {E : TypeId} {v : Value} {zs : List Int}
theorem Mine.nil_ (base : Nat) (w : World) (E : TypeId) : Mine base w E (.slice none 0 0) 0 [] := ⟨rfl, World.ownsRow_nil _ _ _ _, by simp⟩
theorem Mine.form (h : Mine base w E v n zs) : ∃ A c, v = .slice A n c ∧ n ≤ c ∧ c ≤ 9223372036854775807 := by
  rcases h.2.1.2 with ⟨rfl, hn⟩ | ⟨g, cap, cur, rfl, _, _, h1, h2, _⟩
  · exact ⟨none, 0, by rw [hn], by omega, by omega⟩
  · exact ⟨_, cap, rfl, h1, by simpa [maxLen] using h2⟩
theorem Mine.ix_bd (h : Mine base w E v n zs) (k : Nat) : I64 (ix zs k) := by
  by_cases hk : k < zs.length
  · rw [ix_get hk]; exact h.2.2 _ (List.getElem_mem _)
  · rw [ix_out (by omega)]; exact I64.zero
theorem Mine.recs {A : Option Addr} {c : Nat} (h : Mine base w E (.slice A n c) n zs) : Recs w 1 A n (fun k _ => ix zs k) := by
  refine ⟨fun hn => ?_, fun k _ => h.ix_bd k⟩
  rcases h.2.1.2 with ⟨_, h0⟩ | ⟨g, cap, cur, hv, hb, hh, h1, h2, h3, h4⟩
  · omega
  · injection hv with e1 e2 e3
    subst e1 e3
    have hlt : g < w.heap.size := by
      rcases Nat.lt_or_ge g w.heap.size with q | q
      · exact q
      · rw [Array.getElem?_eq_none q] at hh; cases hh
    refine ⟨g, 0, rfl, hlt, fun k hk j hj => ?_⟩
    obtain rfl : j = 0 := by omega
    have hc := h.2.1.cellAt k (by omega)
    rw [show 0 + k * 1 + 0 = k by omega, hc]
    have hz : zs.length = n := h.1
    show _ = some (Value.int .i64 (ix zs k))
    rw [List.getElem?_map, List.getElem?_eq_getElem (by omega), ix_get (by omega)]
    rfl
theorem Mine.kept {row : Option Nat} (h : Mine base w E v n zs) (hg : w.grownBy w' row) (hne : v.ownBlock = none ∨ v.ownBlock ≠ row) : Mine base w' E v n zs :=
  ⟨h.1, h.2.1.kept hg hne, h.2.2⟩
theorem Mine.ext (h : Mine base w E v n zs) (he : Ext w w') : Mine base w' E v n zs :=
  h.kept (he.grownBy none) (by cases v.ownBlock <;> simp)
theorem Mine.gr (h : Mine base w E v n zs) (g : Gr) : Mine base (wgr w g) E v n zs := h.ext ⟨g, rfl⟩
theorem Mine.alloc (h : Mine base w E v n zs) (o : Obj) : Mine base (w.alloc o) E v n zs := h.ext (.alloc (.refl _) _)
theorem Mine.drew (h : Mine base w E v n zs) : Mine base w.drew E v n zs := h.ext (.drew (.refl _))
theorem Mine.more {base' : Nat} (h : Mine base w E v n zs) (hb : base' ≤ base) : Mine base' w E v n zs := by
  refine ⟨h.1, ⟨h.2.1.1, ?_⟩, h.2.2⟩
  rcases h.2.1.2 with h1 | ⟨g, cap, cur, h1, h2, h3⟩
  · exact .inl h1
  · exact .inr ⟨g, cap, cur, h1, by omega, h3⟩
theorem Mine.lt (h : Mine base w E v n zs) : ∀ k, v.ownBlock = some k → base ≤ k ∧ k < w.heap.size := h.2.1.lt
/-- The cells of a row that is not nil, for a store. -/
theorem Mine.at_ {g c k : Nat} (h : Mine base w E (.slice (some ⟨g, 0, none⟩) n c) n zs) (hk : k < n) :
    w.cell? ⟨g, k, none⟩ = some (.int .i64 (ix zs k)) ∧ w.frozen? ⟨g, k, none⟩ = false ∧ base ≤ g ∧ g < w.heap.size := by
  have hc := h.2.1.cellAt k (by omega)
  have hz : zs.length = n := h.1
  rw [List.getElem?_map, List.getElem?_eq_getElem (by omega)] at hc
  refine ⟨by rw [hc, ix_get (by omega)]; rfl, h.2.1.frozenAt k, h.lt g rfl⟩
theorem Mine.stored {g c k : Nat} {z : Int} (h : Mine base w E (.slice (some ⟨g, 0, none⟩) n c) n zs) (hk : k < n) (hz : I64 z) :
    Mine base (w.setCell ⟨g, k, none⟩ (.int .i64 z)) E (.slice (some ⟨g, 0, none⟩) n c) n (zs.set k z) := by
  refine ⟨by simpa using h.1, ?_, ?_⟩
  · have := (h.2.1.stored k (.int .i64 z)).1
    rwa [← List.map_set] at this
  · intro x hx
    rcases List.mem_or_eq_of_mem_set hx with q | q
    · exact h.2.2 x q
    · rw [q]; exact hz
/-- A row that is not empty lies at a block's head. -/
theorem Mine.some_ {A : Option Addr} {c : Nat} (h : Mine base w E (.slice A n c) n zs) (hn : 0 < n) : ∃ g, A = some ⟨g, 0, none⟩ := by
  rcases h.2.1.2 with ⟨_, h0⟩ | ⟨g, cap, cur, hv, _⟩
  · omega
  · injection hv with e1 e2 e3
    exact ⟨g, e1⟩
end

/-- A call hands back a row of its own that holds zs; the world has only grown. -/
def PostI (w : World) (E : TypeId) (n : Nat) (zs : List Int) (e : Ending) (w' : World) : Prop :=
  ∃ A c, e = .returned (.slice A n c) ∧ n ≤ c ∧ c ≤ 9223372036854775807 ∧ Mine w.heap.size w' E (.slice A n c) n zs ∧ Ext w w'
theorem Mine.lit0 (w : World) (E : TypeId) : Mine w.heap.size (w.alloc (.cells #[] E)) E (.slice (some ⟨w.heap.size, 0, none⟩) 0 0) 0 [] :=
  ⟨rfl, by simpa using World.ownsRow_made (base := w.heap.size) (e := E) (size := 1) w #[] 0 (Nat.le_refl _) (by simp [maxLen]) (by simp), by simp⟩
theorem Mine.fresh {w w' : World} {base : Nat} {E : TypeId} {v : Value} {n : Nat} {zs : List Int} (h : Mine base w E v n zs) {a : World} (he : Ext a w) (hb : a.heap.size ≤ base) {row : Option Nat} (hg : w.grownBy w' row) (hr : row = v.ownBlock) : Ext a w' :=
  he.grown hg fun k hk => by rw [hr] at hk; have := h.lt k hk; omega

theorem cell_new1 {w : World} {b : Nat} {u : Value} {E : TypeId} (h : b = w.heap.size) : (w.alloc (.cells #[u] E)).cell? ⟨b, 0, none⟩ = some u := by
  subst h; simp
theorem base_wgr {w : World} {g : Gr} {o : Obj} : w.heap.size ≤ ((wgr w g).alloc o).heap.size := by
  rw [World.size_alloc, size_wgr]; omega
/-- append of one integer to a row of the call's own. -/
theorem wpList_append_one {P : Program} (w : World) {ops : Array Oper} {rest : List Oper} {o : Oper} {a : Act} {Q : Exit → Act → World → Prop} (hgd : o.guard = none) (s x : Operand) (t : TypeId)
    (ho : o.op = .call { callee := .builtin .append, args := #[s, x], argTypes := #[t, t] })
    (base : Nat) (E : TypeId) (i : TypeInfo) (ht : P.underlying t = some (.slice E)) (hi : P.info? E = some i) (hz : i.zero = some (.int .i64 0)) (hsize : i.size = 1) (hby : i.bytes = 8)
    (v : Value) (n : Nat) (zs : List Int) (hs : a.eval s = v) (hm : Mine base w E v n zs) (z : Int) (b : Nat) (hx : a.eval x = .slice (some ⟨b, 0, none⟩) 1 1) (hc : w.cell? ⟨b, 0, none⟩ = some (.int .i64 z)) (hz64 : I64 z)
    (hn : n ≤ 1000000000000) (hbase : base ≤ w.heap.size)
    (h : ∀ v' w', Mine base w' E v' (n + 1) (zs ++ [z]) → w.grownBy w' v.ownBlock → wpList P ops Q rest (a.put o.dst v') w') : wpList P ops Q (o :: rest) a w := by
  refine wpList_append_own w hgd s x t ho base E i (.int .i64 0) 1 8 ht hi hz hsize hby rfl (by decide) v n _ hs hm.2.1 ⟨b, 0, none⟩ 1 1 [.int .i64 z] hx rfl ?_ ?_ (by simp only [maxLen]; omega) (by omega) hbase ?_
  · intro j u hj
    match j, hj with
    | 0, hj => simp at hj; subst hj; simpa [Addr.add] using hc
  · intro u hu; simp at hu; subst hu; rfl
  · intro v' w' hown hg _
    refine h v' w' ⟨by simp [hm.1], by simpa using hown, ?_⟩ hg
    intro q hq
    rcases List.mem_append.1 hq with q1 | q1
    · exact hm.2.2 q q1
    · simp at q1; subst q1; exact hz64

/-- The numbers below n at which p holds, in order. -/
def pick (n : Nat) (p : Nat → Bool) : List Int := ((List.range n).filter p).map fun (j : Nat) => (j : Int)
theorem pick_yes {n : Nat} {p : Nat → Bool} (h : p n = true) : pick (n + 1) p = pick n p ++ [(n : Int)] := by
  simp [pick, List.range_succ, List.filter_append, h]
theorem pick_no {n : Nat} {p : Nat → Bool} (h : p n = false) : pick (n + 1) p = pick n p := by
  simp [pick, List.range_succ, List.filter_append, h]
theorem pick_len (n : Nat) (p : Nat → Bool) : (pick n p).length ≤ n := by
  simp only [pick, List.length_map]
  exact Nat.le_trans (List.length_filter_le _ _) (by simp)
theorem pick_room {n : Nat} {p : Nat → Bool} (h : n ≤ 1048576) : (1 : Int) + ((pick n p).length : Nat) ≤ 9223372036854775807 := by
  have := pick_len n p; omega
theorem pick_mem {n : Nat} {p : Nat → Bool} {z : Int} : z ∈ pick n p ↔ ∃ j : Nat, j < n ∧ p j = true ∧ z = j := by
  simp only [pick, List.mem_map, List.mem_filter, List.mem_range]
  constructor
  · rintro ⟨j, ⟨h1, h2⟩, rfl⟩; exact ⟨j, h1, h2, rfl⟩
  · rintro ⟨j, h1, h2, rfl⟩; exact ⟨j, ⟨h1, h2⟩, rfl⟩
theorem pick_congr {n : Nat} {p q : Nat → Bool} (h : ∀ j, j < n → p j = q j) : pick n p = pick n q := by
  unfold pick
  rw [List.filter_congr (fun j hj => h j (by simpa using hj))]

/-- The value's own block, if any, lies below B. -/
def Old (B : Nat) (v : Value) : Prop := ∀ k, v.ownBlock = some k → k < B
theorem Mine.old {base : Nat} {w : World} {E : TypeId} {v : Value} {n : Nat} {zs : List Int} (h : Mine base w E v n zs) : Old w.heap.size v := fun k hk => (h.lt k hk).2
theorem apart_old {B base : Nat} {w : World} {E : TypeId} {v v' : Value} {n : Nat} {zs : List Int} (h : Mine base w E v' n zs) (hB : B ≤ base) (o : Old B v) : v.ownBlock = none ∨ v.ownBlock ≠ v'.ownBlock := by
  by_cases q : v.ownBlock = none
  · exact .inl q
  · right
    intro e
    obtain ⟨k, hk⟩ := Option.ne_none_iff_exists'.1 q
    have h1 := o k hk
    have h2 := h.lt k (by rw [← e]; exact hk)
    omega
theorem apart_new {B base : Nat} {w : World} {E : TypeId} {v v' : Value} {n : Nat} {zs : List Int} (h : Mine base w E v' n zs) (hB : B ≤ base) (o : Old B v) : v'.ownBlock = none ∨ v'.ownBlock ≠ v.ownBlock := by
  by_cases q : v'.ownBlock = none
  · exact .inl q
  · right
    intro e
    obtain ⟨k, hk⟩ := Option.ne_none_iff_exists'.1 q
    have h1 := o k (by rw [← e]; exact hk)
    have h2 := h.lt k hk
    omega
theorem Mine.ext_of {base : Nat} {a w w' : World} {E : TypeId} {v : Value} {n : Nat} {zs : List Int} (h : Mine base w E v n zs) (X : Ext a w) (hb : a.heap.size ≤ base) (hg : w.grownBy w' v.ownBlock) : Ext a w' :=
  X.grown hg fun k hk => by have := h.lt k hk; omega
theorem Mine.far {base : Nat} {w : World} {E : TypeId} {v : Value} {n : Nat} {zs : List Int} (h : Mine base w E v n zs) {p : Addr} (hp : p.block < base) (u : Value) : Mine base (w.setCell p u) E v n zs :=
  h.kept (row := some p.block) ⟨rfl, rfl, rfl, by simp [World.setCell], fun k _ hne => Below.heap_setCell _ _ _ _ (by rintro rfl; exact hne rfl)⟩ (by
    by_cases q : v.ownBlock = none
    · exact .inl q
    · right
      intro e
      have := h.lt _ e
      omega)
theorem Ext.size {a w : World} (h : Ext a w) : a.heap.size ≤ w.heap.size := h.below.size

/-- The sum of the first k values. -/
def psum (g : Nat → Int) : Nat → Int
  | 0 => 0
  | k + 1 => psum g k + g k
theorem psum_bd {g : Nat → Int} {a b : Int} (h : ∀ k, a ≤ g k ∧ g k ≤ b) : ∀ k : Nat, a * k ≤ psum g k ∧ psum g k ≤ b * k
  | 0 => by simp [psum]
  | k + 1 => by
    have h1 := psum_bd h k
    have h2 := h k
    show a * ((k + 1 : Nat) : Int) ≤ psum g k + g k ∧ psum g k + g k ≤ b * ((k + 1 : Nat) : Int)
    rw [Int.natCast_add, Int.mul_add, Int.mul_add]
    omega
theorem psum_bd' {g : Nat → Int} {a b : Int} {n : Nat} (h : ∀ k, k < n → a ≤ g k ∧ g k ≤ b) : ∀ k : Nat, k ≤ n → a * k ≤ psum g k ∧ psum g k ≤ b * k
  | 0, _ => by simp [psum]
  | k + 1, hk => by
    have h1 := psum_bd' h k (by omega)
    have h2 := h k (by omega)
    show a * ((k + 1 : Nat) : Int) ≤ psum g k + g k ∧ psum g k + g k ≤ b * ((k + 1 : Nat) : Int)
    rw [Int.natCast_add, Int.mul_add, Int.mul_add]
    omega
theorem psum_congr {g h : Nat → Int} : ∀ {k : Nat}, (∀ j, j < k → g j = h j) → psum g k = psum h k
  | 0, _ => rfl
  | k + 1, H => by
    show psum g k + g k = psum h k + h k
    rw [psum_congr (fun j hj => H j (by omega)), H k (by omega)]
/-- The first place of the greatest of the first k values. -/
def bestTo (g : Nat → Int) : Nat → Nat
  | 0 => 0
  | k + 1 => if g (bestTo g k) < g k then k else bestTo g k
theorem bestTo_lt (g : Nat → Int) : ∀ k, bestTo g k ≤ k - 1
  | 0 => Nat.le_refl 0
  | k + 1 => by
    have := bestTo_lt g k
    show (if g (bestTo g k) < g k then k else bestTo g k) ≤ k
    split <;> omega
theorem bestTo_one (g : Nat → Int) : bestTo g 1 = 0 := by
  show (if g 0 < g 0 then 0 else 0) = 0
  split <;> rfl
theorem bestTo_yes {g : Nat → Int} {k : Nat} (h : g (bestTo g k) < g k) : bestTo g (k + 1) = k := by
  show (if g (bestTo g k) < g k then k else bestTo g k) = k
  rw [if_pos h]
theorem bestTo_no {g : Nat → Int} {k : Nat} (h : ¬ g (bestTo g k) < g k) : bestTo g (k + 1) = bestTo g k := by
  show (if g (bestTo g k) < g k then k else bestTo g k) = bestTo g k
  rw [if_neg h]
theorem bestTo_max {g : Nat → Int} : ∀ {k j : Nat}, j < k → g j ≤ g (bestTo g k)
  | 0, j, h => by omega
  | k + 1, j, h => by
    by_cases q : g (bestTo g k) < g k
    · rw [bestTo_yes q]
      by_cases e : j = k
      · subst e; omega
      · have := bestTo_max (g := g) (k := k) (j := j) (by omega); omega
    · rw [bestTo_no q]
      by_cases e : j = k
      · subst e; omega
      · exact bestTo_max (by omega)

end Go.Proofs.YtgmhmlhdiklaaaaGreatDoor
