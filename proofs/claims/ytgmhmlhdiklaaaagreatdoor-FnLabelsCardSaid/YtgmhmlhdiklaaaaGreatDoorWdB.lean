/-
  Rows of two ints: append of a row as a step of a region that draws its order; the reference's copy of a window. No conditions.
-/
import Derived.Deep.DeepCutAuto
import Derived.Deep.CutRange
import Derived.Deep.DrawnRows
import Derived.RowKit3
import Derived.Laws.OwnMore
import Derived.Laws.Closers25b
import Derived.Maps.AppendAt
import Derived.Laws.AppendOwnNone
import Derived.Deep.RegionLaw
import Derived.Deep.RegionHeld3
import Derived.Test.YtgmhmlhdiklaaaaGreatDoorWdA
import Derived.Test.YtgmhmlhdiklaaaaGreatDoorInts
namespace Go.Proofs.YtgmhmlhdiklaaaaGreatDoor
open Go.RowKit
set_option linter.unusedVariables false

theorem infoNode : (Tryz.prog.info? 38).map (fun i => (i.zero, i.size, i.bytes)) = some (some (Value.agg #[.int .i64 0, .int .i64 0]), 2, 16) := by kernel_rfl
theorem infoLead : (Tryz.prog.info? 71).map (fun i => (i.zero, i.size, i.bytes)) = some (some (Value.agg #[.int .i64 0, .int .i64 0]), 2, 16) := by kernel_rfl
theorem rcells2 {w : World} {A : Option Addr} {n : Nat} {f : Nat → Nat → Int} (h : Recs w 2 A n f) {ad : Addr} (hA : A = some ad) : ∀ j u, ((flat 2 n f).map (Value.int .i64))[j]? = some u → w.cell? (ad.add j) = some u := by
  intro j u hj
  have hlt : j < n * 2 := by
    have := (List.getElem?_eq_some_iff.1 hj).1
    simpa [flat_len] using this
  obtain ⟨b, o, hA2, hb, hc⟩ := h.1 (by omega)
  rw [hA] at hA2
  injection hA2 with e
  subst e
  have hcell := hc (j / 2) (by omega) (j % 2) (by omega)
  rw [List.getElem?_map, List.getElem?_eq_getElem (by simpa [flat_len] using hlt)] at hj
  simp [flat, tab] at hj
  subst hj
  rw [show o + j / 2 * 2 + j % 2 = o + j by omega] at hcell
  by_cases h0 : j = 0
  · subst h0; simpa [Addr.add] using hcell
  · simpa [Addr.add, h0] using hcell
theorem flat_bd2 {w : World} {A : Option Addr} {n : Nat} {f : Nat → Nat → Int} (h : Recs w 2 A n f) : ∀ z ∈ flat 2 n f, I64 z := by
  intro z hz
  simp [flat, tab] at hz
  obtain ⟨k, _, rfl⟩ := hz
  exact h.2 _ _
theorem flat_FW {zs : List Int} {n : Nat} (h : zs.length = n * 2) : flat 2 n (FW zs) = zs := by
  apply ext_ix (by rw [flat_len, h])
  intro i hi
  rw [flat_len] at hi
  have e : i = i / 2 * 2 + i % 2 := by omega
  rw [e, flat_ix (by omega) (by omega)]
  rfl
theorem MineS.none_ {base n c s : Nat} {w : World} {E : TypeId} {A : Option Addr} {zs : List Int} (h : MineS base w E s (.slice A n c) n zs) : A = none → n = 0 ∧ c = 0 := by
  rintro rfl
  rcases h.2.1.2 with ⟨h1, h2⟩ | ⟨g, cap, cur, hv, _⟩
  · injection h1 with _ _ e; exact ⟨h2, e⟩
  · cases hv
theorem MineS.empty_ {base s g : Nat} {w : World} {E : TypeId} {n : Nat} (h : MineS base w E s (.slice (some ⟨g, 0, none⟩) 0 0) n []) : base ≤ g ∧ g < w.heap.size ∧ w.heap[g]? = some (.cells #[] E (0, 0)) := by
  rcases h.2.1.2 with ⟨h1, h2⟩ | ⟨g', cap, cur, hv, hb, hh, h1, h2, h3, h4⟩
  · cases h1
  · injection hv with e1 e2 e3
    injection e1 with e1
    injection e1 with e1 _ _
    subst e1 e3
    have : cur = #[] := by apply Array.eq_empty_of_size_eq_zero; omega
    subst this
    exact ⟨hb, (Array.getElem?_eq_some_iff.1 hh).1, hh⟩

theorem litNode (W : World) (g base : Nat) (hg : g = W.heap.size) (hb : base ≤ W.heap.size) : MineS base (W.alloc (.cells #[] 38)) 38 2 (.slice (some ⟨g, 0, none⟩) 0 0) 0 [] := by
  subst hg
  exact MineS.more ⟨rfl, by simpa using World.ownsRow_made (base := W.heap.size) (e := 38) (size := 2) W #[] 0 (Nat.le_refl _) (by simp [maxLen]) (by simp), by simp⟩ hb
/-- append of a row to an empty literal of the call's own, as a step of a region that draws its order: nothing that was there turns. -/
theorem step_litNode {ops : Array Oper} {o : Oper} {a : Act} {w : World} {K : Act → World → Prop} {Q : Exit → Act → World → Prop} {E : Prop}
    (hgd : o.guard = none) (s x : Operand) (ho : o.op = .call { callee := .builtin .append, args := #[s, x], argTypes := #[24, 24] })
    (base g : Nat) (hs : a.eval s = .slice (some ⟨g, 0, none⟩) 0 0) (hm : MineS base w 38 2 (.slice (some ⟨g, 0, none⟩) 0 0) 0 []) (A : Option Addr) (m c : Nat) (f : Nat → Nat → Int) (hx : a.eval x = .slice A m c) (hr : Recs w 2 A m f) (hA : A = none → m = 0 ∧ c = 0)
    (hn : m ≤ 100000000000) (hbase : base ≤ w.heap.size)
    (hK : ∀ A' c' w', m ≤ c' → c' ≤ 9223372036854775807 → MineS base w' 38 2 (.slice A' m c') m (flat 2 m f) → Ext w w' → K (a.put o.dst (.slice A' m c')) w') :
    if Region.wanted o (yielded ops a.tmps) = true then Oper.wp Tryz.prog o a w K Q else E := by
  have hw : Region.wanted o (yielded ops a.tmps) = true := by simp [Region.wanted, hgd]
  rw [if_pos hw]
  obtain ⟨i0, hi, hz0, hz1, hz2⟩ := info_parts infoNode
  obtain ⟨hbg, hgl, hh⟩ := hm.empty_
  have key : ∃ v' w', (Builtin.append_ #[24, 24] o.type #[.slice (some ⟨g, 0, none⟩) 0 0, .slice A m c]).run Tryz.prog w = .ok v' w' ∧ MineS base w' 38 2 v' m (flat 2 m f) ∧ Ext w w' := by
    cases A with
    | none =>
      obtain ⟨rfl, rfl⟩ := hA rfl
      exact ⟨_, w, run_append_owned_none (P := Tryz.prog) (w := w) base 24 o.type 38 i0 2 Tryz.underlying24 hi _ 0 _ hm.2.1, by simpa [flat, tab] using hm, Ext.refl w⟩
    | some ad =>
      obtain ⟨v', w', hrun, hown, hg, _, _⟩ := run_append_own_at (P := Tryz.prog) w base 24 o.type 38 i0 (Value.agg #[.int .i64 0, .int .i64 0]) 2 16 Tryz.underlying24 hi hz0 hz1 hz2 rfl (by decide) _ 0 _ hm.2.1 ad m c ((flat 2 m f).map (Value.int .i64)) (by simp [flat_len]) (rcells2 hr rfl) (by
        intro u hu
        obtain ⟨z, _, rfl⟩ := List.mem_map.1 hu
        rfl) (by simp only [maxLen]; omega) (by omega) hbase
      rw [Nat.zero_add] at hown
      refine ⟨v', w', hrun, ⟨flat_len _ _ _, by simpa using hown, flat_bd2 hr⟩, ?_⟩
      by_cases h0 : m = 0
      · subst h0
        have hr2 := run_append_room (P := Tryz.prog) w 24 o.type 38 i0 Tryz.underlying24 hi g 0 0 #[] hh ad 0 c [] (by simp) (by simp) (by simp) (Nat.le_refl _) (by simp)
        rw [hr2] at hrun
        injection hrun with _ e
        subst e
        refine (Ext.refl w).grown (row := none) ⟨rfl, rfl, rfl, by simp, fun k hk _ => ?_⟩ (by simp)
        by_cases hkg : k = g
        · subst hkg
          rw [setRow_heap w k _ _ _ _ hh, hh]
          simp
        · exact setRow_other w g k _ hkg
      · have hr2 := run_append_grow (P := Tryz.prog) w 24 o.type 38 i0 (Value.agg #[.int .i64 0, .int .i64 0]) Tryz.underlying24 hi hz0 ⟨g, 0, none⟩ 0 0 [] (by simp) (by simp) ad m c ((flat 2 m f).map (Value.int .i64)) (by simp [flat_len, hz1]) (rcells2 hr rfl) (by omega) (by omega) (growslice_fits (by omega) (by rw [hz2]; omega))
        rw [hr2] at hrun
        injection hrun with _ e
        subst e
        exact ((Ext.refl w).drew).alloc _
  obtain ⟨v', w', hrun, h1, hg⟩ := key
  obtain ⟨A', c', rfl, h2, h3⟩ := h1.form
  unfold Oper.wp
  simp [execOp, ho, resolve, invoke, builtin, hs, hx, hrun, Result.andThen]
  exact hK A' c' w' h2 h3 h1 hg
/-- append of a row to a row of the call's own, as a step of a region that draws its order. -/
theorem step_appNode {ops : Array Oper} {o : Oper} {a : Act} {w : World} {K : Act → World → Prop} {Q : Exit → Act → World → Prop} {E : Prop}
    (hgd : o.guard = none) (s x : Operand) (ho : o.op = .call { callee := .builtin .append, args := #[s, x], argTypes := #[24, 24] })
    (base : Nat) (v : Value) (n : Nat) (zs : List Int) (hs : a.eval s = v) (hm : MineS base w 38 2 v n zs) (A : Option Addr) (m c : Nat) (f : Nat → Nat → Int) (hx : a.eval x = .slice A m c) (hr : Recs w 2 A m f) (hA : A = none → m = 0 ∧ c = 0)
    (hn : n + m ≤ 100000000000) (hbase : base ≤ w.heap.size)
    (hK : ∀ A' c' w', n + m ≤ c' → c' ≤ 9223372036854775807 → MineS base w' 38 2 (.slice A' (n + m) c') (n + m) (zs ++ flat 2 m f) → w.grownBy w' v.ownBlock → K (a.put o.dst (.slice A' (n + m) c')) w') :
    if Region.wanted o (yielded ops a.tmps) = true then Oper.wp Tryz.prog o a w K Q else E := by
  have hw : Region.wanted o (yielded ops a.tmps) = true := by simp [Region.wanted, hgd]
  rw [if_pos hw]
  obtain ⟨i0, hi, hz0, hz1, hz2⟩ := info_parts infoNode
  have key : ∃ v' w', (Builtin.append_ #[24, 24] o.type #[v, .slice A m c]).run Tryz.prog w = .ok v' w' ∧ MineS base w' 38 2 v' (n + m) (zs ++ flat 2 m f) ∧ w.grownBy w' v.ownBlock := by
    cases A with
    | none =>
      obtain ⟨rfl, rfl⟩ := hA rfl
      exact ⟨v, w, run_append_owned_none (P := Tryz.prog) (w := w) base 24 o.type 38 i0 2 Tryz.underlying24 hi v n _ hm.2.1, by simpa [flat, tab] using hm, (Ext.refl w).grownBy _⟩
    | some ad =>
      obtain ⟨v', w', hrun, hown, hg, _, _⟩ := run_append_own_at (P := Tryz.prog) w base 24 o.type 38 i0 (Value.agg #[.int .i64 0, .int .i64 0]) 2 16 Tryz.underlying24 hi hz0 hz1 hz2 rfl (by decide) v n _ hm.2.1 ad m c ((flat 2 m f).map (Value.int .i64)) (by simp [flat_len]) (rcells2 hr rfl) (by
        intro u hu
        obtain ⟨z, _, rfl⟩ := List.mem_map.1 hu
        rfl) (by simp only [maxLen]; omega) (by omega) hbase
      refine ⟨v', w', hrun, ⟨by simp [hm.1, flat_len, Nat.add_mul], by simpa using hown, ?_⟩, hg⟩
      intro y hy
      rcases List.mem_append.1 hy with e | e
      · exact hm.2.2 y e
      · exact flat_bd2 hr y e
  obtain ⟨v', w', hrun, h1, hg⟩ := key
  obtain ⟨A', c', rfl, h2, h3⟩ := h1.form
  unfold Oper.wp
  simp [execOp, ho, resolve, invoke, builtin, hs, hx, hrun, Result.andThen]
  exact hK A' c' w' h2 h3 h1 hg

theorem litLead (W : World) (g base : Nat) (hg : g = W.heap.size) (hb : base ≤ W.heap.size) : MineS base (W.alloc (.cells #[] 71)) 71 2 (.slice (some ⟨g, 0, none⟩) 0 0) 0 [] := by
  subst hg
  exact MineS.more ⟨rfl, by simpa using World.ownsRow_made (base := W.heap.size) (e := 71) (size := 2) W #[] 0 (Nat.le_refl _) (by simp [maxLen]) (by simp), by simp⟩ hb
/-- append of a row to an empty literal of the call's own, as a step of a region that draws its order: nothing that was there turns. -/
theorem step_litLead {ops : Array Oper} {o : Oper} {a : Act} {w : World} {K : Act → World → Prop} {Q : Exit → Act → World → Prop} {E : Prop}
    (hgd : o.guard = none) (s x : Operand) (ho : o.op = .call { callee := .builtin .append, args := #[s, x], argTypes := #[25, 25] })
    (base g : Nat) (hs : a.eval s = .slice (some ⟨g, 0, none⟩) 0 0) (hm : MineS base w 71 2 (.slice (some ⟨g, 0, none⟩) 0 0) 0 []) (A : Option Addr) (m c : Nat) (f : Nat → Nat → Int) (hx : a.eval x = .slice A m c) (hr : Recs w 2 A m f) (hA : A = none → m = 0 ∧ c = 0)
    (hn : m ≤ 100000000000) (hbase : base ≤ w.heap.size)
    (hK : ∀ A' c' w', m ≤ c' → c' ≤ 9223372036854775807 → MineS base w' 71 2 (.slice A' m c') m (flat 2 m f) → Ext w w' → K (a.put o.dst (.slice A' m c')) w') :
    if Region.wanted o (yielded ops a.tmps) = true then Oper.wp Tryz.prog o a w K Q else E := by
  have hw : Region.wanted o (yielded ops a.tmps) = true := by simp [Region.wanted, hgd]
  rw [if_pos hw]
  obtain ⟨i0, hi, hz0, hz1, hz2⟩ := info_parts infoLead
  obtain ⟨hbg, hgl, hh⟩ := hm.empty_
  have key : ∃ v' w', (Builtin.append_ #[25, 25] o.type #[.slice (some ⟨g, 0, none⟩) 0 0, .slice A m c]).run Tryz.prog w = .ok v' w' ∧ MineS base w' 71 2 v' m (flat 2 m f) ∧ Ext w w' := by
    cases A with
    | none =>
      obtain ⟨rfl, rfl⟩ := hA rfl
      exact ⟨_, w, run_append_owned_none (P := Tryz.prog) (w := w) base 25 o.type 71 i0 2 Tryz.underlying25 hi _ 0 _ hm.2.1, by simpa [flat, tab] using hm, Ext.refl w⟩
    | some ad =>
      obtain ⟨v', w', hrun, hown, hg, _, _⟩ := run_append_own_at (P := Tryz.prog) w base 25 o.type 71 i0 (Value.agg #[.int .i64 0, .int .i64 0]) 2 16 Tryz.underlying25 hi hz0 hz1 hz2 rfl (by decide) _ 0 _ hm.2.1 ad m c ((flat 2 m f).map (Value.int .i64)) (by simp [flat_len]) (rcells2 hr rfl) (by
        intro u hu
        obtain ⟨z, _, rfl⟩ := List.mem_map.1 hu
        rfl) (by simp only [maxLen]; omega) (by omega) hbase
      rw [Nat.zero_add] at hown
      refine ⟨v', w', hrun, ⟨flat_len _ _ _, by simpa using hown, flat_bd2 hr⟩, ?_⟩
      by_cases h0 : m = 0
      · subst h0
        have hr2 := run_append_room (P := Tryz.prog) w 25 o.type 71 i0 Tryz.underlying25 hi g 0 0 #[] hh ad 0 c [] (by simp) (by simp) (by simp) (Nat.le_refl _) (by simp)
        rw [hr2] at hrun
        injection hrun with _ e
        subst e
        refine (Ext.refl w).grown (row := none) ⟨rfl, rfl, rfl, by simp, fun k hk _ => ?_⟩ (by simp)
        by_cases hkg : k = g
        · subst hkg
          rw [setRow_heap w k _ _ _ _ hh, hh]
          simp
        · exact setRow_other w g k _ hkg
      · have hr2 := run_append_grow (P := Tryz.prog) w 25 o.type 71 i0 (Value.agg #[.int .i64 0, .int .i64 0]) Tryz.underlying25 hi hz0 ⟨g, 0, none⟩ 0 0 [] (by simp) (by simp) ad m c ((flat 2 m f).map (Value.int .i64)) (by simp [flat_len, hz1]) (rcells2 hr rfl) (by omega) (by omega) (growslice_fits (by omega) (by rw [hz2]; omega))
        rw [hr2] at hrun
        injection hrun with _ e
        subst e
        exact ((Ext.refl w).drew).alloc _
  obtain ⟨v', w', hrun, h1, hg⟩ := key
  obtain ⟨A', c', rfl, h2, h3⟩ := h1.form
  unfold Oper.wp
  simp [execOp, ho, resolve, invoke, builtin, hs, hx, hrun, Result.andThen]
  exact hK A' c' w' h2 h3 h1 hg
/-- append of a row to a row of the call's own, as a step of a region that draws its order. -/
theorem step_appLead {ops : Array Oper} {o : Oper} {a : Act} {w : World} {K : Act → World → Prop} {Q : Exit → Act → World → Prop} {E : Prop}
    (hgd : o.guard = none) (s x : Operand) (ho : o.op = .call { callee := .builtin .append, args := #[s, x], argTypes := #[25, 25] })
    (base : Nat) (v : Value) (n : Nat) (zs : List Int) (hs : a.eval s = v) (hm : MineS base w 71 2 v n zs) (A : Option Addr) (m c : Nat) (f : Nat → Nat → Int) (hx : a.eval x = .slice A m c) (hr : Recs w 2 A m f) (hA : A = none → m = 0 ∧ c = 0)
    (hn : n + m ≤ 100000000000) (hbase : base ≤ w.heap.size)
    (hK : ∀ A' c' w', n + m ≤ c' → c' ≤ 9223372036854775807 → MineS base w' 71 2 (.slice A' (n + m) c') (n + m) (zs ++ flat 2 m f) → w.grownBy w' v.ownBlock → K (a.put o.dst (.slice A' (n + m) c')) w') :
    if Region.wanted o (yielded ops a.tmps) = true then Oper.wp Tryz.prog o a w K Q else E := by
  have hw : Region.wanted o (yielded ops a.tmps) = true := by simp [Region.wanted, hgd]
  rw [if_pos hw]
  obtain ⟨i0, hi, hz0, hz1, hz2⟩ := info_parts infoLead
  have key : ∃ v' w', (Builtin.append_ #[25, 25] o.type #[v, .slice A m c]).run Tryz.prog w = .ok v' w' ∧ MineS base w' 71 2 v' (n + m) (zs ++ flat 2 m f) ∧ w.grownBy w' v.ownBlock := by
    cases A with
    | none =>
      obtain ⟨rfl, rfl⟩ := hA rfl
      exact ⟨v, w, run_append_owned_none (P := Tryz.prog) (w := w) base 25 o.type 71 i0 2 Tryz.underlying25 hi v n _ hm.2.1, by simpa [flat, tab] using hm, (Ext.refl w).grownBy _⟩
    | some ad =>
      obtain ⟨v', w', hrun, hown, hg, _, _⟩ := run_append_own_at (P := Tryz.prog) w base 25 o.type 71 i0 (Value.agg #[.int .i64 0, .int .i64 0]) 2 16 Tryz.underlying25 hi hz0 hz1 hz2 rfl (by decide) v n _ hm.2.1 ad m c ((flat 2 m f).map (Value.int .i64)) (by simp [flat_len]) (rcells2 hr rfl) (by
        intro u hu
        obtain ⟨z, _, rfl⟩ := List.mem_map.1 hu
        rfl) (by simp only [maxLen]; omega) (by omega) hbase
      refine ⟨v', w', hrun, ⟨by simp [hm.1, flat_len, Nat.add_mul], by simpa using hown, ?_⟩, hg⟩
      intro y hy
      rcases List.mem_append.1 hy with e | e
      · exact hm.2.2 y e
      · exact flat_bd2 hr y e
  obtain ⟨v', w', hrun, h1, hg⟩ := key
  obtain ⟨A', c', rfl, h2, h3⟩ := h1.form
  unfold Oper.wp
  simp [execOp, ho, resolve, invoke, builtin, hs, hx, hrun, Result.andThen]
  exact hK A' c' w' h2 h3 h1 hg

end Go.Proofs.YtgmhmlhdiklaaaaGreatDoor
