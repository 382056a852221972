/-
  The reference adds a lead. No conditions.
-/
import Derived.Deep.DeepCutAuto
import Derived.Deep.CutRange
import Derived.Deep.DrawnRows
import Derived.RowKit3
import Derived.Laws.OwnMore
import Derived.Laws.Closers25b
import Derived.Maps.AppendAt
import Derived.Laws.AppendOwnNone
import Derived.Deep.RegionLaw
import Derived.Deep.RegionHeld3
import Derived.Test.YtgmhmlhdiklaaaaGreatDoorWdD
import Derived.Test.YtgmhmlhdiklaaaaGreatDoorDrawK
namespace Go.Proofs.YtgmhmlhdiklaaaaGreatDoor
open Go.RowKit
set_option linter.unusedVariables false
set_option linter.unusedSimpArgs false

theorem cell_grown {w w' : World} {row : Option Nat} (hg : w.grownBy w' row) {k j : Nat} {u : Value} (hne : row ≠ some k) (h : w.cell? ⟨k, j, none⟩ = some u) : w'.cell? ⟨k, j, none⟩ = some u := by
  have hlt := World.block_lt_of_cell? _ _ h
  have e := hg.block k hlt (fun q => hne q.symm)
  unfold World.cell? at h ⊢
  rw [e]
  exact h
theorem frozen_grown {w w' : World} {row : Option Nat} (hg : w.grownBy w' row) {k j : Nat} {u : Value} (hne : row ≠ some k) (h : w.cell? ⟨k, j, none⟩ = some u) (hf : w.frozen? ⟨k, j, none⟩ = false) : w'.frozen? ⟨k, j, none⟩ = false := by
  have hlt := World.block_lt_of_cell? _ _ h
  have e := hg.block k hlt (fun q => hne q.symm)
  unfold World.frozen? at hf ⊢
  rw [e]
  exact hf
section
variable {base base' n n' s s' : Nat} {w w' : World} {E E' : TypeId} {v v' : Value} {zs zs' : List Int}
theorem MineS.heap_ (h : MineS base w E s v n zs) {k : Nat} (hk : v.ownBlock = some k) : ∃ cs, w.heap[k]? = some (.cells cs E (0, 0)) := by
  rcases h.2.1.2 with ⟨h1, _⟩ | ⟨g, cap, cur, hv, _, hh, _⟩
  · rw [h1] at hk; cases hk
  · rw [hv] at hk; simp [Value.ownBlock] at hk; subst hk; exact ⟨cur, hh⟩
theorem MineS.sepB (h : MineS base w E s v n zs) {k : Nat} {cs : Array Value} {fr : Nat × Nat} (hh : w.heap[k]? = some (.cells cs E' fr)) (hE : E ≠ E') : v.ownBlock = none ∨ v.ownBlock ≠ some k := by
  right
  intro e
  obtain ⟨cs', h2⟩ := h.heap_ e
  rw [hh] at h2
  injection h2 with h2
  injection h2 with _ h3 _
  exact hE h3.symm
theorem MineS.sep (h : MineS base w E s v n zs) (h' : MineS base' w E' s' v' n' zs') (hE : E ≠ E') : v.ownBlock = none ∨ v.ownBlock ≠ v'.ownBlock := by
  cases hv : v'.ownBlock with
  | none =>
    by_cases q : v.ownBlock = none
    · exact .inl q
    · exact .inr q
  | some k =>
    obtain ⟨cs, hh⟩ := h'.heap_ hv
    exact h.sepB hh hE
theorem MineS.setBox (h : MineS base w E s v n zs) {k : Nat} {cs : Array Value} {fr : Nat × Nat} (hh : w.heap[k]? = some (.cells cs E' fr)) (hE : E ≠ E') (i : Nat) (u : Value) : MineS base (w.setCell ⟨k, i, none⟩ u) E s v n zs :=
  h.kept (row := some k) (grownBy_setC (World.grownBy.refl w _) i u) (h.sepB hh hE)
end
theorem recs_two {w : World} {b : Nat} {p q : Int} (h0 : w.cell? ⟨b, 0, none⟩ = some (.int .i64 p)) (h1 : w.cell? ⟨b, 1, none⟩ = some (.int .i64 q)) (hp : I64 p) (hq : I64 q) : Recs w 2 (some ⟨b, 0, none⟩) 1 (fun _ j => if j = 0 then p else q) := by
  refine ⟨fun _ => ⟨b, 0, rfl, World.block_lt_of_cell? _ _ h0, fun k hk j hj => ?_⟩, fun k j => ?_⟩
  · obtain rfl : k = 0 := by omega
    rcases (show j = 0 ∨ j = 1 by omega) with rfl | rfl
    · exact h0
    · exact h1
  · show I64 (if j = 0 then p else q)
    split <;> assumption

/-- append of one struct of two ints to a row of the call's own. -/
theorem appNode (w : World) {ops : Array Oper} {rest : List Oper} {o : Oper} {a : Act} {Q : Exit → Act → World → Prop} (hgd : o.guard = none) (s x : Operand)
    (ho : o.op = .call { callee := .builtin .append, args := #[s, x], argTypes := #[24, 24] })
    (base : Nat) (v : Value) (n : Nat) (zs : List Int) (hs : a.eval s = v) (hm : MineS base w 38 2 v n zs) (p q : Int) (b : Nat) (hx : a.eval x = .slice (some ⟨b, 0, none⟩) 1 1) (h0 : w.cell? ⟨b, 0, none⟩ = some (.int .i64 p)) (h1 : w.cell? ⟨b, 1, none⟩ = some (.int .i64 q)) (hp : I64 p) (hq : I64 q)
    (hn : n ≤ 100000000000) (hbase : base ≤ w.heap.size)
    (h : ∀ A' c' w', n + 1 ≤ c' → c' ≤ 9223372036854775807 → MineS base w' 38 2 (.slice A' (n + 1) c') (n + 1) (zs ++ [p, q]) → w.grownBy w' v.ownBlock → wpList Tryz.prog ops Q rest (a.put o.dst (.slice A' (n + 1) c')) w') : wpList Tryz.prog ops Q (o :: rest) a w := by
  obtain ⟨i0, hi, hz0, hz1, hz2⟩ := info_parts infoNode
  refine wpList_append_own_at w hgd s x 24 ho base 38 i0 (Value.agg #[.int .i64 0, .int .i64 0]) 2 16 Tryz.underlying24 hi hz0 hz1 hz2 rfl (by decide) v n _ hs hm.2.1 ⟨b, 0, none⟩ 1 1 ([p, q].map (Value.int .i64)) hx rfl (rcells2 (recs_two h0 h1 hp hq) rfl) (by
        intro u hu
        obtain ⟨z, _, rfl⟩ := List.mem_map.1 hu
        rfl) (by simp only [maxLen]; omega) (by omega) hbase ?_
  intro v' w' hown hg _ _
  have h1 : MineS base w' 38 2 v' (n + 1) (zs ++ [p, q]) := ⟨by simp [hm.1]; omega, by simpa using hown, fun z hz => by
    rcases List.mem_append.1 hz with e | e
    · exact hm.2.2 z e
    · simp at e
      rcases e with rfl | rfl
      · exact hp
      · exact hq⟩
  obtain ⟨A', c', rfl, h2, h3⟩ := h1.form
  exact h A' c' w' h2 h3 h1 hg

/-- append of one struct of two ints to a row of the call's own. -/
theorem appLead (w : World) {ops : Array Oper} {rest : List Oper} {o : Oper} {a : Act} {Q : Exit → Act → World → Prop} (hgd : o.guard = none) (s x : Operand)
    (ho : o.op = .call { callee := .builtin .append, args := #[s, x], argTypes := #[25, 25] })
    (base : Nat) (v : Value) (n : Nat) (zs : List Int) (hs : a.eval s = v) (hm : MineS base w 71 2 v n zs) (p q : Int) (b : Nat) (hx : a.eval x = .slice (some ⟨b, 0, none⟩) 1 1) (h0 : w.cell? ⟨b, 0, none⟩ = some (.int .i64 p)) (h1 : w.cell? ⟨b, 1, none⟩ = some (.int .i64 q)) (hp : I64 p) (hq : I64 q)
    (hn : n ≤ 100000000000) (hbase : base ≤ w.heap.size)
    (h : ∀ A' c' w', n + 1 ≤ c' → c' ≤ 9223372036854775807 → MineS base w' 71 2 (.slice A' (n + 1) c') (n + 1) (zs ++ [p, q]) → w.grownBy w' v.ownBlock → wpList Tryz.prog ops Q rest (a.put o.dst (.slice A' (n + 1) c')) w') : wpList Tryz.prog ops Q (o :: rest) a w := by
  obtain ⟨i0, hi, hz0, hz1, hz2⟩ := info_parts infoLead
  refine wpList_append_own_at w hgd s x 25 ho base 71 i0 (Value.agg #[.int .i64 0, .int .i64 0]) 2 16 Tryz.underlying25 hi hz0 hz1 hz2 rfl (by decide) v n _ hs hm.2.1 ⟨b, 0, none⟩ 1 1 ([p, q].map (Value.int .i64)) hx rfl (rcells2 (recs_two h0 h1 hp hq) rfl) (by
        intro u hu
        obtain ⟨z, _, rfl⟩ := List.mem_map.1 hu
        rfl) (by simp only [maxLen]; omega) (by omega) hbase ?_
  intro v' w' hown hg _ _
  have h1 : MineS base w' 71 2 v' (n + 1) (zs ++ [p, q]) := ⟨by simp [hm.1]; omega, by simpa using hown, fun z hz => by
    rcases List.mem_append.1 hz with e | e
    · exact hm.2.2 z e
    · simp at e
      rcases e with rfl | rfl
      · exact hp
      · exact hq⟩
  obtain ⟨A', c', rfl, h2, h3⟩ := h1.form
  exact h A' c' w' h2 h3 h1 hg

/-- Behind the lead's append: what stands in the world with the box's leads set. -/
theorem addK {W0 w1 W wb : World} {sz n m c1 d1 cb : Nat} {A1 B1 Ab : Option Addr} {zs ys ys' : List Int} (hs0 : W0.heap.size = sz + 1 + 1) (hs1 : sz + 1 + 1 ≤ w1.heap.size) (ho1 : OwnWn (sz + 1 + 1) w1 A1 n c1 zs B1 m d1 ys) (XW : Ext W0 W)
    (hmL : MineS (sz + 1 + 1) W 71 2 (.slice B1 m d1) m ys) (hmN : MineS (sz + 1 + 1) W 38 2 (.slice A1 n c1) n zs) (hne : (Value.slice B1 m d1).ownBlock ≠ some w1.heap.size)
    (hb8 : W.heap[w1.heap.size]? = some (.cells #[.slice A1 n c1, .slice B1 m d1] 27 (0, 0))) (ib : m + 1 ≤ cb) (jb : cb ≤ 9223372036854775807) (hmb : MineS (sz + 1 + 1) wb 71 2 (.slice Ab (m + 1) cb) (m + 1) ys')
    (gb : W.grownBy wb (Value.slice B1 m d1).ownBlock) (hc0 : W.cell? ⟨w1.heap.size, 0, none⟩ = some (.slice A1 n c1)) (hc1 : W.cell? ⟨w1.heap.size, 1, none⟩ = some (.slice B1 m d1)) (hf1 : W.frozen? ⟨w1.heap.size, 1, none⟩ = false) :
    wb.cell? ⟨w1.heap.size, 0, none⟩ = some (.slice A1 n c1) ∧ wb.cell? ⟨w1.heap.size, 1, none⟩ = some (.slice B1 m d1) ∧ wb.frozen? ⟨w1.heap.size, 1, none⟩ = false ∧ Ext W0 wb ∧
      OwnWn (sz + 1 + 1) (wb.setCell ⟨w1.heap.size, 1, none⟩ (.slice Ab (m + 1) cb)) A1 n c1 zs Ab (m + 1) cb ys' := by
  have Xb := hmL.ext_of XW (by omega) gb
  have hbb : wb.heap[w1.heap.size]? = some (.cells #[.slice A1 n c1, .slice B1 m d1] 27 (0, 0)) := by
    rw [gb.block _ (World.block_lt_of_cell? _ _ hc0) (fun e => hne e.symm)]; exact hb8
  refine ⟨cell_grown gb hne hc0, cell_grown gb hne hc1, frozen_grown gb hne hc1 hf1, Xb, ho1.1, ho1.2.1, ib, jb, ?_, ?_⟩
  · exact (hmN.kept gb (hmN.sep hmL (by decide))).setBox hbb (by decide) 1 _
  · exact hmb.setBox hbb (by decide) 1 _

attribute [local go_sem ↓] Go.wp_at_zero Go.wp_at_succ
attribute [local go_sem, local simp] Go.World.cell?_alloc_some Go.World.frozen?_alloc_past
set_option maxRecDepth 100000 in
set_option maxHeartbeats 4000000 in
theorem AddLead_any (b0 : Nat) (w : World) (A : Option Addr) (n c : Nat) (zs : List Int) (B : Option Addr) (m d : Nat) (ys : List Int) (h : OwnWn b0 w A n c zs B m d ys) (hw : winB n (FW zs) m (FW ys) = true) (a b lo hi : Int) (ha : 0 ≤ a ∧ a ≤ 1000) (hb : 0 ≤ b ∧ b ≤ 1000) (hlh : (a < b ∧ ¬ b < a ∧ lo = a ∧ hi = b) ∨ (¬ a < b ∧ b < a ∧ lo = b ∧ hi = a) ∨ (hi = a ∧ hi = b ∧ hi = lo)) :
    Calls Tryz.prog 48 #[.agg #[.slice A n c, .slice B m d], .int .i64 a, .int .i64 b] w (PostWd w) := by
  have hsz := (winB_get hw).1
  have HW := Lib.hid (fun W (Z : Ext w W) => spec_WindowOk A n c (FW zs) B m d (FW ys) h.1 h.2.1 h.2.2.1 h.2.2.2.1 W (h.recsP.ext Z) (h.recsL.ext Z))
  have HC := Lib.hid (fun W (Z : Ext w W) => l04Copy_any b0 W A n c zs B m d ys (h.ext Z) (by omega) (by omega))
  rw [hw] at HW
  have hloI : I64 lo := by unfold I64; omega
  have hhiI : I64 hi := by unfold I64; omega
  go_enter Tryz.func48, Tryz.ntmps48
  go_wp2_with fail
  have q0 : ((w.alloc (.cells #[.slice A n c, .slice B m d] 27)).alloc (.cells #[.slice none 0 0, .slice none 0 0] 27)).cell? ⟨w.heap.size, 0, none⟩ = some (.slice A n c) := by simp [go_sem]
  have q1 : ((w.alloc (.cells #[.slice A n c, .slice B m d] 27)).alloc (.cells #[.slice none 0 0, .slice none 0 0] 27)).cell? ⟨w.heap.size, 1, none⟩ = some (.slice B m d) := by simp [go_sem]
  have r0 : ((w.alloc (.cells #[.slice A n c, .slice B m d] 27)).alloc (.cells #[.slice none 0 0, .slice none 0 0] 27)).cell? ⟨w.heap.size + 1, 0, none⟩ = some (.slice none 0 0) := by simp [go_sem]
  have r1 : ((w.alloc (.cells #[.slice A n c, .slice B m d] 27)).alloc (.cells #[.slice none 0 0, .slice none 0 0] 27)).cell? ⟨w.heap.size + 1, 1, none⟩ = some (.slice none 0 0) := by simp [go_sem]
  have f0 : ((w.alloc (.cells #[.slice A n c, .slice B m d] 27)).alloc (.cells #[.slice none 0 0, .slice none 0 0] 27)).frozen? ⟨w.heap.size + 1, 0, none⟩ = false := by simp [go_sem]
  have f1 : ((w.alloc (.cells #[.slice A n c, .slice B m d] 27)).alloc (.cells #[.slice none 0 0, .slice none 0 0] 27)).frozen? ⟨w.heap.size + 1, 1, none⟩ = false := by simp [go_sem]
  have X0 : Ext w ((w.alloc (.cells #[.slice A n c, .slice B m d] 27)).alloc (.cells #[.slice none 0 0, .slice none 0 0] 27)) := ((Ext.refl w).alloc _).alloc _
  have hs0 : ((w.alloc (.cells #[.slice A n c, .slice B m d] 27)).alloc (.cells #[.slice none 0 0, .slice none 0 0] 27)).heap.size = w.heap.size + 1 + 1 := by rw [World.size_alloc, World.size_alloc]
  generalize ((w.alloc (.cells #[.slice A n c, .slice B m d] 27)).alloc (.cells #[.slice none 0 0, .slice none 0 0] 27)) = W0 at *
  have HQ := Lib.hid (fun W (Z : Ext W0 W) => (⟨Z.cell q0, Z.cell q1, Z.cell r0, Z.cell r1, Z.frozen r0 f0, Z.frozen r1 f1⟩ : _ ∧ _ ∧ _ ∧ _ ∧ _ ∧ _))
  clear q0 q1 r0 r1 f0 f1
  refine (HC.out _ X0).mono ?_
  rintro e w1 ⟨A1, c1, B1, d1, rfl, ho1, x1⟩
  obtain ⟨q0, q1, r0, r1, f0, f1⟩ := HQ.out _ x1
  have hs1 := x1.size
  rw [hs0] at ho1 hs1
  have hlt1 := ho1.2.2.2.2.2.lt
  have hmL := (ho1.2.2.2.2.2.alloc (.cells #[.slice A1 n c1, .slice B1 m d1] 27)).alloc (.cells #[.int .i64 lo, .int .i64 hi] 71)
  have hmN := (ho1.2.2.2.2.1.alloc (.cells #[.slice A1 n c1, .slice B1 m d1] 27)).alloc (.cells #[.int .i64 lo, .int .i64 hi] 71)
  have XW : Ext W0 ((w1.alloc (.cells #[.slice A1 n c1, .slice B1 m d1] 27)).alloc (.cells #[.int .i64 lo, .int .i64 hi] 71)) := (x1.alloc _).alloc _
  have hne : (Value.slice B1 m d1).ownBlock ≠ some w1.heap.size := fun e => by have := hlt1 _ e; omega
  have hb8 : ((w1.alloc (.cells #[.slice A1 n c1, .slice B1 m d1] 27)).alloc (.cells #[.int .i64 lo, .int .i64 hi] 71)).heap[w1.heap.size]? = some (.cells #[.slice A1 n c1, .slice B1 m d1] 27 (0, 0)) := by
    rw [heap_alloc_old _ _ (by rw [World.size_alloc]; omega)]; exact heap_alloc_new _ _
  have HK := Lib.hid (fun (Ab : Option Addr) (cb : Nat) (wb : World) (ib : m + 1 ≤ cb) (jb : cb ≤ 9223372036854775807) (hmb : MineS (w.heap.size + 1 + 1) wb 71 2 (.slice Ab (m + 1) cb) (m + 1) (ys ++ [lo, hi])) (gb : World.grownBy ((w1.alloc (.cells #[.slice A1 n c1, .slice B1 m d1] 27)).alloc (.cells #[.int .i64 lo, .int .i64 hi] 71)) wb (Value.slice B1 m d1).ownBlock) =>
    addK hs0 hs1 ho1 XW hmL hmN hne hb8 ib jb hmb gb (by simp [go_sem]) (by simp [go_sem]) (by simp [go_sem]))
  have HML := Lib.hid hmL
  clear hmL hmN hb8 ho1 hlt1
  rcases hlh with ⟨hab, hba, rfl, rfl⟩ | ⟨hab, hba, rfl, rfl⟩ | ⟨rfl, rfl, rfl⟩
  · go_wp2_with (at_builtin; refine appLead _ rfl _ _ rfl (w.heap.size + 1 + 1) _ _ _ rfl HML.out lo hi _ rfl (by simp [go_sem]) (by simp [go_sem]) hloI hhiI (by omega) (by simp only [World.size_alloc]; omega) ?_; intro Ab cb wb ib jb hmb gb; obtain ⟨k0, k1, z1, Xb, ho⟩ := HK.out Ab cb wb ib jb hmb gb; obtain ⟨q0, q1, r0, r1, f0, f1⟩ := HQ.out _ Xb)
    have XC : Ext W0 (wb.setCell ⟨w1.heap.size, 1, none⟩ (.slice Ab (m + 1) cb)) := Xb.setCell (p := ⟨w1.heap.size, 1, none⟩) (by rw [hs0]; exact hs1) _
    have g0 : (wb.setCell ⟨w1.heap.size, 1, none⟩ (.slice Ab (m + 1) cb)).cell? ⟨w1.heap.size, 0, none⟩ = some (.slice A1 n c1) := by simp [go_sem, k0, k1]
    have g1 : (wb.setCell ⟨w1.heap.size, 1, none⟩ (.slice Ab (m + 1) cb)).cell? ⟨w1.heap.size, 1, none⟩ = some (.slice Ab (m + 1) cb) := by simp [go_sem, k0, k1]
    clear q0 q1 r0 r1 f0 f1 k0 k1 z1 Xb gb hmb
    generalize wb.setCell ⟨w1.heap.size, 1, none⟩ (.slice Ab (m + 1) cb) = wc at *
    refine (HW.out _ (X0.trans XC)).mono ?_
    rintro e w5 ⟨rfl, x5⟩
    have X5 := XC.trans x5
    obtain ⟨q0, q1, r0, r1, f0, f1⟩ := HQ.out _ X5
    replace g0 := x5.cell g0
    replace g1 := x5.cell g1
    have ho5 := ho.ext x5
    have HW2 := spec_WindowOk A1 n c1 (FW zs) Ab (m + 1) cb (FW (ys ++ [lo, hi])) ho5.1 ho5.2.1 ho5.2.2.1 ho5.2.2.2.1 w5 ho5.recsP ho5.recsL
    cases hw2 : winB n (FW zs) (m + 1) (FW (ys ++ [lo, hi]))
    · rw [hw2] at HW2
      have HW3 := Lib.hid HW2
      clear HW2 ho ho5
      go_wp2_with fail
      refine HW3.out.mono ?_
      rintro e w6 ⟨rfl, x6⟩
      have X6 := X5.trans x6
      obtain ⟨q0, q1, r0, r1, f0, f1⟩ := HQ.out _ X6
      go_wp2_with fail
      refine (HC.out _ (X0.trans X6)).mono ?_
      rintro e w7 ⟨A7, c7, B7, d7, rfl, ho7, x7⟩
      have X7 := X6.trans x7
      obtain ⟨q0, q1, r0, r1, f0, f1⟩ := HQ.out _ X7
      have hs7 := X7.size
      have hs6 := X6.size
      rw [hs0] at hs7 hs6
      have HO7 := Lib.hid (ho7.more (base' := w.heap.size + 1 + 1) hs6)
      have HX7 := Lib.hid (X0.trans X7)
      go_wp2
      refine bodyPost_ret (v := .tuple #[.agg #[.slice A7 n c7, .slice B7 m d7], .bool false]) (by simp [results, Tryz.results48, go_sem, r0, r1]) rfl ⟨A7, n, c7, zs, B7, m, d7, ys, false, rfl, ?_, hw, ?_⟩
      · exact ((HO7.out.far (p := ⟨w.heap.size + 1, 0, none⟩) (by show w.heap.size + 1 < _; omega) _).far (p := ⟨w.heap.size + 1, 1, none⟩) (by show w.heap.size + 1 < _; omega) _).more (by omega)
      · exact (HX7.out.setCell (p := ⟨w.heap.size + 1, 0, none⟩) (by show w.heap.size ≤ w.heap.size + 1; omega) _).setCell (p := ⟨w.heap.size + 1, 1, none⟩) (by show w.heap.size ≤ w.heap.size + 1; omega) _
    · rw [hw2] at HW2
      have HW3 := Lib.hid HW2
      clear HW2
      go_wp2_with fail
      refine HW3.out.mono ?_
      rintro e w6 ⟨rfl, x6⟩
      have X6 := X5.trans x6
      obtain ⟨q0, q1, r0, r1, f0, f1⟩ := HQ.out _ X6
      replace g0 := x6.cell g0
      replace g1 := x6.cell g1
      have HO7 := Lib.hid (ho5.ext x6)
      have HX7 := Lib.hid (X0.trans X6)
      clear ho ho5
      go_wp2
      refine bodyPost_ret (v := .tuple #[.agg #[.slice A1 n c1, .slice Ab (m + 1) cb], .bool true]) (by simp [results, Tryz.results48, go_sem, r0, r1]) rfl ⟨A1, n, c1, zs, Ab, _, cb, _, true, rfl, ?_, hw2, ?_⟩
      · exact ((HO7.out.far (p := ⟨w.heap.size + 1, 0, none⟩) (by show w.heap.size + 1 < _; omega) _).far (p := ⟨w.heap.size + 1, 1, none⟩) (by show w.heap.size + 1 < _; omega) _).more (by omega)
      · exact (HX7.out.setCell (p := ⟨w.heap.size + 1, 0, none⟩) (by show w.heap.size ≤ w.heap.size + 1; omega) _).setCell (p := ⟨w.heap.size + 1, 1, none⟩) (by show w.heap.size ≤ w.heap.size + 1; omega) _
  · go_wp2_with (at_builtin; refine appLead _ rfl _ _ rfl (w.heap.size + 1 + 1) _ _ _ rfl HML.out lo hi _ rfl (by simp [go_sem]) (by simp [go_sem]) hloI hhiI (by omega) (by simp only [World.size_alloc]; omega) ?_; intro Ab cb wb ib jb hmb gb; obtain ⟨k0, k1, z1, Xb, ho⟩ := HK.out Ab cb wb ib jb hmb gb; obtain ⟨q0, q1, r0, r1, f0, f1⟩ := HQ.out _ Xb)
    have XC : Ext W0 (wb.setCell ⟨w1.heap.size, 1, none⟩ (.slice Ab (m + 1) cb)) := Xb.setCell (p := ⟨w1.heap.size, 1, none⟩) (by rw [hs0]; exact hs1) _
    have g0 : (wb.setCell ⟨w1.heap.size, 1, none⟩ (.slice Ab (m + 1) cb)).cell? ⟨w1.heap.size, 0, none⟩ = some (.slice A1 n c1) := by simp [go_sem, k0, k1]
    have g1 : (wb.setCell ⟨w1.heap.size, 1, none⟩ (.slice Ab (m + 1) cb)).cell? ⟨w1.heap.size, 1, none⟩ = some (.slice Ab (m + 1) cb) := by simp [go_sem, k0, k1]
    clear q0 q1 r0 r1 f0 f1 k0 k1 z1 Xb gb hmb
    generalize wb.setCell ⟨w1.heap.size, 1, none⟩ (.slice Ab (m + 1) cb) = wc at *
    refine (HW.out _ (X0.trans XC)).mono ?_
    rintro e w5 ⟨rfl, x5⟩
    have X5 := XC.trans x5
    obtain ⟨q0, q1, r0, r1, f0, f1⟩ := HQ.out _ X5
    replace g0 := x5.cell g0
    replace g1 := x5.cell g1
    have ho5 := ho.ext x5
    have HW2 := spec_WindowOk A1 n c1 (FW zs) Ab (m + 1) cb (FW (ys ++ [lo, hi])) ho5.1 ho5.2.1 ho5.2.2.1 ho5.2.2.2.1 w5 ho5.recsP ho5.recsL
    cases hw2 : winB n (FW zs) (m + 1) (FW (ys ++ [lo, hi]))
    · rw [hw2] at HW2
      have HW3 := Lib.hid HW2
      clear HW2 ho ho5
      go_wp2_with fail
      refine HW3.out.mono ?_
      rintro e w6 ⟨rfl, x6⟩
      have X6 := X5.trans x6
      obtain ⟨q0, q1, r0, r1, f0, f1⟩ := HQ.out _ X6
      go_wp2_with fail
      refine (HC.out _ (X0.trans X6)).mono ?_
      rintro e w7 ⟨A7, c7, B7, d7, rfl, ho7, x7⟩
      have X7 := X6.trans x7
      obtain ⟨q0, q1, r0, r1, f0, f1⟩ := HQ.out _ X7
      have hs7 := X7.size
      have hs6 := X6.size
      rw [hs0] at hs7 hs6
      have HO7 := Lib.hid (ho7.more (base' := w.heap.size + 1 + 1) hs6)
      have HX7 := Lib.hid (X0.trans X7)
      go_wp2
      refine bodyPost_ret (v := .tuple #[.agg #[.slice A7 n c7, .slice B7 m d7], .bool false]) (by simp [results, Tryz.results48, go_sem, r0, r1]) rfl ⟨A7, n, c7, zs, B7, m, d7, ys, false, rfl, ?_, hw, ?_⟩
      · exact ((HO7.out.far (p := ⟨w.heap.size + 1, 0, none⟩) (by show w.heap.size + 1 < _; omega) _).far (p := ⟨w.heap.size + 1, 1, none⟩) (by show w.heap.size + 1 < _; omega) _).more (by omega)
      · exact (HX7.out.setCell (p := ⟨w.heap.size + 1, 0, none⟩) (by show w.heap.size ≤ w.heap.size + 1; omega) _).setCell (p := ⟨w.heap.size + 1, 1, none⟩) (by show w.heap.size ≤ w.heap.size + 1; omega) _
    · rw [hw2] at HW2
      have HW3 := Lib.hid HW2
      clear HW2
      go_wp2_with fail
      refine HW3.out.mono ?_
      rintro e w6 ⟨rfl, x6⟩
      have X6 := X5.trans x6
      obtain ⟨q0, q1, r0, r1, f0, f1⟩ := HQ.out _ X6
      replace g0 := x6.cell g0
      replace g1 := x6.cell g1
      have HO7 := Lib.hid (ho5.ext x6)
      have HX7 := Lib.hid (X0.trans X6)
      clear ho ho5
      go_wp2
      refine bodyPost_ret (v := .tuple #[.agg #[.slice A1 n c1, .slice Ab (m + 1) cb], .bool true]) (by simp [results, Tryz.results48, go_sem, r0, r1]) rfl ⟨A1, n, c1, zs, Ab, _, cb, _, true, rfl, ?_, hw2, ?_⟩
      · exact ((HO7.out.far (p := ⟨w.heap.size + 1, 0, none⟩) (by show w.heap.size + 1 < _; omega) _).far (p := ⟨w.heap.size + 1, 1, none⟩) (by show w.heap.size + 1 < _; omega) _).more (by omega)
      · exact (HX7.out.setCell (p := ⟨w.heap.size + 1, 0, none⟩) (by show w.heap.size ≤ w.heap.size + 1; omega) _).setCell (p := ⟨w.heap.size + 1, 1, none⟩) (by show w.heap.size ≤ w.heap.size + 1; omega) _
  · go_wp2_with (at_builtin; refine appLead _ rfl _ _ rfl (w.heap.size + 1 + 1) _ _ _ rfl HML.out hi hi _ rfl (by simp [go_sem]) (by simp [go_sem]) hloI hhiI (by omega) (by simp only [World.size_alloc]; omega) ?_; intro Ab cb wb ib jb hmb gb; obtain ⟨k0, k1, z1, Xb, ho⟩ := HK.out Ab cb wb ib jb hmb gb; obtain ⟨q0, q1, r0, r1, f0, f1⟩ := HQ.out _ Xb)
    have XC : Ext W0 (wb.setCell ⟨w1.heap.size, 1, none⟩ (.slice Ab (m + 1) cb)) := Xb.setCell (p := ⟨w1.heap.size, 1, none⟩) (by rw [hs0]; exact hs1) _
    have g0 : (wb.setCell ⟨w1.heap.size, 1, none⟩ (.slice Ab (m + 1) cb)).cell? ⟨w1.heap.size, 0, none⟩ = some (.slice A1 n c1) := by simp [go_sem, k0, k1]
    have g1 : (wb.setCell ⟨w1.heap.size, 1, none⟩ (.slice Ab (m + 1) cb)).cell? ⟨w1.heap.size, 1, none⟩ = some (.slice Ab (m + 1) cb) := by simp [go_sem, k0, k1]
    clear q0 q1 r0 r1 f0 f1 k0 k1 z1 Xb gb hmb
    generalize wb.setCell ⟨w1.heap.size, 1, none⟩ (.slice Ab (m + 1) cb) = wc at *
    refine (HW.out _ (X0.trans XC)).mono ?_
    rintro e w5 ⟨rfl, x5⟩
    have X5 := XC.trans x5
    obtain ⟨q0, q1, r0, r1, f0, f1⟩ := HQ.out _ X5
    replace g0 := x5.cell g0
    replace g1 := x5.cell g1
    have ho5 := ho.ext x5
    have HW2 := spec_WindowOk A1 n c1 (FW zs) Ab (m + 1) cb (FW (ys ++ [hi, hi])) ho5.1 ho5.2.1 ho5.2.2.1 ho5.2.2.2.1 w5 ho5.recsP ho5.recsL
    cases hw2 : winB n (FW zs) (m + 1) (FW (ys ++ [hi, hi]))
    · rw [hw2] at HW2
      have HW3 := Lib.hid HW2
      clear HW2 ho ho5
      go_wp2_with fail
      refine HW3.out.mono ?_
      rintro e w6 ⟨rfl, x6⟩
      have X6 := X5.trans x6
      obtain ⟨q0, q1, r0, r1, f0, f1⟩ := HQ.out _ X6
      go_wp2_with fail
      refine (HC.out _ (X0.trans X6)).mono ?_
      rintro e w7 ⟨A7, c7, B7, d7, rfl, ho7, x7⟩
      have X7 := X6.trans x7
      obtain ⟨q0, q1, r0, r1, f0, f1⟩ := HQ.out _ X7
      have hs7 := X7.size
      have hs6 := X6.size
      rw [hs0] at hs7 hs6
      have HO7 := Lib.hid (ho7.more (base' := w.heap.size + 1 + 1) hs6)
      have HX7 := Lib.hid (X0.trans X7)
      go_wp2
      refine bodyPost_ret (v := .tuple #[.agg #[.slice A7 n c7, .slice B7 m d7], .bool false]) (by simp [results, Tryz.results48, go_sem, r0, r1]) rfl ⟨A7, n, c7, zs, B7, m, d7, ys, false, rfl, ?_, hw, ?_⟩
      · exact ((HO7.out.far (p := ⟨w.heap.size + 1, 0, none⟩) (by show w.heap.size + 1 < _; omega) _).far (p := ⟨w.heap.size + 1, 1, none⟩) (by show w.heap.size + 1 < _; omega) _).more (by omega)
      · exact (HX7.out.setCell (p := ⟨w.heap.size + 1, 0, none⟩) (by show w.heap.size ≤ w.heap.size + 1; omega) _).setCell (p := ⟨w.heap.size + 1, 1, none⟩) (by show w.heap.size ≤ w.heap.size + 1; omega) _
    · rw [hw2] at HW2
      have HW3 := Lib.hid HW2
      clear HW2
      go_wp2_with fail
      refine HW3.out.mono ?_
      rintro e w6 ⟨rfl, x6⟩
      have X6 := X5.trans x6
      obtain ⟨q0, q1, r0, r1, f0, f1⟩ := HQ.out _ X6
      replace g0 := x6.cell g0
      replace g1 := x6.cell g1
      have HO7 := Lib.hid (ho5.ext x6)
      have HX7 := Lib.hid (X0.trans X6)
      clear ho ho5
      go_wp2
      refine bodyPost_ret (v := .tuple #[.agg #[.slice A1 n c1, .slice Ab (m + 1) cb], .bool true]) (by simp [results, Tryz.results48, go_sem, r0, r1]) rfl ⟨A1, n, c1, zs, Ab, _, cb, _, true, rfl, ?_, hw2, ?_⟩
      · exact ((HO7.out.far (p := ⟨w.heap.size + 1, 0, none⟩) (by show w.heap.size + 1 < _; omega) _).far (p := ⟨w.heap.size + 1, 1, none⟩) (by show w.heap.size + 1 < _; omega) _).more (by omega)
      · exact (HX7.out.setCell (p := ⟨w.heap.size + 1, 0, none⟩) (by show w.heap.size ≤ w.heap.size + 1; omega) _).setCell (p := ⟨w.heap.size + 1, 1, none⟩) (by show w.heap.size ≤ w.heap.size + 1; omega) _

end Go.Proofs.YtgmhmlhdiklaaaaGreatDoor
