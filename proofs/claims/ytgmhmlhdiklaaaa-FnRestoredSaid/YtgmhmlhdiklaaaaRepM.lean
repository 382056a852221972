/-
  Texts of one kind, one behind the other: RepW RepV RepI. No conditions.
-/
import Derived.Test.YtgmhmlhdiklaaaaSixM
import Derived.Test.YtgmhmlhdiklaaaaInts
import Derived.Test.YtgmhmlhdiklaaaaKitR
import Derived.Maps.AppendAt
import Derived.Laws.AppendOwnNone
import Derived.Test.YtgmhmlhdiklaaaaMayI
/- RepW -/
namespace Go.Proofs.Ytgmhmlhdiklaaaa
open Go.RowKit Ring
set_option linter.unusedVariables false

theorem may_get {n : Nat} {P : Nat → Nat → Int} {m : Nat} {L : Nat → Nat → Int} {nh : Nat} {fh : Nat → Nat → Int} {f s : Int} (h : mayB n P m L nh fh f s = true) : 0 ≤ f ∧ f ≤ (nh : Int) - 1 ∧ ∀ i, i < nh → 0 ≤ fh i 0 ∧ fh i 0 ≤ 3000 := by
  unfold mayB at h
  rw [Bool.and_eq_true] at h
  have h1 := h.1
  unfold mayG at h1
  simp only [Bool.and_eq_true] at h1
  have h2 := inB_of h1.1.1.2
  exact ⟨h2.1, h2.2, (histB_get h1.1.1.1).2.2⟩

end Go.Proofs.Ytgmhmlhdiklaaaa

/- RepV -/
namespace Go.Proofs.Ytgmhmlhdiklaaaa
open Go.RowKit
set_option linter.unusedVariables false

/-- A call hands back a row of its own that holds zs, and b. -/
def PostIB (w : World) (E : TypeId) (n : Nat) (zs : List Int) (b : Bool) (e : Ending) (w' : World) : Prop :=
  ∃ A c, e = .returned (.tuple #[.slice A n c, .bool b]) ∧ n ≤ c ∧ c ≤ 9223372036854775807 ∧ Mine w.heap.size w' E (.slice A n c) n zs ∧ Ext w w'
theorem rcells {w : World} {A : Option Addr} {n : Nat} {f : Nat → Nat → Int} (h : Recs w 1 A n f) {ad : Addr} (hA : A = some ad) : ∀ j u, ((tab n fun k => f k 0).map (Value.int .i64))[j]? = some u → w.cell? (ad.add j) = some u := by
  intro j u hj
  have hlt : j < n := by
    have := (List.getElem?_eq_some_iff.1 hj).1
    simpa [tab] using this
  obtain ⟨b, o, hA2, hb, hc⟩ := h.at1 hlt
  rw [hA] at hA2
  injection hA2 with e
  subst e
  rw [List.getElem?_map, List.getElem?_eq_getElem (by simpa [tab] using hlt)] at hj
  simp [tab] at hj
  subst hj
  by_cases h0 : j = 0
  · subst h0; simpa [Addr.add] using hc
  · simpa [Addr.add, h0] using hc
theorem none_cap {base n c : Nat} {w : World} {E : TypeId} {A : Option Addr} {zs : List Int} (h : Mine base w E (.slice A n c) n zs) (hA : A = none) : n = 0 ∧ c = 0 := by
  rcases h.2.1.2 with ⟨hv, _⟩ | ⟨g, cap, cur, hv, _⟩
  · injection hv with e1 e2 e3
    exact ⟨e2, e3⟩
  · injection hv with e1 e2 e3
    rw [hA] at e1
    cases e1
/-- append of a whole row of ints to an empty row of the call's own. -/
theorem append_all (w : World) {ops : Array Oper} {rest : List Oper} {o : Oper} {a : Act} {Q : Exit → Act → World → Prop} (hgd : o.guard = none) (s x : Operand)
    (ho : o.op = .call { callee := .builtin .append, args := #[s, x], argTypes := #[30, 30] })
    (base : Nat) (v : Value) (hs : a.eval s = v) (hm : Mine base w 3 v 0 []) (A : Option Addr) (n c : Nat) (f : Nat → Nat → Int) (hx : a.eval x = .slice A n c) (hr : Recs w 1 A n f) (hA : A = none → n = 0 ∧ c = 0)
    (hn : n ≤ 1000000000000) (hbase : base ≤ w.heap.size)
    (h : ∀ v' w', Mine base w' 3 v' n (tab n fun k => f k 0) → w.grownBy w' v.ownBlock → wpList Try.prog ops Q rest (a.put o.dst v') w') : wpList Try.prog ops Q (o :: rest) a w := by
  obtain ⟨i0, hi, hz0, hz1, hz2⟩ := info_parts int_info
  have hb : ∀ z ∈ (tab n fun k => f k 0), I64 z := by
    intro z hz
    simp [tab] at hz
    obtain ⟨k, _, rfl⟩ := hz
    exact hr.2 k 0
  cases A with
  | none =>
    obtain ⟨rfl, rfl⟩ := hA rfl
    refine wpList_append_own_none hgd s x 30 ho base 3 i0 1 Try.underlying30 hi v 0 _ hs hm.2.1 hx ?_
    exact h v w hm ((Ext.refl w).grownBy _)
  | some ad =>
    refine wpList_append_own_at w hgd s x 30 ho base 3 i0 (.int .i64 0) 1 8 Try.underlying30 hi hz0 hz1 hz2 rfl (by decide) v 0 _ hs hm.2.1 ad n c ((tab n fun k => f k 0).map (Value.int .i64)) hx (by simp [tab]) (rcells hr rfl) ?_ (by simp only [maxLen]; omega) (by omega) hbase ?_
    · intro u hu
      obtain ⟨z, _, rfl⟩ := List.mem_map.1 hu
      rfl
    · intro v' w' hown hg _ _
      rw [Nat.zero_add] at hown
      exact h v' w' ⟨by simp [tab], by simpa using hown, hb⟩ hg

end Go.Proofs.Ytgmhmlhdiklaaaa

/- RepI -/
namespace Go.Proofs.Ytgmhmlhdiklaaaa
open Go.RowKit Ring
set_option linter.unusedVariables false

set_option maxHeartbeats 1000000 in
theorem copyInts_any (Ah : Option Addr) (nh ch : Nat) (fh : Nat → Nat → Int) (ih : nh ≤ ch) (jh : ch ≤ 9223372036854775807) (hA : Ah = none → nh = 0 ∧ ch = 0) (hnn : nh ≤ 1048576) (w : World) (rh : Recs w 1 Ah nh fh) :
    Calls Try.prog 73 #[.slice Ah nh ch] w (PostI w 3 nh (tab nh fun k => fh k 0)) := by
  go_enter Try.func73, Try.ntmps73
  go_wp2_with (at_builtin; refine append_all _ rfl _ _ rfl w.heap.size _ rfl (Mine.nil_ _ _ _) Ah nh ch fh rfl rh hA (by omega) (Nat.le_refl _) ?_; intro v2 w2 hm2 hg2; have he2 := (Mine.nil_ w.heap.size w 3).fresh (Ext.refl w) (Nat.le_refl _) hg2 rfl)
  obtain ⟨A', c', rfl, hc1, hc2⟩ := hm2.form
  go_wp2
  go_ret
  exact ⟨A', c', rfl, hc1, hc2, hm2, he2⟩

set_option maxRecDepth 100000 in
set_option maxHeartbeats 8000000 in
theorem impl_ReplaceFace (A : Option Addr) (n c : Nat) (P : Nat → Nat → Int) (B : Option Addr) (m d : Nat) (L : Nat → Nat → Int) (hnc : n ≤ c) (hcm : c ≤ 9223372036854775807) (hmd : m ≤ d) (hdm : d ≤ 9223372036854775807) (Ah : Option Addr) (nh ch : Nat) (fh : Nat → Nat → Int) (ih : nh ≤ ch) (jh : ch ≤ 9223372036854775807) (f y s : Int) (hf : (-9223372036854775808 ≤ f ∧ f ≤ 9223372036854775807)) (hy : (-9223372036854775808 ≤ y ∧ y ≤ 9223372036854775807)) (hsh : (-9223372036854775808 ≤ s ∧ s ≤ 9223372036854775807)) (hA : Ah = none → nh = 0 ∧ ch = 0) (hnn : nh ≤ 1048576) (w : World) (hr : Recs w 2 A n P) (hs : Recs w 2 B m L) (rh : Recs w 1 Ah nh fh) :
    Calls Try.prog 45 #[.agg #[.slice A n c, .slice B m d], .slice Ah nh ch, .int .i64 f, .int .i64 y, .int .i64 s] w (PostIB w 3 nh (replL n P m L nh fh f y s) (replB n P m L nh fh f y s)) := by
  have HMR := Lib.hid (fun W (Z : Ext w W) => impl_MayReplace A n c P B m d L hnc hcm hmd hdm Ah nh ch fh ih jh f s hf hsh W (hr.ext Z) (hs.ext Z) (rh.ext Z))
  have HIY := Lib.hid (fun W => within_any y 1 3000 W)
  have HLL := Lib.hid (show replL n P m L nh fh f y s = if replB n P m L nh fh f y s = true then (tab nh fun k => fh k 0).set f.toNat y else tab nh fun k => fh k 0 from rfl)
  have HBB := Lib.hid (show replB n P m L nh fh f y s = (mayB n P m L nh fh f s && inB y 1 3000 && decide (fh f.toNat 0 ≤ y)) from rfl)
  have HCP := Lib.hid (fun W (Z : Ext w W) => copyInts_any Ah nh ch fh ih jh hA hnn W (rh.ext Z))
  have q0 : (w.alloc (.cells #[.slice A n c, .slice B m d] 27)).cell? ⟨w.heap.size, 0, none⟩ = some (.slice A n c) := by simp [go_sem]
  have q1 : (w.alloc (.cells #[.slice A n c, .slice B m d] 27)).cell? ⟨w.heap.size, 1, none⟩ = some (.slice B m d) := by simp [go_sem]
  clear hr hs
  have HGET := Lib.hid (fun h => may_get (n := n) (m := m) (P := P) (L := L) (nh := nh) (fh := fh) (f := f) (s := s) h)
  generalize replL n P m L nh fh f y s = lr at *
  generalize replB n P m L nh fh f y s = br at *
  cases hmb : mayB n P m L nh fh f s
  · rw [hmb] at HMR HBB
    have HB := Lib.hid (show br = false by rw [HBB.out]; rfl)
    have HL := Lib.hid (show lr = tab nh fun k => fh k 0 by rw [HLL.out, HB.out]; rfl)
    clear hmb HGET
    go_enter Try.func45, Try.ntmps45
    go_wp2_with fail
    refine (HCP.out _ (by repeat (first | exact Ext.refl _ | apply Ext.alloc))).mono ?_
    rintro e w1 ⟨Ao, co, rfl, io, jo, hm, x1⟩
    replace q0 := x1.cell q0
    replace q1 := x1.cell q1
    have X1 : Ext w w1 := Ext.trans (by repeat (first | exact Ext.refl _ | apply Ext.alloc)) x1
    replace hm := hm.more (base' := w.heap.size) (by rw [World.size_alloc]; omega)
    clear x1
    go_wp2_with fail
    refine (HMR.out _ X1).mono ?_
    rintro e w2 ⟨rfl, x2⟩
    have X2 := X1.trans x2
    replace hm := hm.ext x2
    clear x2
    go_wp2
    go_ret2
    rw [HB.out, HL.out]
    exact ⟨Ao, co, rfl, io, jo, hm, X2⟩
  · rw [hmb] at HMR HBB
    obtain ⟨hf0, hf1, hbd⟩ := HGET.out hmb
    have HBD := Lib.hid hbd
    clear hmb hbd HGET
    obtain ⟨k, rfl⟩ : ∃ k : Nat, f = (k : Int) := ⟨f.toNat, by omega⟩
    have hk : k < nh := by omega
    rw [show ((k : Int)).toNat = k by omega] at HLL HBB
    cases hiy : inB y 1 3000
    · rw [hiy] at HIY HBB
      have HB := Lib.hid (show br = false by rw [HBB.out]; rfl)
      have HL := Lib.hid (show lr = tab nh fun k => fh k 0 by rw [HLL.out, HB.out]; rfl)
      clear hiy
      go_enter Try.func45, Try.ntmps45
      go_wp2_with fail
      refine (HCP.out _ (by repeat (first | exact Ext.refl _ | apply Ext.alloc))).mono ?_
      rintro e w1 ⟨Ao, co, rfl, io, jo, hm, x1⟩
      replace q0 := x1.cell q0
      replace q1 := x1.cell q1
      have X1 : Ext w w1 := Ext.trans (by repeat (first | exact Ext.refl _ | apply Ext.alloc)) x1
      replace hm := hm.more (base' := w.heap.size) (by rw [World.size_alloc]; omega)
      clear x1
      go_wp2_with fail
      refine (HMR.out _ X1).mono ?_
      rintro e w2 ⟨rfl, x2⟩
      have X2 := X1.trans x2
      replace hm := hm.ext x2
      clear x2
      go_wp2_with fail
      refine (HIY.out _).mono ?_
      rintro e w3 ⟨rfl, x3⟩
      have X3 := X2.trans x3
      replace hm := hm.ext x3
      clear x3
      go_wp2
      go_ret2
      rw [HB.out, HL.out]
      exact ⟨Ao, co, rfl, io, jo, hm, X3⟩
    · rw [hiy] at HIY HBB
      clear hiy
      have hbk := HBD.out k hk
      have k1 : (0 : Int) ≤ (k : Int) := by omega
      have k2 : (k : Int) < (nh : Int) := by omega
      obtain ⟨bb, oo, hAA, hb_, c0⟩ := rh.at1 hk
      subst hAA
      have C0 := Lib.hid c0
      clear c0
      generalize hfk : fh k 0 = yk at *
      by_cases hlt : y < yk
      · have HB := Lib.hid (show br = false by rw [HBB.out, decide_eq_false (by omega)]; rfl)
        have HL := Lib.hid (show lr = tab nh fun k => fh k 0 by rw [HLL.out, HB.out]; rfl)
        go_enter Try.func45, Try.ntmps45
        go_wp2_with fail
        refine (HCP.out _ (by repeat (first | exact Ext.refl _ | apply Ext.alloc))).mono ?_
        rintro e w1 ⟨Ao, co, rfl, io, jo, hm, x1⟩
        replace q0 := x1.cell q0
        replace q1 := x1.cell q1
        have X1 : Ext w w1 := Ext.trans (by repeat (first | exact Ext.refl _ | apply Ext.alloc)) x1
        replace hm := hm.more (base' := w.heap.size) (by rw [World.size_alloc]; omega)
        clear x1
        go_wp2_with fail
        refine (HMR.out _ X1).mono ?_
        rintro e w2 ⟨rfl, x2⟩
        have X2 := X1.trans x2
        replace hm := hm.ext x2
        clear x2
        go_wp2_with fail
        refine (HIY.out _).mono ?_
        rintro e w3 ⟨rfl, x3⟩
        have X3 := X2.trans x3
        replace hm := hm.ext x3
        clear x3
        have c0 := X3.cell C0.out
        go_wp2
        go_ret2
        rw [HB.out, HL.out]
        exact ⟨Ao, co, rfl, io, jo, hm, X3⟩
      · have HB := Lib.hid (show br = true by rw [HBB.out, decide_eq_true (by omega)]; rfl)
        have HL := Lib.hid (show lr = (tab nh fun k => fh k 0).set k y by rw [HLL.out, HB.out]; rfl)
        go_enter Try.func45, Try.ntmps45
        go_wp2_with fail
        refine (HCP.out _ (by repeat (first | exact Ext.refl _ | apply Ext.alloc))).mono ?_
        rintro e w1 ⟨Ao, co, rfl, io, jo, hm, x1⟩
        replace q0 := x1.cell q0
        replace q1 := x1.cell q1
        have X1 : Ext w w1 := Ext.trans (by repeat (first | exact Ext.refl _ | apply Ext.alloc)) x1
        replace hm := hm.more (base' := w.heap.size) (by rw [World.size_alloc]; omega)
        clear x1
        go_wp2_with fail
        refine (HMR.out _ X1).mono ?_
        rintro e w2 ⟨rfl, x2⟩
        have X2 := X1.trans x2
        replace hm := hm.ext x2
        clear x2
        go_wp2_with fail
        refine (HIY.out _).mono ?_
        rintro e w3 ⟨rfl, x3⟩
        have X3 := X2.trans x3
        replace hm := hm.ext x3
        clear x3
        have c0 := X3.cell C0.out
        obtain ⟨G, rfl⟩ := hm.some_ (by omega)
        obtain ⟨g0, g1, g2, g3⟩ := hm.at_ hk
        have hm9 := hm.stored (k := k) (z := y) hk (by unfold I64; omega)
        have X9 := X3.setCell (p := ⟨G, k, none⟩) g2 (.int .i64 y)
        clear hm
        go_wp2
        go_ret2
        rw [HB.out, HL.out]
        exact ⟨some ⟨G, 0, none⟩, co, rfl, io, jo, hm9, X9⟩

end Go.Proofs.Ytgmhmlhdiklaaaa
