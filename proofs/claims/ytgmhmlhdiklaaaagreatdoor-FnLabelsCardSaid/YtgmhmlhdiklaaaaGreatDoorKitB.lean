/-
  What an argument reads as, and a law's last step: slices of integers and of structs of integers as functions of two numbers; 'the law returned true and the world has only grown' gives the row's post. Nothing of the program stands here. No conditions.
-/
import Derived.Test.YtgmhmlhdiklaaaaGreatDoorKitA
import Derived.Deep.Fields
import Derived.ChangeSame
import Derived.Lib.SmallJoins
namespace Go.Proofs.YtgmhmlhdiklaaaaGreatDoor
open Go.RowKit Go.ChangeShapes Go.WideShapes Go.Deep

/-- The slice '.slice A n c' over elements of s integer cells holds f: element k's cell j holds f k j. -/
def Recs (w : World) (s : Nat) (A : Option Addr) (n : Nat) (f : Nat → Nat → Int) : Prop :=
  (0 < n → ∃ b o, A = some ⟨b, o, none⟩ ∧ b < w.heap.size ∧ ∀ k, k < n → ∀ j, j < s → w.cell? ⟨b, o + k * s + j, none⟩ = some (.int .i64 (f k j))) ∧
  ∀ k j, -9223372036854775808 ≤ f k j ∧ f k j ≤ 9223372036854775807

section
variable {w w' : World} {s n : Nat} {A : Option Addr} {f : Nat → Nat → Int}
theorem Recs.ext (h : Recs w s A n f) (he : Ext w w') : Recs w' s A n f :=
  ⟨fun hn => by
    obtain ⟨b, o, e, hb, hc⟩ := h.1 hn
    obtain ⟨g, rfl⟩ := he
    exact ⟨b, o, e, by simp; omega, fun k hk j hj => by rw [cell_wgr _ _ _ (by rw [hc k hk j hj]; rfl)]; exact hc k hk j hj⟩, h.2⟩
theorem Recs.gr (h : Recs w s A n f) (g : Gr) : Recs (wgr w g) s A n f := h.ext ⟨g, rfl⟩
theorem Recs.take_ {m : Nat} (h : Recs w s A n f) (hm : m ≤ n) : Recs w s A m f :=
  ⟨fun hn => by
    obtain ⟨b, o, e, hb, hc⟩ := h.1 (by omega)
    exact ⟨b, o, e, hb, fun k hk => hc k (by omega)⟩, h.2⟩
theorem Recs.at1 {k : Nat} (h : Recs w 1 A n f) (hk : k < n) : ∃ b o, A = some ⟨b, o, none⟩ ∧ b < w.heap.size ∧ w.cell? ⟨b, o + k, none⟩ = some (.int .i64 (f k 0)) := by
  obtain ⟨b, o, e, hb, hc⟩ := h.1 (by omega)
  exact ⟨b, o, e, hb, by simpa using hc k hk 0 (by omega)⟩
theorem Recs.at2 {k : Nat} (h : Recs w 2 A n f) (hk : k < n) :
    ∃ b o, A = some ⟨b, o, none⟩ ∧ b < w.heap.size ∧ w.cell? ⟨b, o + k * 2, none⟩ = some (.int .i64 (f k 0)) ∧ w.cell? ⟨b, o + k * 2 + 1, none⟩ = some (.int .i64 (f k 1)) := by
  obtain ⟨b, o, e, hb, hc⟩ := h.1 (by omega)
  exact ⟨b, o, e, hb, by simpa using hc k hk 0 (by omega), hc k hk 1 (by omega)⟩
theorem Recs.at3 {k : Nat} (h : Recs w 3 A n f) (hk : k < n) :
    ∃ b o, A = some ⟨b, o, none⟩ ∧ b < w.heap.size ∧ w.cell? ⟨b, o + k * 3, none⟩ = some (.int .i64 (f k 0)) ∧ w.cell? ⟨b, o + k * 3 + 1, none⟩ = some (.int .i64 (f k 1)) ∧ w.cell? ⟨b, o + k * 3 + 2, none⟩ = some (.int .i64 (f k 2)) := by
  obtain ⟨b, o, e, hb, hc⟩ := h.1 (by omega)
  exact ⟨b, o, e, hb, by simpa using hc k hk 0 (by omega), hc k hk 1 (by omega), hc k hk 2 (by omega)⟩
end

section
variable {w : World} {n b o : Nat} {f : Nat → Nat → Int}
theorem Recs.cell1 {k : Nat} (h : Recs w 1 (some ⟨b, o, none⟩) n f) (hk : k < n) : w.cell? ⟨b, o + k, none⟩ = some (.int .i64 (f k 0)) := by
  obtain ⟨b', o', e, _, hc⟩ := h.at1 hk
  injection e with e; injection e with e1 e2; subst e1 e2; exact hc
theorem Recs.cell2 {k : Nat} (h : Recs w 2 (some ⟨b, o, none⟩) n f) (hk : k < n) : w.cell? ⟨b, o + k * 2, none⟩ = some (.int .i64 (f k 0)) ∧ w.cell? ⟨b, o + k * 2 + 1, none⟩ = some (.int .i64 (f k 1)) := by
  obtain ⟨b', o', e, _, hc⟩ := h.at2 hk
  injection e with e; injection e with e1 e2; subst e1 e2; exact hc
theorem Recs.cell3 {k : Nat} (h : Recs w 3 (some ⟨b, o, none⟩) n f) (hk : k < n) : w.cell? ⟨b, o + k * 3, none⟩ = some (.int .i64 (f k 0)) ∧ w.cell? ⟨b, o + k * 3 + 1, none⟩ = some (.int .i64 (f k 1)) ∧ w.cell? ⟨b, o + k * 3 + 2, none⟩ = some (.int .i64 (f k 2)) := by
  obtain ⟨b', o', e, _, hc⟩ := h.at3 hk
  injection e with e; injection e with e1 e2; subst e1 e2; exact hc
end

theorem wf64 {z : Int} (h : (Lit.int .i64 z).wf = true) : -9223372036854775808 ≤ z ∧ z ≤ 9223372036854775807 := by
  simpa [Lit.wf, IntKind.min, IntKind.max, IntKind.signed, IntKind.bits] using h

def allB (n : Nat) (p : Nat → Bool) : Bool := (List.range n).all p
theorem allB_yes {n : Nat} {p : Nat → Bool} (h : ∀ j, j < n → p j = true) : allB n p = true := by
  unfold allB; rw [List.all_eq_true]; intro j hj; exact h j (by simpa using hj)
theorem allB_no {n j : Nat} {p : Nat → Bool} (hj : j < n) (h : p j = false) : allB n p = false := by
  cases q : allB n p
  · rfl
  · unfold allB at q; rw [List.all_eq_true] at q; have := q j (by simpa using hj); rw [h] at this; cases this
theorem allB_get {n j : Nat} {p : Nat → Bool} (h : allB n p = true) (hj : j < n) : p j = true := by
  unfold allB at h; rw [List.all_eq_true] at h; exact h j (by simpa using hj)

/-- The integer in a cell; 0 where there is none. -/
def intAt (w : World) (a : Addr) : Int := match w.cell? a with | some (.int .i64 z) => if -9223372036854775808 ≤ z ∧ z ≤ 9223372036854775807 then z else 0 | _ => 0
theorem intAt_bd (w : World) (a : Addr) : -9223372036854775808 ≤ intAt w a ∧ intAt w a ≤ 9223372036854775807 := by
  unfold intAt
  split
  · split <;> omega
  · omega
theorem intAt_eq {w : World} {a : Addr} {z : Int} (h : w.cell? a = some (.int .i64 z)) (hw : (Lit.int .i64 z).wf = true) : intAt w a = z := by
  unfold intAt
  rw [h]
  simp only
  rw [if_pos (wf64 hw)]
theorem spot_of_cell {w : World} {a : Addr} {u : Value} (h : w.cell? a = some u) : a.spot = none := by
  unfold World.cell? at h
  split at h
  · split at h
    · cases h
    · rename_i hs; simpa using hs
  · cases h
theorem add_plain {a : Addr} (h : a.spot = none) (i : Nat) : a.add i = ⟨a.block, a.off + i, none⟩ := by
  obtain ⟨b, o, s⟩ := a
  simp only at h
  subst h
  unfold Addr.add
  by_cases hi : i = 0
  · simp [hi]
  · simp [hi]
section
variable {H : Type} {enc : TypeId × Value → H} {P : Program} {w : World}

def intFields (P : Program) (fs : Array Field) : Bool := fs.all fun f => match P.underlying f.type with | some (.int .i64) => true | _ => false
theorem intFields_at {fs : Array Field} (h : intFields P fs = true) {j : Nat} {f : Field} (hj : fs[j]? = some f) : P.underlying f.type = some (.int .i64) := by
  unfold intFields at h
  rw [Array.all_eq_true_iff_forall_mem] at h
  have h1 := h f (Array.mem_of_getElem? hj)
  revert h1
  split <;> simp_all

theorem open_recs {t e : TypeId} {fs : Array Field} {fuel : Nat} {v : Value} {x : DataW H × List MemPlace} (ht : P.underlying t = some (.slice e)) (he : P.underlying e = some (.struct fs))
    (hone : oneCellFields P fs = true) (hC : P.cellsOf e = fs.size) (hint : intFields P fs = true) (hpos : 0 < fs.size) (h : DataW.trod enc P w 0 (fun _ => true) true fuel t [v] = some x) :
    ∃ A n c f, v = .slice A n c ∧ n ≤ c ∧ c ≤ maxLen ∧ Recs w fs.size A n f := by
  rcases open_slice ht h with ⟨hcs, _⟩ | ⟨a, len, cap, m, n, D, Pl, hcs, hb, hl, hm, hmm, hx, hi⟩
  · simp only [List.cons.injEq, and_true] at hcs
    exact ⟨none, 0, 0, fun _ _ => 0, hcs, Nat.le_refl _, by simp [maxLen], fun hn => absurd hn (by omega), fun _ _ => by show -9223372036854775808 ≤ (0 : Int) ∧ (0 : Int) ≤ 9223372036854775807; omega⟩
  · simp only [List.cons.injEq, and_true] at hcs
    refine ⟨some a, len, cap, fun k j => intAt w (a.add (k * fs.size + j)), hcs, hl, hm, fun hn => ?_, fun k j => intAt_bd _ _⟩
    simp only [if_true] at hmm
    have key : ∀ k, k < len → ∀ j, j < fs.size → ∃ z, w.cell? (a.add (k * fs.size + j)) = some (.int .i64 z) ∧ (Lit.int .i64 z).wf = true := by
      intro k hk j hj
      obtain ⟨cs', hc, ht'⟩ := hi k (by omega)
      rw [hC] at hc
      obtain ⟨ys, n', hn', hy, hlen, hyl, hf⟩ := DataW.trod_struct he ht'
      obtain ⟨_, hcl, hat⟩ := World.cells?_some hc
      have hfj : fs[j]? = some fs[j] := Array.getElem?_eq_getElem hj
      obtain ⟨ho, hk1⟩ := hone_of hone j _ hfj
      have hcell := hat j hj
      have h1 := hf j _ hfj
      rw [ho, hk1] at h1
      have hone' : (cs'.drop j).take 1 = [cs'[j]'(by omega)] := by
        rw [List.drop_eq_getElem_cons (by omega)]
        rfl
      have hys : ys[j]? = some (ys[j]'(by omega)) := List.getElem?_eq_getElem (by omega)
      rw [hone', hys] at h1
      obtain ⟨z, hz, _, hw⟩ := DataW.trod_int (intFields_at hint hfj) h1
      simp only [List.cons.injEq, and_true] at hz
      refine ⟨z, ?_, hw⟩
      rw [← Go.Deep.add_add, hcell, List.getElem?_eq_getElem (by omega), hz]
    obtain ⟨z0, h0, _⟩ := key 0 hn 0 hpos
    have hs : a.spot = none := by simpa [Addr.add] using spot_of_cell h0
    have hblk : a.block < w.heap.size := by
      have := World.block_lt_of_cell? _ _ h0
      rwa [add_plain hs] at this
    refine ⟨a.block, a.off, by obtain ⟨_, _, _⟩ := a; simp only at hs; rw [hs], hblk, fun k hk j hj => ?_⟩
    obtain ⟨z, hz, hw⟩ := key k hk j hj
    show _ = some (Value.int .i64 (intAt w (a.add (k * fs.size + j))))
    rw [intAt_eq hz hw, ← hz, add_plain hs, Nat.add_assoc]

theorem open_intrecs {t e : TypeId} {fuel : Nat} {v : Value} {x : DataW H × List MemPlace} (ht : P.underlying t = some (.slice e)) (he : P.underlying e = some (.int .i64))
    (hC : P.cellsOf e = 1) (h : DataW.trod enc P w 0 (fun _ => true) true fuel t [v] = some x) :
    ∃ A n c f, v = .slice A n c ∧ n ≤ c ∧ c ≤ maxLen ∧ Recs w 1 A n f := by
  rcases open_ints ht he hC h with ⟨hcs, _⟩ | ⟨a, len, cap, zs, hcs, hb, hl, hm, hz, hx, hcell, hwz⟩
  · simp only [List.cons.injEq, and_true] at hcs
    exact ⟨none, 0, 0, fun _ _ => 0, hcs, Nat.le_refl _, by simp [maxLen], fun hn => absurd hn (by omega), fun _ _ => by show -9223372036854775808 ≤ (0 : Int) ∧ (0 : Int) ≤ 9223372036854775807; omega⟩
  · simp only [List.cons.injEq, and_true] at hcs
    simp only [if_true] at hz
    refine ⟨some a, len, cap, fun k j => intAt w (a.add (k + j)), hcs, hl, hm, fun hn => ?_, fun k j => intAt_bd _ _⟩
    have h0 := hcell 0 (by omega)
    have hs : a.spot = none := by simpa [Addr.add] using spot_of_cell h0
    have hblk : a.block < w.heap.size := by
      have := World.block_lt_of_cell? _ _ h0
      rwa [add_plain hs] at this
    refine ⟨a.block, a.off, by obtain ⟨_, _, _⟩ := a; simp only at hs; rw [hs], hblk, fun k hk j hj => ?_⟩
    obtain rfl : j = 0 := by omega
    have hk' := hcell k (by omega)
    have hw : (Lit.int .i64 (zs.getD k 0)).wf = true := hwz _ (by
      rw [List.getD_eq_getElem?_getD, List.getElem?_eq_getElem (by omega)]
      exact List.getElem_mem _)
    show _ = some (Value.int .i64 (intAt w (a.add (k + 0))))
    rw [Nat.add_zero k, intAt_eq hk' hw, Nat.add_zero, Nat.mul_one, ← hk', add_plain hs]

theorem and_intro {a b : Bool} (h : a = true) (k : b = true) : (a && b) = true := by rw [h, k]; rfl

theorem trodAll_stays {W W' : World} {sp : Nat → Bool} (hl : laidOutB P = true) : ∀ (ts : List TypeId) (vs : List Value) (ds : List (DataW H)) (ps : List MemPlace),
    (∀ t ∈ ts, P.readableRec t = true ∧ t < P.types.size) → DataW.TrodAll enc P W 0 (fun _ => true) true ts vs ds ps → (∀ p ∈ ps, W.sameAt W' p) → (∀ p ∈ ps, sp p.block = true) →
    DataW.TrodAll enc P W' 0 sp true ts vs ds ps
  | [], [], [], _, _, h, _, _ => h
  | t :: ts, v :: vs, d :: ds, ps, hr, h, hsame, hsp => by
    obtain ⟨p, q, h1, h2, rfl⟩ := h
    exact ⟨p, q, WideElems.Trod_stays hl (hr t (by simp)).1 (hr t (by simp)).2 h1 (fun x hx => hsame x (by simp [hx])) (fun x hx => hsp x (by simp [hx])),
      trodAll_stays hl ts vs ds q (fun t ht => hr t (by simp [ht])) h2 (fun x hx => hsame x (by simp [hx])) (fun x hx => hsp x (by simp [hx])), rfl⟩

/-- The row's last step of every law: it returned true, and the world has only grown. -/
theorem post_law {f : Func} {s : ChangeSpec} {W W' : World} {args : Array Value} {ds gs : List (DataW H)} {before : List MemPlace} {tb : TypeId}
    (hl : laidOutB P = true) (hr0 : (f.params.toList.all fun t => P.readableRec t && decide (t < P.types.size)) = true) (hres : f.resultTypes = #[tb]) (htb : P.underlying tb = some .bool)
    (hW : DataW.Whole enc P f.params.toList s.vars false W args.toList ds gs before) (hv : s.vars = []) (hfn : (s.fn H (ds ++ gs)).results = [.lit (.bool true)]) (hfa : (s.fn H (ds ++ gs)).args = ds) (hfv : (s.fn H (ds ++ gs)).vars = [])
    (he : Ext W W') : s.post enc P f false true false false W args (.bool true) W' := by
  have hr : ∀ t ∈ f.params.toList, P.readableRec t = true ∧ t < P.types.size := fun t ht => by simpa using List.all_eq_true.1 hr0 t ht
  have hlt : ∀ p ∈ before, p.block < W.heap.size := fun p hp => hW.lt p hp
  obtain ⟨p, q, hA, hV, rfl, hfz, hnd⟩ := id hW
  have hb := he.below
  rw [hv] at hV
  obtain ⟨rfl, rfl⟩ := trodVars_none hV
  refine ⟨ds, [], _, [], p, [], hW, ?_, ?_, ?_, ?_, fun h => by cases h⟩
  · rw [hfn, hres]
    exact trodAll_cons_mk (shut_bool htb true) trodAll_mk0
  · rw [hfa]
    exact trodAll_stays hl _ _ _ _ hr hA (fun x hx => hb.same (hlt x (by simpa using hx))) (fun x hx => by simpa using hlt x (by simpa using hx))
  · rw [hfv, hv]
    rfl
  · exact World.keptBut_mono (fun x hx => ⟨hx, by simpa using hx⟩) (hb.frame (· ∈ p ++ []))
end
section
variable {H : Type} {enc : TypeId × Value → H} {P : Program} {w : World} {r : Reach} {b0 : Nat} {v : Value} {d : DataW H} {p : List MemPlace}
theorem openI {t e : TypeId} (ht : P.underlying t = some (.slice e)) (he : P.underlying e = some (.int .i64)) (hC : P.cellsOf e = 1)
    (hv : Value.okWide P w r b0 t v) (h : DataW.Trod enc P w 0 (fun _ => true) true t v d p) : ∃ A n c f, v = .slice A n c ∧ n ≤ c ∧ c ≤ 9223372036854775807 ∧ Recs w 1 A n f := by
  obtain ⟨A, n, c, rfl⟩ := okWide_slice ht hv
  obtain ⟨fuel, hf⟩ := h
  have := open_intrecs (v := .slice A n c) ht he hC (by simpa [Value.cells] using hf)
  simpa [maxLen] using this
theorem openR {t e : TypeId} {fs : Array Field} (ht : P.underlying t = some (.slice e)) (he : P.underlying e = some (.struct fs)) (hone : oneCellFields P fs = true) (hC : P.cellsOf e = fs.size) (hint : intFields P fs = true) (hpos : 0 < fs.size)
    (hv : Value.okWide P w r b0 t v) (h : DataW.Trod enc P w 0 (fun _ => true) true t v d p) : ∃ A n c f, v = .slice A n c ∧ n ≤ c ∧ c ≤ 9223372036854775807 ∧ Recs w fs.size A n f := by
  obtain ⟨A, n, c, rfl⟩ := okWide_slice ht hv
  obtain ⟨fuel, hf⟩ := h
  have := open_recs (v := .slice A n c) ht he hone hC hint hpos (by simpa [Value.cells] using hf)
  simpa [maxLen] using this
theorem openN2 {t : TypeId} {f0 f1 : Field} (hs : P.underlying t = some (.struct #[f0, f1])) (hone : oneCellFields P #[f0, f1] = true) (hC : P.cellsOf t = 2) (h0 : P.underlying f0.type = some (.int .i64)) (h1 : P.underlying f1.type = some (.int .i64))
    (hv : Value.okWide P w r b0 t v) (h : DataW.Trod enc P w 0 (fun _ => true) true t v d p) :
    ∃ x y, v = .agg #[.int .i64 x, .int .i64 y] ∧ (-9223372036854775808 ≤ x ∧ x ≤ 9223372036854775807) ∧ (-9223372036854775808 ≤ y ∧ y ≤ 9223372036854775807) := by
  obtain ⟨v0, v1, y0, y1, n, rfl, _, _, g0, g1⟩ := Go.Joins.open_agg2 hs hone hC hv h
  obtain ⟨x, ex, _, wx⟩ := DataW.trod_int h0 g0
  obtain ⟨y, ey, _, wy⟩ := DataW.trod_int h1 g1
  simp only [List.cons.injEq, and_true] at ex ey
  subst ex ey
  exact ⟨x, y, rfl, wf64 wx, wf64 wy⟩
theorem openN3 {t : TypeId} {f0 f1 f2 : Field} (hs : P.underlying t = some (.struct #[f0, f1, f2])) (hone : oneCellFields P #[f0, f1, f2] = true) (hC : P.cellsOf t = 3) (h0 : P.underlying f0.type = some (.int .i64)) (h1 : P.underlying f1.type = some (.int .i64)) (h2 : P.underlying f2.type = some (.int .i64))
    (hv : Value.okWide P w r b0 t v) (h : DataW.Trod enc P w 0 (fun _ => true) true t v d p) :
    ∃ x y z, v = .agg #[.int .i64 x, .int .i64 y, .int .i64 z] ∧ (-9223372036854775808 ≤ x ∧ x ≤ 9223372036854775807) ∧ (-9223372036854775808 ≤ y ∧ y ≤ 9223372036854775807) ∧ (-9223372036854775808 ≤ z ∧ z ≤ 9223372036854775807) := by
  obtain ⟨v0, v1, v2, y0, y1, y2, n, rfl, _, _, g0, g1, g2⟩ := Go.Joins.open_agg3 hs hone hC hv h
  obtain ⟨x, ex, _, wx⟩ := DataW.trod_int h0 g0
  obtain ⟨y, ey, _, wy⟩ := DataW.trod_int h1 g1
  obtain ⟨z, ez, _, wz⟩ := DataW.trod_int h2 g2
  simp only [List.cons.injEq, and_true] at ex ey ez
  subst ex ey ez
  exact ⟨x, y, z, rfl, wf64 wx, wf64 wy, wf64 wz⟩
/-- A struct of two slices of structs of integers. -/
theorem openW {t : TypeId} {f0 f1 : Field} {e0 e1 : TypeId} {fs0 fs1 : Array Field} (hs : P.underlying t = some (.struct #[f0, f1])) (hone : oneCellFields P #[f0, f1] = true) (hC : P.cellsOf t = 2)
    (ht0 : P.underlying f0.type = some (.slice e0)) (he0 : P.underlying e0 = some (.struct fs0)) (hone0 : oneCellFields P fs0 = true) (hC0 : P.cellsOf e0 = fs0.size) (hint0 : intFields P fs0 = true) (hpos0 : 0 < fs0.size)
    (ht1 : P.underlying f1.type = some (.slice e1)) (he1 : P.underlying e1 = some (.struct fs1)) (hone1 : oneCellFields P fs1 = true) (hC1 : P.cellsOf e1 = fs1.size) (hint1 : intFields P fs1 = true) (hpos1 : 0 < fs1.size)
    (hv : Value.okWide P w r b0 t v) (h : DataW.Trod enc P w 0 (fun _ => true) true t v d p) :
    ∃ A n c f B m k g, v = .agg #[.slice A n c, .slice B m k] ∧ n ≤ c ∧ c ≤ 9223372036854775807 ∧ Recs w fs0.size A n f ∧ m ≤ k ∧ k ≤ 9223372036854775807 ∧ Recs w fs1.size B m g := by
  obtain ⟨v0, v1, y0, y1, fuel, rfl, _, _, g0, g1⟩ := Go.Joins.open_agg2 hs hone hC hv h
  obtain ⟨A, n, c, f, rfl, h1, h2, h3⟩ := open_recs ht0 he0 hone0 hC0 hint0 hpos0 g0
  obtain ⟨B, m, k, g, rfl, k1, k2, k3⟩ := open_recs ht1 he1 hone1 hC1 hint1 hpos1 g1
  exact ⟨A, n, c, f, B, m, k, g, rfl, h1, h2, h3, k1, k2, k3⟩
/-- A struct of a slice of integers and an integer. -/
theorem openC {t : TypeId} {f0 f1 : Field} {e0 : TypeId} (hs : P.underlying t = some (.struct #[f0, f1])) (hone : oneCellFields P #[f0, f1] = true) (hC : P.cellsOf t = 2)
    (ht0 : P.underlying f0.type = some (.slice e0)) (he0 : P.underlying e0 = some (.int .i64)) (hC0 : P.cellsOf e0 = 1) (h1 : P.underlying f1.type = some (.int .i64))
    (hv : Value.okWide P w r b0 t v) (h : DataW.Trod enc P w 0 (fun _ => true) true t v d p) :
    ∃ A n c f l, v = .agg #[.slice A n c, .int .i64 l] ∧ n ≤ c ∧ c ≤ 9223372036854775807 ∧ Recs w 1 A n f ∧ (-9223372036854775808 ≤ l ∧ l ≤ 9223372036854775807) := by
  obtain ⟨v0, v1, y0, y1, fuel, rfl, _, _, g0, g1⟩ := Go.Joins.open_agg2 hs hone hC hv h
  obtain ⟨A, n, c, f, rfl, k1, k2, k3⟩ := open_intrecs ht0 he0 hC0 g0
  obtain ⟨y, ey, _, wy⟩ := DataW.trod_int h1 g1
  simp only [List.cons.injEq, and_true] at ey
  subst ey
  exact ⟨A, n, c, f, y, rfl, k1, k2, k3, wf64 wy⟩
end
end Go.Proofs.YtgmhmlhdiklaaaaGreatDoor
