/-
  The reference draws a window. No conditions.
-/
import Derived.Deep.DeepCutAuto
import Derived.Deep.CutRange
import Derived.Deep.DrawnRows
import Derived.RowKit3
import Derived.Laws.OwnMore
import Derived.Laws.Closers25b
import Derived.Maps.AppendAt
import Derived.Laws.AppendOwnNone
import Derived.Deep.RegionLaw
import Derived.Deep.RegionHeld3
import Derived.Test.YtgmhmlhdiklaaaaGreatDoorWdF
namespace Go.Proofs.YtgmhmlhdiklaaaaGreatDoor
open Go.RowKit
set_option linter.unusedVariables false
set_option linter.unusedSimpArgs false

/-- A call hands back a drawn window in new memory; the cursor goes on. -/
def PostDw (w : World) (q : Nat) (A0 : Option Addr) (N C0 : Nat) (e : Ending) (w' : World) : Prop :=
  ∃ A n c zs B m d ys, e = .returned (.agg #[.slice A n c, .slice B m d]) ∧ OwnWn (q + 1) w' A n c zs B m d ys ∧ winB n (FW zs) m (FW ys) = true ∧ Cur w' q A0 N C0 ∧ w.grownBy w' (some q)
theorem shape_ok (k : Int) (h : 0 ≤ k ∧ k ≤ 4) : winB (shn k) (FW (shN k)) (shm k) (FW (shL k)) = true := by
  obtain rfl | rfl | rfl | rfl | rfl : k = 0 ∨ k = 1 ∨ k = 2 ∨ k = 3 ∨ k = 4 := by omega
  · decide +kernel
  · decide +kernel
  · decide +kernel
  · decide +kernel
  · decide +kernel

theorem setCell_heap (w : World) (p i : Nat) (x : Value) (cs : Array Value) (t : TypeId) (fr : Nat × Nat) (h : w.heap[p]? = some (.cells cs t fr)) : (w.setCell ⟨p, i, none⟩ x).heap[p]? = some (.cells (cs.setIfInBounds i x) t fr) := by
  have hlt := (Array.getElem?_eq_some_iff.1 h).1
  show (w.heap.modify p _)[p]? = _
  rw [Array.getElem?_modify, h]; simp
section
variable {w w' : World} {p k base n m c d : Nat} {u v : Value} {A B : Option Addr} {zs ys : List Int}
theorem BoxW.set0 (h : BoxW w p u v) (x : Value) : BoxW (w.setCell ⟨p, 0, none⟩ x) p x v := by
  unfold BoxW at h ⊢
  rw [setCell_heap w p 0 x _ _ _ h]; simp
theorem BoxW.set1 (h : BoxW w p u v) (x : Value) : BoxW (w.setCell ⟨p, 1, none⟩ x) p u x := by
  unfold BoxW at h ⊢
  rw [setCell_heap w p 1 x _ _ _ h]; simp
theorem BoxW.far (h : BoxW w p u v) (hne : p ≠ k) (i : Nat) (x : Value) : BoxW (w.setCell ⟨k, i, none⟩ x) p u v :=
  h.kept (row := some k) (grownBy_setC (World.grownBy.refl w _) i x) (fun e => by injection e with e; exact hne e.symm)
theorem OwnWn.setBox (h : OwnWn base w A n c zs B m d ys) (hb : BoxW w k u v) (i : Nat) (x : Value) : OwnWn base (w.setCell ⟨k, i, none⟩ x) A n c zs B m d ys :=
  ⟨h.1, h.2.1, h.2.2.1, h.2.2.2.1, h.2.2.2.2.1.setBox hb (by decide) i x, h.2.2.2.2.2.setBox hb (by decide) i x⟩
theorem Cur.setBox {A0 : Option Addr} {N C0 q : Nat} (h : Cur w q A0 N C0) (hne : q ≠ k) (i : Nat) (x : Value) : Cur (w.setCell ⟨k, i, none⟩ x) q A0 N C0 :=
  h.kept (row := some k) (grownBy_setC (World.grownBy.refl w _) i x) (fun e => by injection e with e; exact hne e.symm)
end
theorem OwnWn.setBox2 {base n m c d k : Nat} {w : World} {u v : Value} {A B : Option Addr} {zs ys : List Int} (h : OwnWn base w A n c zs B m d ys) (hb : BoxW w k u v) (x y : Value) : OwnWn base ((w.setCell ⟨k, 0, none⟩ x).setCell ⟨k, 1, none⟩ y) A n c zs B m d ys :=
  (h.setBox hb 0 x).setBox (hb.set0 x) 1 y
theorem below_1000 {z : Int} {n : Nat} (h : 0 ≤ z ∧ (0 < (n : Int) → z < n) ∧ ((n : Int) ≤ 0 → z = 0)) (h1 : 1 ≤ n) (h2 : (n : Int) ≤ 256) : 0 ≤ z ∧ z ≤ 1000 := by omega
theorem below_drop {z x : Int} (h : 0 ≤ z ∧ (0 < x → z < x) ∧ (x ≤ 0 → z = 0)) (h2 : x ≤ 256) : ∃ j : Nat, z = j ∧ j ≤ 1000 := ⟨z.toNat, by omega, by omega⟩
theorem i64_13 {z : Int} (h : 0 ≤ z ∧ z < 13) : I64 z := by unfold I64; omega
theorem flat_two (x y : Int) : flat 2 1 (fun _ j => if j = 0 then x else y) = [x, y] := by simp [flat, tab, List.range_succ]
theorem own_ne {base n s p : Nat} {w : World} {E : TypeId} {u v x : Value} {zs : List Int} (h : MineS base w E s x n zs) (hb : BoxW w p u v) (hE : E ≠ 27) : x.ownBlock ≠ some p := by
  intro e
  rcases h.sepB hb hE with q | q
  · rw [q] at e; cases e
  · exact q e
theorem grownBy_own {w W wb : World} {q s : Nat} {v : Value} (G : w.grownBy W (some q)) (gb : W.grownBy wb v.ownBlock) (hs : w.heap.size ≤ s) (hv : ∀ k, v.ownBlock = some k → s ≤ k) : w.grownBy wb (some q) :=
  ⟨gb.os.trans G.os, gb.tape.trans G.tape, gb.output.trans G.output, by have := G.size; have := gb.size; omega, fun k hk hne => (gb.block k (by have := G.size; omega) (fun e => by have := hv k e.symm; omega)).trans (G.block k hk hne)⟩
/-- Behind the node's append: what stands in the world with the box's nodes set. -/
theorem nodeK {w W wb : World} {q s6 t p ws n m c d c7 d7 cb : Nat} {A B A7 B7 Ab A0 : Option Addr} {N C0 : Nat} {zs ys zs' : List Int} {u0 v0 : Value} (G : w.grownBy W (some q)) (hw6 : w.heap.size ≤ s6) (hq6 : q < s6)
    (h7 : OwnWn s6 W A7 n c7 zs B7 m d7 ys) (ho : OwnWn (q + 1) W A n c zs B m d ys) (oA : Old s6 (.slice A n c)) (oB : Old s6 (.slice B m d)) (D : BoxW W t (.slice A7 n c7) (.slice B7 m d7)) (Bp : BoxW W p (.slice A n c) (.slice B m d)) (R : BoxW W ws u0 v0)
    (hpt : p ≠ t) (hwt : ws ≠ t) (hqt : q ≠ t) (hwl : w.heap.size ≤ t) (C : Cur W q A0 N C0) (ib : n + 1 ≤ cb) (jb : cb ≤ 9223372036854775807) (hmb : MineS s6 wb 38 2 (.slice Ab (n + 1) cb) (n + 1) zs') (gb : W.grownBy wb (Value.slice A7 n c7).ownBlock) :
    (wb.cell? ⟨t, 0, none⟩ = some (.slice A7 n c7) ∧ wb.cell? ⟨t, 1, none⟩ = some (.slice B7 m d7) ∧ wb.frozen? ⟨t, 0, none⟩ = false) ∧
    BoxW (wb.setCell ⟨t, 0, none⟩ (.slice Ab (n + 1) cb)) t (.slice Ab (n + 1) cb) (.slice B7 m d7) ∧ BoxW (wb.setCell ⟨t, 0, none⟩ (.slice Ab (n + 1) cb)) p (.slice A n c) (.slice B m d) ∧ BoxW (wb.setCell ⟨t, 0, none⟩ (.slice Ab (n + 1) cb)) ws u0 v0 ∧
    OwnWn (q + 1) (wb.setCell ⟨t, 0, none⟩ (.slice Ab (n + 1) cb)) Ab (n + 1) cb zs' B7 m d7 ys ∧ OwnWn (q + 1) (wb.setCell ⟨t, 0, none⟩ (.slice Ab (n + 1) cb)) A n c zs B m d ys ∧ Cur (wb.setCell ⟨t, 0, none⟩ (.slice Ab (n + 1) cb)) q A0 N C0 ∧ w.grownBy (wb.setCell ⟨t, 0, none⟩ (.slice Ab (n + 1) cb)) (some q) := by
  have hN := h7.2.2.2.2.1
  have hL := h7.2.2.2.2.2
  have nt := own_ne hN D (by decide)
  have Db := D.kept gb nt
  have Pb := Bp.kept gb (own_ne hN Bp (by decide))
  have Rb := R.kept gb (own_ne hN R (by decide))
  have Cb := C.kept gb (fun e => by have := hN.lt _ e; omega)
  have Lb := hL.kept gb (hL.sep hN (by decide))
  have apA : (Value.slice A n c).ownBlock = none ∨ (Value.slice A n c).ownBlock ≠ (Value.slice A7 n c7).ownBlock := by
    cases e : (Value.slice A n c).ownBlock with
    | none => exact .inl rfl
    | some k => exact .inr fun e2 => by have := oA k e; have := (hN.lt k e2.symm).1; omega
  have Ob : OwnWn (q + 1) wb A n c zs B m d ys := ⟨ho.1, ho.2.1, ho.2.2.1, ho.2.2.2.1, ho.2.2.2.2.1.kept gb apA, ho.2.2.2.2.2.kept gb (ho.2.2.2.2.2.sep hN (by decide))⟩
  have Nb : OwnWn (q + 1) wb Ab (n + 1) cb zs' B7 m d7 ys := ⟨ib, jb, h7.2.2.1, h7.2.2.2.1, hmb.more (by omega), Lb.more (by omega)⟩
  exact ⟨⟨Db.c0, Db.c1, Db.f0⟩, Db.set0 _, Pb.far hpt 0 _, Rb.far hwt 0 _, Nb.setBox Db 0 _, Ob.setBox Db 0 _, Cb.setBox hqt 0 _, grownBy_new (grownBy_own G gb hw6 (fun k e => (hN.lt k e).1)) hwl 0 _⟩
theorem lohi_of (a b : Int) : ∃ lo hi : Int, (a < b ∧ ¬ b < a ∧ lo = a ∧ hi = b) ∨ (¬ a < b ∧ b < a ∧ lo = b ∧ hi = a) ∨ (hi = a ∧ hi = b ∧ hi = lo) := by
  by_cases h : a < b
  · exact ⟨a, b, .inl ⟨h, by omega, rfl, rfl⟩⟩
  · by_cases h2 : b < a
    · exact ⟨b, a, .inr (.inl ⟨h, h2, rfl, rfl⟩)⟩
    · exact ⟨a, a, .inr (.inr ⟨rfl, by omega, rfl⟩)⟩

attribute [local go_sem ↓] Go.wp_at_zero Go.wp_at_succ
attribute [local go_sem, local simp] Go.World.cell?_alloc_some Go.World.frozen?_alloc_past
set_option maxRecDepth 100000 in
set_option maxHeartbeats 40000000 in
theorem l04Window_any (w0 : World) (A0 : Option Addr) (N C0 : Nat) (g : Nat → Int) (hnc : N ≤ C0) (hcm : C0 ≤ 9223372036854775807) (hB : BRecs w0 A0 N g) (q : Nat) (hq : w0.heap.size ≤ q) (w : World) (X : Ext w0 w) (C : Cur w q A0 N C0) :
    Calls Tryz.prog 31 #[.pointer (some ⟨q, 0, none⟩)] w (PostDw w q A0 N C0) := by
  have hql := C.lt
  have C1 := C.ext ((Ext.refl w).alloc (.cells #[.slice none 0 0, .slice none 0 0] 27))
  have X1 := X.alloc (.cells #[.slice none 0 0, .slice none 0 0] 27)
  have G1 : w.grownBy (w.alloc (.cells #[.slice none 0 0, .slice none 0 0] 27)) (some q) := grownBy_alloc (World.grownBy.refl w _) _
  have R1 : BoxW (w.alloc (.cells #[.slice none 0 0, .slice none 0 0] 27)) w.heap.size (.slice none 0 0) (.slice none 0 0) := heap_alloc_new _ _
  have hqw : (some q : Option Nat) ≠ some w.heap.size := fun e => by injection e with e; omega
  have HX := Lib.hid (fun W (G : w.grownBy W (some q)) => X.grown G (fun k e => by injection e with e; omega))
  have HB := Lib.hid (fun W (G : w.grownBy W (some q)) (C : Cur W q A0 N C0) (m : Int) (hm : m ≤ 256) => l01Below_any w0 A0 N C0 g hnc hcm hB q hq W (X.grown G (fun k e => by injection e with e; omega)) C m hm)
  have HO := Lib.hid (fun W (G : w.grownBy W (some q)) (C : Cur W q A0 N C0) (m : Int) (hm : m ≤ 256) => l01Once_any w0 A0 N C0 g hnc hcm hB q hq W (X.grown G (fun k e => by injection e with e; omega)) C m hm)
  have HN := Lib.hid (fun W (G : w.grownBy W (some q)) (C : Cur W q A0 N C0) => l02Node_any w0 A0 N C0 g hnc hcm hB q hq W (X.grown G (fun k e => by injection e with e; omega)) C)
  clear X X1 C hB
  go_enter Tryz.func31, Tryz.ntmps31
  go_wp2_with fail
  refine (HB.out _ G1 C1 5 (by omega)).mono ?_
  rintro e w1 ⟨k5, rfl, hk5, C2, g2⟩
  have hk0 := hk5.1
  have hk1 := hk5.2.1 (by omega)
  have G2 := G1.trans g2
  have R2 := R1.kept g2 hqw
  clear G1 C1 R1 g2 hk5
  go_wp2_with fail
  refine (l04Shape_any k5 (by omega) _).mono ?_
  rintro e w2 ⟨A, c, B, d, rfl, ho, x2⟩
  have hw := shape_ok k5 (by omega)
  generalize shn k5 = n at *
  generalize shN k5 = zs at *
  generalize shm k5 = m at *
  generalize shL k5 = ys at *
  have G3 := G2.trans (x2.grownBy _)
  have R3 := R2.ext x2
  have C3 := C2.ext x2
  have hs1 := G2.size
  have ho3 := ho.more (base' := q + 1) (by omega)
  have hs2 := x2.size
  have hp : w.heap.size < w2.heap.size := R3.lt
  clear G2 R2 C2 ho x2
  have B4 : BoxW (w2.alloc (.cells #[.slice A n c, .slice B m d] 27)) w2.heap.size (.slice A n c) (.slice B m d) := heap_alloc_new _ _
  have y4 : Ext w2 (w2.alloc (.cells #[.slice A n c, .slice B m d] 27)) := (Ext.refl _).alloc _
  have G4 := G3.trans (y4.grownBy _)
  have R4 := R3.ext y4
  have C4 := C3.ext y4
  have ho4 := ho3.ext y4
  have hs4 : (w2.alloc (.cells #[.slice A n c, .slice B m d] 27)).heap.size = w2.heap.size + 1 := by rw [World.size_alloc]
  go_wp2_with fail
  generalize w2.alloc (.cells #[.slice A n c, .slice B m d] 27) = w4 at *
  have hql4 : q < w2.heap.size := by omega
  generalize w2.heap.size = p at *
  clear G3 R3 C3 ho3 y4
  have hqp : (some q : Option Nat) ≠ some p := fun e => by injection e with e; omega
  refine (HB.out _ G4 C4 4 (by omega)).mono ?_
  rintro e w5 ⟨k4, rfl, hk4, C5, g5⟩
  have hk0 := hk4.1
  have hk1 := hk4.2.1 (by omega)
  have G5 := G4.trans g5
  have R5 := R4.kept g5 hqw
  have B5 := B4.kept g5 hqp
  have ho5 := ho4.grown g5 (by omega)
  clear G4 C4 R4 B4 ho4 g5 hk4
  go_wp2
  have hwp : w.heap.size ≠ p := by omega
  have hwp' : w.heap.size ≤ p := by omega
  have hqp' : q ≠ p := by omega
  have hqs : q ≠ w.heap.size := by omega
  go_loopw [4] (fun i wr => ∃ (z : Int) (A : Option Addr) (n c : Nat) (zs : List Int) (B : Option Addr) (m d : Nat) (ys : List Int), i = .int .i64 z ∧ 0 ≤ z ∧ z ≤ 4 ∧ BoxW wr w.heap.size (.slice none 0 0) (.slice none 0 0) ∧ BoxW wr p (.slice A n c) (.slice B m d) ∧ OwnWn (q + 1) wr A n c zs B m d ys ∧ winB n (FW zs) m (FW ys) = true ∧ Cur wr q A0 N C0 ∧ w.grownBy wr (some q)) (fun i _ => (intOf i).toNat)
  case atStart => exact ⟨k4, A, n, c, zs, B, m, d, ys, rfl, by omega, by omega, R5, B5, ho5, hw, C5, G5⟩
  case round =>
    obtain ⟨z, A, n, c, zs, B, m, d, ys, rfl, hz0, hz4, R, Bx, ho, hw, C, G⟩ := hrel
    clear R5 B5 ho5 C5 G5
    have hsz := (winB_get hw).1
    have hn1 : 1 ≤ n := hsz.1
    have hn256 : (n : Int) ≤ 256 := by omega
    have hqq : q < q + 1 := by omega
    have hn0 : 0 < (n : Int) := by omega
    have hn1000 : 0 ≤ (n : Int) ∧ (n : Int) ≤ 1000 := by omega
    have hn2 : n + 1 ≤ 100000000000 := by omega
    by_cases hz : 0 < z
    · go_wp2_with fail
      refine (HO.out _ G C 2 (by omega)).mono ?_
      rintro e w6 ⟨b, rfl, C6, g6⟩
      have G6 := G.trans g6
      have R6 := R.kept g6 hqw
      have B6 := Bx.kept g6 hqp
      have ho6 := ho.grown g6 (by omega)
      clear G C R Bx ho g6
      have k0 := B6.c0
      have k1 := B6.c1
      cases b
      · go_wp2_with fail
        go_region_with (first
          | (go_at_call 48; obtain ⟨lo, hi, hlh⟩ := lohi_of za zb; refine (AddLead_any (q + 1) _ A n c zs B m d ys hoc hw za zb lo hi hza2 hzb2 hlh).mono ?_; rintro e we ⟨Ae, ne, ce, zse, Be, me, de, yse, be, rfl, hoe, hwe, xe⟩; have k0e := xe.cell k0c; have k1e := xe.cell k1c; have z0e := (Bc.ext xe).f0; have z1e := (Bc.ext xe).f1)
          | (go_at_call 33; refine (HB.out _ Gb Cb (n : Int) hn256).mono ?_; rintro e wc ⟨zb, rfl, hzb, Cc, gc⟩; have Gc := Gb.trans gc; have Bc := Bb.kept gc hqp; have Rc := Rb.kept gc hqw; have k0c := Bc.c0; have k1c := Bc.c1; have hoc := hob.grown gc hqq; have hzb2 : 0 ≤ zb ∧ zb ≤ 1000 := below_1000 hzb hn1 hn256)
          | (go_at_call 33; refine (HB.out _ (grownBy_dr G6) (C6.ext (Ext.refl _).drew) (n : Int) hn256).mono ?_; rintro e wb ⟨za, rfl, hza, Cb, gb⟩; have Gb := (grownBy_dr G6).trans gb; have Bb := (B6.ext (Ext.refl _).drew).kept gb hqp; have Rb := (R6.ext (Ext.refl _).drew).kept gb hqw; have k0b := Bb.c0; have k1b := Bb.c1; have hob := (ho6.ext (Ext.refl _).drew).grown gb hqq; have hza2 : 0 ≤ za ∧ za ≤ 1000 := below_1000 hza hn1 hn256))
        all_goals
          have HE := Lib.hid (And.intro hoe (And.intro hwe (And.intro (Bc.ext xe) (And.intro (Rc.ext xe) (And.intro (Cc.ext xe) (Gc.trans (xe.grownBy _)))))))
          have hmore : q + 1 ≤ wc.heap.size := by have := Gc.size; omega
          clear hoe hwe Bc Rc Cc Gc xe hoc hob gb gc Bb Rb Cb Gb C6 G6 R6 B6 ho6 k0 k1 k0b k1b k0c k1c
          go_wp2
          go_roundw
          case rel =>
            obtain ⟨hoe, hwe, Bx, Rx, Cx, Gx⟩ := HE.out
            refine ⟨z - 1, Ae, ne, ce, zse, Be, me, de, yse, by first | rfl | go_num, by omega, by omega, ?_, ?_, ?_, hwe, ?_, ?_⟩
            · exact (Rx.far hwp 0 _).far hwp 1 _
            · exact (Bx.set0 _).set1 _
            · exact (hoe.more hmore).setBox2 Bx _ _
            · exact (Cx.setBox hqp' 0 _).setBox hqp' 1 _
            · exact grownBy_new (grownBy_new Gx hwp' 0 _) hwp' 1 _
          case measure => simp [intOf]; omega
      · go_wp2_with fail
        by_cases hm1 : (1 : Int) < m
        · go_region_with (first
            | (go_at_call 47; refine (DropLead_any (q + 1) _ A n c zs B m d ys hob hw ja hja).mono ?_; rintro e we ⟨Ae, ne, ce, zse, Be, me, de, yse, be, rfl, hoe, hwe, xe⟩; have k0e := xe.cell k0b; have k1e := xe.cell k1b; have z0e := (Bb.ext xe).f0; have z1e := (Bb.ext xe).f1)
            | (go_at_call 33; refine (HB.out _ (grownBy_dr G6) (C6.ext (Ext.refl _).drew) (m : Int) (by omega)).mono ?_; rintro e wb ⟨za, rfl, hza, Cb, gb⟩; have Gb := (grownBy_dr G6).trans gb; have Bb := (B6.ext (Ext.refl _).drew).kept gb hqp; have Rb := (R6.ext (Ext.refl _).drew).kept gb hqw; have k0b := Bb.c0; have k1b := Bb.c1; have hob := (ho6.ext (Ext.refl _).drew).grown gb hqq; obtain ⟨ja, rfl, hja⟩ := below_drop hza (by omega)))
          all_goals
            have HE := Lib.hid (And.intro hoe (And.intro hwe (And.intro (Bb.ext xe) (And.intro (Rb.ext xe) (And.intro (Cb.ext xe) (Gb.trans (xe.grownBy _)))))))
            have hmore : q + 1 ≤ wb.heap.size := by have := Gb.size; omega
            clear hoe hwe Bb Rb Cb Gb xe hob gb C6 G6 R6 B6 ho6 k0 k1 k0b k1b
            go_wp2
            go_roundw
            case rel =>
              obtain ⟨hoe, hwe, Bx, Rx, Cx, Gx⟩ := HE.out
              refine ⟨z - 1, Ae, ne, ce, zse, Be, me, de, yse, by first | rfl | go_num, by omega, by omega, ?_, ?_, ?_, hwe, ?_, ?_⟩
              · exact (Rx.far hwp 0 _).far hwp 1 _
              · exact (Bx.set0 _).set1 _
              · exact (hoe.more hmore).setBox2 Bx _ _
              · exact (Cx.setBox hqp' 0 _).setBox hqp' 1 _
              · exact grownBy_new (grownBy_new Gx hwp' 0 _) hwp' 1 _
            case measure => simp [intOf]; omega
        · go_region_with (first
            | (go_at_call 47; refine (DropLead_any (q + 1) _ A n c zs B m d ys hob hw ja hja).mono ?_; rintro e we ⟨Ae, ne, ce, zse, Be, me, de, yse, be, rfl, hoe, hwe, xe⟩; have k0e := xe.cell k0b; have k1e := xe.cell k1b; have z0e := (Bb.ext xe).f0; have z1e := (Bb.ext xe).f1)
            | (go_at_call 33; refine (HB.out _ (grownBy_dr G6) (C6.ext (Ext.refl _).drew) 1 (by omega)).mono ?_; rintro e wb ⟨za, rfl, hza, Cb, gb⟩; have Gb := (grownBy_dr G6).trans gb; have Bb := (B6.ext (Ext.refl _).drew).kept gb hqp; have Rb := (R6.ext (Ext.refl _).drew).kept gb hqw; have k0b := Bb.c0; have k1b := Bb.c1; have hob := (ho6.ext (Ext.refl _).drew).grown gb hqq; obtain ⟨ja, rfl, hja⟩ := below_drop hza (by omega)))
          all_goals
            have HE := Lib.hid (And.intro hoe (And.intro hwe (And.intro (Bb.ext xe) (And.intro (Rb.ext xe) (And.intro (Cb.ext xe) (Gb.trans (xe.grownBy _)))))))
            have hmore : q + 1 ≤ wb.heap.size := by have := Gb.size; omega
            clear hoe hwe Bb Rb Cb Gb xe hob gb C6 G6 R6 B6 ho6 k0 k1 k0b k1b
            go_wp2
            go_roundw
            case rel =>
              obtain ⟨hoe, hwe, Bx, Rx, Cx, Gx⟩ := HE.out
              refine ⟨z - 1, Ae, ne, ce, zse, Be, me, de, yse, by first | rfl | go_num, by omega, by omega, ?_, ?_, ?_, hwe, ?_, ?_⟩
              · exact (Rx.far hwp 0 _).far hwp 1 _
              · exact (Bx.set0 _).set1 _
              · exact (hoe.more hmore).setBox2 Bx _ _
              · exact (Cx.setBox hqp' 0 _).setBox hqp' 1 _
              · exact grownBy_new (grownBy_new Gx hwp' 0 _) hwp' 1 _
            case measure => simp [intOf]; omega
    · go_wp2_with fail
      refine (HO.out _ G C 4 (by omega)).mono ?_
      rintro e w6 ⟨b, rfl, C6, g6⟩
      have G6 := G.trans g6
      have R6 := R.kept g6 hqw
      have B6 := Bx.kept g6 hqp
      have ho6 := ho.grown g6 (by omega)
      clear G C R Bx ho g6
      have k0 := B6.c0
      have k1 := B6.c1
      have r0 := R6.c0
      have r1 := R6.c1
      have e0 := R6.f0
      have e1 := R6.f1
      cases b
      · have HE := Lib.hid (And.intro ho6 (And.intro R6 (And.intro C6 G6)))
        clear ho6 R6 B6 C6 G6
        go_wp2
        obtain ⟨ho6, R6, C6, G6⟩ := HE.out
        refine bodyPost_ret (v := .agg #[.slice A n c, .slice B m d]) (by simp [results, Tryz.results31, go_sem, r0, r1]) rfl ⟨A, n, c, zs, B, m, d, ys, rfl, ?_, hw, ?_, ?_⟩
        · exact ho6.setBox2 R6 _ _
        · exact (C6.setBox hqs 0 _).setBox hqs 1 _
        · exact grownBy_new (grownBy_new G6 (Nat.le_refl _) 0 _) (Nat.le_refl _) 1 _
      · go_wp2_with fail
        refine (l04Copy_any (q + 1) _ A n c zs B m d ys ho6 (by omega) (by omega)).mono ?_
        rintro e w7 ⟨A7, c7, B7, d7, rfl, ho7, x7⟩
        have G7 := G6.trans (x7.grownBy _)
        have R7 := R6.ext x7
        have B7' := B6.ext x7
        have C7 := C6.ext x7
        have hw6 : w.heap.size ≤ w6.heap.size := G6.size
        have hq6 : q < w6.heap.size := C6.lt
        have hA6 : Old w6.heap.size (.slice A n c) := ho6.2.2.2.2.1.old
        have hB6 : Old w6.heap.size (.slice B m d) := ho6.2.2.2.2.2.old
        have ho6' := ho6.ext x7
        have hs67 := x7.size
        have hs8 : (w7.alloc (.cells #[.slice A7 n c7, .slice B7 m d7] 27)).heap.size = w7.heap.size + 1 := by rw [World.size_alloc]
        clear ho6 B6 C6 R6 G6 x7 k0 k1 r0 r1 e0 e1
        have y8 : Ext w7 (w7.alloc (.cells #[.slice A7 n c7, .slice B7 m d7] 27)) := (Ext.refl _).alloc _
        have D8 : BoxW (w7.alloc (.cells #[.slice A7 n c7, .slice B7 m d7] 27)) w7.heap.size (.slice A7 n c7) (.slice B7 m d7) := heap_alloc_new _ _
        have G8 := G7.trans (y8.grownBy _)
        have R8 := R7.ext y8
        have B8 := B7'.ext y8
        have C8 := C7.ext y8
        have ho8 := ho7.ext y8
        have hp8 := ho6'.ext y8
        have hps := B7'.lt
        have hqs8 := C7.lt
        have hws := R7.lt
        clear G7 R7 B7' C7 ho7 ho6' y8
        go_wp2_with fail
        generalize w7.alloc (.cells #[.slice A7 n c7, .slice B7 m d7] 27) = w8 at *
        generalize w7.heap.size = t at *
        generalize w6.heap.size = s6 at *
        have hqt : (some q : Option Nat) ≠ some t := fun e => by injection e with e; omega
        have k0 := D8.c0
        have k1 := D8.c1
        have z0 := D8.f0
        have HK := Lib.hid (fun (w9 : World) (C9 : Cur w9 q A0 N C0) (g9 : w8.drew.grownBy w9 (some q)) (x y : Int) (Ab : Option Addr) (cb : Nat) (wb : World) (ib : n + 1 ≤ cb) (jb : cb ≤ 9223372036854775807) (hmb : MineS s6 wb 38 2 (.slice Ab (n + 1) cb) (n + 1) (zs ++ flat 2 1 (fun _ j => if j = 0 then x else y))) (gb : (w9.alloc (.cells #[.int .i64 x, .int .i64 y] 38)).grownBy wb (Value.slice A7 n c7).ownBlock) =>
          nodeK (((grownBy_dr G8).trans g9).trans (((Ext.refl w9).alloc (.cells #[.int .i64 x, .int .i64 y] 38)).grownBy _)) hw6 hq6 ((((ho8.ext (Ext.refl _).drew).grown g9 hq6).ext ((Ext.refl w9).alloc _))) ((((hp8.ext (Ext.refl _).drew).grown g9 (Nat.lt_succ_self q)).ext ((Ext.refl w9).alloc _))) hA6 hB6
            (((D8.ext (Ext.refl _).drew).kept g9 hqt).ext ((Ext.refl w9).alloc _)) (((B8.ext (Ext.refl _).drew).kept g9 hqp).ext ((Ext.refl w9).alloc _)) (((R8.ext (Ext.refl _).drew).kept g9 hqw).ext ((Ext.refl w9).alloc _)) (by omega) (by omega) (by omega) (by omega) (C9.ext ((Ext.refl w9).alloc _)) ib jb hmb gb)
        have HM := Lib.hid (fun (w9 : World) (g9 : w8.drew.grownBy w9 (some q)) (o : Obj) => (((ho8.ext (Ext.refl _).drew).grown g9 hq6).2.2.2.2.1).alloc o)
        have h6s : ∀ (w9 : World) (g9 : w8.drew.grownBy w9 (some q)) (o : Obj), s6 ≤ (w9.alloc o).heap.size := fun w9 g9 o => by have := g9.size; rw [World.size_alloc]; rw [World.size_drew] at this; omega
        clear R8 B8 ho8 hp8
        go_cut [] from 47 to 53 (fun wx => ∃ (Ab : Option Addr) (cb : Nat) (zs' : List Int), BoxW wx t (.slice Ab (n + 1) cb) (.slice B7 m d7) ∧ BoxW wx p (.slice A n c) (.slice B m d) ∧ BoxW wx w.heap.size (.slice none 0 0) (.slice none 0 0) ∧ OwnWn (q + 1) wx Ab (n + 1) cb zs' B7 m d7 ys ∧ OwnWn (q + 1) wx A n c zs B m d ys ∧ Cur wx q A0 N C0 ∧ w.grownBy wx (some q))
        case first =>
          go_region_law (first
            | (refine step_appNode rfl _ _ rfl s6 _ n zs rfl (HM.out w9 g9 _) (some ⟨w9.heap.size, 0, none⟩) 1 1 (fun _ j => if j = 0 then x9 else y9) rfl ?_ (fun q => by cases q) hn2 ?_ ?_; (focus (exact recs_two (by simp [go_sem]) (by simp [go_sem]) hx64 hy64)); (focus (exact h6s w9 g9 _)); intro Ab cb wb ib jb hmb gb; obtain ⟨⟨k0b, k1b, z0b⟩, HKK⟩ := HK.out w9 C9 g9 x9 y9 Ab cb wb ib jb hmb gb)
            | (go_simp; go_at_call 50; refine (HN.out _ (grownBy_dr G8) (C8.ext (Ext.refl _).drew)).mono ?_; rintro e w9 ⟨x9, y9, rfl, hx9, hy9, C9, g9⟩; have D9 := (D8.ext (Ext.refl _).drew).kept g9 hqt; have k09 := D9.c0; have k19 := D9.c1; have z09 := D9.f0; have hx64 : I64 x9 := i64_13 hx9; have hy64 : I64 y9 := i64_13 hy9))
          all_goals (go_wp2_with fail; go_meet; exact ⟨Ab, cb, _, HKK⟩)
        case rest =>
          clear HK HM h6s G8 C8 D8 k0 k1 z0
          obtain ⟨Ab, cb, zs', D, Bp, R, hx, ho, C, G⟩ := hcut
          have k0 := D.c0
          have k1 := D.c1
          have HWx := spec_WindowOk Ab (n + 1) cb (FW zs') B7 m d7 (FW ys) hx.1 hx.2.1 hx.2.2.1 hx.2.2.2.1 wc hx.recsP hx.recsL
          cases hw2 : winB (n + 1) (FW zs') m (FW ys)
          · rw [hw2] at HWx
            have HW3 := Lib.hid HWx
            clear HWx hx D
            go_wp2_with fail
            refine HW3.out.mono ?_
            rintro e wd ⟨rfl, xd⟩
            have Bd := Bp.ext xd
            have Rd := R.ext xd
            have k0d := Bd.c0
            have k1d := Bd.c1
            have r0 := Rd.c0
            have r1 := Rd.c1
            have e0 := Rd.f0
            have e1 := Rd.f1
            have HE := Lib.hid (And.intro (ho.ext xd) (And.intro Rd (And.intro (C.ext xd) (G.trans (xd.grownBy _)))))
            clear ho Bp R C G Bd Rd k0 k1
            go_wp2
            obtain ⟨ho6, R6, C6, G6⟩ := HE.out
            refine bodyPost_ret (v := .agg #[.slice A n c, .slice B m d]) (by simp [results, Tryz.results31, go_sem, r0, r1]) rfl ⟨A, n, c, zs, B, m, d, ys, rfl, ?_, hw, ?_, ?_⟩
            · exact ho6.setBox2 R6 _ _
            · exact (C6.setBox hqs 0 _).setBox hqs 1 _
            · exact grownBy_new (grownBy_new G6 (Nat.le_refl _) 0 _) (Nat.le_refl _) 1 _
          · rw [hw2] at HWx
            have HW3 := Lib.hid HWx
            clear HWx
            go_wp2_with fail
            refine HW3.out.mono ?_
            rintro e wd ⟨rfl, xd⟩
            have Dd := D.ext xd
            have Bd := Bp.ext xd
            have Rd := R.ext xd
            have Cd := C.ext xd
            have Gd := G.trans (xd.grownBy _)
            have hxd := hx.ext xd
            have k0d := Dd.c0
            have k1d := Dd.c1
            have q0d := Bd.c0
            have q1d := Bd.c1
            clear ho Bp R C G D hx k0 k1
            go_wp2_with fail
            go_region_with (first
              | (go_at_call 48; refine (AddLead_any (q + 1) _ Ab (n + 1) cb zs' B7 m d7 ys hob hw2 za (n : Int) za (n : Int) hza2 hn1000 (.inl ⟨hzan, Int.not_lt.2 (Int.le_of_lt hzan), rfl, rfl⟩)).mono ?_; rintro e we ⟨Ae, ne, ce, zse, Be, me, de, yse, be, rfl, hoe, hwe, xe⟩; have k0e := (Bb.ext xe).c0; have k1e := (Bb.ext xe).c1; have z0e := (Bb.ext xe).f0; have z1e := (Bb.ext xe).f1; have r0e := (Rb.ext xe).c0; have r1e := (Rb.ext xe).c1; have e0e := (Rb.ext xe).f0; have e1e := (Rb.ext xe).f1)
              | (go_at_call 33; refine (HB.out _ (grownBy_dr Gd) (Cd.ext (Ext.refl _).drew) (n : Int) hn256).mono ?_; rintro e wb ⟨za, rfl, hza, Cb, gb⟩; have Gb := (grownBy_dr Gd).trans gb; have Bb := (Bd.ext (Ext.refl _).drew).kept gb hqp; have Rb := (Rd.ext (Ext.refl _).drew).kept gb hqw; have Db := (Dd.ext (Ext.refl _).drew).kept gb hqt; have k0b := Bb.c0; have k1b := Bb.c1; have k0db := Db.c0; have k1db := Db.c1; have hob := (hxd.ext (Ext.refl _).drew).grown gb hqq; have hza2 : 0 ≤ za ∧ za ≤ 1000 := below_1000 hza hn1 hn256; have hzan : za < n := hza.2.1 hn0))
            all_goals
              have HE := Lib.hid (And.intro hoe (And.intro hwe (And.intro (Bb.ext xe) (And.intro (Rb.ext xe) (And.intro (Cb.ext xe) (Gb.trans (xe.grownBy _)))))))
              have hmore : q + 1 ≤ wb.heap.size := by have := Gb.size; omega
              clear hoe hwe Bb Rb Cb Gb Db xe hob gb Cd Gd Rd Bd Dd hxd k0d k1d q0d q1d k0b k1b k0db k1db
              go_wp2
              obtain ⟨hoe, hwe, Bx, Rx, Cx, Gx⟩ := HE.out
              refine bodyPost_ret (v := .agg #[.slice Ae ne ce, .slice Be me de]) (by simp [results, Tryz.results31, go_sem, r0e, r1e, hwp]) rfl ⟨Ae, ne, ce, zse, Be, me, de, yse, rfl, ?_, hwe, ?_, ?_⟩
              · exact ((hoe.more hmore).setBox2 Bx _ _).setBox2 ((Rx.far hwp 0 _).far hwp 1 _) _ _
              · exact (((Cx.setBox hqp' 0 _).setBox hqp' 1 _).setBox hqs 0 _).setBox hqs 1 _
              · exact grownBy_new (grownBy_new (grownBy_new (grownBy_new Gx hwp' 0 _) hwp' 1 _) (Nat.le_refl _) 0 _) (Nat.le_refl _) 1 _

end Go.Proofs.YtgmhmlhdiklaaaaGreatDoor
