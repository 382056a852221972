/-
  The law's copy of a row of crates, its size, the test for equality of two. No conditions.
-/
import Derived.Test.YtgfnkmalecfhbaaCrK
import Derived.Test.YtgfnkmalecfhbaaToCrate
import Derived.Test.YtgfnkmalecfhbaaInts
import Derived.Deep.RegionHeld3
namespace Go.Proofs.Ytgfnkmalecfhbaa
open Go.RowKit
set_option linter.unusedVariables false

theorem infoCrate : (Try.prog.info? 64).map (fun i => (i.zero, i.size, i.bytes)) = some (some (Value.agg #[.slice none 0 0, .int .i64 0]), 2, 32) := by kernel_rfl
theorem madeCrate (n : Nat) : (madeCells (Value.agg #[.slice none 0 0, .int .i64 0]).cells (n * 2)).toList = cellsK n (fun _ => .slice none 0 0) (fun _ => 0) := by
  apply List.ext_getElem (by simp [cellsK, madeCells])
  intro q h1 h2
  have h3 : q % 2 = 0 ∨ q % 2 = 1 := by omega
  rcases h3 with h | h <;> simp [madeCells, cellsK, Value.cells, h]
/-- A call hands back a row of crates of its own. -/
def PostK (w : World) (n : Nat) (l : Nat → List Int) (z : Nat → Int) (e : Ending) (w' : World) : Prop :=
  ∃ A c, e = .returned (.slice A n c) ∧ n ≤ c ∧ c ≤ 9223372036854775807 ∧ MineK w.heap.size w' 64 3 (.slice A n c) n l z ∧ Ext w w'
theorem tab_self (l : List Int) : tab l.length (fun i => ix l i) = l := by
  apply ext_ix (tab_len _ _)
  intro k hk
  rw [tab_len] at hk
  rw [tab_ix hk]
/-- The first k of what l, z say, nothing behind. -/
def uptK {α : Type} (d : α) (l : Nat → α) (k : Nat) : Nat → α := fun i => if i < k then l i else d
theorem uptK_put {α : Type} (d : α) (l : Nat → α) (k : Nat) : upd (uptK d l k) k (l k) = uptK d l (k + 1) := by
  funext i
  unfold upd uptK
  by_cases e : i = k
  · rw [if_pos e, if_pos (by omega), e]
  · rw [if_neg e]
    by_cases q : i < k
    · rw [if_pos q, if_pos (by omega)]
    · rw [if_neg q, if_neg (by omega)]
theorem MineK.congr {base : Nat} {w : World} {E F : TypeId} {v : Value} {n : Nat} {l l' : Nat → List Int} {z z' : Nat → Int} (h : MineK base w E F v n l z) (h1 : ∀ k, k < n → l k = l' k ∧ z k = z' k) (h2 : ∀ k, I64 (z' k)) : MineK base w E F v n l' z' := by
  obtain ⟨ps, a1, a2, a3, a4⟩ := h
  refine ⟨ps, by rw [← cellsK_congr (fun k hk => ⟨rfl, (h1 k hk).2⟩)]; exact a1, fun k hk => ?_, h2, a4⟩
  rw [← (h1 k hk).1]
  exact a2 k hk

set_option maxRecDepth 100000 in
set_option maxHeartbeats 4000000 in
theorem toCrateS_any (A : Option Addr) (n c : Nat) (l : Nat → List Int) (z : Nat → Int) (hn : n ≤ 1048576) (hl : ∀ k, k < n → (l k).length ≤ 1048576) (w : World) (hr : Crs w A n l z) :
    Calls Try.prog 23 #[.slice A n c] w (PostK w n l z) := by
  have HL := Lib.hid hl
  clear hl
  go_enter Try.func23, Try.ntmps23
  go_wp2_with (obtain ⟨i0, hi, hz0, hz1, hz2⟩ := info_parts infoCrate; refine wpList_make_full _ rfl _ _ 42 rfl w.heap.size 64 i0 (Value.agg #[.slice none 0 0, .int .i64 0]) 2 Try.underlying42 hi hz0 hz1 .i64 .i64 n n n rfl rfl rfl rfl (by rw [hz2]; omega) (by simp only [maxLen]; omega) (Nat.le_refl _) ?_; intro w1 hown hg1; clear hi hz0 hz1 hz2; rw [madeCrate n] at hown)
  have he1 : Ext w w1 := (Ext.refl w).grown hg1 (by simp)
  have hm1 : MineK w.heap.size w1 64 3 (.slice (some ⟨w.heap.size, 0, none⟩) n n) n (uptK [] l 0) (uptK 0 z 0) := ⟨fun _ => .slice none 0 0, by rw [← cellsK_congr (z := fun _ => 0) (fun k hk => ⟨rfl, by simp [uptK]⟩)]; exact hown, fun k hk => ⟨by simpa [uptK] using Mine.nil_ w.heap.size w1 3, .inl rfl, .inr (by simp [Value.ownBlock])⟩, fun k => by simp [uptK]; exact I64.zero, fun _ _ _ _ _ => .inl rfl⟩
  clear hown hg1
  go_loopw [4] (fun i wr => ∃ k : Nat, k ≤ n ∧ i = .int .i64 k ∧ Ext w wr ∧ MineK w.heap.size wr 64 3 (.slice (some ⟨w.heap.size, 0, none⟩) n n) n (uptK [] l k) (uptK 0 z k)) (fun i _ => n - (intOf i).toNat)
  case atStart => exact ⟨0, Nat.zero_le _, rfl, he1, hm1⟩
  case round =>
    clear hm1 he1
    obtain ⟨k, hk, rfl, he, hm⟩ := hrel
    by_cases hlt : k < n
    · obtain ⟨b, o, B, d, rfl, hb, c0, c1, i1, i2, hrow⟩ := (hr.ext he).at_ hlt
      have hiz := hr.2 k
      have hlk := HL.out k hlt
      go_wp2_with fail
      refine (toCrate_any B (l k).length d (fun i _ => ix (l k) i) (z k) hlk _ hrow).mono ?_
      rw [tab_self]
      rintro e w2 ⟨A2, c2, rfl, i3, j3, m2, x2⟩
      obtain ⟨pv, _, _, _, _, _, _, _, _, hput⟩ := hm.row hlt
      have h3 := (hput w2 none (.slice A2 (l k).length c2) (l k) (z k) (x2.grownBy none) (.inr rfl) (m2.more he.size) (.inr fun b hb => (m2.lt b hb).1) hiz).2.2.1
      rw [uptK_put, uptK_put] at h3
      obtain ⟨pv2, q0, q1, f0, f1, _⟩ := (hm.ext x2).row hlt
      have he2 := he.trans x2
      have HE := Lib.hid h3
      clear h3 hput m2 x2
      go_wp2
      go_roundw
      case rel => exact ⟨k + 1, by omega, by go_num, (he2.setCell (Nat.le_refl _) _).setCell (Nat.le_refl _) _, HE.out⟩
      case measure => simp [intOf]; omega
    · obtain rfl : k = n := by omega
      have hc := hm.congr (l' := l) (z' := z) (fun i hi => ⟨by simp [uptK, hi], by simp [uptK, hi]⟩) hr.2
      clear hm
      go_wp2
      go_ret
      exact ⟨_, _, rfl, Nat.le_refl _, by omega, hc, he⟩

/-- The size of a row of crates is within the bound, or the answer lies below 0. -/
def PostZK (w : World) (n : Nat) (l : Nat → List Int) (e : Ending) (w' : World) : Prop :=
  ∃ r : Int, e = .returned (.int .i64 r) ∧ (r < 0 ∨ (0 ≤ r ∧ r ≤ 1048576 ∧ n ≤ 1048576 ∧ ∀ k, k < n → (l k).length ≤ 1048576)) ∧ Ext w w'
set_option maxRecDepth 100000 in
set_option maxHeartbeats 4000000 in
theorem szCrateS_any (A : Option Addr) (n c : Nat) (l : Nat → List Int) (z : Nat → Int) (hn : n ≤ 9223372036854775807) (w : World) (hr : Crs w A n l z) :
    Calls Try.prog 20 #[.slice A n c, .int .i64 1048576] w (PostZK w n l) := by
  by_cases hbig : 1048576 < n
  · have hb1 : (1048576 : Int) - n < 0 := by omega
    go_enter Try.func20, Try.ntmps20
    go_wp2
    go_ret
    exact ⟨-1, rfl, .inl (by omega), Ext.refl w⟩
  · have hb1 : ¬ (1048576 : Int) - n < 0 := by omega
    go_enter Try.func20, Try.ntmps20
    go_wp2
    go_loopw [1, 5] (fun r i wr => ∃ (k : Nat) (rr : Int), k ≤ n ∧ i = .int .i64 k ∧ r = .int .i64 rr ∧ 0 ≤ rr ∧ rr ≤ 1048576 ∧ Ext w wr ∧ ∀ j, j < k → (l j).length ≤ 1048576) (fun _ i _ => n - (intOf i).toNat)
    case atStart => exact ⟨0, _, Nat.zero_le _, rfl, rfl, by omega, by omega, Ext.refl w, fun j hj => absurd hj (by omega)⟩
    case round =>
      obtain ⟨k, rr, hk, rfl, rfl, hr0, hr1, X, hall⟩ := hrel
      have HALL := Lib.hid hall
      clear hall
      by_cases hlt : k < n
      · obtain ⟨b, o, B, d, rfl, hb, c0, c1, i1, i2, hrow⟩ := (hr.ext X).at_ hlt
        go_wp2_with fail
        refine (szCrate_any B (l k).length d (z k) rr ⟨hr0, hr1⟩ (by omega) _).mono ?_
        by_cases hneg : rr - (l k).length < 0
        · rw [if_pos hneg]
          rintro e w2 ⟨rfl, x2⟩
          go_wp2
          go_ret
          exact ⟨-1, rfl, .inl (by omega), X.trans x2⟩
        · rw [if_neg hneg]
          rintro e w2 ⟨rfl, x2⟩
          have X2 := X.trans x2
          go_wp2
          go_roundw
          case rel => exact ⟨k + 1, rr - (l k).length, by omega, by go_num, rfl, by omega, by omega, X2, fun j hj => by
            by_cases e : j = k
            · subst e; omega
            · exact HALL.out j (by omega)⟩
          case measure => simp [intOf]; omega
      · obtain rfl : k = n := by omega
        go_wp2
        go_ret
        exact ⟨rr, rfl, .inr ⟨hr0, hr1, by omega, HALL.out⟩, X⟩

set_option maxRecDepth 100000 in
set_option maxHeartbeats 4000000 in
theorem eqCrateS_yes (A B : Option Addr) (n c d : Nat) (l : Nat → List Int) (z : Nat → Int) (hn : n ≤ 9223372036854775807) (w : World) (hr : Crs w A n l z) (hs : Crs w B n l z) :
    Calls Try.prog 26 #[.slice A n c, .slice B n d] w fun e w' => e = .returned (.bool true) ∧ Ext w w' := by
  go_enter Try.func26, Try.ntmps26
  go_wp2
  go_loopw [5] (fun i wr => ∃ j : Nat, j ≤ n ∧ i = .int .i64 j ∧ Ext w wr) (fun i _ => n - (intOf i).toNat)
  case atStart => exact ⟨0, Nat.zero_le _, rfl, Ext.refl w⟩
  case round =>
    obtain ⟨j, hj, rfl, ⟨gx, rfl⟩⟩ := hrel
    by_cases hlt : j < n
    · obtain ⟨b, o, B1, d1, rfl, hb, c0, c1, i1, i2, hrow⟩ := hr.at_ hlt
      obtain ⟨b2, o2, B2, d2, rfl, hb2, e0, e1, k1, k2, hrow2⟩ := hs.at_ hlt
      have HQ := Lib.hid (fun W (Z : Ext w W) => eqCrate_yes B1 B2 (l j).length d1 d2 _ _ (z j) (by omega) W (hrow.ext Z) (hrow2.ext Z) (fun _ _ => rfl))
      go_wp2
      first | refine wp_region_gr2 (by kernel_rfl) (by kernel_rfl) ?_ | refine wp_region_gr (by kernel_rfl) (by kernel_rfl) ?_
      repeat (go_big_quiet_step ((go_at_call 49; exact gr_of (HQ.out _ (Ext.gr _ _)))))
      refine wpQuiet_nil ?_
      intro _ hw'
      obtain ⟨gq, hw''⟩ := hw'
      subst hw''
      go_wp2
      go_roundw
      case rel => exact ⟨j + 1, by omega, by go_num, Ext.gr w _⟩
      case measure => simp [intOf]; omega
    · obtain rfl : j = n := by omega
      go_wp2
      go_ret
      exact ⟨rfl, ⟨gx, rfl⟩⟩

end Go.Proofs.Ytgfnkmalecfhbaa
