/-
  Texts of one kind, one behind the other: ToNode Part2 ToNodeS ToLead ToLeadS EqNodeS EqLeadS ToWin MarkWin ToSun. No conditions.
-/
import Derived.Test.YtdnddmeoncekiaaKitA
import Derived.Test.YtdnddmeoncekiaaRows
import Derived.Test.YtdnddmeoncekiaaKitE
import Derived.Test.YtdnddmeoncekiaaInts
/- ToNode -/
namespace Go.Proofs.Ytdnddmeoncekiaa
open Go.RowKit
set_option linter.unusedVariables false

set_option maxHeartbeats 1000000 in
theorem toNode_any (x y : Int) (w : World) :
    Calls Try.prog 56 #[.agg #[.int .i64 x, .int .i64 y]] w fun e w' => e = .returned (.agg #[.int .i64 x, .int .i64 y]) ∧ Ext w w' := by
  go_enter Try.func56, Try.ntmps56
  go_wp2
  refine bodyPost_ret (v := .agg #[.int .i64 x, .int .i64 y]) (by simp [results, Try.results56, go_sem]) rfl ⟨rfl, ?_⟩
  repeat (first | exact Ext.refl _ | apply Ext.wgr | apply Ext.drew | apply Ext.drewN | apply Ext.alloc)

end Go.Proofs.Ytdnddmeoncekiaa

/- Part2 -/
namespace Go.Proofs.Ytdnddmeoncekiaa
open Go.RowKit
set_option linter.unusedVariables false

def part2 (n : Nat) (f : Nat → Nat → Int) (i : Nat) : List Int := tab (n * 2) fun q => if q < i * 2 then f (q / 2) (q % 2) else 0
theorem part2_set {n i : Nat} {f : Nat → Nat → Int} (hi : i < n) : ((part2 n f i).set (i * 2) (f i 0)).set (i * 2 + 1) (f i 1) = part2 n f (i + 1) := by
  apply List.ext_getElem (by simp [part2, tab])
  intro q h1 h2
  have hq : q < n * 2 := by simpa [part2, tab] using h2
  simp only [List.getElem_set, part2, tab, List.getElem_map, List.getElem_range]
  by_cases e1 : i * 2 + 1 = q
  · subst e1
    rw [if_pos rfl, if_pos (by omega), show (i * 2 + 1) / 2 = i by omega, show (i * 2 + 1) % 2 = 1 by omega]
  · rw [if_neg e1]
    by_cases e0 : i * 2 = q
    · subst e0
      rw [if_pos rfl, if_pos (by omega), show (i * 2) / 2 = i by omega, show (i * 2) % 2 = 0 by omega]
    · rw [if_neg e0]
      by_cases lt : q < i * 2
      · rw [if_pos lt, if_pos (by omega)]
      · rw [if_neg lt, if_neg (by omega)]
theorem part2_full {n : Nat} {f : Nat → Nat → Int} : part2 n f n = flat 2 n f := by
  unfold part2 flat
  apply List.map_congr_left
  intro q hq
  rw [if_pos (by simpa using hq)]
theorem part2_zero (n : Nat) (f : Nat → Nat → Int) : part2 n f 0 = tab (n * 2) fun _ => 0 := by
  unfold part2
  apply List.map_congr_left
  intro q hq
  rw [if_neg (by omega)]

end Go.Proofs.Ytdnddmeoncekiaa

/- ToNodeS -/
namespace Go.Proofs.Ytdnddmeoncekiaa
open Go.RowKit
set_option linter.unusedVariables false

theorem infoNode : (Try.prog.info? 66).map (fun i => (i.zero, i.size, i.bytes)) = some (some (Value.agg #[.int .i64 0, .int .i64 0]), 2, 16) := by kernel_rfl
theorem madeNode (n : Nat) (f : Nat → Nat → Int) : (madeCells (Value.agg #[.int .i64 0, .int .i64 0]).cells (n * 2)).toList = (part2 n f 0).map (Value.int .i64) := by
  rw [part2_zero]
  apply List.ext_getElem (by simp [tab, madeCells])
  intro q h1 h2
  have h3 : q % 2 = 0 ∨ q % 2 = 1 := by omega
  rcases h3 with h | h <;> simp [madeCells, tab, Value.cells, h]

set_option maxHeartbeats 2000000 in
theorem toNodeS_any (A : Option Addr) (n c : Nat) (f : Nat → Nat → Int) (hn : n ≤ 1048576) (w : World) (hr : Recs w 2 A n f) :
    Calls Try.prog 31 #[.slice A n c] w (PostS w 66 2 n (flat 2 n f)) := by
  go_enter Try.func31, Try.ntmps31
  go_wp2_with (obtain ⟨i0, hi, hz0, hz1, hz2⟩ := info_parts infoNode; refine wpList_make_full _ rfl _ _ 28 rfl w.heap.size 66 i0 (Value.agg #[.int .i64 0, .int .i64 0]) 2 Try.underlying28 hi hz0 hz1 .i64 .i64 n n n rfl rfl rfl rfl (by rw [hz2]; omega) (by simp only [maxLen]; omega) (Nat.le_refl _) ?_; intro w1 hown hg1; clear hi hz0 hz1 hz2; rw [madeNode n f] at hown)
  have he1 : Ext w w1 := (Ext.refl w).grown hg1 (by simp)
  have hm1 : MineS w.heap.size w1 66 2 (.slice (some ⟨w.heap.size, 0, none⟩) n n) n (part2 n f 0) := ⟨by simp [part2, tab], hown, by intro z hz; rw [part2_zero] at hz; simp [tab] at hz; obtain ⟨_, _, rfl⟩ := hz; exact I64.zero⟩
  clear hown hg1
  go_loopw [4] (fun i wr => ∃ k : Nat, k ≤ n ∧ i = .int .i64 k ∧ Ext w wr ∧ MineS w.heap.size wr 66 2 (.slice (some ⟨w.heap.size, 0, none⟩) n n) n (part2 n f k)) (fun i _ => n - (intOf i).toNat)
  case atStart => exact ⟨0, Nat.zero_le _, rfl, he1, hm1⟩
  case round =>
    clear hm1 he1
    obtain ⟨k, hk, rfl, he, hm⟩ := hrel
    obtain ⟨gx, rfl⟩ := id he
    by_cases hlt : k < n
    · obtain ⟨b, o, rfl, hb, h0, h1⟩ := hr.at2 hlt
      go_wp2_with fail
      refine (toNode_any _ _ _).mono ?_
      rintro e w1 ⟨rfl, x1⟩
      have he1 := he.trans x1
      have hm1 := hm.ext x1
      have hs1 := he1.size
      clear x1
      obtain ⟨c0, f0, _, _⟩ := hm1.at_ (j := 0) hlt (by omega)
      obtain ⟨c1, f1, _, _⟩ := hm1.at_ (j := 1) hlt (by omega)
      rw [Nat.add_zero] at c0 f0
      go_wp2
      go_roundw
      case rel =>
        have hst := ((hm1.stored (i := k * 2) (z := f k 0) (hr.2 k 0)).stored (i := k * 2 + 1) (z := f k 1) (hr.2 k 1))
        rw [part2_set hlt] at hst
        exact ⟨k + 1, by omega, by go_num, ((he1.setCell (Nat.le_refl _) _).setCell (Nat.le_refl _) _), hst⟩
      case measure => simp [intOf]; omega
    · obtain rfl : k = n := by omega
      go_wp2
      go_ret
      rw [part2_full] at hm
      exact ⟨_, _, rfl, Nat.le_refl _, by omega, hm, he⟩

end Go.Proofs.Ytdnddmeoncekiaa

/- ToLead -/
namespace Go.Proofs.Ytdnddmeoncekiaa
open Go.RowKit
set_option linter.unusedVariables false

set_option maxHeartbeats 1000000 in
theorem toLead_any (x y : Int) (w : World) :
    Calls Try.prog 57 #[.agg #[.int .i64 x, .int .i64 y]] w fun e w' => e = .returned (.agg #[.int .i64 x, .int .i64 y]) ∧ Ext w w' := by
  go_enter Try.func57, Try.ntmps57
  go_wp2
  refine bodyPost_ret (v := .agg #[.int .i64 x, .int .i64 y]) (by simp [results, Try.results57, go_sem]) rfl ⟨rfl, ?_⟩
  repeat (first | exact Ext.refl _ | apply Ext.wgr | apply Ext.drew | apply Ext.drewN | apply Ext.alloc)

end Go.Proofs.Ytdnddmeoncekiaa

/- ToLeadS -/
namespace Go.Proofs.Ytdnddmeoncekiaa
open Go.RowKit
set_option linter.unusedVariables false

theorem infoLead : (Try.prog.info? 70).map (fun i => (i.zero, i.size, i.bytes)) = some (some (Value.agg #[.int .i64 0, .int .i64 0]), 2, 16) := by kernel_rfl
theorem madeLead (n : Nat) (f : Nat → Nat → Int) : (madeCells (Value.agg #[.int .i64 0, .int .i64 0]).cells (n * 2)).toList = (part2 n f 0).map (Value.int .i64) := by
  rw [part2_zero]
  apply List.ext_getElem (by simp [tab, madeCells])
  intro q h1 h2
  have h3 : q % 2 = 0 ∨ q % 2 = 1 := by omega
  rcases h3 with h | h <;> simp [madeCells, tab, Value.cells, h]

set_option maxHeartbeats 2000000 in
theorem toLeadS_any (A : Option Addr) (n c : Nat) (f : Nat → Nat → Int) (hn : n ≤ 1048576) (w : World) (hr : Recs w 2 A n f) :
    Calls Try.prog 32 #[.slice A n c] w (PostS w 70 2 n (flat 2 n f)) := by
  go_enter Try.func32, Try.ntmps32
  go_wp2_with (obtain ⟨i0, hi, hz0, hz1, hz2⟩ := info_parts infoLead; refine wpList_make_full _ rfl _ _ 29 rfl w.heap.size 70 i0 (Value.agg #[.int .i64 0, .int .i64 0]) 2 Try.underlying29 hi hz0 hz1 .i64 .i64 n n n rfl rfl rfl rfl (by rw [hz2]; omega) (by simp only [maxLen]; omega) (Nat.le_refl _) ?_; intro w1 hown hg1; clear hi hz0 hz1 hz2; rw [madeLead n f] at hown)
  have he1 : Ext w w1 := (Ext.refl w).grown hg1 (by simp)
  have hm1 : MineS w.heap.size w1 70 2 (.slice (some ⟨w.heap.size, 0, none⟩) n n) n (part2 n f 0) := ⟨by simp [part2, tab], hown, by intro z hz; rw [part2_zero] at hz; simp [tab] at hz; obtain ⟨_, _, rfl⟩ := hz; exact I64.zero⟩
  clear hown hg1
  go_loopw [4] (fun i wr => ∃ k : Nat, k ≤ n ∧ i = .int .i64 k ∧ Ext w wr ∧ MineS w.heap.size wr 70 2 (.slice (some ⟨w.heap.size, 0, none⟩) n n) n (part2 n f k)) (fun i _ => n - (intOf i).toNat)
  case atStart => exact ⟨0, Nat.zero_le _, rfl, he1, hm1⟩
  case round =>
    clear hm1 he1
    obtain ⟨k, hk, rfl, he, hm⟩ := hrel
    obtain ⟨gx, rfl⟩ := id he
    by_cases hlt : k < n
    · obtain ⟨b, o, rfl, hb, h0, h1⟩ := hr.at2 hlt
      go_wp2_with fail
      refine (toLead_any _ _ _).mono ?_
      rintro e w1 ⟨rfl, x1⟩
      have he1 := he.trans x1
      have hm1 := hm.ext x1
      have hs1 := he1.size
      clear x1
      obtain ⟨c0, f0, _, _⟩ := hm1.at_ (j := 0) hlt (by omega)
      obtain ⟨c1, f1, _, _⟩ := hm1.at_ (j := 1) hlt (by omega)
      rw [Nat.add_zero] at c0 f0
      go_wp2
      go_roundw
      case rel =>
        have hst := ((hm1.stored (i := k * 2) (z := f k 0) (hr.2 k 0)).stored (i := k * 2 + 1) (z := f k 1) (hr.2 k 1))
        rw [part2_set hlt] at hst
        exact ⟨k + 1, by omega, by go_num, ((he1.setCell (Nat.le_refl _) _).setCell (Nat.le_refl _) _), hst⟩
      case measure => simp [intOf]; omega
    · obtain rfl : k = n := by omega
      go_wp2
      go_ret
      rw [part2_full] at hm
      exact ⟨_, _, rfl, Nat.le_refl _, by omega, hm, he⟩

end Go.Proofs.Ytdnddmeoncekiaa

/- EqNodeS -/
namespace Go.Proofs.Ytdnddmeoncekiaa
open Go.RowKit
set_option linter.unusedVariables false

set_option maxHeartbeats 1000000 in
theorem eqNode_yes (x y : Int) (w : World) :
    Calls Try.prog 62 #[.agg #[.int .i64 x, .int .i64 y], .agg #[.int .i64 x, .int .i64 y]] w fun e w' => e = .returned (.bool true) ∧ Ext w w' := by
  go_enter Try.func62, Try.ntmps62
  go_wp2
  go_ret
  exact ⟨rfl, by repeat (first | exact Ext.refl _ | apply Ext.wgr | apply Ext.drew | apply Ext.drewN | apply Ext.alloc)⟩
set_option maxHeartbeats 2000000 in
theorem eqNodeS_yes (A B : Option Addr) (n c d : Nat) (f g : Nat → Nat → Int) (hn : n ≤ 9223372036854775807) (w : World) (hr : Recs w 2 A n f) (hs : Recs w 2 B n g) (he : ∀ i, i < n → ∀ j, j < 2 → f i j = g i j) :
    Calls Try.prog 39 #[.slice A n c, .slice B n d] w fun e w' => e = .returned (.bool true) ∧ Ext w w' := by
  have HE := Lib.hid he
  clear he
  go_enter Try.func39, Try.ntmps39
  go_wp2
  go_loopw [5] (fun i wr => ∃ j : Nat, j ≤ n ∧ i = .int .i64 j ∧ Ext w wr) (fun i _ => n - (intOf i).toNat)
  case atStart => exact ⟨0, Nat.zero_le _, rfl, Ext.refl w⟩
  case round =>
    obtain ⟨j, hj, rfl, ⟨gx, rfl⟩⟩ := hrel
    by_cases hlt : j < n
    · obtain ⟨b, o, rfl, hb, h0, h1⟩ := hr.at2 hlt
      obtain ⟨b2, o2, rfl, hb2, k0, k1⟩ := hs.at2 hlt
      have hq0 := HE.out j hlt 0 (by omega)
      rw [hq0] at h0
      clear hq0
      have hq1 := HE.out j hlt 1 (by omega)
      rw [hq1] at h1
      clear hq1
      go_wp2
      first | refine wp_region_gr2 (by kernel_rfl) (by kernel_rfl) ?_ | refine wp_region_gr (by kernel_rfl) (by kernel_rfl) ?_
      repeat (go_big_quiet_step ((go_at_call 62; exact gr_of (eqNode_yes _ _ _))))
      refine wpQuiet_nil ?_
      intro _ hw'
      obtain ⟨gq, hw''⟩ := hw'
      subst hw''
      go_wp2
      go_roundw
      case rel => exact ⟨j + 1, by omega, by go_num, Ext.gr w _⟩
      case measure => simp [intOf]; omega
    · obtain rfl : j = n := by omega
      go_wp2
      go_ret
      exact ⟨rfl, ⟨gx, rfl⟩⟩
set_option maxHeartbeats 1000000 in
theorem szNodeS_any (A : Option Addr) (n c : Nat) (k : Int) (hk : 0 ≤ k ∧ k ≤ 1048576) (hn : n ≤ 9223372036854775807) (w : World) :
    Calls Try.prog 26 #[.slice A n c, .int .i64 k] w fun e w' => e = .returned (.int .i64 (if k - n < 0 then -1 else k - n)) ∧ Ext w w' := by
  by_cases h : k - n < 0
  · go_enter Try.func26, Try.ntmps26
    go_wp2
    go_ret
    exact ⟨congrArg (fun z => Ending.returned (.int .i64 z)) (by first | rfl | rw [if_pos (by omega)]), Ext.refl w⟩
  · go_enter Try.func26, Try.ntmps26
    go_wp2
    go_ret
    exact ⟨congrArg (fun z => Ending.returned (.int .i64 z)) (by first | rfl | rw [if_neg (by omega)]), Ext.refl w⟩

end Go.Proofs.Ytdnddmeoncekiaa

/- EqLeadS -/
namespace Go.Proofs.Ytdnddmeoncekiaa
open Go.RowKit
set_option linter.unusedVariables false

set_option maxHeartbeats 1000000 in
theorem eqLead_yes (x y : Int) (w : World) :
    Calls Try.prog 63 #[.agg #[.int .i64 x, .int .i64 y], .agg #[.int .i64 x, .int .i64 y]] w fun e w' => e = .returned (.bool true) ∧ Ext w w' := by
  go_enter Try.func63, Try.ntmps63
  go_wp2
  go_ret
  exact ⟨rfl, by repeat (first | exact Ext.refl _ | apply Ext.wgr | apply Ext.drew | apply Ext.drewN | apply Ext.alloc)⟩
set_option maxHeartbeats 2000000 in
theorem eqLeadS_yes (A B : Option Addr) (n c d : Nat) (f g : Nat → Nat → Int) (hn : n ≤ 9223372036854775807) (w : World) (hr : Recs w 2 A n f) (hs : Recs w 2 B n g) (he : ∀ i, i < n → ∀ j, j < 2 → f i j = g i j) :
    Calls Try.prog 40 #[.slice A n c, .slice B n d] w fun e w' => e = .returned (.bool true) ∧ Ext w w' := by
  have HE := Lib.hid he
  clear he
  go_enter Try.func40, Try.ntmps40
  go_wp2
  go_loopw [5] (fun i wr => ∃ j : Nat, j ≤ n ∧ i = .int .i64 j ∧ Ext w wr) (fun i _ => n - (intOf i).toNat)
  case atStart => exact ⟨0, Nat.zero_le _, rfl, Ext.refl w⟩
  case round =>
    obtain ⟨j, hj, rfl, ⟨gx, rfl⟩⟩ := hrel
    by_cases hlt : j < n
    · obtain ⟨b, o, rfl, hb, h0, h1⟩ := hr.at2 hlt
      obtain ⟨b2, o2, rfl, hb2, k0, k1⟩ := hs.at2 hlt
      have hq0 := HE.out j hlt 0 (by omega)
      rw [hq0] at h0
      clear hq0
      have hq1 := HE.out j hlt 1 (by omega)
      rw [hq1] at h1
      clear hq1
      go_wp2
      first | refine wp_region_gr2 (by kernel_rfl) (by kernel_rfl) ?_ | refine wp_region_gr (by kernel_rfl) (by kernel_rfl) ?_
      repeat (go_big_quiet_step ((go_at_call 63; exact gr_of (eqLead_yes _ _ _))))
      refine wpQuiet_nil ?_
      intro _ hw'
      obtain ⟨gq, hw''⟩ := hw'
      subst hw''
      go_wp2
      go_roundw
      case rel => exact ⟨j + 1, by omega, by go_num, Ext.gr w _⟩
      case measure => simp [intOf]; omega
    · obtain rfl : j = n := by omega
      go_wp2
      go_ret
      exact ⟨rfl, ⟨gx, rfl⟩⟩
set_option maxHeartbeats 1000000 in
theorem szLeadS_any (A : Option Addr) (n c : Nat) (k : Int) (hk : 0 ≤ k ∧ k ≤ 1048576) (hn : n ≤ 9223372036854775807) (w : World) :
    Calls Try.prog 27 #[.slice A n c, .int .i64 k] w fun e w' => e = .returned (.int .i64 (if k - n < 0 then -1 else k - n)) ∧ Ext w w' := by
  by_cases h : k - n < 0
  · go_enter Try.func27, Try.ntmps27
    go_wp2
    go_ret
    exact ⟨congrArg (fun z => Ending.returned (.int .i64 z)) (by first | rfl | rw [if_pos (by omega)]), Ext.refl w⟩
  · go_enter Try.func27, Try.ntmps27
    go_wp2
    go_ret
    exact ⟨congrArg (fun z => Ending.returned (.int .i64 z)) (by first | rfl | rw [if_neg (by omega)]), Ext.refl w⟩

end Go.Proofs.Ytdnddmeoncekiaa

/- ToWin -/
namespace Go.Proofs.Ytdnddmeoncekiaa
open Go.RowKit
set_option linter.unusedVariables false

/-- A window has been made: rows of the call's own for its nodes and its leads. -/
def PostW (w : World) (n : Nat) (ns : List Int) (m : Nat) (ls : List Int) (e : Ending) (w' : World) : Prop :=
  ∃ A c B d b, e = .returned (.agg #[.slice A n c, .slice B m d]) ∧ (n ≤ c ∧ c ≤ 9223372036854775807 ∧ m ≤ d ∧ d ≤ 9223372036854775807) ∧ w.heap.size ≤ b ∧ Old b (.slice A n c) ∧
    MineS w.heap.size w' 66 2 (.slice A n c) n ns ∧ MineS b w' 70 2 (.slice B m d) m ls ∧ Ext w w'

set_option maxHeartbeats 4000000 in
theorem toWindow_any (A : Option Addr) (n c : Nat) (P : Nat → Nat → Int) (B : Option Addr) (m d : Nat) (L : Nat → Nat → Int) (hn : n ≤ 1048576) (hm : m ≤ 1048576) (w : World) (hr : Recs w 2 A n P) (hs : Recs w 2 B m L) :
    Calls Try.prog 10 #[.agg #[.slice A n c, .slice B m d]] w (PostW w n (flat 2 n P) m (flat 2 m L)) := by
  go_enter Try.func10, Try.ntmps10
  go_wp2_with fail
  refine (toNodeS_any _ _ _ P hn _ (hr.ext (((Ext.refl _).alloc _).alloc _ |>.alloc _))).mono ?_
  rintro e w1 ⟨A1, c1, rfl, i1, j1, m1, x1⟩
  have q1 := x1.cell (a := ⟨w.heap.size, 1, none⟩) (u := .slice B m d) (by simp [go_sem])
  have q2 := x1.cell (a := ⟨w.heap.size + 1, 0, none⟩) (u := .slice none 0 0) (by simp [go_sem])
  have q3 := x1.cell (a := ⟨w.heap.size + 1, 1, none⟩) (u := .slice none 0 0) (by simp [go_sem])
  have q4 := x1.cell (a := ⟨w.heap.size + 1 + 1, 0, none⟩) (u := .slice none 0 0) (by simp [go_sem])
  have q5 := x1.cell (a := ⟨w.heap.size + 1 + 1, 1, none⟩) (u := .slice none 0 0) (by simp [go_sem])
  have f2 := x1.frozen (a := ⟨w.heap.size + 1, 0, none⟩) (u := .slice none 0 0) (by simp [go_sem]) (by simp [go_sem])
  have f3 := x1.frozen (a := ⟨w.heap.size + 1, 1, none⟩) (u := .slice none 0 0) (by simp [go_sem]) (by simp [go_sem])
  have f4 := x1.frozen (a := ⟨w.heap.size + 1 + 1, 0, none⟩) (u := .slice none 0 0) (by simp [go_sem]) (by simp [go_sem])
  have f5 := x1.frozen (a := ⟨w.heap.size + 1 + 1, 1, none⟩) (u := .slice none 0 0) (by simp [go_sem]) (by simp [go_sem])
  have hz := x1.size
  simp only [World.size_alloc] at hz
  have m2 : MineS (w.heap.size + 3) w1 66 2 (.slice A1 n c1) n (flat 2 n P) := m1.more (by simp)
  have X : Ext w w1 := (((Ext.refl _).alloc _).alloc _ |>.alloc _).trans x1
  clear m1 x1
  have m3 := m2.far (p := ⟨w.heap.size + 1 + 1, 0, none⟩) (by simp) (.slice A1 n c1)
  have X3 := X.setCell (p := ⟨w.heap.size + 1 + 1, 0, none⟩) (by simp; omega) (.slice A1 n c1)
  have hs3 := hs.ext X3
  go_wp2_with fail
  refine (toLeadS_any _ _ _ L hm _ hs3).mono ?_
  rintro e w2 ⟨B1, d1, rfl, i2, j2, k1, x2⟩
  have hz3 := X3.size
  have hz2 := x2.size
  have hlt : w.heap.size + 1 + 1 < (w1.setCell ⟨w.heap.size + 1 + 1, 0, none⟩ (.slice A1 n c1)).heap.size := by simp [World.setCell]; omega
  have g2 := x2.cell (a := ⟨w.heap.size + 1, 0, none⟩) (u := .slice none 0 0) (by simp [go_sem, q2])
  have g3 := x2.cell (a := ⟨w.heap.size + 1, 1, none⟩) (u := .slice none 0 0) (by simp [go_sem, q3])
  have g4 := x2.cell (a := ⟨w.heap.size + 1 + 1, 0, none⟩) (u := .slice A1 n c1) (by simp [go_sem, q4])
  have g5 := x2.cell (a := ⟨w.heap.size + 1 + 1, 1, none⟩) (u := .slice none 0 0) (by simp [go_sem, q5])
  have e2 := x2.frozen (a := ⟨w.heap.size + 1, 0, none⟩) (u := .slice none 0 0) (by simp [go_sem, q2]) (by simp [go_sem, f2])
  have e3 := x2.frozen (a := ⟨w.heap.size + 1, 1, none⟩) (u := .slice none 0 0) (by simp [go_sem, q3]) (by simp [go_sem, f3])
  have e4 := x2.frozen (a := ⟨w.heap.size + 1 + 1, 0, none⟩) (u := .slice A1 n c1) (by simp [go_sem, q4]) (by simp [go_sem, f4])
  have e5 := x2.frozen (a := ⟨w.heap.size + 1 + 1, 1, none⟩) (u := .slice none 0 0) (by simp [go_sem, q5]) (by simp [go_sem, f5])
  have m4 := m3.ext x2
  have o4 : Old (w1.setCell ⟨w.heap.size + 1 + 1, 0, none⟩ (.slice A1 n c1)).heap.size (.slice A1 n c1) := m3.old
  have X4 := X3.trans x2
  clear q1 q2 q3 q4 q5 f2 f3 f4 f5 m2 m3 X X3 hs3 x2
  generalize hb0 : (w1.setCell ⟨w.heap.size + 1 + 1, 0, none⟩ (.slice A1 n c1)).heap.size = b0 at *
  clear hb0
  go_wp2
  refine bodyPost_ret (v := .agg #[.slice A1 n c1, .slice B1 m d1]) (by simp [results, Try.results10, go_sem, g2, g3]) rfl ⟨A1, c1, B1, d1, b0, rfl, ⟨i1, j1, i2, j2⟩, hz3, o4, ?_, ?_, ?_⟩
  · refine MineS.more (base := w.heap.size + 3) ?_ (by omega)
    repeat (first | exact m4 | refine MineS.far ?_ (by first | (simp; done) | (simp; omega)) _)
  · repeat (first | exact k1 | refine MineS.far ?_ (by first | (simp; done) | (simp; omega)) _)
  · repeat (first | exact X4 | (refine Ext.setCell ?_ (by first | (simp; done) | (simp; omega)) _))
set_option maxHeartbeats 2000000 in
theorem eqWindow_yes (A B A2 B2 : Option Addr) (n c c2 m d d2 : Nat) (P L P2 L2 : Nat → Nat → Int) (hn : n ≤ 9223372036854775807) (hm : m ≤ 9223372036854775807) (w : World) (hr : Recs w 2 A n P) (hs : Recs w 2 B m L) (hr2 : Recs w 2 A2 n P2) (hs2 : Recs w 2 B2 m L2)
    (he : ∀ i, i < n → ∀ j, j < 2 → P i j = P2 i j) (hf : ∀ i, i < m → ∀ j, j < 2 → L i j = L2 i j) :
    Calls Try.prog 12 #[.agg #[.slice A n c, .slice B m d], .agg #[.slice A2 n c2, .slice B2 m d2]] w fun e w' => e = .returned (.bool true) ∧ Ext w w' := by
  have HE := Lib.hid he
  have HF := Lib.hid hf
  clear he hf
  go_enter Try.func12, Try.ntmps12
  go_wp2_with fail
  refine (eqNodeS_yes _ _ _ _ _ P P2 hn _ (hr.ext (((Ext.refl _).alloc _).alloc _)) (hr2.ext (((Ext.refl _).alloc _).alloc _)) HE.out).mono ?_
  rintro e w1 ⟨rfl, x1⟩
  have q1 := x1.cell (a := ⟨w.heap.size, 1, none⟩) (u := .slice B m d) (by simp [go_sem])
  have q2 := x1.cell (a := ⟨w.heap.size + 1, 1, none⟩) (u := .slice B2 m d2) (by simp [go_sem])
  have X := (((Ext.refl w).alloc _).alloc _).trans x1
  go_wp2_with fail
  refine (eqLeadS_yes _ _ _ _ _ L L2 hm _ (hs.ext X) (hs2.ext X) HF.out).mono ?_
  rintro e w2 ⟨rfl, x2⟩
  go_wp2
  go_ret
  exact ⟨rfl, X.trans x2⟩
set_option maxHeartbeats 2000000 in
theorem szWindow_big (A B : Option Addr) (n c m d : Nat) (hn : n ≤ 9223372036854775807) (hm : m ≤ 9223372036854775807) (hb : 1048576 < n + m) (w : World) :
    Calls Try.prog 8 #[.agg #[.slice A n c, .slice B m d], .int .i64 1048576] w fun e w' => e = .returned (.int .i64 (-1)) ∧ Ext w w' := by
  by_cases h : 1048576 < n
  · go_enter Try.func8, Try.ntmps8
    go_wp2_with fail
    refine (szNodeS_any A n c 1048576 (by omega) (by omega) _).mono ?_
    rintro e w1 ⟨rfl, x1⟩
    rw [if_pos (by omega)]
    go_wp2
    go_ret
    exact ⟨rfl, ((Ext.refl _).alloc _).trans x1⟩
  · go_enter Try.func8, Try.ntmps8
    go_wp2_with fail
    refine (szNodeS_any A n c 1048576 (by omega) (by omega) _).mono ?_
    rintro e w1 ⟨rfl, x1⟩
    rw [if_neg (by omega)]
    have q1 := x1.cell (a := ⟨w.heap.size, 1, none⟩) (u := .slice B m d) (by simp [go_sem])
    have X := ((Ext.refl w).alloc _).trans x1
    have h2 : ¬ (1048576 : Int) - n < 0 := by omega
    go_wp2_with fail
    refine (szLeadS_any B m d (1048576 - n) (by omega) (by omega) _).mono ?_
    rintro e w2 ⟨rfl, x2⟩
    rw [if_pos (by omega)]
    go_wp2
    go_ret
    exact ⟨rfl, X.trans x2⟩
set_option maxHeartbeats 2000000 in
theorem szWindow_ok (A B : Option Addr) (n c m d : Nat) (hb : n + m ≤ 1048576) (w : World) :
    Calls Try.prog 8 #[.agg #[.slice A n c, .slice B m d], .int .i64 1048576] w fun e w' => (∃ z : Int, 0 ≤ z ∧ e = .returned (.int .i64 z)) ∧ Ext w w' := by
  have h2 : ¬ (1048576 : Int) - n < 0 := by omega
  have h3 : ¬ (1048576 : Int) - n - m < 0 := by omega
  have HP : Calls Try.prog 8 #[.agg #[.slice A n c, .slice B m d], .int .i64 1048576] w fun e w' => e = .returned (.int .i64 (1048576 - n - m)) ∧ Ext w w' := by
    go_enter Try.func8, Try.ntmps8
    go_wp2_with fail
    refine (szNodeS_any A n c 1048576 (by omega) (by omega) _).mono ?_
    rintro e w1 ⟨rfl, x1⟩
    rw [if_neg (by omega)]
    have q1 := x1.cell (a := ⟨w.heap.size, 1, none⟩) (u := .slice B m d) (by simp [go_sem])
    have X := ((Ext.refl w).alloc _).trans x1
    go_wp2_with fail
    refine (szLeadS_any B m d (1048576 - n) (by omega) (by omega) _).mono ?_
    rintro e w2 ⟨rfl, x2⟩
    rw [if_neg (by omega)]
    go_wp2
    go_ret
    exact ⟨rfl, X.trans x2⟩
  exact HP.mono fun e w' ⟨he, hw⟩ => ⟨⟨_, by omega, he⟩, hw⟩

end Go.Proofs.Ytdnddmeoncekiaa

/- MarkWin -/
namespace Go.Proofs.Ytdnddmeoncekiaa
open Go.RowKit
set_option linter.unusedVariables false

set_option maxHeartbeats 2000000 in
theorem markNodeS_any (base : Nat) (A : Option Addr) (n c : Nat) (zs : List Int) (k0 : Int) (h0 : 0 ≤ k0) (h1 : k0 + n + n ≤ 9223372036854775807) (w : World) (hm0 : MineS base w 66 2 (.slice A n c) n zs) :
    Calls Try.prog 47 #[.slice A n c, .int .i64 k0] w fun e w' => e = .returned (.int .i64 (k0 + n + n)) ∧ (∃ ys, MineS base w' 66 2 (.slice A n c) n ys) ∧ w.grownBy w' (Value.slice A n c).ownBlock := by
  go_enter Try.func47, Try.ntmps47
  go_wp2
  go_loopw [1, 5] (fun k i wr => ∃ j : Nat, j ≤ n ∧ i = .int .i64 j ∧ k = .int .i64 (k0 + j + j) ∧ (∃ ys, MineS base wr 66 2 (.slice A n c) n ys) ∧ w.grownBy wr (Value.slice A n c).ownBlock) (fun _ i _ => n - (intOf i).toNat)
  case atStart => exact ⟨0, Nat.zero_le _, rfl, by simp, ⟨zs, hm0⟩, World.grownBy.refl w _⟩
  case round =>
    clear hm0
    obtain ⟨j, hj, rfl, rfl, ⟨ys, hm⟩, hg⟩ := hrel
    by_cases hlt : j < n
    · obtain ⟨g, rfl⟩ := hm.some_ (by omega)
      obtain ⟨hc, hf, _, hlt2⟩ := hm.at_ hlt (j := 0) (by omega)
      have hst := hm.stored (i := j * 2 + 0) (z := k0 + j + j) (by unfold I64; omega)
      obtain ⟨hc2, hf2, _, hlt3⟩ := hst.at_ hlt (j := 1) (by omega)
      have hst2 := hst.stored (i := j * 2 + 1) (z := k0 + j + j + 1) (by unfold I64; omega)
      have hg2 := grownBy_setCell (grownBy_setCell hg (j * 2 + 0) (.int .i64 (k0 + j + j))) (j * 2 + 1) (.int .i64 (k0 + j + j + 1))
      rw [Nat.add_zero] at hc hf hc2 hf2 hst2 hg2
      have HS2 := Lib.hid hst2
      have HG2 := Lib.hid hg2
      clear hst hst2 hg2
      go_wp2
      go_roundw
      case rel =>
        exact ⟨j + 1, by omega, by go_num, by rw [show k0 + ((j + 1 : Nat) : Int) + ((j + 1 : Nat) : Int) = k0 + j + j + 1 + 1 by omega], ⟨_, HS2.out⟩, HG2.out⟩
      case measure => simp [intOf]; omega
    · obtain rfl : j = n := by omega
      go_wp2
      go_ret
      exact ⟨rfl, ⟨_, hm⟩, hg⟩

set_option maxHeartbeats 2000000 in
theorem markLeadS_any (base : Nat) (A : Option Addr) (n c : Nat) (zs : List Int) (k0 : Int) (h0 : 0 ≤ k0) (h1 : k0 + n + n ≤ 9223372036854775807) (w : World) (hm0 : MineS base w 70 2 (.slice A n c) n zs) :
    Calls Try.prog 48 #[.slice A n c, .int .i64 k0] w fun e w' => e = .returned (.int .i64 (k0 + n + n)) ∧ (∃ ys, MineS base w' 70 2 (.slice A n c) n ys) ∧ w.grownBy w' (Value.slice A n c).ownBlock := by
  go_enter Try.func48, Try.ntmps48
  go_wp2
  go_loopw [1, 5] (fun k i wr => ∃ j : Nat, j ≤ n ∧ i = .int .i64 j ∧ k = .int .i64 (k0 + j + j) ∧ (∃ ys, MineS base wr 70 2 (.slice A n c) n ys) ∧ w.grownBy wr (Value.slice A n c).ownBlock) (fun _ i _ => n - (intOf i).toNat)
  case atStart => exact ⟨0, Nat.zero_le _, rfl, by simp, ⟨zs, hm0⟩, World.grownBy.refl w _⟩
  case round =>
    clear hm0
    obtain ⟨j, hj, rfl, rfl, ⟨ys, hm⟩, hg⟩ := hrel
    by_cases hlt : j < n
    · obtain ⟨g, rfl⟩ := hm.some_ (by omega)
      obtain ⟨hc, hf, _, hlt2⟩ := hm.at_ hlt (j := 0) (by omega)
      have hst := hm.stored (i := j * 2 + 0) (z := k0 + j + j) (by unfold I64; omega)
      obtain ⟨hc2, hf2, _, hlt3⟩ := hst.at_ hlt (j := 1) (by omega)
      have hst2 := hst.stored (i := j * 2 + 1) (z := k0 + j + j + 1) (by unfold I64; omega)
      have hg2 := grownBy_setCell (grownBy_setCell hg (j * 2 + 0) (.int .i64 (k0 + j + j))) (j * 2 + 1) (.int .i64 (k0 + j + j + 1))
      rw [Nat.add_zero] at hc hf hc2 hf2 hst2 hg2
      have HS2 := Lib.hid hst2
      have HG2 := Lib.hid hg2
      clear hst hst2 hg2
      go_wp2
      go_roundw
      case rel =>
        exact ⟨j + 1, by omega, by go_num, by rw [show k0 + ((j + 1 : Nat) : Int) + ((j + 1 : Nat) : Int) = k0 + j + j + 1 + 1 by omega], ⟨_, HS2.out⟩, HG2.out⟩
      case measure => simp [intOf]; omega
    · obtain rfl : j = n := by omega
      go_wp2
      go_ret
      exact ⟨rfl, ⟨_, hm⟩, hg⟩

theorem MineS.apart {B base : Nat} {w : World} {E : TypeId} {s : Nat} {v v' : Value} {n : Nat} {zs : List Int} (h : MineS base w E s v' n zs) (hB : B ≤ base) (o : Old B v) : v.ownBlock = none ∨ v.ownBlock ≠ v'.ownBlock := by
  by_cases q : v.ownBlock = none
  · exact .inl q
  · right
    intro e
    obtain ⟨k, hk⟩ := Option.ne_none_iff_exists'.1 q
    have h1 := o k hk
    have h2 := h.lt k (by rw [← e]; exact hk)
    omega
/-- Marks over a window: the blocks of others are left as they were. -/
theorem markWindow_any (base b : Nat) (A B : Option Addr) (n c m d : Nat) (ns ls : List Int) (hn : n ≤ 1048576) (hm : m ≤ 1048576) (hbb : base ≤ b) (w : World) (hN : MineS base w 66 2 (.slice A n c) n ns) (hL : MineS b w 70 2 (.slice B m d) m ls) (ho : Old b (.slice A n c)) :
    Calls Try.prog 19 #[.agg #[.slice A n c, .slice B m d], .int .i64 1] w fun e w' => e = .returned (.int .i64 (1 + n + n + m + m)) ∧ (∀ a, Ext a w → a.heap.size ≤ base → Ext a w') ∧
      ∀ (k : Nat), (∀ q, (Value.slice A n c).ownBlock = some q → k ≠ q) → (∀ q, (Value.slice B m d).ownBlock = some q → k ≠ q) → k < w.heap.size → w'.heap[k]? = w.heap[k]? := by
  go_enter Try.func19, Try.ntmps19
  go_wp2_with fail
  refine (markNodeS_any base A n c ns 1 (by omega) (by omega) _ (hN.alloc _)).mono ?_
  rintro e w2 ⟨rfl, ⟨ys, hN2⟩, g2⟩
  have hsz := g2.size
  rw [World.size_alloc] at hsz
  have hne : some w.heap.size ≠ (Value.slice A n c).ownBlock := by
    intro q
    have := hN.lt _ q.symm
    omega
  have q1 : w2.cell? ⟨w.heap.size, 1, none⟩ = some (.slice B m d) := by
    have e1 : (w.alloc (.cells #[.slice A n c, .slice B m d] 31)).cell? ⟨w.heap.size, 1, none⟩ = some (.slice B m d) := by simp [go_sem]
    rw [← e1]
    have hb := g2.block w.heap.size (by rw [World.size_alloc]; omega) hne
    unfold World.cell?
    rw [hb]
  have hL2 : MineS b w2 70 2 (.slice B m d) m ls := (hL.alloc _).kept g2 (by
    rcases MineS.apart hL (Nat.le_refl _) ho with q | q
    · by_cases e : (Value.slice B m d).ownBlock = none
      · exact .inl e
      · right; rw [q]; exact e
    · exact .inr (Ne.symm q))
  clear hL
  go_wp2_with fail
  refine (markLeadS_any b B m d ls (1 + n + n) (by omega) (by omega) _ hL2).mono ?_
  rintro e w3 ⟨rfl, ⟨ys2, hL3⟩, g3⟩
  go_wp2
  go_ret
  refine ⟨rfl, fun a X ha => ?_, fun k k1 k2 hk => ?_⟩
  · have X2 : Ext a w2 := (X.alloc _).grown g2 fun k hk => by have := hN2.lt k hk; omega
    exact X2.grown g3 fun k hk => by have := hL3.lt k hk; omega
  · rw [g3.block k (by omega) (fun q => k2 k q.symm rfl), g2.block k (by rw [World.size_alloc]; omega) (fun q => k1 k q.symm rfl)]
    exact heap_alloc_old w _ hk
/-- A row that is older than the window, or younger than its rows, is kept by the marks. -/
theorem Mine.marked {base : Nat} {w w' : World} {E : TypeId} {v : Value} {n : Nat} {zs : List Int} {vn vl : Value} (h : Mine base w E v n zs) (hk : ∀ (k : Nat), (∀ q, vn.ownBlock = some q → k ≠ q) → (∀ q, vl.ownBlock = some q → k ≠ q) → k < w.heap.size → w'.heap[k]? = w.heap[k]?)
    (h1 : v.ownBlock = none ∨ v.ownBlock ≠ vn.ownBlock) (h2 : v.ownBlock = none ∨ v.ownBlock ≠ vl.ownBlock) : Mine base w' E v n zs := by
  refine ⟨h.1, ⟨h.2.1.1, ?_⟩, h.2.2⟩
  rcases h.2.1.2 with q | ⟨g, cap, cur, e, hb, hh, rest⟩
  · exact .inl q
  · refine .inr ⟨g, cap, cur, e, hb, ?_, rest⟩
    have hg := h.lt g (by rw [e]; rfl)
    have e1 : v.ownBlock = some g := by rw [e]; rfl
    rw [hk g (fun q hq => ?_) (fun q hq => ?_) hg.2]
    · exact hh
    · rintro rfl
      rcases h1 with r | r
      · rw [e1] at r; cases r
      · rw [e1, hq] at r; exact r rfl
    · rintro rfl
      rcases h2 with r | r
      · rw [e1] at r; cases r
      · rw [e1, hq] at r; exact r rfl

theorem cell_of_heap {w w' : World} {k o : Nat} (h : w'.heap[k]? = w.heap[k]?) : w'.cell? ⟨k, o, none⟩ = w.cell? ⟨k, o, none⟩ := by
  unfold World.cell?
  rw [h]
theorem MineS.lt' {base n s : Nat} {w : World} {E : TypeId} {v : Value} {zs : List Int} (h : MineS base w E s v n zs) {k : Nat} (hk : k < base) : ∀ q, v.ownBlock = some q → k ≠ q := fun q hq => by
  have := h.lt q hq
  omega

end Go.Proofs.Ytdnddmeoncekiaa

/- ToSun -/
namespace Go.Proofs.Ytdnddmeoncekiaa
open Go.RowKit
set_option linter.unusedVariables false
end Go.Proofs.Ytdnddmeoncekiaa
