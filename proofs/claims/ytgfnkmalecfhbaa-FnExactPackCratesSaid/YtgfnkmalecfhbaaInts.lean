/-
  The laws' own words on slices of integers: a copy, a test for equality, marks. No conditions.
-/
import Derived.Test.YtgfnkmalecfhbaaRows
import Derived.Test.YtgfnkmalecfhbaaKitC
namespace Go.Proofs.Ytgfnkmalecfhbaa
open Go.RowKit
set_option linter.unusedVariables false

theorem int_info : (Try.prog.info? 3).map (fun i => (i.zero, i.size, i.bytes)) = some (some (.int .i64 0), 1, 8) := by kernel_rfl
theorem madeInts (n : Nat) : (madeCells (Value.int .i64 0).cells (n * 1)).toList = (tab n fun _ => 0).map (Value.int .i64) := by
  rw [Nat.mul_one]
  have := toList_madeCells_one (.int .i64 0) n
  rw [show (Value.int .i64 0).cells = #[.int .i64 0] from rfl, this]
  apply List.ext_getElem (by simp [tab])
  intro k h1 h2
  simp [tab]
/-- append of one integer, over this program. -/
theorem append_int (w : World) {ops : Array Oper} {rest : List Oper} {o : Oper} {a : Act} {Q : Exit → Act → World → Prop} (hgd : o.guard = none) (s x : Operand)
    (ho : o.op = .call { callee := .builtin .append, args := #[s, x], argTypes := #[37, 37] })
    (base : Nat) (v : Value) (n : Nat) (zs : List Int) (hs : a.eval s = v) (hm : Mine base w 3 v n zs) (z : Int) (b : Nat) (hx : a.eval x = .slice (some ⟨b, 0, none⟩) 1 1) (hc : w.cell? ⟨b, 0, none⟩ = some (.int .i64 z)) (hz64 : I64 z)
    (hn : n ≤ 1000000000000) (hbase : base ≤ w.heap.size)
    (h : ∀ v' w', Mine base w' 3 v' (n + 1) (zs ++ [z]) → w.grownBy w' v.ownBlock → wpList Try.prog ops Q rest (a.put o.dst v') w') : wpList Try.prog ops Q (o :: rest) a w := by
  obtain ⟨i0, hi, hz0, hz1, hz2⟩ := info_parts int_info
  exact wpList_append_one w hgd s x 37 ho base 3 i0 Try.underlying37 hi hz0 hz1 hz2 v n zs hs hm z b hx hc hz64 hn hbase h
def upto (k : Nat) (f : Nat → Nat → Int) (j : Nat) : Int := if j < k then f j 0 else 0
theorem upto_set {n k : Nat} {f : Nat → Nat → Int} (hk : k < n) : (tab n (upto k f)).set k (f k 0) = tab n (upto (k + 1) f) := by
  have := tab_set (f := upto k f) (g := upto (k + 1) f) hk (fun j hj => by
    by_cases e : j = k
    · subst e; simp
    · rw [if_neg e]; unfold upto; by_cases q : j < k
      · rw [if_pos q, if_pos (by omega)]
      · rw [if_neg q, if_neg (by omega)])
  rwa [show upto (k + 1) f k = f k 0 by unfold upto; rw [if_pos (by omega)]] at this
theorem upto_full {n : Nat} {f : Nat → Nat → Int} : tab n (upto n f) = tab n (fun k => f k 0) := by
  apply List.map_congr_left
  intro j hj
  unfold upto
  rw [if_pos (by simpa using hj)]

set_option maxHeartbeats 1000000 in
theorem toIntS_any (A : Option Addr) (n c : Nat) (f : Nat → Nat → Int) (hn : n ≤ 1048576) (w : World) (hr : Recs w 1 A n f) :
    Calls Try.prog 22 #[.slice A n c] w (PostI w 3 n (tab n fun k => f k 0)) := by
  obtain ⟨i0, hi, hz0, hz1, hz2⟩ := info_parts int_info
  go_enter Try.func22, Try.ntmps22
  go_wp2_with (refine wpList_make_full _ rfl (.tmp 6) (.tmp 6) 37 rfl w.heap.size 3 i0 (.int .i64 0) 1 Try.underlying37 hi hz0 hz1 .i64 .i64 n n n rfl rfl rfl rfl (by rw [hz2]; omega) (by simp only [maxLen]; omega) (Nat.le_refl _) ?_; intro w1 hown hg1; rw [madeInts] at hown)
  have he1 : Ext w w1 := (Ext.refl w).grown hg1 (by simp)
  have hm1 : Mine w.heap.size w1 3 (.slice (some ⟨w.heap.size, 0, none⟩) n n) n (tab n (upto 0 f)) := ⟨tab_len _ _, hown, by intro z hz; simp [tab] at hz; obtain ⟨_, _, rfl⟩ := hz; exact I64.zero⟩
  clear hown hg1
  go_loopw [4] (fun i wr => ∃ k : Nat, k ≤ n ∧ i = .int .i64 k ∧ Ext w wr ∧ Mine w.heap.size wr 3 (.slice (some ⟨w.heap.size, 0, none⟩) n n) n (tab n (upto k f))) (fun i _ => n - (intOf i).toNat)
  case atStart => exact ⟨0, Nat.zero_le _, rfl, he1, hm1⟩
  case round =>
    clear hm1 he1
    obtain ⟨k, hk, rfl, ⟨gx, rfl⟩, hm⟩ := hrel
    by_cases hlt : k < n
    · obtain ⟨b, o, rfl, hb, hc⟩ := hr.at1 hlt
      obtain ⟨hc2, hf2, _, hlt2⟩ := hm.at_ hlt
      go_wp2
      go_roundw
      case rel =>
        have hst := hm.stored hlt (hr.2 k 0)
        rw [upto_set hlt] at hst
        exact ⟨k + 1, by omega, by go_num, (Ext.gr w gx).setCell (Nat.le_refl _) _, hst⟩
      case measure => simp [intOf]; omega
    · obtain rfl : k = n := by omega
      go_wp2
      go_ret
      rw [upto_full] at hm
      exact ⟨_, _, rfl, Nat.le_refl _, by omega, hm, ⟨gx, rfl⟩⟩

set_option maxHeartbeats 1000000 in
theorem eqIntS_yes (A B : Option Addr) (n c k : Nat) (f g : Nat → Nat → Int) (hn : n ≤ 9223372036854775807) (w : World) (hr : Recs w 1 A n f) (hs : Recs w 1 B n g) (he : ∀ j, j < n → f j 0 = g j 0) :
    Calls Try.prog 25 #[.slice A n c, .slice B n k] w fun e w' => e = .returned (.bool true) ∧ Ext w w' := by
  have HE := Lib.hid he
  clear he
  go_enter Try.func25, Try.ntmps25
  go_wp2
  go_loopw [5] (fun i wr => ∃ j : Nat, j ≤ n ∧ i = .int .i64 j ∧ Ext w wr) (fun i _ => n - (intOf i).toNat)
  case atStart => exact ⟨0, Nat.zero_le _, rfl, Ext.refl w⟩
  case round =>
    obtain ⟨j, hj, rfl, ⟨gx, rfl⟩⟩ := hrel
    by_cases hlt : j < n
    · obtain ⟨b, o, rfl, hb, hc⟩ := hr.at1 hlt
      obtain ⟨b2, o2, rfl, hb2, hc2⟩ := hs.at1 hlt
      have hq := HE.out j hlt
      rw [hq] at hc
      clear hq
      go_wp2
      go_quiet (fail)
      go_wp2
      go_roundw
      case rel => exact ⟨j + 1, by omega, by go_num, Ext.gr w _⟩
      case measure => simp [intOf]; omega
    · obtain rfl : j = n := by omega
      go_wp2
      go_ret
      exact ⟨rfl, ⟨gx, rfl⟩⟩

set_option maxHeartbeats 1000000 in
theorem heldIntS_yes (A : Option Addr) (n c : Nat) (f : Nat → Nat → Int) (k0 : Int) (h0 : 0 ≤ k0) (h1 : k0 + n ≤ 9223372036854775807) (w : World) (hr : Recs w 1 A n f) (he : ∀ j : Nat, j < n → f j 0 = k0 + j) :
    Calls Try.prog 30 #[.slice A n c, .int .i64 k0] w fun e w' => e = .returned (.int .i64 (k0 + n)) ∧ Ext w w' := by
  have HE := Lib.hid he
  clear he
  go_enter Try.func30, Try.ntmps30
  go_wp2
  go_loop [1, 5] (fun k i => ∃ j : Nat, j ≤ n ∧ i = .int .i64 j ∧ k = .int .i64 (k0 + j)) (fun _ i => n - (intOf i).toNat)
  case atStart => exact ⟨0, Nat.zero_le _, rfl, by simp⟩
  case round =>
    obtain ⟨j, hj, rfl, rfl⟩ := hrel
    by_cases hlt : j < n
    · obtain ⟨b, o, rfl, hb, hc⟩ := hr.at1 hlt
      rw [HE.out j hlt] at hc
      go_wp2
      go_round
      case rel => exact ⟨j + 1, by omega, by go_num, by rw [show k0 + ((j + 1 : Nat) : Int) = k0 + j + 1 by omega]⟩
      case measure => simp [intOf]; omega
    · obtain rfl : j = n := by omega
      go_wp2
      go_ret
      exact ⟨rfl, Ext.refl w⟩

def marks (k0 : Int) (zs : List Int) (j i : Nat) : Int := if i < j then k0 + i else ix zs i
theorem marks_zero {k0 : Int} {zs : List Int} {n : Nat} (h : zs.length = n) : tab n (marks k0 zs 0) = zs := by
  apply ext_ix (by rw [tab_len, h])
  intro k hk
  rw [tab_len] at hk
  rw [tab_ix hk]; unfold marks; rw [if_neg (by omega)]
theorem marks_set {n k : Nat} {k0 : Int} {zs : List Int} (hk : k < n) : (tab n (marks k0 zs k)).set k (k0 + k) = tab n (marks k0 zs (k + 1)) := by
  have := tab_set (f := marks k0 zs k) (g := marks k0 zs (k + 1)) hk (fun j hj => by
    by_cases e : j = k
    · subst e; simp
    · rw [if_neg e]; unfold marks; by_cases q : j < k
      · rw [if_pos q, if_pos (by omega)]
      · rw [if_neg q, if_neg (by omega)])
  rwa [show marks k0 zs (k + 1) k = k0 + k by unfold marks; rw [if_pos (by omega)]] at this
theorem marks_full {n : Nat} {k0 : Int} {zs : List Int} : tab n (marks k0 zs n) = tab n (fun k => k0 + k) := by
  apply List.map_congr_left
  intro j hj
  unfold marks
  rw [if_pos (by simpa using hj)]

theorem grownBy_setCell {w wr : World} {g : Nat} (h : w.grownBy wr (some g)) (i : Nat) (u : Value) : w.grownBy (wr.setCell ⟨g, i, none⟩ u) (some g) :=
  ⟨h.os, h.tape, h.output, by simpa [World.setCell] using h.size, fun k hk hne => (Below.heap_setCell _ _ u k (by rintro rfl; exact hne rfl)).trans (h.block k hk hne)⟩

/-- A row of the call's own has been written with k0, k0 + 1, .. -/
def PostM (base : Nat) (w : World) (v : Value) (n : Nat) (k0 : Int) (e : Ending) (w' : World) : Prop :=
  e = .returned (.int .i64 (k0 + n)) ∧ Mine base w' 3 v n (tab n fun k => k0 + k) ∧ w.grownBy w' v.ownBlock

set_option maxHeartbeats 1000000 in
theorem markIntS_any (base : Nat) (A : Option Addr) (n c : Nat) (zs : List Int) (k0 : Int) (h0 : 0 ≤ k0) (h1 : k0 + n ≤ 9223372036854775807) (w : World) (hm0 : Mine base w 3 (.slice A n c) n zs) :
    Calls Try.prog 29 #[.slice A n c, .int .i64 k0] w (PostM base w (.slice A n c) n k0) := by
  go_enter Try.func29, Try.ntmps29
  go_wp2
  go_loopw [1, 5] (fun k i wr => ∃ j : Nat, j ≤ n ∧ i = .int .i64 j ∧ k = .int .i64 (k0 + j) ∧ Mine base wr 3 (.slice A n c) n (tab n (marks k0 zs j)) ∧ w.grownBy wr (Value.slice A n c).ownBlock) (fun _ i _ => n - (intOf i).toNat)
  case atStart => exact ⟨0, Nat.zero_le _, rfl, by simp, by rw [marks_zero hm0.1]; exact hm0, World.grownBy.refl w _⟩
  case round =>
    clear hm0
    obtain ⟨j, hj, rfl, rfl, hm, hg⟩ := hrel
    by_cases hlt : j < n
    · obtain ⟨g, rfl⟩ := hm.some_ (by omega)
      obtain ⟨hc, hf, _, hlt2⟩ := hm.at_ hlt
      go_wp2
      go_roundw
      case rel =>
        have hst := hm.stored (z := k0 + j) hlt (by unfold I64; omega)
        rw [marks_set hlt] at hst
        exact ⟨j + 1, by omega, by go_num, by rw [show k0 + ((j + 1 : Nat) : Int) = k0 + j + 1 by omega], hst, grownBy_setCell hg _ _⟩
      case measure => simp [intOf]; omega
    · obtain rfl : j = n := by omega
      go_wp2
      go_ret
      rw [marks_full] at hm
      exact ⟨rfl, hm, hg⟩

end Go.Proofs.Ytgfnkmalecfhbaa
