/-
  The laws' marks written over a window of the call's own. No conditions.
-/
import Derived.Test.YtmapnlmljhhciaaToWin
namespace Go.Proofs.Ytmapnlmljhhciaa
open Go.RowKit
set_option linter.unusedVariables false

set_option maxHeartbeats 2000000 in
theorem markNodeS_any (base : Nat) (A : Option Addr) (n c : Nat) (zs : List Int) (k0 : Int) (h0 : 0 ≤ k0) (h1 : k0 + n + n ≤ 9223372036854775807) (w : World) (hm0 : MineS base w 59 2 (.slice A n c) n zs) :
    Calls Try.prog 50 #[.slice A n c, .int .i64 k0] w fun e w' => e = .returned (.int .i64 (k0 + n + n)) ∧ (∃ ys, MineS base w' 59 2 (.slice A n c) n ys) ∧ w.grownBy w' (Value.slice A n c).ownBlock := by
  go_enter Try.func50, Try.ntmps50
  go_wp2
  go_loopw [1, 5] (fun k i wr => ∃ j : Nat, j ≤ n ∧ i = .int .i64 j ∧ k = .int .i64 (k0 + j + j) ∧ (∃ ys, MineS base wr 59 2 (.slice A n c) n ys) ∧ w.grownBy wr (Value.slice A n c).ownBlock) (fun _ i _ => n - (intOf i).toNat)
  case atStart => exact ⟨0, Nat.zero_le _, rfl, by simp, ⟨zs, hm0⟩, World.grownBy.refl w _⟩
  case round =>
    clear hm0
    obtain ⟨j, hj, rfl, rfl, ⟨ys, hm⟩, hg⟩ := hrel
    by_cases hlt : j < n
    · obtain ⟨g, rfl⟩ := hm.some_ (by omega)
      obtain ⟨hc, hf, _, hlt2⟩ := hm.at_ hlt (j := 0) (by omega)
      have hst := hm.stored (i := j * 2 + 0) (z := k0 + j + j) (by unfold I64; omega)
      obtain ⟨hc2, hf2, _, hlt3⟩ := hst.at_ hlt (j := 1) (by omega)
      have hst2 := hst.stored (i := j * 2 + 1) (z := k0 + j + j + 1) (by unfold I64; omega)
      have hg2 := grownBy_setCell (grownBy_setCell hg (j * 2 + 0) (.int .i64 (k0 + j + j))) (j * 2 + 1) (.int .i64 (k0 + j + j + 1))
      rw [Nat.add_zero] at hc hf hc2 hf2 hst2 hg2
      have HS2 := Lib.hid hst2
      have HG2 := Lib.hid hg2
      clear hst hst2 hg2
      go_wp2
      go_roundw
      case rel =>
        exact ⟨j + 1, by omega, by go_num, by rw [show k0 + ((j + 1 : Nat) : Int) + ((j + 1 : Nat) : Int) = k0 + j + j + 1 + 1 by omega], ⟨_, HS2.out⟩, HG2.out⟩
      case measure => simp [intOf]; omega
    · obtain rfl : j = n := by omega
      go_wp2
      go_ret
      exact ⟨rfl, ⟨_, hm⟩, hg⟩

set_option maxHeartbeats 2000000 in
theorem markLeadS_any (base : Nat) (A : Option Addr) (n c : Nat) (zs : List Int) (k0 : Int) (h0 : 0 ≤ k0) (h1 : k0 + n + n ≤ 9223372036854775807) (w : World) (hm0 : MineS base w 67 2 (.slice A n c) n zs) :
    Calls Try.prog 51 #[.slice A n c, .int .i64 k0] w fun e w' => e = .returned (.int .i64 (k0 + n + n)) ∧ (∃ ys, MineS base w' 67 2 (.slice A n c) n ys) ∧ w.grownBy w' (Value.slice A n c).ownBlock := by
  go_enter Try.func51, Try.ntmps51
  go_wp2
  go_loopw [1, 5] (fun k i wr => ∃ j : Nat, j ≤ n ∧ i = .int .i64 j ∧ k = .int .i64 (k0 + j + j) ∧ (∃ ys, MineS base wr 67 2 (.slice A n c) n ys) ∧ w.grownBy wr (Value.slice A n c).ownBlock) (fun _ i _ => n - (intOf i).toNat)
  case atStart => exact ⟨0, Nat.zero_le _, rfl, by simp, ⟨zs, hm0⟩, World.grownBy.refl w _⟩
  case round =>
    clear hm0
    obtain ⟨j, hj, rfl, rfl, ⟨ys, hm⟩, hg⟩ := hrel
    by_cases hlt : j < n
    · obtain ⟨g, rfl⟩ := hm.some_ (by omega)
      obtain ⟨hc, hf, _, hlt2⟩ := hm.at_ hlt (j := 0) (by omega)
      have hst := hm.stored (i := j * 2 + 0) (z := k0 + j + j) (by unfold I64; omega)
      obtain ⟨hc2, hf2, _, hlt3⟩ := hst.at_ hlt (j := 1) (by omega)
      have hst2 := hst.stored (i := j * 2 + 1) (z := k0 + j + j + 1) (by unfold I64; omega)
      have hg2 := grownBy_setCell (grownBy_setCell hg (j * 2 + 0) (.int .i64 (k0 + j + j))) (j * 2 + 1) (.int .i64 (k0 + j + j + 1))
      rw [Nat.add_zero] at hc hf hc2 hf2 hst2 hg2
      have HS2 := Lib.hid hst2
      have HG2 := Lib.hid hg2
      clear hst hst2 hg2
      go_wp2
      go_roundw
      case rel =>
        exact ⟨j + 1, by omega, by go_num, by rw [show k0 + ((j + 1 : Nat) : Int) + ((j + 1 : Nat) : Int) = k0 + j + j + 1 + 1 by omega], ⟨_, HS2.out⟩, HG2.out⟩
      case measure => simp [intOf]; omega
    · obtain rfl : j = n := by omega
      go_wp2
      go_ret
      exact ⟨rfl, ⟨_, hm⟩, hg⟩

theorem MineS.apart {B base : Nat} {w : World} {E : TypeId} {s : Nat} {v v' : Value} {n : Nat} {zs : List Int} (h : MineS base w E s v' n zs) (hB : B ≤ base) (o : Old B v) : v.ownBlock = none ∨ v.ownBlock ≠ v'.ownBlock := by
  by_cases q : v.ownBlock = none
  · exact .inl q
  · right
    intro e
    obtain ⟨k, hk⟩ := Option.ne_none_iff_exists'.1 q
    have h1 := o k hk
    have h2 := h.lt k (by rw [← e]; exact hk)
    omega
/-- Marks over a window: the blocks of others are left as they were. -/
theorem markWindow_any (base b : Nat) (A B : Option Addr) (n c m d : Nat) (ns ls : List Int) (hn : n ≤ 1048576) (hm : m ≤ 1048576) (hbb : base ≤ b) (w : World) (hN : MineS base w 59 2 (.slice A n c) n ns) (hL : MineS b w 67 2 (.slice B m d) m ls) (ho : Old b (.slice A n c)) :
    Calls Try.prog 25 #[.agg #[.slice A n c, .slice B m d], .int .i64 1] w fun e w' => e = .returned (.int .i64 (1 + n + n + m + m)) ∧ (∀ a, Ext a w → a.heap.size ≤ base → Ext a w') ∧
      ∀ (k : Nat), (∀ q, (Value.slice A n c).ownBlock = some q → k ≠ q) → (∀ q, (Value.slice B m d).ownBlock = some q → k ≠ q) → k < w.heap.size → w'.heap[k]? = w.heap[k]? := by
  go_enter Try.func25, Try.ntmps25
  go_wp2_with fail
  refine (markNodeS_any base A n c ns 1 (by omega) (by omega) _ (hN.alloc _)).mono ?_
  rintro e w2 ⟨rfl, ⟨ys, hN2⟩, g2⟩
  have hsz := g2.size
  rw [World.size_alloc] at hsz
  have hne : some w.heap.size ≠ (Value.slice A n c).ownBlock := by
    intro q
    have := hN.lt _ q.symm
    omega
  have q1 : w2.cell? ⟨w.heap.size, 1, none⟩ = some (.slice B m d) := by
    have e1 : (w.alloc (.cells #[.slice A n c, .slice B m d] 33)).cell? ⟨w.heap.size, 1, none⟩ = some (.slice B m d) := by simp [go_sem]
    rw [← e1]
    have hb := g2.block w.heap.size (by rw [World.size_alloc]; omega) hne
    unfold World.cell?
    rw [hb]
  have hL2 : MineS b w2 67 2 (.slice B m d) m ls := (hL.alloc _).kept g2 (by
    rcases MineS.apart hL (Nat.le_refl _) ho with q | q
    · by_cases e : (Value.slice B m d).ownBlock = none
      · exact .inl e
      · right; rw [q]; exact e
    · exact .inr (Ne.symm q))
  clear hL
  go_wp2_with fail
  refine (markLeadS_any b B m d ls (1 + n + n) (by omega) (by omega) _ hL2).mono ?_
  rintro e w3 ⟨rfl, ⟨ys2, hL3⟩, g3⟩
  go_wp2
  go_ret
  refine ⟨rfl, fun a X ha => ?_, fun k k1 k2 hk => ?_⟩
  · have X2 : Ext a w2 := (X.alloc _).grown g2 fun k hk => by have := hN2.lt k hk; omega
    exact X2.grown g3 fun k hk => by have := hL3.lt k hk; omega
  · rw [g3.block k (by omega) (fun q => k2 k q.symm rfl), g2.block k (by rw [World.size_alloc]; omega) (fun q => k1 k q.symm rfl)]
    exact heap_alloc_old w _ hk
/-- A row that is older than the window, or younger than its rows, is kept by the marks. -/
theorem Mine.marked {base : Nat} {w w' : World} {E : TypeId} {v : Value} {n : Nat} {zs : List Int} {vn vl : Value} (h : Mine base w E v n zs) (hk : ∀ (k : Nat), (∀ q, vn.ownBlock = some q → k ≠ q) → (∀ q, vl.ownBlock = some q → k ≠ q) → k < w.heap.size → w'.heap[k]? = w.heap[k]?)
    (h1 : v.ownBlock = none ∨ v.ownBlock ≠ vn.ownBlock) (h2 : v.ownBlock = none ∨ v.ownBlock ≠ vl.ownBlock) : Mine base w' E v n zs := by
  refine ⟨h.1, ⟨h.2.1.1, ?_⟩, h.2.2⟩
  rcases h.2.1.2 with q | ⟨g, cap, cur, e, hb, hh, rest⟩
  · exact .inl q
  · refine .inr ⟨g, cap, cur, e, hb, ?_, rest⟩
    have hg := h.lt g (by rw [e]; rfl)
    have e1 : v.ownBlock = some g := by rw [e]; rfl
    rw [hk g (fun q hq => ?_) (fun q hq => ?_) hg.2]
    · exact hh
    · rintro rfl
      rcases h1 with r | r
      · rw [e1] at r; cases r
      · rw [e1, hq] at r; exact r rfl
    · rintro rfl
      rcases h2 with r | r
      · rw [e1] at r; cases r
      · rw [e1, hq] at r; exact r rfl

theorem cell_of_heap {w w' : World} {k o : Nat} (h : w'.heap[k]? = w.heap[k]?) : w'.cell? ⟨k, o, none⟩ = w.cell? ⟨k, o, none⟩ := by
  unfold World.cell?
  rw [h]
theorem MineS.lt' {base n s : Nat} {w : World} {E : TypeId} {v : Value} {zs : List Int} (h : MineS base w E s v n zs) {k : Nat} (hk : k < base) : ∀ q, v.ownBlock = some q → k ≠ q := fun q hq => by
  have := h.lt q hq
  omega

end Go.Proofs.Ytmapnlmljhhciaa
