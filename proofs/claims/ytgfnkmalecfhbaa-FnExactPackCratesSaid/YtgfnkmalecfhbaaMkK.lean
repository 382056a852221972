/-
  The laws' marks over a row of crates. No conditions.
-/
import Derived.Test.YtgfnkmalecfhbaaCrS
import Derived.Test.YtgfnkmalecfhbaaInts
namespace Go.Proofs.Ytgfnkmalecfhbaa
open Go.RowKit
set_option linter.unusedVariables false

/-- How many numbers the first k crates hold. -/
def cntK (l : Nat → List Int) : Nat → Nat
  | 0 => 0
  | k + 1 => cntK l k + (l k).length + 1
/-- The panes of crate j, marked from k0 on. -/
def mkL (l : Nat → List Int) (k0 : Int) (j : Nat) : List Int := tab (l j).length fun i => k0 + cntK l j + i
def mkZ (l : Nat → List Int) (k0 : Int) (j : Nat) : Int := k0 + cntK l j + (l j).length
theorem mkL_len (l : Nat → List Int) (k0 : Int) (j : Nat) : (mkL l k0 j).length = (l j).length := tab_len _ _
theorem cntK_le {l : Nat → List Int} {b : Nat} : ∀ n, (∀ k, k < n → (l k).length ≤ b) → cntK l n ≤ n * (b + 1)
  | 0, _ => by simp [cntK]
  | n + 1, h => by
    have := cntK_le n fun k hk => h k (by omega)
    have := h n (by omega)
    unfold cntK
    rw [Nat.succ_mul]; omega
def mixL {α : Type} (g h : Nat → α) (p : Nat) : Nat → α := fun j => if j < p then g j else h j
theorem mixL_at {α : Type} (g h : Nat → α) (p : Nat) : mixL g h p p = h p := if_neg (by omega)
theorem mixL_next {α : Type} (g h : Nat → α) (p : Nat) : upd (mixL g h p) p (g p) = mixL g h (p + 1) := by
  funext i
  unfold upd mixL
  by_cases e : i = p
  · rw [if_pos e, if_pos (by omega), e]
  · rw [if_neg e]
    by_cases q : i < p
    · rw [if_pos q, if_pos (by omega)]
    · rw [if_neg q, if_neg (by omega)]
set_option maxRecDepth 100000 in
set_option maxHeartbeats 8000000 in
theorem markCrateS_any (base : Nat) (A : Option Addr) (n c : Nat) (l : Nat → List Int) (z : Nat → Int) (k0 : Int) (h0 : 0 ≤ k0) (hk0 : k0 ≤ 1000) (hn : n ≤ 1000) (hl : ∀ k, k < n → (l k).length ≤ 1000) (w : World) (hm0 : MineK base w 64 3 (.slice A n c) n l z) (b0 : World) (X0 : Ext b0 w) (hb0 : b0.heap.size ≤ base) :
    Calls Try.prog 37 #[.slice A n c, .int .i64 k0] w fun e w' => e = .returned (.int .i64 (k0 + cntK l n)) ∧ MineK base w' 64 3 (.slice A n c) n (mixL (mkL l k0) l n) (mixL (mkZ l k0) z n) ∧ Ext b0 w' := by
  have HL := Lib.hid hl
  have HC := Lib.hid (fun k (hk : k ≤ n) => Nat.le_trans (cntK_le k fun j hj => hl j (by omega)) (Nat.mul_le_mul_right 1001 (Nat.le_trans hk hn)))
  have hm1 : MineK base w 64 3 (.slice A n c) n (mixL (mkL l k0) l 0) (mixL (mkZ l k0) z 0) := by
    rw [show mixL (mkL l k0) l 0 = l from funext fun j => if_neg (by omega), show mixL (mkZ l k0) z 0 = z from funext fun j => if_neg (by omega)]
    exact hm0
  clear hm0 hl
  go_enter Try.func37, Try.ntmps37
  go_wp2
  go_loopw [1, 5] (fun k i wr => ∃ j : Nat, j ≤ n ∧ i = .int .i64 j ∧ k = .int .i64 (k0 + cntK l j) ∧ MineK base wr 64 3 (.slice A n c) n (mixL (mkL l k0) l j) (mixL (mkZ l k0) z j) ∧ Ext b0 wr) (fun _ i _ => n - (intOf i).toNat)
  case atStart => exact ⟨0, Nat.zero_le _, rfl, by simp [cntK], hm1, X0⟩
  case round =>
    clear hm1 X0
    obtain ⟨j, hj, rfl, rfl, hm, X⟩ := hrel
    by_cases hlt : j < n
    · obtain ⟨g, rfl⟩ := hm.some_ (by omega)
      obtain ⟨pv, c0, c1, f0, f1, pm, pg1, pg2, pS, hput⟩ := hm.row hlt
      rw [mixL_at] at pm c1
      obtain ⟨Ap, cp, rfl, ip, jp⟩ := pm.form
      have hlj := HL.out j hlt
      have hcj := HC.out j hj
      have HPB := Lib.hid (fun k (h : (Value.slice Ap (l j).length cp).ownBlock = some k) => (pm.lt k h).1)
      have HCS := Lib.hid (show cntK l (j + 1) = cntK l j + (l j).length + 1 from rfl)
      have hmz : I64 (mkZ l k0 j) := by unfold mkZ I64; omega
      have HZ := Lib.hid (show mkZ l k0 j = k0 + cntK l j + (l j).length from rfl)
      have HMK := Lib.hid (markIntS_any base Ap (l j).length cp (l j) (k0 + cntK l j) (by omega) (by omega) wr pm)
      clear pm
      go_wp2_with fail
      refine (HMK.out).mono ?_
      rintro e w2 ⟨rfl, m2, g2⟩
      obtain ⟨pv2, d0, d1, e0, e1, _⟩ : ∃ pv2, w2.cell? ⟨g, j * 2, none⟩ = some pv2 ∧ w2.cell? ⟨g, j * 2 + 1, none⟩ = some (.int .i64 (z j)) ∧ w2.frozen? ⟨g, j * 2, none⟩ = false ∧ w2.frozen? ⟨g, j * 2 + 1, none⟩ = false ∧ True := by
        have hh := (hput w2 _ _ (mkL l k0 j) (mixL (mkZ l k0) z j j) g2 (.inl rfl) (by rw [mkL_len]; exact m2) (.inl rfl) (hm.crs.2 j)).1 rfl rfl
        obtain ⟨q1, q2, q3, q4, q5, _⟩ := hh.row hlt
        rw [mixL_at] at q3
        exact ⟨q1, q2, q3, q4, q5, trivial⟩
      have h8 := (hput w2 _ _ (mkL l k0 j) (mkZ l k0 j) g2 (.inl rfl) (by rw [mkL_len]; exact m2) (.inl rfl) hmz).2.2.2 rfl
      rw [mixL_next, mixL_next, HZ.out] at h8
      have X8 := (X.grown g2 (fun k hk => by have := HPB.out k hk; omega)).setCell (p := ⟨g, j * 2 + 1, none⟩) (by show b0.heap.size ≤ g; omega) (.int .i64 (k0 + cntK l j + (l j).length))
      have H8 := Lib.hid h8
      clear h8 hput m2 g2 hm
      go_wp2
      go_roundw
      case rel => exact ⟨j + 1, by omega, by go_num, by rw [HCS.out]; first | (congr 1; omega) | (congr 2; omega), H8.out, X8⟩
      case measure => simp [intOf]; omega
    · obtain rfl : n = j := by omega
      go_wp2
      go_ret
      exact ⟨rfl, hm, X⟩
set_option maxRecDepth 100000 in
set_option maxHeartbeats 8000000 in
theorem heldCrateS_yes (A : Option Addr) (n c : Nat) (l l2 : Nat → List Int) (z2 : Nat → Int) (k0 : Int) (h0 : 0 ≤ k0) (hk0 : k0 ≤ 1000) (hn : n ≤ 1000) (hl : ∀ k, k < n → (l k).length ≤ 1000) (w : World) (hr : Crs w A n l2 z2) (h2 : ∀ k, k < n → l2 k = mkL l k0 k) (h3 : ∀ k, k < n → z2 k = mkZ l k0 k) :
    Calls Try.prog 38 #[.slice A n c, .int .i64 k0] w fun e w' => e = .returned (.int .i64 (k0 + cntK l n)) ∧ Ext w w' := by
  have HL := Lib.hid hl
  have HC := Lib.hid (fun k (hk : k ≤ n) => Nat.le_trans (cntK_le k fun j hj => hl j (by omega)) (Nat.mul_le_mul_right 1001 (Nat.le_trans hk hn)))
  have H2 := Lib.hid h2
  have H3 := Lib.hid h3
  clear hl h2 h3
  go_enter Try.func38, Try.ntmps38
  go_wp2
  go_loopw [1, 5] (fun k i wr => ∃ j : Nat, j ≤ n ∧ i = .int .i64 j ∧ k = .int .i64 (k0 + cntK l j) ∧ Ext w wr) (fun _ i _ => n - (intOf i).toNat)
  case atStart => exact ⟨0, Nat.zero_le _, rfl, by simp [cntK], Ext.refl w⟩
  case round =>
    obtain ⟨j, hj, rfl, rfl, X⟩ := hrel
    by_cases hlt : j < n
    · obtain ⟨b, o, B, d, rfl, hb, c0w, c1w, i1, i2, hrow⟩ := hr.at_ hlt
      have hlj := HL.out j hlt
      have hcj := HC.out j hj
      have e2 := H2.out j hlt
      rw [e2] at c0w hrow i1
      rw [mkL_len] at c0w hrow i1
      rw [H3.out j hlt, show mkZ l k0 j = k0 + cntK l j + (l j).length from rfl] at c1w
      have c0 := X.cell c0w
      have HCS := Lib.hid (show cntK l (j + 1) = cntK l j + (l j).length + 1 from rfl)
      have HH := Lib.hid (heldIntS_yes B (l j).length d _ (k0 + cntK l j) (by omega) (by omega) wr (hrow.ext X) (fun i hi => tab_ix hi))
      have hneg : ¬ k0 + cntK l j + (l j).length < 0 := by omega
      clear e2 hrow
      go_wp2_with fail
      refine (HH.out).mono ?_
      rintro e w2 ⟨rfl, x2⟩
      have X2 := X.trans x2
      have d0 := X2.cell c0w
      have d1 := X2.cell c1w
      go_wp2
      go_roundw
      case rel => exact ⟨j + 1, by omega, by go_num, by rw [HCS.out]; first | (congr 1; omega) | (congr 2; omega), X2⟩
      case measure => simp [intOf]; omega
    · obtain rfl : n = j := by omega
      go_wp2
      go_ret
      exact ⟨rfl, X⟩

end Go.Proofs.Ytgfnkmalecfhbaa
