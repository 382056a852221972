/-
  Texts of one kind, one behind the other: SetBits WholeW PartS. No conditions.
-/
import Derived.Test.YtgmhmlhdiklaaaaGreatDoorNet
import Derived.Test.YtgmhmlhdiklaaaaGreatDoorKitC
import Derived.Lib.QuoteBits
import Derived.Test.YtgmhmlhdiklaaaaGreatDoorDarts
import Derived.Test.YtgmhmlhdiklaaaaGreatDoorInts
/- SetBits -/
namespace Go.Proofs.YtgmhmlhdiklaaaaGreatDoor
open Go.RowKit Net
set_option linter.unusedVariables false

theorem or64 {a b : Nat} (ha : a < 4096) (hb : b < 4096) : bits .or .i64 (a : Int) (b : Int) = ((a ||| b : Nat) : Int) := by
  have h : a ||| b < 2 ^ 12 := Nat.or_lt_two_pow (by omega) (by omega)
  show IntKind.i64.wrap ((BitVec.ofInt 64 (a : Int) ||| BitVec.ofInt 64 (b : Int)).toNat : Int) = _
  rw [BitVec.toNat_or, ofInt_u64 a (by omega), ofInt_u64 b (by omega)]
  exact Go.Lib.wrap_i64_small _ (by omega)
theorem and64_one {a : Nat} (ha : a < 4096) : bits .and .i64 (a : Int) 1 = ((a % 2 : Nat) : Int) := by
  show IntKind.i64.wrap ((BitVec.ofInt 64 (a : Int) &&& BitVec.ofInt 64 ((1 : Nat) : Int)).toNat : Int) = _
  rw [BitVec.toNat_and, ofInt_u64 a (by omega), ofInt_u64 1 (by omega), Nat.and_one_is_mod]
  exact Go.Lib.wrap_i64_small _ (by omega)
/-- The number s has the bits r, all of them below 12. -/
def Sets (s : Nat) (r : Nat → Bool) : Prop := s < 4096 ∧ ∀ i, s.testBit i = r i
theorem Sets.out {s : Nat} {r : Nat → Bool} (h : Sets s r) {i : Nat} (hi : 12 ≤ i) : r i = false := by
  rw [← h.2]
  exact Nat.testBit_lt_two_pow (Nat.lt_of_lt_of_le h.1 (by have := Nat.pow_le_pow_right (n := 2) (by decide) hi; omega))
theorem Sets.one {k : Nat} (h : k < 12) : Sets (2 ^ k) (fun i => decide (i = k)) := by
  refine ⟨?_, fun i => ?_⟩
  · have := Nat.pow_lt_pow_right (a := 2) (by decide) h; omega
  · rw [Nat.testBit_two_pow]
    by_cases e : i = k
    · subst e; simp
    · simp [e, Ne.symm e]
theorem Sets.shr {s : Nat} {r : Nat → Bool} (h : Sets s r) (i : Nat) : bits .and .i64 ((s : Int) / 2 ^ i) 1 = if r i = true then 1 else 0 := by
  have e : (s : Int) / 2 ^ i = ((s / 2 ^ i : Nat) : Int) := by rw [Int.natCast_ediv]; congr 1
  have hl : s / 2 ^ i < 4096 := Nat.lt_of_le_of_lt (Nat.div_le_self _ _) h.1
  rw [e, and64_one hl, ← h.2 i, Nat.testBit_eq_decide_div_mod_eq]
  rcases Nat.mod_two_eq_zero_or_one (s / 2 ^ i) with q | q <;> rw [q] <;> simp
theorem Sets.join {s : Nat} {r : Nat → Bool} (h : Sets s r) {x y : Nat} (hx : x < 12) (hy : y < 12) (hr : (r x || r y) = true) : Sets (s ||| (2 ^ x ||| 2 ^ y)) (joinS x y r) := by
  have h1 := Sets.one hx
  have h2 := Sets.one hy
  have h3 : 2 ^ x ||| 2 ^ y < 2 ^ 12 := Nat.or_lt_two_pow (by have := h1.1; omega) (by have := h2.1; omega)
  have h4 : s ||| (2 ^ x ||| 2 ^ y) < 2 ^ 12 := Nat.or_lt_two_pow (by have := h.1; omega) h3
  refine ⟨by omega, fun i => ?_⟩
  rw [Nat.testBit_or, Nat.testBit_or, h.2, h1.2, h2.2]
  unfold joinS
  rw [hr, Bool.true_and]
theorem joinS_no {x y : Nat} {r : Nat → Bool} (hr : (r x || r y) = false) : joinS x y r = r := by
  funext i; unfold joinS; rw [hr]; simp
theorem Sets.or64 {s x y : Nat} {r : Nat → Bool} (h : Sets s r) (hx : x < 12) (hy : y < 12) : bits .or .i64 (s : Int) (bits .or .i64 ((2 ^ x : Nat) : Int) ((2 ^ y : Nat) : Int)) = ((s ||| (2 ^ x ||| 2 ^ y) : Nat) : Int) := by
  have h1 := (Sets.one hx).1
  have h2 := (Sets.one hy).1
  have h3 : 2 ^ x ||| 2 ^ y < 2 ^ 12 := Nat.or_lt_two_pow (by omega) (by omega)
  rw [Go.Proofs.YtgmhmlhdiklaaaaGreatDoor.or64 h1 h2, Go.Proofs.YtgmhmlhdiklaaaaGreatDoor.or64 h.1 (by omega)]
/-- Where nothing is left above a place, no bit is set from there on. -/
theorem Sets.end_ {s : Nat} {r : Nat → Bool} (h : Sets s r) {i : Nat} (hi : s / 2 ^ i = 0) {j : Nat} (hj : i ≤ j) : r j = false := by
  rw [← h.2]
  have h1 : s < 2 ^ i := by
    rcases Nat.lt_or_ge s (2 ^ i) with g | g
    · exact g
    · have := Nat.div_pos g (Nat.two_pow_pos i); omega
  exact Nat.testBit_lt_two_pow (Nat.lt_of_lt_of_le h1 (Nat.pow_le_pow_right (by decide) hj))
theorem Sets.div_end {s : Nat} {r : Nat → Bool} (h : Sets s r) {i : Nat} (hi : 12 ≤ i) : s / 2 ^ i = 0 := by
  refine Nat.div_eq_of_lt (Nat.lt_of_lt_of_le h.1 ?_)
  have := Nat.pow_le_pow_right (n := 2) (by decide) hi; omega
theorem pick_len_cnt (r : Nat → Bool) : ∀ n, (pick n r).length = cnt r n
  | 0 => rfl
  | n + 1 => by
    show _ = cnt r n + (if r n = true then 1 else 0)
    rw [← pick_len_cnt r n]
    cases e : r n
    · rw [pick_no e]; rfl
    · rw [pick_yes e]; simp
theorem cnt_out {r : Nat → Bool} {n : Nat} (h : ∀ j, n ≤ j → r j = false) : ∀ k, n ≤ k → cnt r k = cnt r n
  | 0, hk => by have : n = 0 := by omega
                rw [this]
  | k + 1, hk => by
    by_cases e : n = k + 1
    · rw [e]
    · show cnt r k + (if r k = true then 1 else 0) = cnt r n
      rw [h k (by omega), cnt_out h k (by omega)]; rfl
theorem pick_out {r : Nat → Bool} {n : Nat} (h : ∀ j, n ≤ j → r j = false) : ∀ k, n ≤ k → pick k r = pick n r
  | 0, hk => by have : n = 0 := by omega
                rw [this]
  | k + 1, hk => by
    by_cases e : n = k + 1
    · rw [e]
    · rw [pick_no (h k (by omega)), pick_out h k (by omega)]

end Go.Proofs.YtgmhmlhdiklaaaaGreatDoor

/- WholeW -/
namespace Go.Proofs.YtgmhmlhdiklaaaaGreatDoor
open Go.RowKit Net
set_option linter.unusedVariables false

/-- Does the window hang together, with a lead at least? -/
def wholeB (n : Nat) (P : Nat → Nat → Int) (m : Nat) (L : Nat → Nat → Int) : Bool := winB n P m L && decide (0 < m) && allB n (fun i => decide (lab (fromN L) (toN L) m i = 0))
section
variable {n m : Nat} {P L : Nat → Nat → Int}
theorem win_ends0 (h : winB n P m L = true) : Ends n m L := fun k hk => winB_ends h hk
theorem wholeB_get (h : wholeB n P m L = true) : winB n P m L = true ∧ 0 < m ∧ ∀ i, i < n → lab (fromN L) (toN L) m i = 0 := by
  unfold wholeB at h
  rw [Bool.and_eq_true, Bool.and_eq_true] at h
  exact ⟨h.1.1, by simpa using h.1.2, fun i hi => by simpa using allB_get h.2 hi⟩
def rch (n m : Nat) (L : Nat → Nat → Int) : Nat → Bool := reach (fromN L) (toN L) m (fun i => decide (i = 0)) n
theorem whole_cnt (h : winB n P m L = true) : decide ((pick 12 (rch n m L)).length = n) = allB n (fun i => decide (lab (fromN L) (toN L) m i = 0)) := by
  have hE := win_ends0 h
  have hn := (winB_get h).1
  have ha : ∀ k, k < m → fromN L k < n := fun k hk => by have := hE k hk; omega
  have hb : ∀ k, k < m → toN L k < n := fun k hk => (hE k hk).2.2.2
  have hout : ∀ j, n ≤ j → rch n m L j = false := fun j hj => by
    have : rch n m L j = decide (j = 0) := reach_out ha hb hj n
    rw [this]; simp; omega
  rw [pick_out hout 12 hn.2.1, pick_len_cnt]
  have hw := whole_iff (n := n) (m := m) (a := fromN L) (b := toN L) hn.1 ha hb
  cases e : allB n (fun i => decide (lab (fromN L) (toN L) m i = 0))
  · rw [decide_eq_false_iff_not]
    intro hc
    have := hw.2 (fun i hi => cnt_all hc i hi)
    rw [allB_yes (fun i hi => by simpa using this i hi)] at e
    cases e
  · rw [decide_eq_true_iff]
    exact cnt_full (fun i hi => hw.1 (fun i hi => by simpa using allB_get e hi) i hi)
end

set_option maxHeartbeats 4000000 in
theorem impl_membersOf (z : Nat) (r : Nat → Bool) (hz : Sets z r) (w : World) :
    Calls Tryz.prog 58 #[.int .i64 (z : Int)] w (PostI w 3 (pick 12 r).length (pick 12 r)) := by
  have hz64 := hz.1
  have hm0 := Mine.nil_ w.heap.size w 3
  have HZ := Lib.hid hz
  clear hz
  go_enter Tryz.func58, Tryz.ntmps58
  go_wp2
  go_loopw [3, 4] (fun v i wr => ∃ k : Nat, k ≤ 12 ∧ i = .int .i64 k ∧ Ext w wr ∧ Mine w.heap.size wr 3 v (pick k r).length (pick k r)) (fun _ i _ => 13 - (intOf i).toNat)
  case atStart => exact ⟨0, by omega, rfl, Ext.refl w, hm0⟩
  case round =>
    clear hm0
    obtain ⟨k, hk, rfl, X, hm⟩ := hrel
    have hpl := pick_len k r
    have k1 : (0 : Int) ≤ (k : Int) := by omega
    have k2 : (k : Int) ≤ 64 := by omega
    have hdiv : (z : Int) / 2 ^ k = ((z / 2 ^ k : Nat) : Int) := by rw [Int.natCast_ediv]; congr 1
    by_cases h0 : z / 2 ^ k = 0
    · have d1 : (z : Int) / 2 ^ k = 0 := by rw [hdiv, h0]; rfl
      have HEQ := Lib.hid (show pick 12 r = pick k r from pick_out (fun j hj => HZ.out.end_ h0 hj) 12 hk)
      clear hdiv h0
      obtain ⟨A', c', rfl, hc1, hc2⟩ := hm.form
      go_wp2
      go_ret
      rw [HEQ.out]
      exact ⟨A', c', rfl, hc1, hc2, hm, X⟩
    · have hk12 : k < 12 := by
        rcases Nat.lt_or_ge k 12 with g | g
        · exact g
        · exact absurd (HZ.out.div_end g) h0
      obtain ⟨y, hy⟩ : ∃ y, y = (z : Int) / 2 ^ k := ⟨_, rfl⟩
      have hy0 : 0 < y := by
        have : 0 < z / 2 ^ k := Nat.pos_of_ne_zero h0
        rw [hy, hdiv]; omega
      have hsh := HZ.out.shr k
      rw [← hy] at hsh
      have hyy := hy.symm
      clear hdiv h0 hy
      cases hr : r k
      · rw [hr] at hsh
        have d2 : bits .and .i64 y 1 = 0 := by simpa using hsh
        have HP := Lib.hid (pick_no hr)
        clear hr hsh
        go_wp2
        go_roundw
        case rel => exact ⟨k + 1, by omega, by go_num, X, by rw [HP.out]; exact hm⟩
        case measure => simp [intOf]; omega
      · rw [hr] at hsh
        have d2 : bits .and .i64 y 1 = 1 := by simpa using hsh
        have HP := Lib.hid (pick_yes hr)
        clear hr hsh
        go_wp2_with (at_builtin; refine append_int _ rfl _ _ rfl w.heap.size _ _ _ rfl (hm.alloc _) (k : Int) _ rfl (cell_new1 (by simp)) (by unfold I64; omega) (by omega) (by rw [World.size_alloc]; have := X.size; omega) ?_; intro v2 w2 hm2 hg2; have he2 := (hm.alloc (.cells #[.int .i64 (k : Int)] 3)).fresh (X.alloc (.cells #[.int .i64 (k : Int)] 3)) (Nat.le_refl _) hg2 rfl)
        go_roundw
        case rel => exact ⟨k + 1, by omega, by go_num, he2, by rw [HP.out]; simpa using hm2⟩
        case measure => simp [intOf]; omega

set_option maxRecDepth 100000 in
set_option maxHeartbeats 8000000 in
theorem impl_partOf (A : Option Addr) (n c : Nat) (P : Nat → Nat → Int) (B : Option Addr) (m d : Nat) (L : Nat → Nat → Int) (hnc : n ≤ c) (hcm : c ≤ 9223372036854775807) (hmd : m ≤ d) (hdm : d ≤ 9223372036854775807) (hwin : winB n P m L = true) (w : World) (hr : Recs w 2 A n P) (hs : Recs w 2 B m L) :
    Calls Tryz.prog 35 #[.agg #[.slice A n c, .slice B m d], .int .i64 0] w (PostI w 3 (pick 12 (rch n m L)).length (pick 12 (rch n m L))) := by
  obtain ⟨⟨hn1, hn12, hm20⟩, hN, _⟩ := winB_get hwin
  have HEN := Lib.hid (fun k (hk : k < m) => winB_ends hwin hk)
  have HMO := Lib.hid (fun z (hz : Sets z (rch n m L)) W => impl_membersOf z (rch n m L) hz W)
  have HR := Lib.hid (show rch n m L = reach (fromN L) (toN L) m (fun i => decide (i = 0)) n from rfl)
  have hone : Sets 1 (fun i => decide (i = 0)) := Sets.one (k := 0) (by omega)
  clear hwin hN
  go_enter Tryz.func35, Tryz.ntmps35
  go_wp2
  have hq0 : (w.alloc (.cells #[.slice A n c, .slice B m d] 27)).cell? ⟨w.heap.size, 0, none⟩ = some (.slice A n c) := by simp [go_sem]
  have hq1 : (w.alloc (.cells #[.slice A n c, .slice B m d] 27)).cell? ⟨w.heap.size, 1, none⟩ = some (.slice B m d) := by simp [go_sem]
  have Q0 := Lib.hid hq0
  have Q1 := Lib.hid hq1
  clear hq0 hq1
  go_loopw [5, 13] (fun v i wr => ∃ (t z : Nat), t ≤ n ∧ i = .int .i64 t ∧ v = .int .i64 z ∧ Hid (Sets z (reach (fromN L) (toN L) m (fun i => decide (i = 0)) t)) ∧ Ext (w.alloc (.cells #[.slice A n c, .slice B m d] 27)) wr) (fun _ i _ => n - (intOf i).toNat)
  case atStart => exact ⟨0, 1, Nat.zero_le _, rfl, rfl, hone, (by repeat (first | exact Ext.refl _ | apply Ext.wgr | apply Ext.drew | apply Ext.drewN | apply Ext.alloc))⟩
  case round =>
    clear hone
    obtain ⟨t, z, ht, rfl, rfl, HZ, X⟩ := hrel
    have q0 := X.cell Q0.out
    have q1 := X.cell Q1.out
    have XW := ((Ext.refl w).alloc _).trans X
    by_cases hlt : t < n
    · go_wp2
      go_loopw [5, 18] (fun v i wy => ∃ (k z2 : Nat), k ≤ m ∧ i = .int .i64 k ∧ v = .int .i64 z2 ∧ Hid (Sets z2 (sweep (fromN L) (toN L) (reach (fromN L) (toN L) m (fun i => decide (i = 0)) t) k)) ∧ Ext wr wy) (fun _ i _ => m - (intOf i).toNat)
      case atStart => exact ⟨0, z, Nat.zero_le _, rfl, rfl, HZ, Ext.refl wr⟩
      case round =>
        obtain ⟨k, z2, hk, rfl, rfl, HZ2, Y⟩ := hrel
        replace q0 := Y.cell q0
        replace q1 := Y.cell q1
        by_cases hltm : k < m
        · obtain ⟨e0, e1, hij, hjn⟩ := HEN.out k hltm
          have HSW : Hid (sweep (fromN L) (toN L) (reach (fromN L) (toN L) m (fun i => decide (i = 0)) t) (k + 1) = joinS (fromN L k) (toN L k) (sweep (fromN L) (toN L) (reach (fromN L) (toN L) m (fun i => decide (i = 0)) t) k)) := rfl
          generalize sweep (fromN L) (toN L) (reach (fromN L) (toN L) m (fun i => decide (i = 0)) t) k = r at HZ2 HSW
          obtain ⟨bB, oB, rfl, hbB, c0, c1⟩ := hs.at2 hltm
          rw [e0] at c0
          rw [e1] at c1
          replace c0 := (XW.trans Y).cell c0
          replace c1 := (XW.trans Y).cell c1
          generalize hfi : fromN L k = i at *
          generalize htj : toN L k = j at *
          clear e0 e1 hfi htj
          have hi12 : i < 12 := by omega
          have hj12 : j < 12 := by omega
          have k1 : (0 : Int) ≤ (k : Int) := by omega
          have k2 : (k : Int) < (m : Int) := by omega
          have k3 : (0 : Int) ≤ (i : Int) := by omega
          have k4 : (i : Int) ≤ 64 := by omega
          have k5 : (0 : Int) ≤ (j : Int) := by omega
          have k6 : (j : Int) ≤ 64 := by omega
          have hz2 := HZ2.out.1
          obtain ⟨yi, hyi⟩ : ∃ y, y = (z2 : Int) / 2 ^ i := ⟨_, rfl⟩
          obtain ⟨yj, hyj⟩ : ∃ y, y = (z2 : Int) / 2 ^ j := ⟨_, rfl⟩
          have si := HZ2.out.shr i
          have sj := HZ2.out.shr j
          rw [← hyi] at si
          rw [← hyj] at sj
          have hyi' := hyi.symm
          have hyj' := hyj.symm
          clear hyi hyj
          have q0' := ((Ext.refl wr).alloc (.cells #[.int .i64 (i : Int), .int .i64 (j : Int)] 71)).cell q0
          have q1' := ((Ext.refl wr).alloc (.cells #[.int .i64 (i : Int), .int .i64 (j : Int)] 71)).cell q1
          cases hri : r i
          case false =>
            rw [hri] at si
            have di : bits .and .i64 yi 1 = 0 := by simpa using si
            cases hrj : r j
            case false =>
              rw [hrj] at sj
              have dj : bits .and .i64 yj 1 = 0 := by simpa using sj
              have HJ := Lib.hid (joinS_no (x := i) (y := j) (r := r) (by rw [hri, hrj]; rfl))
              clear si sj hri hrj
              go_wp2
              go_roundw
              case rel => exact ⟨k + 1, z2, by omega, by go_num, rfl, by rw [HSW.out, HJ.out]; exact HZ2, Y.trans (by repeat (first | exact Ext.refl _ | apply Ext.wgr | apply Ext.drew | apply Ext.drewN | apply Ext.alloc))⟩
              case measure => simp [intOf]; omega
            case true =>
              rw [hrj] at sj
              have dj : bits .and .i64 yj 1 = 1 := by simpa using sj
              have hrr : (r i || r j) = true := by rw [hrj]; simp
              obtain ⟨z3, hz3⟩ : ∃ z3 : Nat, z3 = z2 ||| (2 ^ i ||| 2 ^ j) := ⟨_, rfl⟩
              obtain ⟨pi, hpi⟩ : ∃ pi : Nat, pi = 2 ^ i := ⟨_, rfl⟩
              obtain ⟨pj, hpj⟩ : ∃ pj : Nat, pj = 2 ^ j := ⟨_, rfl⟩
              have HZ3 : Hid (Sets z3 (joinS i j r)) := Lib.hid (by rw [hz3]; exact HZ2.out.join hi12 hj12 hrr)
              have hor := HZ2.out.or64 hi12 hj12
              rw [← hz3, ← hpi, ← hpj] at hor
              have pw : ∀ q : Nat, q < 12 → IntKind.i64.wrap (2 ^ q) = ((2 ^ q : Nat) : Int) := fun q hq => by
                have h2 := Nat.pow_lt_pow_right (a := 2) (by decide) hq
                have h3 : ((2 ^ q : Nat) : Int) = (2 : Int) ^ q := by rw [Int.natCast_pow]; rfl
                rw [← h3]
                exact Go.Lib.wrap_i64_small _ (by omega)
              have w1 := pw i hi12
              have w2 := pw j hj12
              rw [← hpi] at w1
              rw [← hpj] at w2
              have w1' : IntKind.i64.wrap (1 * 2 ^ i) = (pi : Int) := by rw [Int.one_mul]; exact w1
              have w2' : IntKind.i64.wrap (1 * 2 ^ j) = (pj : Int) := by rw [Int.one_mul]; exact w2
              clear hz3 hpi hpj pw si sj hrr
              go_wp2
              first | refine wp_region_gr2 (by kernel_rfl) (by kernel_rfl) ?_ | refine wp_region_gr (by kernel_rfl) (by kernel_rfl) ?_
              repeat (go_big_quiet_step (fail))
              refine wpQuiet_nil ?_
              intro _ hw'
              obtain ⟨gq, hw''⟩ := hw'
              subst hw''
              go_wp2
              go_roundw
              case rel => exact ⟨k + 1, z3, by omega, by go_num, rfl, by rw [HSW.out]; exact HZ3, Y.trans (by repeat (first | exact Ext.refl _ | apply Ext.wgr | apply Ext.drew | apply Ext.drewN | apply Ext.alloc))⟩
              case measure => simp [intOf]; omega
          case true =>
            rw [hri] at si
            have di : bits .and .i64 yi 1 = 1 := by simpa using si
            have hrj : (r i || r j) = true := by rw [hri]; rfl
            have hrr := hrj
            clear hrj
            obtain ⟨z3, hz3⟩ : ∃ z3 : Nat, z3 = z2 ||| (2 ^ i ||| 2 ^ j) := ⟨_, rfl⟩
            obtain ⟨pi, hpi⟩ : ∃ pi : Nat, pi = 2 ^ i := ⟨_, rfl⟩
            obtain ⟨pj, hpj⟩ : ∃ pj : Nat, pj = 2 ^ j := ⟨_, rfl⟩
            have HZ3 : Hid (Sets z3 (joinS i j r)) := Lib.hid (by rw [hz3]; exact HZ2.out.join hi12 hj12 hrr)
            have hor := HZ2.out.or64 hi12 hj12
            rw [← hz3, ← hpi, ← hpj] at hor
            have pw : ∀ q : Nat, q < 12 → IntKind.i64.wrap (2 ^ q) = ((2 ^ q : Nat) : Int) := fun q hq => by
              have h2 := Nat.pow_lt_pow_right (a := 2) (by decide) hq
              have h3 : ((2 ^ q : Nat) : Int) = (2 : Int) ^ q := by rw [Int.natCast_pow]; rfl
              rw [← h3]
              exact Go.Lib.wrap_i64_small _ (by omega)
            have w1 := pw i hi12
            have w2 := pw j hj12
            rw [← hpi] at w1
            rw [← hpj] at w2
            have w1' : IntKind.i64.wrap (1 * 2 ^ i) = (pi : Int) := by rw [Int.one_mul]; exact w1
            have w2' : IntKind.i64.wrap (1 * 2 ^ j) = (pj : Int) := by rw [Int.one_mul]; exact w2
            clear hz3 hpi hpj pw si sj hrr
            go_wp2
            first | refine wp_region_gr2 (by kernel_rfl) (by kernel_rfl) ?_ | refine wp_region_gr (by kernel_rfl) (by kernel_rfl) ?_
            repeat (go_big_quiet_step (fail))
            refine wpQuiet_nil ?_
            intro _ hw'
            obtain ⟨gq, hw''⟩ := hw'
            subst hw''
            go_wp2
            go_roundw
            case rel => exact ⟨k + 1, z3, by omega, by go_num, rfl, by rw [HSW.out]; exact HZ3, Y.trans (by repeat (first | exact Ext.refl _ | apply Ext.wgr | apply Ext.drew | apply Ext.drewN | apply Ext.alloc))⟩
            case measure => simp [intOf]; omega
        · obtain rfl : k = m := by omega
          go_wp2
          go_roundw
          case rel => exact ⟨t + 1, z2, by omega, by go_num, rfl, HZ2, X.trans Y⟩
          case measure => simp [intOf]; omega
    · obtain rfl : t = n := by omega
      have HM := Lib.hid (fun W => HMO.out z (by rw [HR.out]; exact HZ.out) W)
      go_wp2_with fail
      refine (HM.out _).mono ?_
      rintro e w3 ⟨A3, c3, rfl, i3, j3, m3, x3⟩
      go_wp2
      go_ret
      exact ⟨A3, c3, rfl, i3, j3, m3.more XW.size, XW.trans x3⟩

set_option maxRecDepth 100000 in
set_option maxHeartbeats 8000000 in
theorem impl_IsWhole (A : Option Addr) (n c : Nat) (P : Nat → Nat → Int) (B : Option Addr) (m d : Nat) (L : Nat → Nat → Int) (hnc : n ≤ c) (hcm : c ≤ 9223372036854775807) (hmd : m ≤ d) (hdm : d ≤ 9223372036854775807) (w : World) (hr : Recs w 2 A n P) (hs : Recs w 2 B m L) :
    Calls Tryz.prog 16 #[.agg #[.slice A n c, .slice B m d]] w fun e w' => e = .returned (.bool (wholeB n P m L)) ∧ Ext w w' := by
  have q0 : (w.alloc (.cells #[.slice A n c, .slice B m d] 27)).cell? ⟨w.heap.size, 0, none⟩ = some (.slice A n c) := by simp [go_sem]
  have q1 : (w.alloc (.cells #[.slice A n c, .slice B m d] 27)).cell? ⟨w.heap.size, 1, none⟩ = some (.slice B m d) := by simp [go_sem]
  have HW := Lib.hid (fun W (X : Ext w W) => impl_WindowOk A n c P B m d L hnc hcm hmd hdm W (hr.ext X) (hs.ext X))
  cases hw : winB n P m L
  case false =>
    have HR : Hid (wholeB n P m L = false) := Lib.hid (by unfold wholeB; rw [hw]; rfl)
    rw [hw] at HW
    clear hw
    go_enter Tryz.func16, Tryz.ntmps16
    go_wp2
    first | refine wp_region_gr2 (by kernel_rfl) (by kernel_rfl) ?_ | refine wp_region_gr (by kernel_rfl) (by kernel_rfl) ?_
    repeat (go_big_quiet_step ((go_at_call 34; exact gr_of (HW.out _ (by repeat (first | exact Ext.refl _ | apply Ext.wgr | apply Ext.drew | apply Ext.drewN | apply Ext.alloc))))))
    refine wpQuiet_nil ?_
    intro _ hw'
    obtain ⟨gq, hw''⟩ := hw'
    subst hw''
    go_wp2
    go_ret
    exact ⟨congrArg (fun z => Ending.returned (.bool z)) HR.out.symm, (by repeat (first | exact Ext.refl _ | apply Ext.wgr | apply Ext.drew | apply Ext.drewN | apply Ext.alloc))⟩
  case true =>
    have HP := Lib.hid (fun W (X : Ext w W) => impl_partOf A n c P B m d L hnc hcm hmd hdm hw W (hr.ext X) (hs.ext X))
    have hcnt := whole_cnt hw
    rw [hw] at HW
    by_cases h0 : 0 < m
    · have HR : Hid (wholeB n P m L = allB n (fun i => decide (lab (fromN L) (toN L) m i = 0))) := Lib.hid (by unfold wholeB; rw [hw, show decide (0 < m) = true from decide_eq_true h0]; rfl)
      have d0 : decide ((m : Int) > 0) = true := decide_eq_true (by omega)
      have d1 : decide ((0 : Int) < (m : Int)) = true := decide_eq_true (by omega)
      rw [← hcnt] at HR
      clear hw hcnt
      generalize pick 12 (rch n m L) = l at *
      go_enter Tryz.func16, Tryz.ntmps16
      go_wp2
      go_region_with (first
        | (go_at_call 34; refine (HW.out _ ((Ext.refl w).alloc _).drew).mono ?_; rintro e wa ⟨rfl, xa⟩; have q0a := xa.cell q0; have q1a := xa.cell q1; have Xa := ((Ext.refl w).alloc (.cells #[.slice A n c, .slice B m d] 27)).drew.trans xa)
        | (go_at_call 35; refine (HP.out _ Xa).mono ?_; rintro e wb ⟨Ab, cb, rfl, ib, jb, mb, xb⟩; have q0b := xb.cell q0a; have q1b := xb.cell q1a; have Xb := Xa.trans xb))
      all_goals
        go_wp2
        go_ret
        refine ⟨congrArg (fun z => Ending.returned (.bool z)) (Eq.trans ?_ HR.out.symm), Xb⟩
        by_cases g : l.length = n
        · simp [g]
        · have g2 : ¬ ((l.length : Int) = (n : Int)) := by omega
          simp [g, g2]
    · have HR : Hid (wholeB n P m L = false) := Lib.hid (by unfold wholeB; rw [show decide (0 < m) = false from decide_eq_false h0]; simp)
      have d0 : decide ((m : Int) > 0) = false := decide_eq_false (by omega)
      have d1 : decide ((0 : Int) < (m : Int)) = false := decide_eq_false (by omega)
      clear hw hcnt
      go_enter Tryz.func16, Tryz.ntmps16
      go_wp2
      first | refine wp_region_gr2 (by kernel_rfl) (by kernel_rfl) ?_ | refine wp_region_gr (by kernel_rfl) (by kernel_rfl) ?_
      repeat (go_big_quiet_step ((go_at_call 34; exact gr_of (HW.out _ (by repeat (first | exact Ext.refl _ | apply Ext.wgr | apply Ext.drew | apply Ext.drewN | apply Ext.alloc))))))
      refine wpQuiet_nil ?_
      intro _ hw'
      obtain ⟨gq, hw''⟩ := hw'
      subst hw''
      go_wp2
      go_ret
      exact ⟨congrArg (fun z => Ending.returned (.bool z)) HR.out.symm, (by repeat (first | exact Ext.refl _ | apply Ext.wgr | apply Ext.drew | apply Ext.drewN | apply Ext.alloc))⟩

end Go.Proofs.YtgmhmlhdiklaaaaGreatDoor

/- PartS -/
namespace Go.Proofs.YtgmhmlhdiklaaaaGreatDoor
open Go.RowKit Net
set_option linter.unusedVariables false

theorem lab_succ (a b : Nat → Nat) (k i : Nat) : lab a b (k + 1) i = if lab a b k i = max (lab a b k (a k)) (lab a b k (b k)) then min (lab a b k (a k)) (lab a b k (b k)) else lab a b k i := rfl
/-- The labels in the midst of a round: the first t of them are the next round's. -/
def labT (L : Nat → Nat → Int) (k t i : Nat) : Int := if i < t then ((lab (fromN L) (toN L) (k + 1) i : Nat) : Int) else ((lab (fromN L) (toN L) k i : Nat) : Int)
theorem labT_all {L : Nat → Nat → Int} {n k : Nat} : tab n (labT L k n) = tab n (fun i => ((lab (fromN L) (toN L) (k + 1) i : Nat) : Int)) := by
  apply List.map_congr_left
  intro j hj
  unfold labT
  rw [if_pos (by simpa using hj)]
theorem labT_none {L : Nat → Nat → Int} {n k : Nat} : tab n (labT L k 0) = tab n (fun i => ((lab (fromN L) (toN L) k i : Nat) : Int)) := by
  apply List.map_congr_left
  intro j hj
  unfold labT
  rw [if_neg (by omega)]
theorem labT_set {L : Nat → Nat → Int} {n k t : Nat} (ht : t < n) : (tab n (labT L k t)).set t ((lab (fromN L) (toN L) (k + 1) t : Nat) : Int) = tab n (labT L k (t + 1)) := by
  have := tab_set (f := labT L k t) (g := labT L k (t + 1)) ht (fun j hj => by
    by_cases e : j = t
    · subst e; simp
    · rw [if_neg e]; unfold labT; by_cases q : j < t
      · rw [if_pos q, if_pos (by omega)]
      · rw [if_neg q, if_neg (by omega)])
  rwa [show labT L k (t + 1) t = ((lab (fromN L) (toN L) (k + 1) t : Nat) : Int) by unfold labT; rw [if_pos (by omega)]] at this
theorem labT_same {L : Nat → Nat → Int} {n k t : Nat} (ht : t < n) (h : lab (fromN L) (toN L) (k + 1) t = lab (fromN L) (toN L) k t) : tab n (labT L k t) = tab n (labT L k (t + 1)) := by
  apply List.map_congr_left
  intro j hj
  unfold labT
  by_cases e : j = t
  · subst e; rw [if_neg (by omega), if_pos (by omega), h]
  · by_cases q : j < t
    · rw [if_pos q, if_pos (by omega)]
    · rw [if_neg q, if_neg (by omega)]
set_option maxRecDepth 100000 in
set_option maxHeartbeats 8000000 in
theorem spec_l07Parts (A : Option Addr) (n c : Nat) (P : Nat → Nat → Int) (B : Option Addr) (m d : Nat) (L : Nat → Nat → Int) (hnc : n ≤ c) (hcm : c ≤ 9223372036854775807) (hmd : m ≤ d) (hdm : d ≤ 9223372036854775807) (hwin : winB n P m L = true) (w : World) (hr : Recs w 2 A n P) (hs : Recs w 2 B m L) :
    Calls Tryz.prog 41 #[.agg #[.slice A n c, .slice B m d]] w (PostI w 3 n (tab n (fun i => ((lab (fromN L) (toN L) m i : Nat) : Int)))) := by
  obtain ⟨⟨hn1, hn12, hm20⟩, hN, _⟩ := winB_get hwin
  have HEN := Lib.hid (fun k (hk : k < m) => winB_ends hwin hk)
  have HLE := Lib.hid (fun k i => lab_le (fromN L) (toN L) k i)
  clear hwin hN
  have hm0 : Mine (w.heap.size + 1) ((w.alloc (.cells #[.slice A n c, .slice B m d] 27)).alloc (.cells #[] 3)) 3 (.slice (some ⟨w.heap.size + 1, 0, none⟩) 0 0) 0 (tab 0 (fun i => ((lab (fromN L) (toN L) 0 i : Nat) : Int))) := by
    have := Mine.lit0 (w.alloc (.cells #[.slice A n c, .slice B m d] 27)) 3
    simpa [tab] using this
  have hq0 : (w.alloc (.cells #[.slice A n c, .slice B m d] 27)).cell? ⟨w.heap.size, 0, none⟩ = some (.slice A n c) := by simp [go_sem]
  have hq1 : (w.alloc (.cells #[.slice A n c, .slice B m d] 27)).cell? ⟨w.heap.size, 1, none⟩ = some (.slice B m d) := by simp [go_sem]
  have Q0 := Lib.hid hq0
  have Q1 := Lib.hid hq1
  clear hq0 hq1
  go_enter Tryz.func41, Tryz.ntmps41
  go_wp2
  go_loopw [3, 4] (fun v i wr => ∃ k : Nat, k ≤ n ∧ i = .int .i64 k ∧ Ext (w.alloc (.cells #[.slice A n c, .slice B m d] 27)) wr ∧ Mine (w.heap.size + 1) wr 3 v k (tab k (fun i => ((lab (fromN L) (toN L) 0 i : Nat) : Int)))) (fun _ i _ => n - (intOf i).toNat)
  case atStart => exact ⟨0, Nat.zero_le _, rfl, (by repeat (first | exact Ext.refl _ | apply Ext.wgr | apply Ext.drew | apply Ext.drewN | apply Ext.alloc)), hm0⟩
  case round =>
    clear hm0
    obtain ⟨k, hk, rfl, X, hm⟩ := hrel
    have q0 := X.cell Q0.out
    have q1 := X.cell Q1.out
    by_cases hlt : k < n
    · have HT : Hid (tab (k + 1) (fun i => ((lab (fromN L) (toN L) 0 i : Nat) : Int)) = tab k (fun i => ((lab (fromN L) (toN L) 0 i : Nat) : Int)) ++ [(k : Int)]) := Lib.hid (by simp [tab, List.range_succ, lab])
      go_wp2_with (at_builtin; refine append_int _ rfl _ _ rfl (w.heap.size + 1) _ _ _ rfl (hm.alloc _) (k : Int) _ rfl (cell_new1 (by simp)) (by unfold I64; omega) (by omega) (by rw [World.size_alloc]; have := X.size; rw [World.size_alloc] at this; omega) ?_; intro v2 w4 hm4 hg4; have he4 := (hm.alloc (.cells #[.int .i64 (k : Int)] 3)).fresh (X.alloc (.cells #[.int .i64 (k : Int)] 3)) (by rw [World.size_alloc]; exact Nat.le_refl _) hg4 rfl)
      go_roundw
      case rel => exact ⟨k + 1, by omega, by go_num, he4, by rw [HT.out]; exact hm4⟩
      case measure => simp [intOf]; omega
    · obtain rfl : k = n := by omega
      obtain ⟨A1, c1, rfl, hc1, hcm1⟩ := hm.form
      obtain ⟨G, rfl⟩ := hm.some_ (by omega)
      go_wp2
      go_loopw [5] (fun i wr2 => ∃ t : Nat, t ≤ m ∧ i = .int .i64 t ∧ Ext (w.alloc (.cells #[.slice A k c, .slice B m d] 27)) wr2 ∧ Mine (w.heap.size + 1) wr2 3 (.slice (some ⟨G, 0, none⟩) k c1) k (tab k (fun i => ((lab (fromN L) (toN L) t i : Nat) : Int)))) (fun i _ => m - (intOf i).toNat)
      case atStart => exact ⟨0, Nat.zero_le _, rfl, X, hm⟩
      case round =>
        clear hm X q0 q1
        obtain ⟨t, ht, rfl, X, hm⟩ := hrel
        have q0 := X.cell Q0.out
        have q1 := X.cell Q1.out
        have XW := ((Ext.refl w).alloc _).trans X
        by_cases hltm : t < m
        · obtain ⟨e0, e1, hij, hjn⟩ := HEN.out t hltm
          obtain ⟨bB, oB, rfl, hbB, d0, d1⟩ := hs.at2 hltm
          rw [e0] at d0
          rw [e1] at d1
          replace d0 := XW.cell d0
          replace d1 := XW.cell d1
          have HSU := Lib.hid (fun i => lab_succ (fromN L) (toN L) t i)
          have hla := HLE.out t (fromN L t)
          have hlb := HLE.out t (toN L t)
          obtain ⟨f0, _, _, _⟩ := hm.at_ (k := fromN L t) (by omega)
          obtain ⟨f1, _, _, _⟩ := hm.at_ (k := toN L t) (by omega)
          rw [tab_ix (by omega)] at f0 f1
          have hm' := hm
          rw [← labT_none] at hm'
          generalize hA : lab (fromN L) (toN L) t (fromN L t) = la at *
          generalize hB : lab (fromN L) (toN L) t (toN L t) = lb at *
          clear hA hB e0 e1
          generalize hfi : fromN L t = i0 at *
          generalize htj : toN L t = j0 at *
          clear hfi htj
          have k1 : (0 : Int) ≤ (t : Int) := by omega
          have k2 : (t : Int) < (m : Int) := by omega
          have k3 : (0 : Int) ≤ (i0 : Int) := by omega
          have k4 : (i0 : Int) < (k : Int) := by omega
          have k5 : (0 : Int) ≤ (j0 : Int) := by omega
          have k6 : (j0 : Int) < (k : Int) := by omega
          go_wp2
          go_loopw [8] (fun i wr3 => ∃ u : Nat, u ≤ k ∧ i = .int .i64 u ∧ Ext (w.alloc (.cells #[.slice A k c, .slice (some ⟨bB, oB, none⟩) m d] 27)) wr3 ∧ Mine (w.heap.size + 1) wr3 3 (.slice (some ⟨G, 0, none⟩) k c1) k (tab k (labT L t u))) (fun i _ => k - (intOf i).toNat)
          case atStart => exact ⟨0, Nat.zero_le _, rfl, X, hm'⟩
          case round =>
            clear hm hm' X XW q0 q1 d0 d1 f0 f1
            obtain ⟨u, hu, rfl, X, hm⟩ := hrel
            by_cases hltu : u < k
            · obtain ⟨f0, g0, hgb, _⟩ := hm.at_ hltu
              rw [tab_ix hltu] at f0
              have hT : labT L t u u = ((lab (fromN L) (toN L) t u : Nat) : Int) := by unfold labT; rw [if_neg (by omega)]
              rw [hT] at f0
              have HSE := Lib.hid (fun h => labT_same (L := L) (k := t) hltu h)
              have HST := Lib.hid (labT_set (L := L) (k := t) hltu)
              have hsu := HSU.out u
              have hlu := HLE.out t u
              generalize lab (fromN L) (toN L) (t + 1) u = l2 at *
              generalize lab (fromN L) (toN L) t u = l1 at *
              clear hT
              have u1 : (0 : Int) ≤ (u : Int) := by omega
              have u2 : (u : Int) < (k : Int) := by omega
              by_cases hmx : l1 = max la lb
              · rw [if_pos hmx] at hsu
                subst hsu
                have hst := hm.stored (k := u) (z := ((min la lb : Nat) : Int)) hltu (by unfold I64; omega)
                rw [HST.out] at hst
                have HST2 := Lib.hid hst
                have X4 := X.setCell (p := ⟨G, u, none⟩) (by rw [World.size_alloc]; exact hgb) (.int .i64 ((min la lb : Nat) : Int))
                clear hst
                rcases Nat.lt_trichotomy la lb with g | g | g
                · obtain rfl : l1 = lb := by omega
                  have s1 : (la : Int) < (l1 : Int) := by omega
                  have s2 : ¬ (l1 : Int) < (la : Int) := by omega
                  rw [show min la l1 = la by omega] at HST2 X4
                  clear hmx
                  go_wp2
                  go_roundw
                  case rel => exact ⟨u + 1, by omega, by go_num, X4, HST2.out⟩
                  case measure => simp [intOf]; omega
                · subst g
                  obtain rfl : l1 = la := by omega
                  have s2 : ¬ (l1 : Int) < (l1 : Int) := by omega
                  rw [show min l1 l1 = l1 by omega] at HST2 X4
                  clear hmx
                  go_wp2
                  go_roundw
                  case rel => exact ⟨u + 1, by omega, by go_num, X4, HST2.out⟩
                  case measure => simp [intOf]; omega
                · obtain rfl : l1 = la := by omega
                  have s1 : (lb : Int) < (l1 : Int) := by omega
                  have s2 : ¬ (l1 : Int) < (lb : Int) := by omega
                  rw [show min l1 lb = lb by omega] at HST2 X4
                  clear hmx
                  go_wp2
                  go_roundw
                  case rel => exact ⟨u + 1, by omega, by go_num, X4, HST2.out⟩
                  case measure => simp [intOf]; omega
              · rw [if_neg hmx] at hsu
                have hse := HSE.out hsu
                rw [hse] at hm
                have HM := Lib.hid hm
                clear hse hsu hm
                rcases Nat.lt_trichotomy la lb with g | g | g
                · have s1 : (la : Int) < (lb : Int) := by omega
                  have s2 : ¬ (lb : Int) < (la : Int) := by omega
                  have d9 : ¬ (l1 : Int) = (lb : Int) := by omega
                  clear hmx
                  go_wp2
                  go_roundw
                  case rel => exact ⟨u + 1, by omega, by go_num, X, HM.out⟩
                  case measure => simp [intOf]; omega
                · subst g
                  have s2 : ¬ (la : Int) < (la : Int) := by omega
                  have d9 : ¬ (l1 : Int) = (la : Int) := by omega
                  clear hmx
                  go_wp2
                  go_roundw
                  case rel => exact ⟨u + 1, by omega, by go_num, X, HM.out⟩
                  case measure => simp [intOf]; omega
                · have s1 : (lb : Int) < (la : Int) := by omega
                  have s2 : ¬ (la : Int) < (lb : Int) := by omega
                  have d9 : ¬ (l1 : Int) = (la : Int) := by omega
                  clear hmx
                  go_wp2
                  go_roundw
                  case rel => exact ⟨u + 1, by omega, by go_num, X, HM.out⟩
                  case measure => simp [intOf]; omega
            · obtain rfl : u = k := by omega
              rw [labT_all] at hm
              go_wp2
              go_roundw
              case rel => exact ⟨t + 1, by omega, by go_num, X, hm⟩
              case measure => simp [intOf]; omega
        · obtain rfl : t = m := by omega
          go_wp2
          go_ret
          exact ⟨_, _, rfl, hc1, hcm1, hm.more (by omega), XW⟩
set_option maxHeartbeats 4000000 in
theorem spec_IsWhole (A : Option Addr) (n c : Nat) (P : Nat → Nat → Int) (B : Option Addr) (m d : Nat) (L : Nat → Nat → Int) (hnc : n ≤ c) (hcm : c ≤ 9223372036854775807) (hmd : m ≤ d) (hdm : d ≤ 9223372036854775807) (w : World) (hr : Recs w 2 A n P) (hs : Recs w 2 B m L) :
    Calls Tryz.prog 23 #[.agg #[.slice A n c, .slice B m d]] w fun e w' => e = .returned (.bool (wholeB n P m L)) ∧ Ext w w' := by
  have HW := Lib.hid (fun W (X : Ext w W) => spec_WindowOk A n c P B m d L hnc hcm hmd hdm W (hr.ext X) (hs.ext X))
  cases hw : winB n P m L
  case false =>
    have HR : Hid (wholeB n P m L = false) := Lib.hid (by unfold wholeB; rw [hw]; rfl)
    rw [hw] at HW
    clear hw
    go_enter Tryz.func23, Tryz.ntmps23
    go_wp2_with fail
    refine (HW.out _ ((Ext.refl _).alloc _)).mono ?_
    rintro e w2 ⟨rfl, x2⟩
    go_wp2
    go_ret
    exact ⟨congrArg (fun z => Ending.returned (.bool z)) HR.out.symm, ((Ext.refl w).alloc _).trans x2⟩
  case true =>
    have HP := Lib.hid (fun W (X : Ext w W) => spec_l07Parts A n c P B m d L hnc hcm hmd hdm hw W (hr.ext X) (hs.ext X))
    have hn := (winB_get hw).1
    rw [hw] at HW
    by_cases h0 : m = 0
    · have HR : Hid (wholeB n P m L = false) := Lib.hid (by unfold wholeB; rw [show decide (0 < m) = false from decide_eq_false (by omega)]; simp)
      clear hw
      subst h0
      go_enter Tryz.func23, Tryz.ntmps23
      go_wp2_with fail
      refine (HW.out _ ((Ext.refl _).alloc _)).mono ?_
      rintro e w2 ⟨rfl, x2⟩
      have q1 := x2.cell (a := ⟨w.heap.size, 1, none⟩) (u := .slice B 0 d) (by simp [go_sem])
      go_wp2
      go_ret
      exact ⟨congrArg (fun z => Ending.returned (.bool z)) HR.out.symm, ((Ext.refl w).alloc _).trans x2⟩
    · have HR : Hid (wholeB n P m L = allB n (fun i => decide (lab (fromN L) (toN L) m i = 0))) := Lib.hid (by unfold wholeB; rw [hw, show decide (0 < m) = true from decide_eq_true (by omega)]; rfl)
      have d0 : ((m : Int) == 0) = false := by rw [beq_eq_false_iff_ne]; omega
      clear hw
      go_enter Tryz.func23, Tryz.ntmps23
      go_wp2_with fail
      refine (HW.out _ ((Ext.refl _).alloc _)).mono ?_
      rintro e w2 ⟨rfl, x2⟩
      have q0 := x2.cell (a := ⟨w.heap.size, 0, none⟩) (u := .slice A n c) (by simp [go_sem])
      have q1 := x2.cell (a := ⟨w.heap.size, 1, none⟩) (u := .slice B m d) (by simp [go_sem])
      have X2 := ((Ext.refl w).alloc _).trans x2
      go_wp2_with fail
      refine (HP.out _ X2).mono ?_
      rintro e w3 ⟨A3, c3, rfl, i3, j3, m3, x3⟩
      have X3 := X2.trans x3
      have M3 := Lib.hid m3
      clear q0 q1 x2 x3 X2 HP HW m3
      go_wp2
      go_loopw [4] (fun i wr => ∃ k : Nat, k ≤ n ∧ i = .int .i64 k ∧ Ext w3 wr ∧ ∀ q, q < k → lab (fromN L) (toN L) m q = 0) (fun i _ => n - (intOf i).toNat)
      case atStart => exact ⟨0, Nat.zero_le _, rfl, Ext.refl w3, fun q hq => absurd hq (by omega)⟩
      case round =>
        obtain ⟨k, hk, rfl, Y, hall⟩ := hrel
        have HALL := Lib.hid hall
        clear hall
        by_cases hlt : k < n
        · obtain ⟨G, rfl⟩ := M3.out.some_ (by omega)
          obtain ⟨hc, _, _, _⟩ := M3.out.at_ hlt
          rw [tab_ix hlt] at hc
          replace hc := Y.cell hc
          have u1 : (0 : Int) ≤ (k : Int) := by omega
          have u2 : (k : Int) < (n : Int) := by omega
          by_cases hz : lab (fromN L) (toN L) m k = 0
          · have HZ := Lib.hid hz
            rw [hz] at hc
            clear hz
            go_wp2
            go_roundw
            case rel =>
              refine ⟨k + 1, by omega, by go_num, Y, fun q hq => ?_⟩
              by_cases e : q = k
              · subst e; exact HZ.out
              · exact HALL.out q (by omega)
            case measure => simp [intOf]; omega
          · have HF := Lib.hid (allB_no hlt (p := fun i => decide (lab (fromN L) (toN L) m i = 0)) (by simpa using hz))
            have d1 : (((lab (fromN L) (toN L) m k : Nat) : Int) != 0) = true := by rw [bne_iff_ne]; omega
            clear hz
            generalize lab (fromN L) (toN L) m k = y at *
            go_wp2
            go_ret
            exact ⟨congrArg (fun z => Ending.returned (.bool z)) (by rw [HR.out, HF.out]), X3.trans Y⟩
        · obtain rfl : k = n := by omega
          have HT := Lib.hid (allB_yes (n := k) (p := fun i => decide (lab (fromN L) (toN L) m i = 0)) (fun q hq => by simpa using HALL.out q hq))
          go_wp2
          go_ret
          exact ⟨congrArg (fun z => Ending.returned (.bool z)) (by rw [HR.out, HT.out]), X3.trans Y⟩

end Go.Proofs.YtgmhmlhdiklaaaaGreatDoor
