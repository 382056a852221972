/-
  Texts of one kind, one behind the other: ArW NextW RndW ArS RndS. No conditions.
-/
import Derived.Test.YtgmhmlhdiklaaaaGreatDoorGeoM
import Derived.Test.YtgmhmlhdiklaaaaGreatDoorDartM
import Derived.Test.YtgmhmlhdiklaaaaGreatDoorCmpW
import Derived.Test.YtgmhmlhdiklaaaaGreatDoorInts
import Derived.Test.YtgmhmlhdiklaaaaGreatDoorFdx
/- ArW -/
namespace Go.Proofs.YtgmhmlhdiklaaaaGreatDoor
open Go.RowKit Ring
set_option linter.unusedVariables false

set_option maxRecDepth 100000 in
set_option maxHeartbeats 8000000 in
theorem impl_around (A : Option Addr) (n c : Nat) (P : Nat → Nat → Int) (B : Option Addr) (m d : Nat) (L : Nat → Nat → Int) (hnc : n ≤ c) (hcm : c ≤ 9223372036854775807) (hmd : m ≤ d) (hdm : d ≤ 9223372036854775807) (hwin : winB n P m L = true) (k : Nat) (hk : k < n) (hne : 0 < (atN L k (2 * m)).length) (w : World) (hr : Recs w 2 A n P) (hs : Recs w 2 B m L) :
    Calls Tryz.prog 73 #[.agg #[.slice A n c, .slice B m d], .int .i64 (k : Int)] w (PostI w 3 (arr P L m k).length (nums (arr P L m k))) := by
  obtain ⟨⟨hn1, hn12, hm20⟩, hN, _⟩ := winB_get hwin
  have hE := win_ends hwin
  have hdeg := deg_le hwin k
  obtain ⟨wb, hwb⟩ : ∃ wb, wb = (w.alloc (.cells #[.slice A n c, .slice B m d] 27)).alloc (.cells #[.int .i64 (k : Int)] 3) := ⟨_, rfl⟩
  have XB : Ext w wb := by rw [hwb]; exact ((Ext.refl w).alloc _).alloc _
  have q0 : wb.cell? ⟨w.heap.size, 0, none⟩ = some (.slice A n c) := by rw [hwb]; simp [go_sem]
  have q1 : wb.cell? ⟨w.heap.size, 1, none⟩ = some (.slice B m d) := by rw [hwb]; simp [go_sem]
  have qk : wb.cell? ⟨w.heap.size + 1, 0, none⟩ = some (.int .i64 (k : Int)) := by rw [hwb]; simp [go_sem]
  have hsz : wb.heap.size = w.heap.size + 2 := by rw [hwb]; simp
  have HCMP := Lib.hid (fun W (Z : Ext wb W) (x y : Nat) (hx : x < 2 * m) (hy : y < 2 * m) => around_cmp A n c P B m d L hnc hcm hmd hdm hm20 hN hE k x y w.heap.size (w.heap.size + 1) hk hx hy W (hr.ext (XB.trans Z)) (hs.ext (XB.trans Z)) (Z.cell q0) (Z.cell q1) (Z.cell qk))
  have HDF := Lib.hid (fun W (Z : Ext w W) (x : Nat) (hx : x < 2 * m) => (show Calls Tryz.prog 59 #[.agg #[.slice A n c, .slice B m d], .int .i64 (x : Int)] W fun e w' => e = .returned (.int .i64 (orgN L x : Nat)) ∧ Ext W w' from by have z := impl_dartFrom A n c P B m d L hnc hcm hmd hdm x hx hm20 W (hr.ext Z) (hs.ext Z); rwa [orgI_eq hE hx] at z))
  have hm0 : Mine wb.heap.size wb 3 (.slice none 0 0) 0 [] := Mine.nil_ _ _ _
  have HDEG := Lib.hid hdeg
  have HNE := Lib.hid hne
  clear hwin hN hE hdeg hne
  go_enter Tryz.func73, Tryz.ntmps73
  go_wp2
  rw [← hwb]
  have HWB := Lib.hid hwb
  clear hwb
  go_loopw [5, 6] (fun v i wr => ∃ q : Nat, q ≤ 2 * m ∧ i = .int .i64 q ∧ Ext wb wr ∧ Mine wb.heap.size wr 3 v (atN L k q).length (nums (atN L k q))) (fun _ i _ => 2 * m - (intOf i).toNat)
  case atStart => exact ⟨0, Nat.zero_le _, rfl, Ext.refl wb, hm0⟩
  case round =>
    clear hm0
    obtain ⟨q, hq, rfl, X, hm⟩ := hrel
    replace q0 := X.cell q0
    replace q1 := X.cell q1
    replace qk := X.cell qk
    have hql : (atN L k q).length ≤ q := by unfold atN; exact Nat.le_trans (List.length_filter_le _ _) (by simp)
    have e0 : IntKind.i64.wrap (2 * (m : Int)) = 2 * (m : Int) := by rw [IntKind.wrap_i64]; omega
    by_cases hlt : q < 2 * m
    · have HD := Lib.hid (fun W (Z : Ext w W) => HDF.out W Z q hlt)
      have hlt' : (q : Int) < 2 * (m : Int) := by omega
      by_cases ho : orgN L q = k
      · have d0 : decide (((orgN L q : Nat) : Int) = (k : Int)) = true := by simp; omega
        have d1 : (((orgN L q : Nat) : Int) == (k : Int)) = true := by simp; omega
        have HP := Lib.hid (atN_yes ho)
        clear ho
        go_wp2
        first | refine wp_region_gr2 (by kernel_rfl) (by kernel_rfl) ?_ | refine wp_region_gr (by kernel_rfl) (by kernel_rfl) ?_
        repeat (go_big_quiet_step ((go_at_call 59; exact gr_of (HD.out _ (XB.trans (X.trans (by repeat (first | exact Ext.refl _ | apply Ext.wgr | apply Ext.drew | apply Ext.drewN | apply Ext.alloc))))))))
        refine wpQuiet_nil ?_
        intro _ hw'
        obtain ⟨gq, hw''⟩ := hw'
        subst hw''
        have X5 : Ext wb (wgr wr gq) := X.wgr gq
        have hm5 := hm.gr gq
        clear hm X
        generalize wgr wr gq = w5 at *
        go_wp2_with (at_builtin; refine append_int _ rfl _ _ rfl wb.heap.size _ _ _ rfl (hm5.alloc _) (q : Int) _ rfl (cell_new1 (by simp)) (by unfold I64; omega) (by omega) (by rw [World.size_alloc]; have := X5.size; omega) ?_; intro v2 w2 hm6 hg2; have he2 := (hm5.alloc (.cells #[.int .i64 (q : Int)] 3)).fresh (X5.alloc (.cells #[.int .i64 (q : Int)] 3)) (Nat.le_refl _) hg2 rfl)
        go_roundw
        case rel =>
          refine ⟨q + 1, by omega, by go_num, he2, ?_⟩
          rw [HP.out, nums_snoc]
          simpa using hm6
        case measure => simp [intOf]; omega
      · have d0 : decide (((orgN L q : Nat) : Int) = (k : Int)) = false := by simp; omega
        have d1 : (((orgN L q : Nat) : Int) == (k : Int)) = false := by simp; omega
        have HP := Lib.hid (atN_no ho)
        clear ho
        go_wp2
        first | refine wp_region_gr2 (by kernel_rfl) (by kernel_rfl) ?_ | refine wp_region_gr (by kernel_rfl) (by kernel_rfl) ?_
        repeat (go_big_quiet_step ((go_at_call 59; exact gr_of (HD.out _ (XB.trans (X.trans (by repeat (first | exact Ext.refl _ | apply Ext.wgr | apply Ext.drew | apply Ext.drewN | apply Ext.alloc))))))))
        refine wpQuiet_nil ?_
        intro _ hw'
        obtain ⟨gq, hw''⟩ := hw'
        subst hw''
        go_wp2
        go_roundw
        case rel => exact ⟨q + 1, by omega, by go_num, X.wgr gq, by rw [HP.out]; exact hm.gr gq⟩
        case measure => simp [intOf]; omega
    · obtain rfl : q = 2 * m := by omega
      obtain ⟨A', c', rfl, hc1, hc2⟩ := hm.form
      obtain ⟨G, rfl⟩ := hm.some_ HNE.out
      have HS := Lib.hid (around_sort w.heap.size (w.heap.size + 1) (cmpD P L k) (fun x => x < 2 * m) wb HCMP.out G c' (atN L k (2 * m)) (by have := HDEG.out; omega) (fun x hx => (atN_mem.1 hx).1) (fun x hx => by have := (atN_mem.1 hx).1; omega) wr X hm (by have := HDEG.out; omega) (fun n W hn => len_small n W hn))
      rw [cmpD_fun] at HS
      go_wp2_with (go_at_call 80; refine HS.out.mono ?_; rintro e w9 ⟨rfl, X9, hm9⟩)
      go_ret
      have hla : (arr P L m k).length = (atN L k (2 * m)).length := srt_len _ _
      rw [hla]
      exact ⟨_, _, rfl, hc1, hc2, hm9.more (by omega), XB.trans X9⟩

end Go.Proofs.YtgmhmlhdiklaaaaGreatDoor

/- NextW -/
namespace Go.Proofs.YtgmhmlhdiklaaaaGreatDoor
open Go.RowKit Ring
set_option linter.unusedVariables false

set_option maxHeartbeats 1000000 in
theorem indexInt_any (A : Option Addr) (n c : Nat) (f : Nat → Nat → Int) (x : Int) (hn : n ≤ 9223372036854775807) (w : World) (hr : Recs w 1 A n f) :
    Calls Tryz.prog 27 #[.slice A n c, .int .i64 x] w fun e w' => e = .returned (.int .i64 (fdx (fun i => decide (x = f i 0)) n)) ∧ Ext w w' := by
  go_enter Tryz.func27, Tryz.ntmps27
  go_wp2
  go_loopw [5, 8] (fun _ i wr => ∃ j : Nat, j ≤ n ∧ i = .int .i64 j ∧ Ext w wr ∧ ∀ q, q < j → decide (x = f q 0) = false) (fun _ i _ => n - (intOf i).toNat)
  case atStart => exact ⟨0, Nat.zero_le _, rfl, Ext.refl _, fun q hq => absurd hq (by omega)⟩
  case round =>
    obtain ⟨j, hj, rfl, X, hall⟩ := hrel
    have HALL := Lib.hid hall
    clear hall
    by_cases hlt : j < n
    · obtain ⟨b2, o, rfl, hb, h0⟩ := hr.at1 hlt
      replace h0 := X.cell h0
      have u1 : (0 : Int) ≤ (j : Int) := by omega
      have u2 : (j : Int) < (n : Int) := by omega
      cases hin : decide (x = f j 0)
      · have HIN := Lib.hid hin
        have d1 : (x == f j 0) = false := by simpa using hin
        clear hin
        go_wp2
        go_roundw
        case rel =>
          refine ⟨j + 1, by omega, by go_num, X, fun q hq => ?_⟩
          by_cases e : q = j
          · subst e; exact HIN.out
          · exact HALL.out q (by omega)
        case measure => simp [intOf]; omega
      · have HF := Lib.hid (fdx_at hlt hin HALL.out)
        have hx : x = f j 0 := by simpa using hin
        rw [← hx] at h0
        clear hx hin
        go_wp2
        go_ret
        exact ⟨ret_i HF.out.symm, X⟩
    · obtain rfl : j = n := by omega
      have HF := Lib.hid (fdx_none HALL.out)
      go_wp2
      go_ret
      exact ⟨ret_i HF.out.symm, X⟩
theorem fdx_idx {l : List Nat} {x : Nat} (h : x ∈ l) : fdx (fun i => decide ((x : Int) = ix (nums l) i)) l.length = (idx l x : Nat) := by
  refine fdx_at (idx_lt h) ?_ (fun i hi => ?_)
  · rw [nums_ix, idx_get h]; simp
  · rw [nums_ix]
    have := idx_first hi
    exact decide_eq_false (by omega)
theorem step_mod {i n : Nat} (h : i < n) : (((i : Nat) : Int) + -1 + (n : Int)) % (n : Int) = (((i + n - 1) % n : Nat) : Int) := by
  rw [show ((i : Nat) : Int) + -1 + (n : Int) = ((i + n - 1 : Nat) : Int) by omega, ← Int.natCast_emod]
set_option maxRecDepth 100000 in
set_option maxHeartbeats 4000000 in
theorem impl_beside (A : Option Addr) (n c : Nat) (P : Nat → Nat → Int) (B : Option Addr) (m d : Nat) (L : Nat → Nat → Int) (hnc : n ≤ c) (hcm : c ≤ 9223372036854775807) (hmd : m ≤ d) (hdm : d ≤ 9223372036854775807) (hwin : winB n P m L = true) (x : Nat) (hx : x < 2 * m) (w : World) (hr : Recs w 2 A n P) (hs : Recs w 2 B m L) :
    Calls Tryz.prog 60 #[.agg #[.slice A n c, .slice B m d], .int .i64 (x : Int), .int .i64 (-1)] w fun e w' => e = .returned (.int .i64 (prd (arr P L m (orgN L x)) x : Nat)) ∧ Ext w w' := by
  obtain ⟨⟨hn1, hn12, hm20⟩, hN, _⟩ := winB_get hwin
  have hE := win_ends hwin
  have hk := orgN_lt hE hx
  have hxm : x ∈ arr P L m (orgN L x) := arr_self hx
  have hne : 0 < (atN L (orgN L x) (2 * m)).length := List.length_pos_of_mem (atN_mem.2 ⟨hx, rfl⟩)
  have HDF := Lib.hid (fun W (Z : Ext w W) => (show Calls Tryz.prog 59 #[.agg #[.slice A n c, .slice B m d], .int .i64 (x : Int)] W fun e w' => e = .returned (.int .i64 (orgN L x : Nat)) ∧ Ext W w' from by have z := impl_dartFrom A n c P B m d L hnc hcm hmd hdm x hx hm20 W (hr.ext Z) (hs.ext Z); rwa [orgI_eq hE hx] at z))
  have HAR := Lib.hid (fun W (Z : Ext w W) => impl_around A n c P B m d L hnc hcm hmd hdm hwin (orgN L x) hk hne W (hr.ext Z) (hs.ext Z))
  have hlen : (arr P L m (orgN L x)).length ≤ 12 := by unfold arr; rw [srt_len]; have := deg_le hwin (orgN L x); omega
  have hidx := idx_lt hxm
  have hfd := fdx_idx hxm
  have hp : prd (arr P L m (orgN L x)) x = (arr P L m (orgN L x)).getD ((idx (arr P L m (orgN L x)) x + (arr P L m (orgN L x)).length - 1) % (arr P L m (orgN L x)).length) 0 := rfl
  have hmod := step_mod hidx
  have hq : (idx (arr P L m (orgN L x)) x + (arr P L m (orgN L x)).length - 1) % (arr P L m (orgN L x)).length < (arr P L m (orgN L x)).length := Nat.mod_lt _ (by omega)
  have HP := Lib.hid hp
  have q0 : (w.alloc (.cells #[.slice A n c, .slice B m d] 27)).cell? ⟨w.heap.size, 0, none⟩ = some (.slice A n c) := by simp [go_sem]
  have q1 : (w.alloc (.cells #[.slice A n c, .slice B m d] 27)).cell? ⟨w.heap.size, 1, none⟩ = some (.slice B m d) := by simp [go_sem]
  clear hwin hN hE hxm hne hp
  generalize arr P L m (orgN L x) = l at *
  generalize (idx l x + l.length - 1) % l.length = q at hq hmod HP
  generalize hi : idx l x = i at *
  clear hi
  generalize orgN L x = k at *
  go_enter Tryz.func60, Tryz.ntmps60
  go_wp2
  go_region_held3 (fun w' => w'.cell? ⟨w.heap.size, 0, none⟩ = some (.slice A n c) ∧ w'.cell? ⟨w.heap.size, 1, none⟩ = some (.slice B m d)) (first | exact ⟨q0, q1⟩ | exact ⟨q0a, q1a⟩ | exact ⟨q0b, q1b⟩) (first
    | (go_at_call 59; refine (HDF.out _ ((Ext.refl w).alloc _).drew).mono ?_; rintro e wa ⟨rfl, xa⟩; have q0a := xa.cell q0; have q1a := xa.cell q1; have Xa := ((Ext.refl w).alloc (.cells #[.slice A n c, .slice B m d] 27)).drew.trans xa)
    | (go_at_call 73; refine (HAR.out _ Xa).mono ?_; rintro e wb ⟨Ab, cb, rfl, ib, jb, mb, xb⟩; have q0b := xb.cell q0a; have q1b := xb.cell q1a; have Xb := Xa.trans xb))
  obtain ⟨G, rfl⟩ := mb.some_ (by omega)
  have rb := mb.recs
  have HIX := Lib.hid (fun W (Z : Ext wb W) => indexInt_any (some ⟨G, 0, none⟩) l.length cb (fun k _ => ix (nums l) k) (x : Int) (by omega) W (rb.ext Z))
  rw [hfd] at HIX
  obtain ⟨hc, _, _, _⟩ := mb.at_ hq
  rw [nums_ix, ← HP.out] at hc
  clear rb mb hfd
  go_wp2_with fail
  refine (HIX.out _ (Ext.refl _)).mono ?_
  rintro e wc ⟨rfl, xc⟩
  replace hc := xc.cell hc
  have u1 : (0 : Int) ≤ (q : Int) := by omega
  have u2 : (q : Int) < (l.length : Int) := by omega
  go_wp2
  go_ret
  exact ⟨rfl, Xb.trans xc⟩

end Go.Proofs.YtgmhmlhdiklaaaaGreatDoor

/- RndW -/
namespace Go.Proofs.YtgmhmlhdiklaaaaGreatDoor
open Go.RowKit Ring
set_option linter.unusedVariables false

theorem impl_rng (nx : Nat → Nat) (x t : Nat) : (List.range (t + 1 + 1)).map (it nx x) = (List.range (t + 1)).map (it nx x) ++ [it nx x (t + 1)] := by
  rw [List.range_succ, List.map_append]; rfl
set_option maxRecDepth 100000 in
set_option maxHeartbeats 4000000 in
theorem impl_walk (A : Option Addr) (n c : Nat) (P : Nat → Nat → Int) (B : Option Addr) (m d : Nat) (L : Nat → Nat → Int) (hnc : n ≤ c) (hcm : c ≤ 9223372036854775807) (hmd : m ≤ d) (hdm : d ≤ 9223372036854775807) (hwin : winB n P m L = true) (x : Nat) (hx : x < 2 * m) (w : World) (hr : Recs w 2 A n P) (hs : Recs w 2 B m L) :
    Calls Tryz.prog 37 #[.agg #[.slice A n c, .slice B m d], .int .i64 (x : Int)] w (PostI w 3 (rnd (nxt P L m) (2 * m) x).length (nums (rnd (nxt P L m) (2 * m) x))) := by
  have hm20 := (winB_get hwin).1.2.2
  have hbij := nxt_bij P L m
  have HN := Lib.hid (fun W (Z : Ext w W) (y : Nat) (hy : y < 2 * m) => (show Calls Tryz.prog 60 #[.agg #[.slice A n c, .slice B m d], .int .i64 ((tw y : Nat) : Int), .int .i64 (-1)] W fun e w' => e = .returned (.int .i64 (nxt P L m y : Nat)) ∧ Ext W w' from impl_beside A n c P B m d L hnc hcm hmd hdm hwin (tw y) (tw_lt hy) W (hr.ext Z) (hs.ext Z)))
  have HIT := Lib.hid (fun t => it_lt hbij hx t)
  have HPL := Lib.hid (per_le hbij hx)
  have HPA := Lib.hid (per_at hbij hx)
  have HPF := Lib.hid (fun t (h1 : 1 ≤ t) (h2 : t < per (nxt P L m) (2 * m) x) => per_first (nx := nxt P L m) (M := 2 * m) h1 h2)
  have HPP := Lib.hid (per_pos (nxt P L m) (2 * m) x)
  have HRN := Lib.hid (show rnd (nxt P L m) (2 * m) x = (List.range (per (nxt P L m) (2 * m) x)).map (it (nxt P L m) x) from rfl)
  have HSN := Lib.hid (fun t => impl_rng (nxt P L m) x t)
  have HI1 := Lib.hid (fun t => (show it (nxt P L m) x (t + 1) = nxt P L m (it (nxt P L m) x t) from rfl))
  have hb := bits_tw (d := x) (by omega)
  clear hwin hbij
  generalize hper : per (nxt P L m) (2 * m) x = pe at *
  clear hper
  have hm0 : Mine (w.heap.size + 1) ((w.alloc (.cells #[.slice A n c, .slice B m d] 27)).alloc (.cells #[.int .i64 (x : Int)] 3)) 3 (.slice (some ⟨w.heap.size + 1, 0, none⟩) 1 1) 1 (nums ((List.range (0 + 1)).map (it (nxt P L m) x))) := by
    refine ⟨rfl, ?_, ?_⟩
    · have := World.ownsRow_lit (base := w.heap.size + 1) (e := 3) (size := 1) (w.alloc (.cells #[.slice A n c, .slice B m d] 27)) #[.int .i64 (x : Int)] 1 (by simp) (by simp [maxLen]) (by simp)
      simpa [nums, it] using this
    · intro z hz; simp [nums, it] at hz; subst hz; unfold I64; omega
  go_enter Tryz.func37, Tryz.ntmps37
  go_wp2_with fail
  refine (HN.out _ (by repeat (first | exact Ext.refl _ | apply Ext.alloc)) x hx).mono ?_
  rintro e w2 ⟨rfl, x2⟩
  have q0 := x2.cell (a := ⟨w.heap.size, 0, none⟩) (u := .slice A n c) (by simp [go_sem])
  have q1 := x2.cell (a := ⟨w.heap.size, 1, none⟩) (u := .slice B m d) (by simp [go_sem])
  have X2 : Ext (w.alloc (.cells #[.slice A n c, .slice B m d] 27)) w2 := ((Ext.refl _).alloc _).trans x2
  have hm2 := hm0.ext x2
  have Q0 := Lib.hid q0
  have Q1 := Lib.hid q1
  clear hm0 x2 q0 q1
  go_wp2
  go_loopw [5, 6] (fun v e wr => ∃ t : Nat, t + 1 ≤ pe ∧ e = .int .i64 (it (nxt P L m) x (t + 1) : Nat) ∧ (Ext (w.alloc (.cells #[.slice A n c, .slice B m d] 27)) wr ∧ wr.cell? ⟨w.heap.size, 0, none⟩ = some (.slice A n c) ∧ wr.cell? ⟨w.heap.size, 1, none⟩ = some (.slice B m d)) ∧ Mine (w.heap.size + 1) wr 3 v (t + 1) (nums ((List.range (t + 1)).map (it (nxt P L m) x))) ) (fun v _ _ => 2 * m - (match v with | .slice _ k _ => k | _ => 0))
  case atStart => exact ⟨0, HPP.out, rfl, ⟨X2, Q0.out, Q1.out⟩, hm2⟩
  case round =>
    clear hm2 X2
    obtain ⟨t, ht, rfl, ⟨X, q0, q1⟩, hm⟩ := hrel
    have hlt := HIT.out (t + 1)
    have hpl := HPL.out
    have XW := ((Ext.refl w).alloc _).trans X
    obtain ⟨A', c', rfl, hc1, hc2⟩ := hm.form
    by_cases hx1 : it (nxt P L m) x (t + 1) = x
    · have hte : t + 1 = pe := by
        rcases Nat.lt_or_ge (t + 1) pe with g | g
        · exact absurd hx1 (HPF.out (t + 1) (by omega) g)
        · omega
      have d1 : (((it (nxt P L m) x (t + 1) : Nat) : Int) != (x : Int)) = false := by simp; omega
      subst hte
      have hl : ((List.range (t + 1)).map (it (nxt P L m) x)).length = t + 1 := by simp
      generalize it (nxt P L m) x (t + 1) = e0 at *
      go_wp2
      go_ret
      rw [HRN.out, hl]
      exact ⟨A', c', rfl, hc1, hc2, hm.more (by omega), XW⟩
    · have hte : t + 1 < pe := by
        rcases Nat.lt_or_ge (t + 1) pe with g | g
        · exact g
        · exact absurd (by rw [show t + 1 = pe by omega]; exact HPA.out) hx1
      have d1 : (((it (nxt P L m) x (t + 1) : Nat) : Int) != (x : Int)) = true := by simp; omega
      have HS1 := Lib.hid (HSN.out t)
      have HI2 := Lib.hid (HI1.out (t + 1))
      have hb2 := bits_tw (d := it (nxt P L m) x (t + 1)) (by omega)
      clear hx1
      generalize it (nxt P L m) x (t + 1) = e0 at *
      go_wp2_with (at_builtin; refine append_int _ rfl _ _ rfl (w.heap.size + 1) _ _ _ rfl (hm.alloc _) (e0 : Int) _ rfl (cell_new1 (by simp)) (by unfold I64; omega) (by omega) (by rw [World.size_alloc]; have := X.size; rw [World.size_alloc] at this; omega) ?_; intro v2 w4 hm4 hg4; have he4 := (hm.alloc (.cells #[.int .i64 (e0 : Int)] 3)).fresh (X.alloc (.cells #[.int .i64 (e0 : Int)] 3)) (by rw [World.size_alloc]; exact Nat.le_refl _) hg4 rfl; have q04 := he4.cell (a := ⟨w.heap.size, 0, none⟩) (u := .slice A n c) (by simp [go_sem]); have q14 := he4.cell (a := ⟨w.heap.size, 1, none⟩) (u := .slice B m d) (by simp [go_sem]))
      rw [← nums_snoc, ← HS1.out] at hm4
      have X4W := ((Ext.refl w).alloc _).trans he4
      clear hm X XW q0 q1
      obtain ⟨A4, c4, rfl, hc14, hc24⟩ := hm4.form
      go_wp2_with fail
      refine (HN.out _ X4W e0 hlt).mono ?_
      rintro e w5 ⟨rfl, x5⟩
      go_wp2
      go_roundw
      case rel => exact ⟨t + 1, by omega, by rw [HI2.out], ⟨he4.trans x5, x5.cell q04, x5.cell q14⟩, hm4.ext x5⟩
      case measure => simp; omega

end Go.Proofs.YtgmhmlhdiklaaaaGreatDoor

/- ArS -/
namespace Go.Proofs.YtgmhmlhdiklaaaaGreatDoor
open Go.RowKit Ring
set_option linter.unusedVariables false

theorem srt_put {lt : Nat → Nat → Bool} {l : List Nat} {x J : Nat} (h : posOf (lt x) (srt lt l) (srt lt l).length = J) : insAt (srt lt l) J x = srt lt (l ++ [x]) := by
  rw [srt_snoc]; unfold ins1; rw [h]
set_option maxRecDepth 100000 in
set_option maxHeartbeats 8000000 in
theorem spec_l05Around (A : Option Addr) (n c : Nat) (P : Nat → Nat → Int) (B : Option Addr) (m d : Nat) (L : Nat → Nat → Int) (hnc : n ≤ c) (hcm : c ≤ 9223372036854775807) (hmd : m ≤ d) (hdm : d ≤ 9223372036854775807) (hwin : winB n P m L = true) (k : Nat) (hk : k < n) (w : World) (hr : Recs w 2 A n P) (hs : Recs w 2 B m L) :
    Calls Tryz.prog 78 #[.agg #[.slice A n c, .slice B m d], .int .i64 (k : Int)] w (PostI w 3 (arr P L m k).length (nums (arr P L m k))) := by
  obtain ⟨⟨hn1, hn12, hm20⟩, hN, _⟩ := winB_get hwin
  have hE := win_ends hwin
  have HEN := Lib.hid (fun W (Z : Ext w W) (x : Nat) (hx : x < 2 * m) => (show Calls Tryz.prog 44 #[.agg #[.slice A n c, .slice B m d], .int .i64 (x : Int)] W fun e w' => e = .returned (.tuple #[.int .i64 (orgN L x : Nat), .int .i64 (endN L x : Nat)]) ∧ Ext W w' from by have z := spec_l05Ends A n c P B m d L hnc hcm hmd hdm x hx hm20 W (hr.ext Z) (hs.ext Z); rwa [orgI_eq hE hx, orgI_eq hE (tw_lt hx)] at z))
  have HBF := Lib.hid (fun W (x y : Nat) (hx : x < 2 * m) (hy : y < 2 * m) => (show Calls Tryz.prog 84 #[.agg #[.int .i64 (P k 0), .int .i64 (P k 1)], .agg #[.int .i64 (P (endN L x) 0), .int .i64 (P (endN L x) 1)], .agg #[.int .i64 (P (endN L y) 0), .int .i64 (P (endN L y) 1)]] W fun e w' => e = .returned (.bool (ltD P L k x y)) ∧ Ext W w' from spec_IsBeforeAround _ _ _ _ _ _ (hr.2 _ _) (hr.2 _ _) (hr.2 _ _) (hr.2 _ _) (hr.2 _ _) (hr.2 _ _) (hN.1 k hk) (hN.1 _ (endN_lt hE hx)) (hN.1 _ (endN_lt hE hy)) W))
  have HEL := Lib.hid (fun x (hx : x < 2 * m) => endN_lt hE hx)
  have hm0 : Mine (w.heap.size + 1) ((w.alloc (.cells #[.slice A n c, .slice B m d] 27)).alloc (.cells #[] 3)) 3 (.slice (some ⟨w.heap.size + 1, 0, none⟩) 0 0) 0 [] := by
    have := Mine.lit0 (w.alloc (.cells #[.slice A n c, .slice B m d] 27)) 3
    simpa using this
  clear hwin hN hE
  obtain ⟨bA, oA, rfl, hbA, _⟩ := hr.at2 (k := 0) (by omega)
  have hq0 : (w.alloc (.cells #[.slice (some ⟨bA, oA, none⟩) n c, .slice B m d] 27)).cell? ⟨w.heap.size, 0, none⟩ = some (.slice (some ⟨bA, oA, none⟩) n c) := by simp [go_sem]
  have hq1 : (w.alloc (.cells #[.slice (some ⟨bA, oA, none⟩) n c, .slice B m d] 27)).cell? ⟨w.heap.size, 1, none⟩ = some (.slice B m d) := by simp [go_sem]
  have Q0 := Lib.hid hq0
  have Q1 := Lib.hid hq1
  clear hq0 hq1
  have k1 : (0 : Int) ≤ (k : Int) := by omega
  have k2 : (k : Int) < (n : Int) := by omega
  have e0 : IntKind.i64.wrap (2 * (m : Int)) = 2 * (m : Int) := by rw [IntKind.wrap_i64]; omega
  go_enter Tryz.func78, Tryz.ntmps78
  go_wp2
  go_loopw [5, 6] (fun v i wr => ∃ q : Nat, q ≤ 2 * m ∧ i = .int .i64 q ∧ Ext (w.alloc (.cells #[.slice (some ⟨bA, oA, none⟩) n c, .slice B m d] 27)) wr ∧ Mine (w.heap.size + 1) wr 3 v (srt (ltD P L k) (atN L k q)).length (nums (srt (ltD P L k) (atN L k q)))) (fun _ i _ => 2 * m - (intOf i).toNat)
  case atStart => exact ⟨0, Nat.zero_le _, rfl, (by repeat (first | exact Ext.refl _ | apply Ext.wgr | apply Ext.drew | apply Ext.drewN | apply Ext.alloc)), hm0⟩
  case round =>
    clear hm0
    obtain ⟨q, hq, rfl, X, hm⟩ := hrel
    have q0 := X.cell Q0.out
    have q1 := X.cell Q1.out
    have XW := ((Ext.refl w).alloc _).trans X
    have hql : (srt (ltD P L k) (atN L k q)).length ≤ q := by rw [srt_len]; unfold atN; exact Nat.le_trans (List.length_filter_le _ _) (by simp)
    by_cases hlt : q < 2 * m
    · have hlt' : (q : Int) < 2 * (m : Int) := by omega
      have HD := Lib.hid (fun W (Z : Ext w W) => HEN.out W Z q hlt)
      by_cases ho : orgN L q = k
      · have d1 : (((orgN L q : Nat) : Int) != (k : Int)) = false := by simp; omega
        have HP := Lib.hid (atN_yes ho)
        have HLT : Hid (∀ y ∈ srt (ltD P L k) (atN L k q), y < 2 * m) := Lib.hid (fun y hy => by have := (atN_mem.1 ((srt_mem _ _ _).1 hy)).1; omega)
        have HPUT := Lib.hid (fun J (hJ : posOf (ltD P L k q) (srt (ltD P L k) (atN L k q)) (srt (ltD P L k) (atN L k q)).length = J) => srt_put (lt := ltD P L k) (l := atN L k q) hJ)
        rw [← HP.out] at HPUT
        clear ho
        have hend := HEL.out q hlt
        obtain ⟨c0, c1⟩ := hr.cell2 (k := k) (by omega)
        obtain ⟨b0, b1⟩ := hr.cell2 hend
        generalize hS : srt (ltD P L k) (atN L k q) = S at *
        clear hS
        go_wp2_with fail
        refine (HD.out _ XW).mono ?_
        rintro e w3 ⟨rfl, x3⟩
        replace q0 := x3.cell q0
        replace q1 := x3.cell q1
        replace X := X.trans x3
        replace XW := XW.trans x3
        replace hm := hm.ext x3
        clear x3 HD
        have hapx := ins_end S q
        obtain ⟨A3, c3, rfl, hc3, hcm3⟩ := hm.form
        go_wp2_with (at_builtin; refine append_int _ rfl _ _ rfl (w.heap.size + 1) _ _ _ rfl (hm.alloc _) (q : Int) _ rfl (cell_new1 (by simp)) (by unfold I64; omega) (by omega) (by rw [World.size_alloc]; have := X.size; rw [World.size_alloc] at this; omega) ?_; intro v2 w4 hm4 hg4; have he4 := (hm.alloc (.cells #[.int .i64 (q : Int)] 3)).fresh (X.alloc (.cells #[.int .i64 (q : Int)] 3)) (by rw [World.size_alloc]; exact Nat.le_refl _) hg4 rfl)
        rw [← nums_snoc, ← hapx] at hm4
        have hn4 := hm4.1
        clear hm X q0 q1 XW
        obtain ⟨A4, c4, rfl, hc4, hcm4⟩ := hm4.form
        obtain ⟨G, rfl⟩ := hm4.some_ (by omega)
        have XW4 := ((Ext.refl w).alloc _).trans he4
        go_loopw [9] (fun i wy => ∃ (j y : Nat), j ≤ S.length ∧ i = .int .i64 j ∧ Hid (posOf (ltD P L k q) S S.length = posOf (ltD P L k q) S j) ∧ Ext (w.alloc (.cells #[.slice (some ⟨bA, oA, none⟩) n c, .slice B m d] 27)) wy ∧ Mine (w.heap.size + 1) wy 3 (.slice (some ⟨G, 0, none⟩) (S.length + 1) c4) (S.length + 1) (nums (insAt S j y))) (fun i _ => (intOf i).toNat)
        case atStart => exact ⟨S.length, q, Nat.le_refl _, rfl, rfl, he4, hm4⟩
        case round =>
          clear hm4 he4 XW4
          obtain ⟨j, y, hj, rfl, HJ, Y, hm5⟩ := hrel
          have q0 := Y.cell Q0.out
          have q1 := Y.cell Q1.out
          have YW := ((Ext.refl w).alloc _).trans Y
          have hgb : w.heap.size + 1 ≤ G := (hm5.lt G rfl).1
          by_cases h0 : 0 < j
          · obtain ⟨p, rfl⟩ : ∃ p, j = p + 1 := ⟨j - 1, by omega⟩
            have hpS : p < S.length := by omega
            have hyp : S.getD p 0 ∈ S := by rw [List.getD_eq_getElem?_getD, List.getElem?_eq_getElem hpS]; exact List.getElem_mem hpS
            have hylt := HLT.out _ hyp
            obtain ⟨hc5, hf5, _, _⟩ := hm5.at_ (k := p) (by omega)
            have hS1 := ins_below (S := S) (x := y) (R := []) (j := p + 1) hj h0
            rw [List.append_nil, Nat.add_sub_cancel] at hS1
            rw [nums_ix, hS1] at hc5
            have hshift := ins_shift (S := S) (y := y) (R := []) (j := p + 1) hj h0
            rw [List.append_nil, List.append_nil, Nat.add_sub_cancel] at hshift
            have HSH := Lib.hid hshift
            have HPO : Hid (posOf (ltD P L k q) S (p + 1) = if ltD P L k q (S.getD p 0) = true then posOf (ltD P L k q) S p else p + 1) := rfl
            clear hyp hS1 hshift
            generalize hU : S.getD p 0 = u at *
            have HUE := Lib.hid hU
            clear hU
            have HU := Lib.hid (fun W (Z : Ext w W) => HEN.out W Z u hylt)
            have HBU := Lib.hid (fun W => HBF.out W q u hlt hylt)
            have huend := HEL.out u hylt
            obtain ⟨u0, u1⟩ := hr.cell2 huend
            have f1 : (0 : Int) ≤ (p : Int) := by omega
            have f2 : (p : Int) < ((S.length : Nat) : Int) + 1 := by omega
            have f3 : IntKind.i64.wrap ((p : Int) + 1 - 1) = (p : Int) := by rw [IntKind.wrap_i64]; omega
            have f4 : IntKind.i64.wrap (p : Int) = (p : Int) := by rw [IntKind.wrap_i64]; omega
            go_wp2
            first | refine wp_region_gr2 (by kernel_rfl) (by kernel_rfl) ?_ | refine wp_region_gr (by kernel_rfl) (by kernel_rfl) ?_
            repeat (go_big_quiet_step ((go_at_call 44; exact gr_of (HU.out _ (YW.trans (by repeat (first | exact Ext.refl _ | apply Ext.wgr | apply Ext.drew | apply Ext.drewN | apply Ext.alloc)))))))
            refine wpQuiet_nil ?_
            intro _ hw'
            obtain ⟨gq, hw''⟩ := hw'
            subst hw''
            have Y6 : Ext (w.alloc (.cells #[.slice (some ⟨bA, oA, none⟩) n c, .slice B m d] 27)) (wgr wr gq) := Y.wgr gq
            have YW6 : Ext w (wgr wr gq) := YW.wgr gq
            replace hm5 := hm5.gr gq
            replace q0 := (Ext.gr wr gq).cell q0
            replace q1 := (Ext.gr wr gq).cell q1
            clear Y YW hc5 hf5 HU
            generalize wgr wr gq = w6 at *
            have g1 : (0 : Int) ≤ (endN L q : Int) := by omega
            have g2 : (endN L q : Int) < (n : Int) := by omega
            have g3 : (0 : Int) ≤ (endN L u : Int) := by omega
            have g4 : (endN L u : Int) < (n : Int) := by omega
            replace u0 := YW6.cell u0
            replace u1 := YW6.cell u1
            have c0' := YW6.cell c0
            have c1' := YW6.cell c1
            have b0' := YW6.cell b0
            have b1' := YW6.cell b1
            cases hbf : ltD P L k q u
            · rw [hbf] at HBU
              rw [if_neg (by rw [hbf]; simp)] at HPO
              have HO := Lib.hid (HPUT.out (p + 1) (HJ.trans HPO.out))
              clear hbf
              go_wp2
              first | refine wp_region_gr2 (by kernel_rfl) (by kernel_rfl) ?_ | refine wp_region_gr (by kernel_rfl) (by kernel_rfl) ?_
              repeat (go_big_quiet_step ((go_at_call 84; exact gr_of (HBU.out _))))
              refine wpQuiet_nil ?_
              intro _ hw'
              obtain ⟨gq, hw''⟩ := hw'
              subst hw''
              have Y7 : Ext (w.alloc (.cells #[.slice (some ⟨bA, oA, none⟩) n c, .slice B m d] 27)) (wgr w6 gq) := Y6.wgr gq
              replace hm5 := hm5.gr gq
              clear u0 u1 c0' c1' b0' b1' q0 q1 Y6 YW6
              generalize wgr w6 gq = w7 at *
              obtain ⟨hc7, hf7, _, _⟩ := hm5.at_ (k := p + 1) (by omega)
              have ix7 : I64 (q : Int) := by unfold I64; omega
              have hm8 := hm5.stored (k := p + 1) (by omega) ix7
              have hput := ins_put (S := S) (x := q) (y := y) (R := []) hj
              rw [List.append_nil, List.append_nil] at hput
              rw [nums_set, hput] at hm8
              have g5 : ((p : Int) + 1).toNat = p + 1 := by omega
              have g6 : (0 : Int) ≤ (p : Int) + 1 := by omega
              have g7 : (p : Int) + 1 < ((S.length : Nat) : Int) + 1 := by omega
              have Y8 := Y7.setCell (p := ⟨G, p + 1, none⟩) (by rw [World.size_alloc]; exact hgb) (.int .i64 (q : Int))
              go_wp2
              go_roundw
              case rel => exact ⟨q + 1, by omega, by go_num, Y8, by rw [← HO.out, insAt_len]; exact hm8⟩
              case measure => simp [intOf]; omega
            · rw [hbf] at HBU
              rw [if_pos hbf] at HPO
              clear hbf
              go_wp2
              first | refine wp_region_gr2 (by kernel_rfl) (by kernel_rfl) ?_ | refine wp_region_gr (by kernel_rfl) (by kernel_rfl) ?_
              repeat (go_big_quiet_step ((go_at_call 84; exact gr_of (HBU.out _))))
              refine wpQuiet_nil ?_
              intro _ hw'
              obtain ⟨gq, hw''⟩ := hw'
              subst hw''
              have Y7 : Ext (w.alloc (.cells #[.slice (some ⟨bA, oA, none⟩) n c, .slice B m d] 27)) (wgr w6 gq) := Y6.wgr gq
              replace hm5 := hm5.gr gq
              clear u0 u1 c0' c1' b0' b1' q0 q1 Y6 YW6
              generalize wgr w6 gq = w7 at *
              obtain ⟨hc5, hf5, _, _⟩ := hm5.at_ (k := p) (by omega)
              have hS1 := ins_below (S := S) (x := y) (R := []) (j := p + 1) hj h0
              rw [List.append_nil, Nat.add_sub_cancel, HUE.out] at hS1
              rw [nums_ix, hS1] at hc5
              clear hS1
              obtain ⟨hc7, hf7, _, _⟩ := hm5.at_ (k := p + 1) (by omega)
              have ix7 : I64 (u : Int) := by unfold I64; omega
              have hm8 := hm5.stored (k := p + 1) (by omega) ix7
              rw [nums_set, HSH.out] at hm8
              have g5 : ((p : Int) + 1).toNat = p + 1 := by omega
              have g6 : (0 : Int) ≤ (p : Int) + 1 := by omega
              have g7 : (p : Int) + 1 < ((S.length : Nat) : Int) + 1 := by omega
              have Y8 := Y7.setCell (p := ⟨G, p + 1, none⟩) (by rw [World.size_alloc]; exact hgb) (.int .i64 (u : Int))
              go_wp2
              go_roundw
              case rel => exact ⟨p, u, by omega, by go_num, HJ.trans HPO.out, Y8, hm8⟩
              case measure => simp [intOf]
          · obtain rfl : j = 0 := by omega
            have HO := Lib.hid (HPUT.out 0 HJ.out)
            obtain ⟨hc7, hf7, _, _⟩ := hm5.at_ (k := 0) (by omega)
            have ix7 : I64 (q : Int) := by unfold I64; omega
            have hm8 := hm5.stored (k := 0) (by omega) ix7
            have hput := ins_put (S := S) (x := q) (y := y) (R := []) hj
            rw [List.append_nil, List.append_nil] at hput
            rw [nums_set, hput] at hm8
            have Y8 := Y.setCell (p := ⟨G, 0, none⟩) (by rw [World.size_alloc]; exact hgb) (.int .i64 (q : Int))
            have g7 : (0 : Int) < ((S.length : Nat) : Int) + 1 := by omega
            go_wp2
            go_roundw
            case rel => exact ⟨q + 1, by omega, by go_num, Y8, by rw [← HO.out, insAt_len]; exact hm8⟩
            case measure => simp [intOf]; omega
      · have d1 : (((orgN L q : Nat) : Int) != (k : Int)) = true := by simp; omega
        have HP := Lib.hid (atN_no ho)
        clear ho
        go_wp2_with fail
        refine (HD.out _ XW).mono ?_
        rintro e w3 ⟨rfl, x3⟩
        go_wp2
        go_roundw
        case rel => exact ⟨q + 1, by omega, by go_num, X.trans x3, by rw [HP.out]; exact hm.ext x3⟩
        case measure => simp [intOf]; omega
    · obtain rfl : q = 2 * m := by omega
      obtain ⟨A', c', rfl, hc1, hc2⟩ := hm.form
      go_wp2
      go_ret
      exact ⟨A', c', rfl, hc1, hc2, hm.more (by omega), XW⟩

end Go.Proofs.YtgmhmlhdiklaaaaGreatDoor

/- RndS -/
namespace Go.Proofs.YtgmhmlhdiklaaaaGreatDoor
open Go.RowKit Ring
set_option linter.unusedVariables false

theorem step_mod' {i n : Nat} (h : i < n) : (((i : Nat) : Int) + -1 + (n : Int)) % (n : Int) = (((i + n - 1) % n : Nat) : Int) := by
  rw [show ((i : Nat) : Int) + -1 + (n : Int) = ((i + n - 1 : Nat) : Int) by omega, ← Int.natCast_emod]
set_option maxRecDepth 100000 in
set_option maxHeartbeats 4000000 in
theorem spec_l05Step (A : Option Addr) (n c : Nat) (P : Nat → Nat → Int) (B : Option Addr) (m d : Nat) (L : Nat → Nat → Int) (hnc : n ≤ c) (hcm : c ≤ 9223372036854775807) (hmd : m ≤ d) (hdm : d ≤ 9223372036854775807) (hwin : winB n P m L = true) (x : Nat) (hx : x < 2 * m) (w : World) (hr : Recs w 2 A n P) (hs : Recs w 2 B m L) :
    Calls Tryz.prog 67 #[.agg #[.slice A n c, .slice B m d], .int .i64 (x : Int), .int .i64 (-1)] w fun e w' => e = .returned (.int .i64 (prd (arr P L m (orgN L x)) x : Nat)) ∧ Ext w w' := by
  obtain ⟨⟨hn1, hn12, hm20⟩, hN, _⟩ := winB_get hwin
  have hE := win_ends hwin
  have hk := orgN_lt hE hx
  have hxm : x ∈ arr P L m (orgN L x) := arr_self hx
  have HEN := Lib.hid (fun W (Z : Ext w W) => (show Calls Tryz.prog 44 #[.agg #[.slice A n c, .slice B m d], .int .i64 (x : Int)] W fun e w' => e = .returned (.tuple #[.int .i64 (orgN L x : Nat), .int .i64 (endN L x : Nat)]) ∧ Ext W w' from by have z := spec_l05Ends A n c P B m d L hnc hcm hmd hdm x hx hm20 W (hr.ext Z) (hs.ext Z); rwa [orgI_eq hE hx, orgI_eq hE (tw_lt hx)] at z))
  have HAR := Lib.hid (fun W (Z : Ext w W) => spec_l05Around A n c P B m d L hnc hcm hmd hdm hwin (orgN L x) hk W (hr.ext Z) (hs.ext Z))
  have hlen : (arr P L m (orgN L x)).length ≤ 12 := by unfold arr; rw [srt_len]; have := deg_le hwin (orgN L x); omega
  have hidx := idx_lt hxm
  have hget := idx_get hxm
  have HFIRST := Lib.hid (fun j (h : j < idx (arr P L m (orgN L x)) x) => idx_first h)
  have hp : prd (arr P L m (orgN L x)) x = (arr P L m (orgN L x)).getD ((idx (arr P L m (orgN L x)) x + (arr P L m (orgN L x)).length - 1) % (arr P L m (orgN L x)).length) 0 := rfl
  have hmod := step_mod' hidx
  have hq : (idx (arr P L m (orgN L x)) x + (arr P L m (orgN L x)).length - 1) % (arr P L m (orgN L x)).length < (arr P L m (orgN L x)).length := Nat.mod_lt _ (by omega)
  have HP := Lib.hid hp
  clear hwin hN hE hxm hp
  generalize arr P L m (orgN L x) = l at *
  generalize (idx l x + l.length - 1) % l.length = q at hq hmod HP
  generalize hi : idx l x = i at *
  clear hi
  generalize orgN L x = k at *
  go_enter Tryz.func67, Tryz.ntmps67
  go_wp2_with fail
  refine (HEN.out _ ((Ext.refl _).alloc _)).mono ?_
  rintro e wa ⟨rfl, xa⟩
  have q0 := xa.cell (a := ⟨w.heap.size, 0, none⟩) (u := .slice A n c) (by simp [go_sem])
  have q1 := xa.cell (a := ⟨w.heap.size, 1, none⟩) (u := .slice B m d) (by simp [go_sem])
  have Xa := ((Ext.refl w).alloc _).trans xa
  go_wp2_with fail
  refine (HAR.out _ Xa).mono ?_
  rintro e wb ⟨Ab, cb, rfl, ib, jb, mb, xb⟩
  have Xb := Xa.trans xb
  clear q0 q1 HEN HAR xa xb Xa
  obtain ⟨G, rfl⟩ := mb.some_ (by omega)
  have MB := Lib.hid mb
  clear mb
  go_wp2
  go_loopw [10] (fun v wr => ∃ j : Nat, j ≤ i ∧ v = .int .i64 j ∧ wr = wb) (fun v _ => l.length - (intOf v).toNat)
  case atStart => exact ⟨0, Nat.zero_le _, rfl, rfl⟩
  case round =>
    obtain ⟨j, hj, rfl, rfl⟩ := hrel
    have hjl : j < l.length := by omega
    obtain ⟨hc, _, _, _⟩ := MB.out.at_ hjl
    rw [nums_ix] at hc
    have u1 : (0 : Int) ≤ (j : Int) := by omega
    have u2 : (j : Int) < (l.length : Int) := by omega
    by_cases hji : j = i
    · subst hji
      rw [hget] at hc
      obtain ⟨hc2, _, _, _⟩ := MB.out.at_ hq
      rw [nums_ix, ← HP.out] at hc2
      have u3 : (0 : Int) ≤ (q : Int) := by omega
      have u4 : (q : Int) < (l.length : Int) := by omega
      go_wp2
      go_ret
      exact ⟨rfl, Xb⟩
    · have hne := HFIRST.out j (by omega)
      have d1 : (((l.getD j 0 : Nat) : Int) == (x : Int)) = false := by rw [beq_eq_false_iff_ne]; omega
      generalize l.getD j 0 = y at *
      go_wp2
      go_roundw
      case rel => exact ⟨j + 1, by omega, by go_num, trivial⟩
      case measure => simp [intOf]; omega
set_option maxHeartbeats 2000000 in
theorem spec_l06Next (A : Option Addr) (n c : Nat) (P : Nat → Nat → Int) (B : Option Addr) (m d : Nat) (L : Nat → Nat → Int) (hnc : n ≤ c) (hcm : c ≤ 9223372036854775807) (hmd : m ≤ d) (hdm : d ≤ 9223372036854775807) (hwin : winB n P m L = true) (x : Nat) (hx : x < 2 * m) (w : World) (hr : Recs w 2 A n P) (hs : Recs w 2 B m L) :
    Calls Tryz.prog 42 #[.agg #[.slice A n c, .slice B m d], .int .i64 (x : Int)] w fun e w' => e = .returned (.int .i64 (nxt P L m x : Nat)) ∧ Ext w w' := by
  have hm20 := (winB_get hwin).1.2.2
  have HS := Lib.hid (fun W (Z : Ext w W) => spec_l05Step A n c P B m d L hnc hcm hmd hdm hwin (tw x) (tw_lt hx) W (hr.ext Z) (hs.ext Z))
  have HN := Lib.hid (show nxt P L m x = prd (arr P L m (orgN L (tw x))) (tw x) from rfl)
  have bx := bits_tw (d := x) (by omega)
  generalize prd (arr P L m (orgN L (tw x))) (tw x) = y at *
  go_enter Tryz.func42, Tryz.ntmps42
  go_wp2_with fail
  refine (HS.out _ ((Ext.refl _).alloc _)).mono ?_
  rintro e w2 ⟨rfl, x2⟩
  go_wp2
  go_ret
  exact ⟨ret_i (by rw [HN.out]), ((Ext.refl w).alloc _).trans x2⟩

theorem spec_rng (nx : Nat → Nat) (x t : Nat) : (List.range (t + 1 + 1)).map (it nx x) = (List.range (t + 1)).map (it nx x) ++ [it nx x (t + 1)] := by
  rw [List.range_succ, List.map_append]; rfl
set_option maxRecDepth 100000 in
set_option maxHeartbeats 4000000 in
theorem spec_walk (A : Option Addr) (n c : Nat) (P : Nat → Nat → Int) (B : Option Addr) (m d : Nat) (L : Nat → Nat → Int) (hnc : n ≤ c) (hcm : c ≤ 9223372036854775807) (hmd : m ≤ d) (hdm : d ≤ 9223372036854775807) (hwin : winB n P m L = true) (x : Nat) (hx : x < 2 * m) (w : World) (hr : Recs w 2 A n P) (hs : Recs w 2 B m L) :
    Calls Tryz.prog 24 #[.agg #[.slice A n c, .slice B m d], .int .i64 (x : Int)] w (PostI w 3 (rnd (nxt P L m) (2 * m) x).length (nums (rnd (nxt P L m) (2 * m) x))) := by
  have hm20 := (winB_get hwin).1.2.2
  have hbij := nxt_bij P L m
  have HN := Lib.hid (fun W (Z : Ext w W) (y : Nat) (hy : y < 2 * m) => spec_l06Next A n c P B m d L hnc hcm hmd hdm hwin y hy W (hr.ext Z) (hs.ext Z))
  have HIT := Lib.hid (fun t => it_lt hbij hx t)
  have HPL := Lib.hid (per_le hbij hx)
  have HPA := Lib.hid (per_at hbij hx)
  have HPF := Lib.hid (fun t (h1 : 1 ≤ t) (h2 : t < per (nxt P L m) (2 * m) x) => per_first (nx := nxt P L m) (M := 2 * m) h1 h2)
  have HPP := Lib.hid (per_pos (nxt P L m) (2 * m) x)
  have HRN := Lib.hid (show rnd (nxt P L m) (2 * m) x = (List.range (per (nxt P L m) (2 * m) x)).map (it (nxt P L m) x) from rfl)
  have HSN := Lib.hid (fun t => spec_rng (nxt P L m) x t)
  have HI1 := Lib.hid (fun t => (show it (nxt P L m) x (t + 1) = nxt P L m (it (nxt P L m) x t) from rfl))
  have hb := bits_tw (d := x) (by omega)
  clear hwin hbij
  generalize hper : per (nxt P L m) (2 * m) x = pe at *
  clear hper
  have hm0 : Mine (w.heap.size + 1) ((w.alloc (.cells #[.slice A n c, .slice B m d] 27)).alloc (.cells #[.int .i64 (x : Int)] 3)) 3 (.slice (some ⟨w.heap.size + 1, 0, none⟩) 1 1) 1 (nums ((List.range (0 + 1)).map (it (nxt P L m) x))) := by
    refine ⟨rfl, ?_, ?_⟩
    · have := World.ownsRow_lit (base := w.heap.size + 1) (e := 3) (size := 1) (w.alloc (.cells #[.slice A n c, .slice B m d] 27)) #[.int .i64 (x : Int)] 1 (by simp) (by simp [maxLen]) (by simp)
      simpa [nums, it] using this
    · intro z hz; simp [nums, it] at hz; subst hz; unfold I64; omega
  go_enter Tryz.func24, Tryz.ntmps24
  go_wp2_with fail
  refine (HN.out _ (by repeat (first | exact Ext.refl _ | apply Ext.alloc)) x hx).mono ?_
  rintro e w2 ⟨rfl, x2⟩
  have q0 := x2.cell (a := ⟨w.heap.size, 0, none⟩) (u := .slice A n c) (by simp [go_sem])
  have q1 := x2.cell (a := ⟨w.heap.size, 1, none⟩) (u := .slice B m d) (by simp [go_sem])
  have X2 : Ext (w.alloc (.cells #[.slice A n c, .slice B m d] 27)) w2 := ((Ext.refl _).alloc _).trans x2
  have hm2 := hm0.ext x2
  have Q0 := Lib.hid q0
  have Q1 := Lib.hid q1
  clear hm0 x2 q0 q1
  go_wp2
  go_loopw [5, 6] (fun v e wr => ∃ t : Nat, t + 1 ≤ pe ∧ e = .int .i64 (it (nxt P L m) x (t + 1) : Nat) ∧ (Ext (w.alloc (.cells #[.slice A n c, .slice B m d] 27)) wr ∧ wr.cell? ⟨w.heap.size, 0, none⟩ = some (.slice A n c) ∧ wr.cell? ⟨w.heap.size, 1, none⟩ = some (.slice B m d)) ∧ Mine (w.heap.size + 1) wr 3 v (t + 1) (nums ((List.range (t + 1)).map (it (nxt P L m) x))) ) (fun v _ _ => 2 * m - (match v with | .slice _ k _ => k | _ => 0))
  case atStart => exact ⟨0, HPP.out, rfl, ⟨X2, Q0.out, Q1.out⟩, hm2⟩
  case round =>
    clear hm2 X2
    obtain ⟨t, ht, rfl, ⟨X, q0, q1⟩, hm⟩ := hrel
    have hlt := HIT.out (t + 1)
    have hpl := HPL.out
    have XW := ((Ext.refl w).alloc _).trans X
    obtain ⟨A', c', rfl, hc1, hc2⟩ := hm.form
    by_cases hx1 : it (nxt P L m) x (t + 1) = x
    · have hte : t + 1 = pe := by
        rcases Nat.lt_or_ge (t + 1) pe with g | g
        · exact absurd hx1 (HPF.out (t + 1) (by omega) g)
        · omega
      have d1 : (((it (nxt P L m) x (t + 1) : Nat) : Int) != (x : Int)) = false := by simp; omega
      subst hte
      have hl : ((List.range (t + 1)).map (it (nxt P L m) x)).length = t + 1 := by simp
      generalize it (nxt P L m) x (t + 1) = e0 at *
      go_wp2
      go_ret
      rw [HRN.out, hl]
      exact ⟨A', c', rfl, hc1, hc2, hm.more (by omega), XW⟩
    · have hte : t + 1 < pe := by
        rcases Nat.lt_or_ge (t + 1) pe with g | g
        · exact g
        · exact absurd (by rw [show t + 1 = pe by omega]; exact HPA.out) hx1
      have d1 : (((it (nxt P L m) x (t + 1) : Nat) : Int) != (x : Int)) = true := by simp; omega
      have HS1 := Lib.hid (HSN.out t)
      have HI2 := Lib.hid (HI1.out (t + 1))
      have hb2 := bits_tw (d := it (nxt P L m) x (t + 1)) (by omega)
      clear hx1
      generalize it (nxt P L m) x (t + 1) = e0 at *
      go_wp2_with (at_builtin; refine append_int _ rfl _ _ rfl (w.heap.size + 1) _ _ _ rfl (hm.alloc _) (e0 : Int) _ rfl (cell_new1 (by simp)) (by unfold I64; omega) (by omega) (by rw [World.size_alloc]; have := X.size; rw [World.size_alloc] at this; omega) ?_; intro v2 w4 hm4 hg4; have he4 := (hm.alloc (.cells #[.int .i64 (e0 : Int)] 3)).fresh (X.alloc (.cells #[.int .i64 (e0 : Int)] 3)) (by rw [World.size_alloc]; exact Nat.le_refl _) hg4 rfl; have q04 := he4.cell (a := ⟨w.heap.size, 0, none⟩) (u := .slice A n c) (by simp [go_sem]); have q14 := he4.cell (a := ⟨w.heap.size, 1, none⟩) (u := .slice B m d) (by simp [go_sem]))
      rw [← nums_snoc, ← HS1.out] at hm4
      have X4W := ((Ext.refl w).alloc _).trans he4
      clear hm X XW q0 q1
      obtain ⟨A4, c4, rfl, hc14, hc24⟩ := hm4.form
      go_wp2_with fail
      refine (HN.out _ X4W e0 hlt).mono ?_
      rintro e w5 ⟨rfl, x5⟩
      go_wp2
      go_roundw
      case rel => exact ⟨t + 1, by omega, by rw [HI2.out], ⟨he4.trans x5, x5.cell q04, x5.cell q14⟩, hm4.ext x5⟩
      case measure => simp; omega

end Go.Proofs.YtgmhmlhdiklaaaaGreatDoor
