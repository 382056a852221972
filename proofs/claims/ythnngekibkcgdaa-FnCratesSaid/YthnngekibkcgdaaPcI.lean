/-
  The packing of crates, on the program's side. No conditions.
-/
import Derived.Deep.DeepCutAuto
import Derived.Deep.CutRange
import Derived.Deep.DrawnRows
import Derived.RowKit3
import Derived.Test.YthnngekibkcgdaaPcP
import Derived.Test.YthnngekibkcgdaaSortW
import Derived.Test.YthnngekibkcgdaaWithin
import Derived.Deep.RegionHeld3
namespace Go.Proofs.Ythnngekibkcgdaa
open Go.RowKit Ring
set_option linter.unusedVariables false

attribute [local go_sem ↓] Go.wp_at_zero Go.wp_at_succ
attribute [local go_sem, local simp] Go.World.cell?_alloc_some Go.World.frozen?_alloc_past
set_option maxRecDepth 100000 in
set_option maxHeartbeats 16000000 in
theorem impl_PackCrates (A : Option Addr) (n c : Nat) (f : Nat → Nat → Int) (lim : Int) (hnc : n ≤ c) (hcm : c ≤ 9223372036854775807) (hlim : I64 lim) (w : World) (hr : Recs w 1 A n f) :
    Calls Try.prog 15 #[.slice A n c, .int .i64 lim] w (PostKB w (pcN n f lim) (pcL n f lim) lim (pcB n f lim)) := by
  have HA1 := Lib.hid (fun W (Z : Ext w W) => impl_allWithin A n c f 0 10000 (by omega) W (hr.ext Z))
  have HA2 := Lib.hid (fun W (Z : Ext w W) => impl_allWithin A n c f 0 lim (by omega) W (hr.ext Z))
  have HW := Lib.hid (fun W => within_any lim 0 100000 W)
  by_cases hbig : 20 < n
  · have hb1 : (20 : Int) < (n : Int) := by omega
    have HB := Lib.hid (show pcB n f lim = false by unfold pcB; simp; omega)
    have HN := Lib.hid (show pcN n f lim = 0 by unfold pcN; rw [HB.out]; rfl)
    go_enter Try.func15, Try.ntmps15
    have hb0 : (w.alloc (.cells #[.slice A n c] 26)).cell? ⟨w.heap.size, 0, none⟩ = some (.slice A n c) := by simp [go_sem]
    have X0 : Ext w (w.alloc (.cells #[.slice A n c] 26)) := (Ext.refl w).alloc _
    go_wp2
    go_ret2
    unfold PostKB
    rw [HB.out, HN.out]
    exact ⟨none, 0, rfl, Nat.le_refl _, by omega, MineK.nil_ _ _ _ _ (fun _ => hlim), X0⟩
  have hb1 : ¬ (20 : Int) < (n : Int) := by omega
  cases h1 : allIn n f 0 10000
  · have HB := Lib.hid (show pcB n f lim = false by unfold pcB; simp [h1])
    have HN := Lib.hid (show pcN n f lim = 0 by unfold pcN; rw [HB.out]; rfl)
    rw [h1] at HA1
    go_enter Try.func15, Try.ntmps15
    have hb0 : (w.alloc (.cells #[.slice A n c] 26)).cell? ⟨w.heap.size, 0, none⟩ = some (.slice A n c) := by simp [go_sem]
    have X0 : Ext w (w.alloc (.cells #[.slice A n c] 26)) := (Ext.refl w).alloc _
    go_wp2_with fail
    refine (HA1.out _ (X0)).mono ?_
    rintro e w1 ⟨rfl, x1⟩
    replace hb0 := x1.cell hb0
    have X1 := X0.trans x1
    go_wp2
    go_ret2
    unfold PostKB
    rw [HB.out, HN.out]
    exact ⟨none, 0, rfl, Nat.le_refl _, by omega, MineK.nil_ _ _ _ _ (fun _ => hlim), X1⟩
  have h1' := h1
  rw [h1] at HA1
  cases h2 : inB lim 0 100000
  · have HB := Lib.hid (show pcB n f lim = false by unfold pcB; simp [h2])
    have HN := Lib.hid (show pcN n f lim = 0 by unfold pcN; rw [HB.out]; rfl)
    rw [h2] at HW
    go_enter Try.func15, Try.ntmps15
    have hb0 : (w.alloc (.cells #[.slice A n c] 26)).cell? ⟨w.heap.size, 0, none⟩ = some (.slice A n c) := by simp [go_sem]
    have X0 : Ext w (w.alloc (.cells #[.slice A n c] 26)) := (Ext.refl w).alloc _
    go_wp2_with fail
    refine (HA1.out _ (X0)).mono ?_
    rintro e w1 ⟨rfl, x1⟩
    replace hb0 := x1.cell hb0
    have X1 := X0.trans x1
    go_wp2_with fail
    refine (HW.out _).mono ?_
    rintro e w2 ⟨rfl, x2⟩
    replace hb0 := x2.cell hb0
    have X2 := X1.trans x2
    go_wp2
    go_ret2
    unfold PostKB
    rw [HB.out, HN.out]
    exact ⟨none, 0, rfl, Nat.le_refl _, by omega, MineK.nil_ _ _ _ _ (fun _ => hlim), X2⟩
  have h2' := h2
  rw [h2] at HW
  cases h3 : allIn n f 0 lim
  · have HB := Lib.hid (show pcB n f lim = false by unfold pcB; simp [h3])
    have HN := Lib.hid (show pcN n f lim = 0 by unfold pcN; rw [HB.out]; rfl)
    rw [h3] at HA2
    go_enter Try.func15, Try.ntmps15
    have hb0 : (w.alloc (.cells #[.slice A n c] 26)).cell? ⟨w.heap.size, 0, none⟩ = some (.slice A n c) := by simp [go_sem]
    have X0 : Ext w (w.alloc (.cells #[.slice A n c] 26)) := (Ext.refl w).alloc _
    go_wp2_with fail
    refine (HA1.out _ (X0)).mono ?_
    rintro e w1 ⟨rfl, x1⟩
    replace hb0 := x1.cell hb0
    have X1 := X0.trans x1
    go_wp2_with fail
    refine (HW.out _).mono ?_
    rintro e w2 ⟨rfl, x2⟩
    replace hb0 := x2.cell hb0
    have X2 := X1.trans x2
    go_wp2_with fail
    refine (HA2.out _ (X2)).mono ?_
    rintro e w3 ⟨rfl, x3⟩
    replace hb0 := x3.cell hb0
    have X3 := X2.trans x3
    go_wp2
    go_ret2
    unfold PostKB
    rw [HB.out, HN.out]
    exact ⟨none, 0, rfl, Nat.le_refl _, by omega, MineK.nil_ _ _ _ _ (fun _ => hlim), X3⟩
  have h3' := h3
  rw [h3] at HA2
  have HB := Lib.hid (show pcB n f lim = true by unfold pcB; rw [h1, h2, h3]; simp; omega)
  have HN := Lib.hid (show pcN n f lim = (pcs f lim (ordN f n) n).1 by unfold pcN; rw [HB.out]; rfl)
  have hl0 := inB_of' h2
  have HF := Lib.hid (fun k (hk : k < n) => allIn_get h3 hk)
  have HSUM := Lib.hid (pcs_sum (f := f) (lim := lim) (ord := ordN f n) hl0.1 (fun x hx => allIn_get h3 (ordN_mem.1 hx)))
  have HLE := Lib.hid (pcs_le (f := f) (lim := lim) (ord := ordN f n))
  have HOUT := Lib.hid (pcs_out (f := f) (lim := lim) (ord := ordN f n))
  have HSUC := Lib.hid (pcs_succ (f := f) (lim := lim) (ord := ordN f n))
  have HOL := Lib.hid (ordN_len f n)
  have HAT := Lib.hid (fun i (hi : i < n) => ix_nums_at (f := f) hi)
  go_enter Try.func15, Try.ntmps15
  have hb0 : (w.alloc (.cells #[.slice A n c] 26)).cell? ⟨w.heap.size, 0, none⟩ = some (.slice A n c) := by simp [go_sem]
  have X0 : Ext w (w.alloc (.cells #[.slice A n c] 26)) := (Ext.refl w).alloc _
  go_wp2_with fail
  refine (HA1.out _ (X0)).mono ?_
  rintro e w1 ⟨rfl, x1⟩
  replace hb0 := x1.cell hb0
  have X1 := X0.trans x1
  go_wp2_with fail
  refine (HW.out _).mono ?_
  rintro e w2 ⟨rfl, x2⟩
  replace hb0 := x2.cell hb0
  have X2 := X1.trans x2
  go_wp2_with fail
  refine (HA2.out _ (X2)).mono ?_
  rintro e w3 ⟨rfl, x3⟩
  replace hb0 := x3.cell hb0
  have X3 := X2.trans x3
  go_wp2_with (obtain ⟨i0, hi, hz0, hz1, hz2⟩ := info_parts int_info; refine wpList_make_full _ rfl _ _ 26 rfl w3.heap.size 3 i0 (.int .i64 0) 1 Try.underlying26 hi hz0 hz1 .i64 .i64 n n n rfl rfl rfl rfl (by rw [hz2]; omega) (by simp only [maxLen]; omega) (Nat.le_refl _) ?_; intro w4 hown hg4; clear hi hz0 hz1 hz2; rw [madeInts n] at hown)
  have Y4 : Ext w3 w4 := (Ext.refl w3).grown hg4 (by simp)
  have m4 : Mine w3.heap.size w4 3 (.slice (some ⟨w3.heap.size, 0, none⟩) n n) n (tab n fun i => if i < 0 then (i : Int) else 0) := ⟨tab_len _ _, by simpa using hown, fun z hz => by simp [tab] at hz; obtain ⟨_, _, rfl⟩ := hz; exact I64.zero⟩
  have hr3 := hr.ext X3
  have HSRT : Hid (∀ W, Ext w3 W → Mine w3.heap.size W 3 (.slice (some ⟨w3.heap.size, 0, none⟩) n n) n (nums (List.range n)) → Calls Try.prog 29 #[.slice (some ⟨w3.heap.size, 0, none⟩) n n, .func (.func 30) #[] #[.pointer (some ⟨w.heap.size, 0, none⟩)]] W fun e w' => e = .returned (.tuple #[]) ∧ Ext w3 w' ∧ Mine w3.heap.size w' 3 (.slice (some ⟨w3.heap.size, 0, none⟩) n n) n (nums (ordN f n))) := Lib.hid (fun W Z hm => by
    have := pack_sort w.heap.size (fun x y => f y 0 - f x 0) (fun x => x < n) w3 (fun W' Z' x y hx hy => pack_cmp A n c f x y w.heap.size hx hy h1' W' (hr3.ext Z') (Z'.cell hb0)) w3.heap.size n (List.range n) (by rw [List.length_range]; omega) (fun x hx => List.mem_range.1 hx) (fun x hx => by have := List.mem_range.1 hx; omega) W Z (by rw [List.length_range]; exact hm)
    rw [List.length_range] at this
    exact this)
  clear hown hg4 HA1 HA2 HW hr
  go_wp2
  go_loopw [39] (fun i wr => ∃ j : Nat, j ≤ n ∧ i = .int .i64 j ∧ Mine w3.heap.size wr 3 (.slice (some ⟨w3.heap.size, 0, none⟩) n n) n (tab n fun i => if i < j then (i : Int) else 0) ∧ Ext w3 wr) (fun i _ => n - (intOf i).toNat)
  case atStart => exact ⟨0, Nat.zero_le _, rfl, m4, Y4⟩
  case round =>
    clear m4 Y4
    obtain ⟨j, hj, rfl, hm, Y⟩ := hrel
    by_cases hlt : j < n
    · obtain ⟨hc, hf, _, _⟩ := hm.at_ hlt
      have hst := hm.stored (z := (j : Int)) hlt (by unfold I64; omega)
      rw [show (j : Int) = (fun i : Nat => if i < j + 1 then (i : Int) else 0) j by simp, tab_set (g := fun i : Nat => if i < j + 1 then (i : Int) else 0) hlt (fun i hi => by
        by_cases e : i = j
        · subst e; simp
        · rw [if_neg e]
          by_cases q : i < j
          · rw [if_pos q, if_pos (by omega)]
          · rw [if_neg q, if_neg (by omega)])] at hst
      have HS := Lib.hid hst
      clear hst
      go_wp2
      go_roundw
      case rel => exact ⟨j + 1, by omega, by go_num, by simpa using HS.out, Y.setCell (Nat.le_refl _) _⟩
      case measure => simp [intOf]; omega
    · obtain rfl : n = j := by omega
      have e0 : (tab n fun i => if i < n then (i : Int) else 0) = nums (List.range n) := by
        rw [nums_range]
        exact List.map_congr_left fun i hi => by simp at hi; simp [hi]
      rw [e0] at hm
      go_wp2_with fail
      refine (HSRT.out _ Y hm).mono ?_
      rintro e w5 ⟨rfl, Y5, hm5⟩
      have hor := hm5.recs
      have hb5 := Y5.cell hb0
      have hr5 := hr3.ext Y5
      have XW5 : Ext w w5 := X3.trans Y5
      have hs5 := XW5.size
      have HRL := Lib.hid (pcs_rl (f := f) (lim := lim) (ord := ordN f n))
      have HPL := Lib.hid (show pcL n f lim = fun j => srtN ((pcs f lim (ordN f n) n).2 j) from rfl)
      clear hm5 Y5 hm Y HSRT hr3 hb0 X0 X1 X2 X3 x1 x2 x3
      generalize ordN f n = ord at *
      go_wp2
      go_loopw [8, 9, 52] (fun o s i wr => ∃ (q : Nat) (Av As : Option Addr) (cv cs : Nat), q ≤ n ∧ i = .int .i64 q ∧ o = .slice Av (pcs f lim ord q).1 cv ∧ s = .slice As (pcs f lim ord q).1 cs ∧ MineX w5.heap.size wr (.slice Av (pcs f lim ord q).1 cv) (pcs f lim ord q).1 (fun j => nums ((pcs f lim ord q).2 j)) (fun _ => lim) (Value.slice As (pcs f lim ord q).1 cs).ownBlock ∧ Mine w5.heap.size wr 3 (.slice As (pcs f lim ord q).1 cs) (pcs f lim ord q).1 (tab (pcs f lim ord q).1 fun j => sumF f ((pcs f lim ord q).2 j)) ∧ Ext w5 wr) (fun _ _ i _ => n - (intOf i).toNat)
      case atStart => exact ⟨0, none, none, 0, 0, Nat.zero_le _, rfl, rfl, rfl, MineX.nil_ _ _ _ _ (fun _ => hlim) _, Mine.nil_ _ _ _, Ext.refl w5⟩
      case round =>
        obtain ⟨q, Av, As, cv, cs, hq, rfl, rfl, rfl, hmx, hms, X⟩ := hrel
        by_cases hlt : q < n
        · obtain ⟨k, hk, ek, ei⟩ := HAT.out q hlt
          have hco : wr.cell? ⟨w3.heap.size, q, none⟩ = some (.int .i64 (k : Int)) := by
            have := (hor.ext X).cell1 hlt
            rw [Nat.zero_add] at this
            rw [← ei]
            exact this
          obtain ⟨ba, oa, rfl, hba, hck0⟩ := hr5.at1 hk
          have HKF := HF.out k hk
          have HSQ := Lib.hid (HSUM.out q (by rw [HOL.out]; omega))
          have HSC := Lib.hid (HSUC.out q)
          rw [ek] at HSC
          have hmq := HLE.out q
          have HLT := Lib.hid (HRL.out q)
          have HOQ := Lib.hid (HOUT.out q)
          clear ek ei
          generalize pcs f lim ord q = SS at *
          obtain ⟨m, L⟩ := SS
          simp only at HSQ HSC hmq HLT HOQ hmx hms ⊢
          have k1 : (0 : Int) ≤ (k : Int) := by omega
          have k2 : (k : Int) < (n : Int) := by omega
          go_wp2
          go_loopw [12] (fun a wq => ∃ t : Nat, t ≤ m ∧ a = .int .i64 t ∧ (∀ i, i < t → decide (sumF f (L i) + f k 0 ≤ lim) = false) ∧ MineX w5.heap.size wq (.slice Av m cv) m (fun j => nums (L j)) (fun _ => lim) (Value.slice As m cs).ownBlock ∧ Mine w5.heap.size wq 3 (.slice As m cs) m (tab m fun j => sumF f (L j)) ∧ Ext w5 wq) (fun a _ => m - (intOf a).toNat)
          case atStart => exact ⟨0, Nat.zero_le _, rfl, fun i hi => absurd hi (by omega), hmx, hms, X⟩
          case round =>
            clear hmx hms X hco
            obtain ⟨t, ht, rfl, hall, hmx, hms, X⟩ := hrel
            have HALL := Lib.hid hall
            clear hall
            have hbx := X.cell hb5
            have hck := X.cell hck0
            by_cases htm : t < m
            · obtain ⟨gs, rfl⟩ := hms.some_ (by omega)
              obtain ⟨sc, sf, sb, sl⟩ := hms.at_ htm
              rw [tab_ix htm] at sc
              have hsq := HSQ.out t
              have t1 : (t : Int) < (m : Int) := by omega
              have t2 : ((t : Int) == (m : Int)) = false := by simp; omega
              have t3 : (0 : Int) ≤ (t : Int) := by omega
              by_cases hle : sumF f (L t) + f k 0 ≤ lim
              · have hgt : decide (lim < sumF f (L t) + f k 0) = false := by simpa using hle
                have HT2 : Hid (pcs f lim ord (q + 1) = (m, upd L t (L t ++ [k]))) := Lib.hid (by rw [HSC.out t (fstP_at htm (by simpa using hle) HALL.out), Nat.max_eq_left (by omega)])
                clear HSC HALL
                go_wp2
                first | refine wp_region_gr2 (by kernel_rfl) (by kernel_rfl) ?_ | refine wp_region_gr (by kernel_rfl) (by kernel_rfl) ?_
                repeat (go_big_quiet_step (fail))
                refine wpQuiet_nil ?_
                intro _ hw'
                obtain ⟨gq, hw''⟩ := hw'
                subst hw''
                replace hmx := hmx.ext (Ext.gr wr gq)
                replace hms := hms.ext (Ext.gr wr gq)
                replace X := X.wgr gq
                clear sc sf sb sl hbx hck
                generalize wgr wr gq = W at *
                have hbx := X.cell hb5
                have hck := X.cell hck0
                obtain ⟨gv, rfl⟩ := hmx.some_ (by omega)
                obtain ⟨pv, pc0, _, pf0, pm, pg1, pg2, pS, pSg, hput⟩ := hmx.row (k := t) (by omega) (fun b hb => (hms.lt b hb).2)
                obtain ⟨Ap, cp, rfl, ip, jp⟩ := pm.form
                have pma := pm.alloc (.cells #[.int .i64 (k : Int)] 3)
                have hlen : (nums (L t)).length ≤ 20 := by rw [nums_len]; have := HLT.out t; omega
                have hle1 : (nums (L t ++ [k])).length = (nums (L t)).length + 1 := by rw [nums_len, nums_len, List.length_append]; rfl
                have r1 : (t : Int) < ((m : Nat) : Int) := by omega
                have r2 : (0 : Int) ≤ (t : Int) := by omega
                go_wp2_with (at_builtin; refine append_int_at _ rfl _ _ rfl w5.heap.size _ _ _ rfl pma (k : Int) _ rfl (cell_new1 (by simp)) (by unfold I64; omega) (by omega) (by rw [World.size_alloc]; have := X.size; omega) ?_; intro v2 w2 hm2 hg2 hat2; rw [← nums_snoc] at hm2; have hg3 := grownBy_after ((Ext.refl W).alloc _) hg2; obtain ⟨A2, c2, rfl, i2, j2⟩ := hm2.form; obtain ⟨d2, fz2, hmx2⟩ := hput w2 _ (nums (L t ++ [k])) hg3 (by rw [hle1]; exact hm2) (by rcases hat2 with e | e; exact .inl e; exact .inr fun b hb => by rw [e] at hb; injection hb with hb; rw [World.size_alloc] at hb; omega))
                have hms2 := (hms.kept hg3 pS).kept (grownBy_setCell (World.grownBy.refl w2 (some gv)) (t * 2) (.slice A2 ((nums (L t)).length + 1) c2)) pSg
                have X2 : Ext w5 (w2.setCell ⟨gv, t * 2, none⟩ (.slice A2 ((nums (L t)).length + 1) c2)) := (X.grown hg3 (fun b hb => (pm.lt b hb).1)).setCell pg1 _
                rw [← upd_nums] at hmx2
                clear hmx hms X hput pm pma hm2 hg2 hg3 hat2 pS pSg hbx hck pf0
                generalize w2.setCell ⟨gv, t * 2, none⟩ (.slice A2 ((nums (L t)).length + 1) c2) = W3 at *
                have hbx := X2.cell hb5
                have hck := X2.cell hck0
                obtain ⟨sc, sf, sb, sl⟩ := hms2.at_ (k := t) (by omega)
                rw [tab_ix (by omega)] at sc
                have hsq := HSQ.out t
                have hst := hms2.stored (k := t) (z := sumF f (L t) + f k 0) (by omega) (by unfold I64; omega)
                have hmx3 := hmx2.kept (S' := some gs) (grownBy_setCell (World.grownBy.refl W3 (some gs)) t (.int .i64 (sumF f (L t) + f k 0))) (.inr rfl) (.inl rfl)
                have X3' := X2.setCell (p := ⟨gs, t, none⟩) sb (.int .i64 (sumF f (L t) + f k 0))
                rw [show sumF f (L t) + f k 0 = (fun j => sumF f (upd L t (L t ++ [k]) j)) t by simp only; rw [upd_at, sumF_snoc], tab_set (g := fun j => sumF f (upd L t (L t ++ [k]) j)) (by omega) (fun i hi => by
                  by_cases e : i = t
                  · subst e; simp
                  · rw [if_neg e, upd_ne e])] at hst
                rw [show (fun j => sumF f (upd L t (L t ++ [k]) j)) t = sumF f (L t) + f k 0 by simp only; rw [upd_at, sumF_snoc]] at hst
                have HST := Lib.hid hst
                have HMX := Lib.hid hmx3
                clear hst hmx3 hms2 hmx2
                go_region
                go_wp2
                go_roundw
                case rel => exact ⟨q + 1, some ⟨gv, 0, none⟩, some ⟨gs, 0, none⟩, cv, cs, by omega, by go_num, by rw [HT2.out], by rw [HT2.out], by rw [HT2.out]; exact HMX.out.ext (.drew (.refl _)), by rw [HT2.out]; exact HST.out.ext (.drew (.refl _)), X3'.drew⟩
                case measure => simp [intOf]; omega

              · have hgt : decide (lim < sumF f (L t) + f k 0) = true := by simp; omega
                go_wp2
                first | refine wp_region_gr2 (by kernel_rfl) (by kernel_rfl) ?_ | refine wp_region_gr (by kernel_rfl) (by kernel_rfl) ?_
                repeat (go_big_quiet_step (fail))
                refine wpQuiet_nil ?_
                intro _ hw'
                obtain ⟨gq, hw''⟩ := hw'
                subst hw''
                go_wp2
                go_roundw
                case rel =>
                  refine ⟨t + 1, by omega, by go_num, fun i hi => ?_, hmx.ext (Ext.gr wr gq), hms.ext (Ext.gr wr gq), X.wgr gq⟩
                  by_cases e : i = t
                  · subst e; simpa using hle
                  · exact HALL.out i (by omega)
                case measure => simp [intOf]; omega
            · obtain rfl : m = t := by omega
              have HT2 : Hid (pcs f lim ord (q + 1) = (m + 1, upd L m (L m ++ [k]))) := Lib.hid (by rw [HSC.out m (fstP_none HALL.out), Nat.max_eq_right (by omega)])
              have hL0 := HOQ.out m (Nat.le_refl _)
              clear HSC HALL
              have t2 : ((m : Int) == (m : Int)) = true := by simp
              go_wp2
              first | refine wp_region_gr2 (by kernel_rfl) (by kernel_rfl) ?_ | refine wp_region_gr (by kernel_rfl) (by kernel_rfl) ?_
              repeat (go_big_quiet_step (fail))
              refine wpQuiet_nil ?_
              intro _ hw'
              obtain ⟨gq, hw''⟩ := hw'
              subst hw''
              replace hmx := hmx.ext (Ext.gr wr gq)
              replace hms := hms.ext (Ext.gr wr gq)
              replace X := X.wgr gq
              clear hbx hck
              generalize wgr wr gq = W at *
              have hSlt := hms.old
              have HL0 := Lib.hid hL0
              have e7 : (tab m fun j => sumF f (L j)) ++ [0] = tab (m + 1) fun j => sumF f (L j) := by rw [tab_snoc0, hL0]; rfl
              clear hL0
              go_wp2_with (first | (at_builtin; refine append_crate _ rfl _ _ rfl w5.heap.size _ _ (fun j => nums (L j)) lim (Value.slice As m cs).ownBlock rfl (hmx.ext ((Ext.refl W).alloc _)) (by rw [HL0.out]; rfl) _ rfl (by simp [go_sem]) (by simp [go_sem]) (fun b hb => by rw [World.size_alloc]; have := hSlt b hb; omega) (by omega) (by rw [World.size_alloc]; have := X.size; omega) ?_; intro v3 w6 hmx6 hg6; have hms6 := (hms.ext ((Ext.refl W).alloc (.cells #[.slice none 0 0, .int .i64 lim] 44))).kept hg6 hmx.apartS; have X6 : Ext w5 w6 := (X.alloc _).grown hg6 (fun b hb => (hmx.lt b hb).1); obtain ⟨A3, c3, rfl, i3, j3⟩ := hmx6.form; obtain ⟨gv, rfl⟩ := hmx6.some_ (by omega)) | (at_builtin; refine append_int_at _ rfl _ _ rfl w5.heap.size _ _ _ rfl (hms6.alloc _) 0 _ rfl (cell_new1 (by simp)) I64.zero (by omega) (by rw [World.size_alloc]; have := X6.size; omega) ?_; intro v4 w7 hms7 hg7 hat7; rw [e7] at hms7; have hmx7 := (hmx6.ext ((Ext.refl w6).alloc (.cells #[.int .i64 0] 3))).kept (S' := v4.ownBlock) hg7 (.inr rfl) (by rcases hat7 with e | e; exact .inl e; exact .inr fun b hb => by rw [e] at hb; injection hb with hb; omega); have X7 : Ext w5 w7 := (X6.alloc _).grown hg7 (fun b hb => (hms6.lt b hb).1); obtain ⟨A4, c4, rfl, i4, j4⟩ := hms7.form; obtain ⟨gs, rfl⟩ := hms7.some_ (by omega); replace hmx := hmx7; replace hms := hms7; replace X := X7; clear hmx6 hg6 hms6 X6 hg7 hat7 hmx7 hms7 X7; have hbx := X.cell hb5; have hck := X.cell hck0; obtain ⟨pv, pc0, _, pf0, pm, pg1, pg2, pS, pSg, hput⟩ := hmx.row (k := m) (by omega) (fun b hb => (hms.lt b hb).2); obtain ⟨Ap, cp, rfl, ip, jp⟩ := pm.form; have pma := pm.alloc (.cells #[.int .i64 (k : Int)] 3); have hlen : (nums (L m)).length ≤ 20 := (by rw [nums_len]; have := HLT.out m; omega); have hle1 : (nums (L m ++ [k])).length = (nums (L m)).length + 1 := (by rw [nums_len, nums_len, List.length_append]; rfl); have r1 : (m : Int) < (((m + 1) : Nat) : Int) := (by omega); have r2 : (0 : Int) ≤ (m : Int) := (by omega)) | (at_builtin; refine append_int_at _ rfl _ _ rfl w5.heap.size _ _ _ rfl pma (k : Int) _ rfl (cell_new1 (by simp)) (by unfold I64; omega) (by omega) (by rw [World.size_alloc]; have := X.size; omega) ?_; intro v2 w2 hm2 hg2 hat2; rw [← nums_snoc] at hm2; have hg3 := grownBy_after ((Ext.refl w7).alloc _) hg2; obtain ⟨A2, c2, rfl, i2, j2⟩ := hm2.form; obtain ⟨d2, fz2, hmx2⟩ := hput w2 _ (nums (L m ++ [k])) hg3 (by rw [hle1]; exact hm2) (by rcases hat2 with e | e; exact .inl e; exact .inr fun b hb => by rw [e] at hb; injection hb with hb; rw [World.size_alloc] at hb; omega)))
              have hms2 := (hms.kept hg3 pS).kept (grownBy_setCell (World.grownBy.refl w2 (some gv)) (m * 2) (.slice A2 ((nums (L m)).length + 1) c2)) pSg
              have X2 : Ext w5 (w2.setCell ⟨gv, m * 2, none⟩ (.slice A2 ((nums (L m)).length + 1) c2)) := (X.grown hg3 (fun b hb => (pm.lt b hb).1)).setCell pg1 _
              rw [← upd_nums] at hmx2
              clear hmx hms X hput pm pma hm2 hg2 hg3 hat2 pS pSg hbx hck pf0
              generalize w2.setCell ⟨gv, m * 2, none⟩ (.slice A2 ((nums (L m)).length + 1) c2) = W3 at *
              have hbx := X2.cell hb5
              have hck := X2.cell hck0
              obtain ⟨sc, sf, sb, sl⟩ := hms2.at_ (k := m) (by omega)
              rw [tab_ix (by omega)] at sc
              have hsq := HSQ.out m
              have hst := hms2.stored (k := m) (z := sumF f (L m) + f k 0) (by omega) (by unfold I64; omega)
              have hmx3 := hmx2.kept (S' := some gs) (grownBy_setCell (World.grownBy.refl W3 (some gs)) m (.int .i64 (sumF f (L m) + f k 0))) (.inr rfl) (.inl rfl)
              have X3' := X2.setCell (p := ⟨gs, m, none⟩) sb (.int .i64 (sumF f (L m) + f k 0))
              rw [show sumF f (L m) + f k 0 = (fun j => sumF f (upd L m (L m ++ [k]) j)) m by simp only; rw [upd_at, sumF_snoc], tab_set (g := fun j => sumF f (upd L m (L m ++ [k]) j)) (by omega) (fun i hi => by
                by_cases e : i = m
                · subst e; simp
                · rw [if_neg e, upd_ne e])] at hst
              rw [show (fun j => sumF f (upd L m (L m ++ [k]) j)) m = sumF f (L m) + f k 0 by simp only; rw [upd_at, sumF_snoc]] at hst
              have HST := Lib.hid hst
              have HMX := Lib.hid hmx3
              clear hst hmx3 hms2 hmx2
              go_region
              go_wp2
              go_roundw
              case rel => exact ⟨q + 1, some ⟨gv, 0, none⟩, some ⟨gs, 0, none⟩, c3, c4, by omega, by go_num, by rw [HT2.out], by rw [HT2.out], by rw [HT2.out]; exact HMX.out.ext (.drew (.refl _)), by rw [HT2.out]; exact HST.out.ext (.drew (.refl _)), X3'.drew⟩
              case measure => simp [intOf]; omega
        · obtain rfl : n = q := by omega
          have hmk := hmx.toK
          obtain ⟨Ax, cx, hvx, ix9, jx9⟩ := hmk.form
          injection hvx with q1 q2 q3
          subst q1 q3
          have hN20 := HLE.out n
          have HLT := Lib.hid (HRL.out n)
          clear hmx hms HSUC HSUM HOUT HRL HLE HAT HF hor hr5
          generalize pcs f lim ord n = SS at *
          obtain ⟨N, L⟩ := SS
          simp only at HN HPL hmk hN20 HLT ix9 ⊢
          have hmk0 : MineK w5.heap.size wr 44 3 (.slice Av N cv) N (mixK (fun j => srtN (L j)) (fun j => nums (L j)) 0) (fun _ => lim) := by rw [mixK_0]; exact hmk
          clear hmk
          go_wp2
          go_loopw [112] (fun i wq => ∃ p : Nat, p ≤ N ∧ i = .int .i64 p ∧ MineK w5.heap.size wq 44 3 (.slice Av N cv) N (mixK (fun j => srtN (L j)) (fun j => nums (L j)) p) (fun _ => lim) ∧ Ext w5 wq) (fun i _ => N - (intOf i).toNat)
          case atStart => exact ⟨0, Nat.zero_le _, rfl, hmk0, X⟩
          case round =>
            clear hmk0 X
            obtain ⟨p, hp, rfl, hmk, X⟩ := hrel
            by_cases hpl : p < N
            · obtain ⟨gv, rfl⟩ := hmk.some_ (by omega)
              obtain ⟨pv, c0, c1, f0, f1, pm, pg1, pg2, pS, hput⟩ := hmk.row hpl
              rw [mixK_at] at pm
              obtain ⟨Ap, cp, rfl, ip, jp⟩ := pm.form
              have hlen : (nums (L p)).length ≤ 20 := by rw [nums_len]; have := HLT.out p; omega
              have hsl : (srtN (L p)).length = (nums (L p)).length := by rw [srtN_len, nums_len]
              have HSO := Lib.hid (fun o => slices_Sort_own w5.heap.size Ap _ cp _ (wr.alloc o) (by omega) (pm.alloc o))
              have HPB := Lib.hid (fun k (h : (Value.slice Ap (nums (L p)).length cp).ownBlock = some k) => (pm.lt k h).1)
              clear pm hmk f0 f1 pS
              go_wp2_with fail
              refine (HSO.out _).mono ?_
              rintro e w6 ⟨rfl, m6, g6⟩
              have g7 := grownBy_after ((Ext.refl wr).alloc _) g6
              have h6 := (hput w6 _ _ (srtN (L p)) lim g7 (.inl rfl) (by rw [hsl]; exact m6) (.inl rfl) hlim).1 rfl rfl
              rw [mixK_next] at h6
              have X6 := X.grown g7 (fun k hk => HPB.out k hk)
              clear hput m6 g6 g7
              go_wp2
              go_roundw
              case rel => exact ⟨p + 1, by omega, by go_num, h6, X6⟩
              case measure => simp [intOf]; omega
            · obtain rfl : N = p := by omega
              go_wp2
              go_ret2
              unfold PostKB
              rw [HB.out, HN.out]
              exact ⟨Av, cv, rfl, ix9, jx9, (hmk.congr (l' := pcL n f lim) (fun j hj => ⟨by rw [HPL.out]; exact if_pos hj, rfl⟩) (fun _ => hlim)).more hs5, XW5.trans X⟩

end Go.Proofs.Ythnngekibkcgdaa
