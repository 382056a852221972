/-
  The packing of crates, on the reference's side. No conditions.
-/
import Derived.Deep.DeepCutAuto
import Derived.Deep.CutRange
import Derived.Deep.DrawnRows
import Derived.RowKit3
import Derived.Test.YtgfnkmalecfhbaaPcT
import Derived.Test.YtgfnkmalecfhbaaWithin
import Derived.Deep.RegionHeld3
import Derived.Deep.RegionLaw
namespace Go.Proofs.Ytgfnkmalecfhbaa
open Go.RowKit Ring
set_option linter.unusedVariables false

attribute [local go_sem ↓] Go.wp_at_zero Go.wp_at_succ
attribute [local go_sem, local simp] Go.World.cell?_alloc_some Go.World.frozen?_alloc_past
set_option maxRecDepth 100000 in
set_option maxHeartbeats 16000000 in
theorem spec_PackCrates (A : Option Addr) (n c : Nat) (f : Nat → Nat → Int) (lim : Int) (hnc : n ≤ c) (hcm : c ≤ 9223372036854775807) (hn : n ≤ 1048576) (hlim : I64 lim) (w : World) (hr : Recs w 1 A n f) :
    Calls Try.prog 35 #[.slice A n c, .int .i64 lim] w (PostKB w (pcN n f lim) (pcL n f lim) lim (pcB n f lim)) := by
  have HA1 := Lib.hid (fun W (Z : Ext w W) => spec_l31Ok A n c f (by omega) W (hr.ext Z))
  have HW := Lib.hid (fun W => l01In_any lim 0 100000 W)
  cases h1 : allIn n f 0 10000
  · have HB := Lib.hid (show pcB n f lim = false by unfold pcB; simp [h1])
    have HN := Lib.hid (show pcN n f lim = 0 by unfold pcN; rw [HB.out]; rfl)
    rw [h1] at HA1
    go_enter Try.func35, Try.ntmps35
    have X0 : Ext w (w.alloc (.cells #[] 64)) := (Ext.refl w).alloc _
    have lit := litK w (pcL n f lim) (fun _ => lim) (fun _ => hlim)
    go_wp2_with fail
    refine (HA1.out _ (X0)).mono ?_
    rintro e w1 ⟨rfl, x1⟩
    have X1 := X0.trans x1
    replace lit := lit.ext x1
    go_wp2
    go_ret2
    unfold PostKB
    rw [HB.out, HN.out]
    exact ⟨_, 0, rfl, Nat.le_refl _, by omega, lit, X1⟩
  have h1' := h1
  rw [h1] at HA1
  by_cases hbig : 20 < n
  · have hb1 : (20 : Int) < (n : Int) := by omega
    have HB := Lib.hid (show pcB n f lim = false by unfold pcB; simp; omega)
    have HN := Lib.hid (show pcN n f lim = 0 by unfold pcN; rw [HB.out]; rfl)
    go_enter Try.func35, Try.ntmps35
    have X0 : Ext w (w.alloc (.cells #[] 64)) := (Ext.refl w).alloc _
    have lit := litK w (pcL n f lim) (fun _ => lim) (fun _ => hlim)
    go_wp2_with fail
    refine (HA1.out _ (X0)).mono ?_
    rintro e w1 ⟨rfl, x1⟩
    have X1 := X0.trans x1
    replace lit := lit.ext x1
    go_wp2
    go_ret2
    unfold PostKB
    rw [HB.out, HN.out]
    exact ⟨_, 0, rfl, Nat.le_refl _, by omega, lit, X1⟩
  have hb1 : ¬ (20 : Int) < (n : Int) := by omega
  cases h2 : inB lim 0 100000
  · have HB := Lib.hid (show pcB n f lim = false by unfold pcB; simp [h2])
    have HN := Lib.hid (show pcN n f lim = 0 by unfold pcN; rw [HB.out]; rfl)
    rw [h2] at HW
    go_enter Try.func35, Try.ntmps35
    have X0 : Ext w (w.alloc (.cells #[] 64)) := (Ext.refl w).alloc _
    have lit := litK w (pcL n f lim) (fun _ => lim) (fun _ => hlim)
    go_wp2_with fail
    refine (HA1.out _ (X0)).mono ?_
    rintro e w1 ⟨rfl, x1⟩
    have X1 := X0.trans x1
    replace lit := lit.ext x1
    go_wp2_with fail
    refine (HW.out _).mono ?_
    rintro e w2 ⟨rfl, x2⟩
    have X2 := X1.trans x2
    replace lit := lit.ext x2
    go_wp2
    go_ret2
    unfold PostKB
    rw [HB.out, HN.out]
    exact ⟨_, 0, rfl, Nat.le_refl _, by omega, lit, X2⟩
  have h2' := h2
  rw [h2] at HW
  have hl0 := inB_of' h2
  have HAI := Lib.hid (fun k (hk : k < n) => allIn_get h1 hk)
  go_enter Try.func35, Try.ntmps35
  have X0 : Ext w (w.alloc (.cells #[] 64)) := (Ext.refl w).alloc _
  have lit := litK w (pcL n f lim) (fun _ => lim) (fun _ => hlim)
  go_wp2_with fail
  refine (HA1.out _ (X0)).mono ?_
  rintro e w1 ⟨rfl, x1⟩
  have X1 := X0.trans x1
  replace lit := lit.ext x1
  go_wp2_with fail
  refine (HW.out _).mono ?_
  rintro e w2 ⟨rfl, x2⟩
  have X2 := X1.trans x2
  replace lit := lit.ext x2
  have hr2 := hr.ext X2
  have hs2 := X2.size
  have lm0 : Mine w2.heap.size (w2.alloc (.cells #[] 3)) 3 (.slice (some ⟨w2.heap.size, 0, none⟩) 0 0) 0 (nums (srt (wlt f) (List.range 0))) := Mine.lit0 w2 3
  clear HA1 HW X0 X1 x1 x2 hr
  go_wp2
  go_loopw [7, 8] (fun o i wr => ∃ (q : Nat) (A6 : Option Addr) (c6 : Nat), q ≤ n ∧ i = .int .i64 q ∧ o = .slice A6 q c6 ∧ q ≤ c6 ∧ c6 ≤ 9223372036854775807 ∧ Mine w2.heap.size wr 3 (.slice A6 q c6) q (nums (srt (wlt f) (List.range q))) ∧ Ext w2 wr ∧ ∀ i, i < q → f i 0 ≤ lim) (fun _ i _ => n - (intOf i).toNat)
  case atStart => exact ⟨0, _, 0, Nat.zero_le _, rfl, rfl, Nat.le_refl _, by omega, lm0, (Ext.refl w2).alloc _, fun i hi => absurd hi (by omega)⟩
  case round =>
    clear lm0
    obtain ⟨q, A6, c6, hq, rfl, rfl, i6, j6, hm, X, hall⟩ := hrel
    have HALL := Lib.hid hall
    clear hall
    by_cases hlt : q < n
    · obtain ⟨ba, oa, rfl, hba, hcq⟩ := (hr2.ext X).at1 hlt
      have hfq := HAI.out q hlt
      have hq64 : I64 (q : Int) := by unfold I64; omega
      by_cases hgt : lim < f q 0
      · have HB := Lib.hid (show pcB n f lim = false by unfold pcB; rw [show allIn n f 0 lim = false from allB_no hlt (by unfold inB; simp; omega)]; simp)
        have HN := Lib.hid (show pcN n f lim = 0 by unfold pcN; rw [HB.out]; rfl)
        have lit2 := litK wr (pcL n f lim) (fun _ => lim) (fun _ => hlim)
        have X9 := X2.trans X
        have hs9 := X9.size
        clear lit hm
        go_wp2
        go_ret2
        unfold PostKB
        rw [HB.out, HN.out]
        exact ⟨_, 0, rfl, Nat.le_refl _, by omega, lit2.more hs9, X9.alloc _⟩
      · have hSl : (srt (wlt f) (List.range q)).length = q := by rw [srt_len, List.length_range]
        have HSM : Hid (∀ y ∈ srt (wlt f) (List.range q), y < q) := Lib.hid fun y hy => List.mem_range.1 ((srt_mem _ _ _).1 hy)
        have HPUT := Lib.hid (fun J (hJ : posOf (wlt f q) (srt (wlt f) (List.range q)) (srt (wlt f) (List.range q)).length = J) => srt_put (lt := wlt f) (l := List.range q) hJ)
        rw [← List.range_succ] at HPUT
        generalize hS : srt (wlt f) (List.range q) = S at *
        clear hS
        have hapx := ins_end S q
        go_wp2_with (at_builtin; refine append_int _ rfl _ _ rfl w2.heap.size _ _ _ rfl (hm.alloc _) (q : Int) _ rfl (cell_new1 (by simp)) hq64 (by omega) (by rw [World.size_alloc]; have := X.size; omega) ?_; intro v4 w4 hm4 hg4; rw [← nums_snoc, ← hapx] at hm4; have he4 : Ext w2 w4 := (X.alloc _).grown hg4 (fun b hb => (hm.lt b hb).1); obtain ⟨A4, c4, rfl, i4, j4⟩ := hm4.form; obtain ⟨G, rfl⟩ := hm4.some_ (by omega))
        clear hm X hcq hg4 hapx
        go_loopw [9] (fun i wy => ∃ (j y : Nat), j ≤ q ∧ i = .int .i64 j ∧ Hid (posOf (wlt f q) S S.length = posOf (wlt f q) S j) ∧ Ext w2 wy ∧ Mine w2.heap.size wy 3 (.slice (some ⟨G, 0, none⟩) (q + 1) c4) (q + 1) (nums (insAt S j y))) (fun i _ => (intOf i).toNat)
        case atStart => exact ⟨q, q, Nat.le_refl _, rfl, by rw [hSl]; exact Lib.hid rfl, he4, by rw [hSl] at hm4; exact hm4⟩
        case round =>
          clear hm4 he4
          obtain ⟨j, y, hj, rfl, HJ, Y, hm5⟩ := hrel
          have hgb : w2.heap.size ≤ G := (hm5.lt G rfl).1
          have hcq := (hr2.ext Y).cell1 hlt
          by_cases h0 : 0 < j
          · obtain ⟨p, rfl⟩ : ∃ p, j = p + 1 := ⟨j - 1, by omega⟩
            have hpS : p < S.length := by omega
            have hyp : S.getD p 0 ∈ S := by rw [List.getD_eq_getElem?_getD, List.getElem?_eq_getElem hpS]; exact List.getElem_mem hpS
            have hylt := HSM.out _ hyp
            obtain ⟨hc5, hf5, _, _⟩ := hm5.at_ (k := p) (by omega)
            have hjS : p + 1 ≤ S.length := by omega
            have hS1 := ins_below (S := S) (x := y) (R := []) (j := p + 1) hjS h0
            rw [List.append_nil, Nat.add_sub_cancel] at hS1
            rw [nums_ix, hS1] at hc5
            have hshift := ins_shift (S := S) (y := y) (R := []) (j := p + 1) hjS h0
            rw [List.append_nil, List.append_nil, Nat.add_sub_cancel] at hshift
            have HSH := Lib.hid hshift
            have HPO : Hid (posOf (wlt f q) S (p + 1) = if wlt f q (S.getD p 0) = true then posOf (wlt f q) S p else p + 1) := rfl
            clear hyp hshift
            generalize hU : S.getD p 0 = u at *
            have HUE := Lib.hid hU
            clear hU
            have hcu := (hr2.ext Y).cell1 (k := u) (by omega)
            have hfu := HAI.out u (by omega)
            have d0 : decide ((0 : Int) < (p : Int) + 1) = true := decide_eq_true (by omega)
            have f0 : (0 : Int) < (p : Int) + 1 := by omega
            have f1 : (0 : Int) ≤ (p : Int) := by omega
            have f2 : (p : Int) < (q : Int) + 1 := by omega
            have f3 : IntKind.i64.wrap ((p : Int) + 1 - 1) = (p : Int) := by rw [IntKind.wrap_i64]; omega
            have f4 : IntKind.i64.wrap (p : Int) = (p : Int) := by rw [IntKind.wrap_i64]; omega
            have g1 : (0 : Int) ≤ (u : Int) := by omega
            have g2 : (u : Int) < (n : Int) := by omega
            have g3 : (0 : Int) ≤ (q : Int) := by omega
            have g4 : (q : Int) < (n : Int) := by omega
            have g5 : ((p : Int) + 1).toNat = p + 1 := by omega
            have g6 : (0 : Int) ≤ (p : Int) + 1 := by omega
            have g7 : (p : Int) + 1 < (q : Int) + 1 := by omega
            by_cases hw : f u 0 < f q 0
            · have hwl : wlt f q u = true := by unfold wlt; simp; omega
              rw [if_pos hwl] at HPO
              have hd1 : decide (f u 0 < f q 0) = true := by simpa using hw
              clear hwl
              go_wp2
              first | refine wp_region_gr2 (by kernel_rfl) (by kernel_rfl) ?_ | refine wp_region_gr (by kernel_rfl) (by kernel_rfl) ?_
              repeat (go_big_quiet_step (fail))
              refine wpQuiet_nil ?_
              intro _ hw'
              obtain ⟨gq, hw''⟩ := hw'
              subst hw''
              have Y6 := Y.wgr gq
              replace hm5 := hm5.gr gq
              clear Y hc5 hcu hcq hf5
              generalize wgr wr gq = w6 at *
              obtain ⟨hc5, hf5, _, _⟩ := hm5.at_ (k := p) (by omega)
              rw [nums_ix, hS1] at hc5
              obtain ⟨hc7, hf7, _, _⟩ := hm5.at_ (k := p + 1) (by omega)
              have ix7 : I64 (u : Int) := by unfold I64; omega
              have hm8 := hm5.stored (k := p + 1) (by omega) ix7
              rw [nums_set, HSH.out] at hm8
              have Y8 := Y6.setCell (p := ⟨G, p + 1, none⟩) hgb (.int .i64 (u : Int))
              go_wp2
              go_roundw
              case rel => exact ⟨p, u, by omega, by go_num, HJ.trans HPO.out, Y8, hm8⟩
              case measure => simp [intOf]
            · have hwl : wlt f q u = false := by unfold wlt; simp; omega
              rw [if_neg (by rw [hwl]; simp)] at HPO
              have hd1 : decide (f u 0 < f q 0) = false := by simpa using hw
              have HO := Lib.hid (HPUT.out (p + 1) (HJ.trans HPO.out))
              clear hwl
              go_wp2
              first | refine wp_region_gr2 (by kernel_rfl) (by kernel_rfl) ?_ | refine wp_region_gr (by kernel_rfl) (by kernel_rfl) ?_
              repeat (go_big_quiet_step (fail))
              refine wpQuiet_nil ?_
              intro _ hw'
              obtain ⟨gq, hw''⟩ := hw'
              subst hw''
              have Y6 := Y.wgr gq
              replace hm5 := hm5.gr gq
              clear Y hc5 hcu hcq hf5
              generalize wgr wr gq = w6 at *
              obtain ⟨hc7, hf7, _, _⟩ := hm5.at_ (k := p + 1) (by omega)
              have hm8 := hm5.stored (k := p + 1) (by omega) hq64
              have hput := ins_put (S := S) (x := q) (y := y) (R := []) hjS
              rw [List.append_nil, List.append_nil] at hput
              rw [nums_set, hput, HO.out] at hm8
              have Y8 := Y6.setCell (p := ⟨G, p + 1, none⟩) hgb (.int .i64 (q : Int))
              go_wp2
              go_roundw
              case rel => exact ⟨q + 1, _, c4, by omega, by go_num, rfl, i4, j4, hm8, Y8, fun i hi => by
                by_cases e : i = q
                · subst e; omega
                · exact HALL.out i (by omega)⟩
              case measure => simp [intOf]; omega
          · obtain rfl : j = 0 := by omega
            have HO := Lib.hid (HPUT.out 0 HJ.out)
            obtain ⟨hc7, hf7, _, _⟩ := hm5.at_ (k := 0) (by omega)
            have hm8 := hm5.stored (k := 0) (by omega) hq64
            have hput := ins_put (S := S) (x := q) (y := y) (R := []) (Nat.zero_le _)
            rw [List.append_nil, List.append_nil] at hput
            rw [nums_set, hput, HO.out] at hm8
            have Y8 := Y.setCell (p := ⟨G, 0, none⟩) hgb (.int .i64 (q : Int))
            have d0 : decide ((0 : Int) < (0 : Int)) = false := rfl
            have g7 : (0 : Int) < (q : Int) + 1 := by omega
            go_wp2
            first | refine wp_region_gr2 (by kernel_rfl) (by kernel_rfl) ?_ | refine wp_region_gr (by kernel_rfl) (by kernel_rfl) ?_
            repeat (go_big_quiet_step (fail))
            refine wpQuiet_nil ?_
            intro _ hw'
            obtain ⟨gq, hw''⟩ := hw'
            subst hw''
            replace Y8 := ((Y.wgr gq).setCell (p := ⟨G, 0, none⟩) hgb (.int .i64 (q : Int)))
            replace hm8 := (hm5.gr gq).stored (k := 0) (by omega) hq64
            rw [nums_set, hput, HO.out] at hm8
            obtain ⟨hc7, hf7, _, _⟩ := (hm5.gr gq).at_ (k := 0) (by omega)
            go_wp2
            go_roundw
            case rel => exact ⟨q + 1, _, c4, by omega, by go_num, rfl, i4, j4, hm8, Y8, fun i hi => by
              by_cases e : i = q
              · subst e; omega
              · exact HALL.out i (by omega)⟩
            case measure => simp [intOf]; omega
    · obtain rfl : n = q := by omega
      have h3 : allIn n f 0 lim = true := allB_yes fun i hi => by have := HAI.out i hi; have := HALL.out i hi; unfold inB; simp; omega
      have HB := Lib.hid (show pcB n f lim = true by unfold pcB; rw [h1, h2, h3]; simp; omega)
      have HN := Lib.hid (show pcN n f lim = (pcs f lim (ordN f n) n).1 by unfold pcN; rw [HB.out]; rfl)
      have HPL := Lib.hid (show pcL n f lim = fun j => srtN ((pcs f lim (ordN f n) n).2 j) from rfl)
      have HF := Lib.hid (fun k (hk : k < n) => allIn_get h3 hk)
      have HSUM := Lib.hid (pcs_sum (f := f) (lim := lim) (ord := ordN f n) hl0.1 (fun x hx => allIn_get h3 (ordN_mem.1 hx)))
      have HLE := Lib.hid (pcs_le (f := f) (lim := lim) (ord := ordN f n))
      have HOUT := Lib.hid (pcs_out (f := f) (lim := lim) (ord := ordN f n))
      have HSUC := Lib.hid (pcs_succ (f := f) (lim := lim) (ord := ordN f n))
      have HOL := Lib.hid (ordN_len f n)
      have HAT := Lib.hid (fun i (hi : i < n) => ix_nums_at (f := f) hi)
      have HRL := Lib.hid (pcs_rl (f := f) (lim := lim) (ord := ordN f n))
      have HNWQ := Lib.hid (fun i (hi : i < n) => pcs_new (f := f) (lim := lim) (ordN_nodup f n) (i := i) (by rw [ordN_len]; exact hi))
      have HNDQ := Lib.hid (fun i (hi : i ≤ n) => pcs_nodup (f := f) (lim := lim) (ordN_nodup f n) i (by rw [ordN_len]; exact hi))
      have HELM := Lib.hid (fun i (hi : i ≤ n) j x (hx : x ∈ (pcs f lim (ordN f n) i).2 j) => (show x < n from by
        obtain ⟨q, h1, h2⟩ := pcs_mem i j x hx
        rw [← h2]
        exact ordN_at (by omega)))
      rw [← ordN_eq] at hm
      have hor := hm.recs
      have XW5 : Ext w wr := X2.trans X
      have hr5 := hr2.ext X
      have hlit := lit.ext X
      have hs5 := XW5.size
      have H12 := Lib.hid (And.intro h1 h2)
      clear hm hr2 lit HALL X X2 HAI h1 h2 h3 h1' h2'
      generalize ordN f n = ord at *
      generalize wr = w5 at *
      go_wp2
      go_loopw [6, 10] (fun o i wr => ∃ (q : Nat) (Av : Option Addr) (cv : Nat), q ≤ n ∧ i = .int .i64 q ∧ o = .slice Av (pcs f lim ord q).1 cv ∧ (((pcs f lim ord q).1 = 0 ∧ Av = some ⟨w.heap.size, 0, none⟩ ∧ cv = 0) ∨ MineK w5.heap.size wr 64 3 (.slice Av (pcs f lim ord q).1 cv) (pcs f lim ord q).1 (fun j => srtN ((pcs f lim ord q).2 j)) (fun _ => lim)) ∧ Ext w5 wr) (fun _ i _ => n - (intOf i).toNat)
      case atStart => exact ⟨0, _, 0, Nat.zero_le _, rfl, rfl, .inl ⟨rfl, rfl, rfl⟩, Ext.refl w5⟩
      case round =>
        obtain ⟨q, Av, cvv, hq, rfl, rfl, hmk, X⟩ := hrel
        by_cases hlt : q < n
        · obtain ⟨k, hk, ek, ei⟩ := HAT.out q hlt
          have hco : ∃ (go oo : Nat), A6 = some ⟨go, oo, none⟩ ∧ wr.cell? ⟨go, oo + q, none⟩ = some (.int .i64 (k : Int)) := by
            obtain ⟨go, oo, e, _, hc⟩ := (hor.ext X).at1 hlt
            refine ⟨go, oo, e, ?_⟩
            rw [← ei]
            exact hc
          obtain ⟨go, oo, rfl, hco⟩ := hco
          obtain ⟨ba, oa, rfl, hba, hck0⟩ := hr5.at1 hk
          have HKF := HF.out k hk
          have HSQ := Lib.hid (HSUM.out q (by rw [HOL.out]; omega))
          have HSC := Lib.hid (HSUC.out q)
          have HNEW := Lib.hid (HNWQ.out q hlt)
          have HND := Lib.hid (HNDQ.out q hq)
          have HEL := Lib.hid (HELM.out q hq)
          rw [ek] at HSC HNEW
          have hmq := HLE.out q
          have HLT := Lib.hid (HRL.out q)
          have HOQ := Lib.hid (HOUT.out q)
          clear ek ei
          generalize pcs f lim ord q = SS at *
          obtain ⟨m, L⟩ := SS
          simp only at HSQ HSC hmq HLT HOQ hmk HNEW HND HEL ⊢
          have HCWJ := Lib.hid (fun j => crateW_srtN (lim := lim) H12.out.1 H12.out.2 (HND.out j) (HEL.out j))
          have k1 : (0 : Int) ≤ (k : Int) := by omega
          have k2 : (k : Int) < (n : Int) := by omega
          have hk64 : I64 (k : Int) := by unfold I64; omega
          go_wp2
          go_loopw [12] (fun a wq => ∃ t : Nat, t ≤ m ∧ a = .int .i64 t ∧ (∀ i, i < t → decide (sumF f (L i) + f k 0 ≤ lim) = false) ∧ ((m = 0 ∧ Av = some ⟨w.heap.size, 0, none⟩ ∧ cvv = 0) ∨ MineK w5.heap.size wq 64 3 (.slice Av m cvv) m (fun j => srtN (L j)) (fun _ => lim)) ∧ Ext w5 wq) (fun a _ => m - (intOf a).toNat)
          case atStart => exact ⟨0, Nat.zero_le _, rfl, fun i hi => absurd hi (by omega), hmk, X⟩
          case round =>
            clear hmk X hco
            obtain ⟨t, ht, rfl, hall, hmk, X⟩ := hrel
            have HALL := Lib.hid hall
            clear hall
            have hck := X.cell hck0
            by_cases htm : t < m
            · replace hmk : MineK w5.heap.size wr 64 3 (.slice Av m cvv) m (fun j => srtN (L j)) (fun _ => lim) := by
                rcases hmk with h | h
                · omega
                · exact h
              obtain ⟨gv, rfl⟩ := hmk.some_ (by omega)
              obtain ⟨bc, oc, B, d, hbo, hbc, c0, c1, i1, i2, hrow⟩ := hmk.crs.at_ htm
              injection hbo with hbo
              injection hbo with hb1' hb2'
              subst hb1' hb2'
              rw [Nat.zero_add] at c0 c1
              have hsq := HSQ.out t
              have t1 : (t : Int) < (m : Int) := by omega
              have t2 : ((t : Int) == (m : Int)) = false := by simp; omega
              have t3 : (0 : Int) ≤ (t : Int) := by omega
              have hlz' : (srtN (L t)).length ≤ 1048576 := by rw [srtN_len]; have := HLT.out t; omega
              have HCW : Hid (∀ W, Ext wr W → Calls Try.prog 54 #[.slice (some ⟨ba, oa, none⟩) n c, .agg #[.slice B (srtN (L t)).length d, .int .i64 lim]] W fun e w' => e = .returned (.int .i64 (sumF f (L t))) ∧ Ext W w') := Lib.hid (fun W Z => by
                have := spec_CrateWeight (some ⟨ba, oa, none⟩) n c f B (srtN (L t)).length d (fun i _ => ix (srtN (L t)) i) lim hn hlz' W ((hr5.ext X).ext Z) (hrow.ext Z)
                rw [HCWJ.out t] at this
                exact this)
              clear hrow
              by_cases hle : sumF f (L t) + f k 0 ≤ lim
              · have hgt : decide (lim < sumF f (L t) + f k 0) = false := by simpa using hle
                have HT2 : Hid (pcs f lim ord (q + 1) = (m, upd L t (L t ++ [k]))) := Lib.hid (by rw [HSC.out t (fstP_at htm (by simpa using hle) HALL.out), Nat.max_eq_left (by omega)])
                clear HSC HALL
                go_wp2
                first | refine wp_region_gr2 (by kernel_rfl) (by kernel_rfl) ?_ | refine wp_region_gr (by kernel_rfl) (by kernel_rfl) ?_
                repeat (go_big_quiet_step ((go_at_call 54; exact gr_of (HCW.out _ (by first | exact Ext.refl _ | exact Ext.gr _ _)))))
                refine wpQuiet_nil ?_
                intro _ hw'
                obtain ⟨gq, hw''⟩ := hw'
                subst hw''
                replace hmk := hmk.ext (Ext.gr wr gq)
                replace X := X.wgr gq
                clear c0 c1 hck hbc
                generalize wgr wr gq = W at *
                obtain ⟨pv, pc0, pc1, pf0, pf1, pm, pg1, pg2, pS, hput⟩ := hmk.row (k := t) (by omega)
                obtain ⟨Ap, cp, rfl, ip, jp⟩ := pm.form
                clear pS hmk
                go_wp2
                have HSRT := Lib.hid (srtN_put (HND.out t) (HNEW.out t))
                have hnotin : ¬ (k : Int) ∈ srtN (L t) := srtN_notin (HNEW.out t)
                have hlz : (srtN (L t)).length ≤ 20 := by rw [srtN_len]; have := HLT.out t; omega
                have hzb := pm.ix_bd
                have hcapn := fun (e : Ap = none) => noneI_cap (by rw [e] at pm; exact pm)
                have hsome : ∀ ad, Ap = some ad → ∃ B, ad = ⟨B, 0, none⟩ := fun ad e => Mine.head_ (by rw [e] at pm; exact pm)
                have hpr := pm.recs
                clear pm
                skip
                generalize srtN (L t) = zs at *
                generalize hzl : zs.length = ln at *
                skip
                have HNI := Lib.hid (fun j (hj : j < ln) => (show ix zs j ≠ (k : Int) from fun e => hnotin (by rw [← e, ix_get (by omega)]; exact List.getElem_mem _)))
                clear hnotin
                go_loop [14] (fun i => ∃ j : Nat, j ≤ ln ∧ i = .int .i64 j ∧ ∀ i, i < j → ix zs i < (k : Int)) (fun i => ln - (intOf i).toNat)
                case atStart => exact ⟨0, Nat.zero_le _, rfl, fun i hi => absurd hi (by omega)⟩
                case round =>
                  obtain ⟨j, hj, rfl, hall⟩ := hrel
                  have HALL := Lib.hid hall
                  clear hall
                  by_cases hjl : j < ln
                  · obtain ⟨B, ob, rfl, hbB, _⟩ := hpr.at1 hjl
                    obtain ⟨B2, hB2⟩ := hsome _ rfl
                    injection hB2 with hB1 hB2
                    subst hB1 hB2
                    have hcj := hpr.cell1 hjl
                    rw [Nat.zero_add] at hcj
                    have hne := HNI.out j hjl
                    by_cases hlx : ix zs j < (k : Int)
                    · go_wp2
                      go_round
                      case rel =>
                        refine ⟨j + 1, by omega, by go_num, fun i hi => ?_⟩
                        by_cases e : i = j
                        · subst e; exact hlx
                        · exact HALL.out i (by omega)
                      case measure => simp [intOf]; omega
                    · have HE := Lib.hid (insU_put (l := zs) (x := (k : Int)) (k := j) (by omega) HALL.out (fun _ => by omega))
                      clear hcapn hsome hne
                      obtain ⟨A2, hA2⟩ : ∃ A2 : Addr, (if cp = j then some (⟨B, 0, none⟩ : Addr) else some ⟨B, j, none⟩) = some A2 := by split <;> exact ⟨_, rfl⟩
                      have HS1 := Lib.hid (fun W' (Z : Ext W W') => (show Recs W' 1 (some ⟨B, 0, none⟩) j (fun i _ => ix zs i) from (hpr.take_ (by omega)).ext Z))
                      have HS2 := Lib.hid (fun W' (Z : Ext W W') => (show Recs W' 1 (some A2) (ln - j) (fun i _ => ix zs (j + i)) from Recs.ext (suf_recs hpr hA2 (by omega)) Z))
                      have HF := Lib.hid (show insU zs (k : Int) = (tab j fun i => ix zs i) ++ (tab 1 fun _ => (k : Int)) ++ (tab (ln - j) fun i => ix zs (j + i)) by rw [HE.out, tab_take (by omega), ← hzl, tab_drop (by omega)]; rfl)
                      have hjc : j ≤ cp := by omega
                      have hj0 : ¬ ((ln : Int) < (j : Int)) := by omega
                      have HFN := Lib.hid (show (insU zs (k : Int)).length = j + 1 + (ln - j) by rw [HF.out, List.length_append, List.length_append, tab_len, tab_len, tab_len])
                      clear hpr
                      go_wp2_with fail
                      go_region_held3 (fun _ => True) (trivial) (first
                        | (refine step_append_ints rfl _ _ rfl W.heap.size (.slice (some ⟨_, 0, none⟩) 0 0) 0 [] rfl (by first | exact litI _ _ _ (by first | rfl | (simp; done)) (by first | exact Nat.le_refl _ | (simp; done) | (simp; omega)) | exact (litI _ _ _ (by first | rfl | (simp; done)) (by first | exact Nat.le_refl _ | (simp; done) | (simp; omega))).alloc _) (some ⟨B, 0, none⟩) (j) (cp) ((fun i _ => ix zs i)) rfl (HS1.out _ (by repeat (first | with_reducible exact Ext.refl _ | with_reducible exact X7 | with_reducible exact Xb | with_reducible exact Xa | with_reducible apply Ext.drew | with_reducible apply Ext.alloc))) ((fun q => by cases q)) (by omega) (by (try simp only [World.size_alloc, World.size_drew]); first | omega | (have := Xa.size; (try simp only [World.size_alloc] at *); omega) | (have := Xb.size; (try simp only [World.size_alloc] at *); omega)) ?_; intro va wa hma hxa hcc; rw [Nat.zero_add, List.nil_append] at hma; have Xa : Ext W wa := hxa _ (by repeat (first | with_reducible exact Ext.refl _ | with_reducible exact X7 | with_reducible exact Xb | with_reducible exact Xa | with_reducible apply Ext.drew | with_reducible apply Ext.alloc)) (Nat.le_refl _); obtain ⟨Aa, ca, rfl, ia, ja⟩ := hma.form; (try (refine (fun (k0 : wa.cell? ⟨W.heap.size, 0, none⟩ = some (.int .i64 (k : Int))) => ?_) ?_; rotate_left; (refine hcc _ _ _ ?_ ?_; (focus (first | (simp [Value.ownBlock]; done) | (intro q; injection (show some _ = some _ from q) with q; omega))); (first | (focus (simp [go_sem]; done)) | (focus (simp [go_sem, *]; done)))))); (try (refine (fun (l0 : wa.cell? ⟨W.heap.size + 1, 0, none⟩ = some (.int .i64 (k : Int))) => ?_) ?_; rotate_left; (refine hcc _ _ _ ?_ ?_; (focus (first | (simp [Value.ownBlock]; done) | (intro q; injection (show some _ = some _ from q) with q; omega))); (first | (focus (simp [go_sem]; done)) | (focus (simp [go_sem, *]; done)))))))
                        | (refine step_append_ints rfl _ _ rfl W.heap.size _ _ _ rfl (hma) (some ⟨_, 0, none⟩) (1) (1) ((fun _ _ => (k : Int))) rfl (recs_one k0 hk64) ((fun q => by cases q)) (by omega) (by (try simp only [World.size_alloc]); first | omega | (have := Xa.size; (try simp only [World.size_alloc] at *); omega) | (have := Xb.size; (try simp only [World.size_alloc] at *); omega)) ?_; intro vb wb hmb hxb hcb; have Xb : Ext W wb := hxb _ (by repeat (first | with_reducible exact Ext.refl _ | with_reducible exact X7 | with_reducible exact Xb | with_reducible exact Xa | with_reducible apply Ext.drew | with_reducible apply Ext.alloc)) (Nat.le_refl _); obtain ⟨Ab, cb, rfl, ib, jb⟩ := hmb.form)
                        | (refine step_append_ints rfl _ _ rfl W.heap.size _ _ _ rfl (hma) (some ⟨_, 0, none⟩) (1) (1) ((fun _ _ => (k : Int))) rfl (recs_one l0 hk64) ((fun q => by cases q)) (by omega) (by (try simp only [World.size_alloc]); first | omega | (have := Xa.size; (try simp only [World.size_alloc] at *); omega) | (have := Xb.size; (try simp only [World.size_alloc] at *); omega)) ?_; intro vb wb hmb hxb hcb; have Xb : Ext W wb := hxb _ (by repeat (first | with_reducible exact Ext.refl _ | with_reducible exact X7 | with_reducible exact Xb | with_reducible exact Xa | with_reducible apply Ext.drew | with_reducible apply Ext.alloc)) (Nat.le_refl _); obtain ⟨Ab, cb, rfl, ib, jb⟩ := hmb.form)
                        | (refine step_append_ints rfl _ _ rfl W.heap.size _ _ _ rfl (hma.alloc _) (some ⟨_, 0, none⟩) (1) (1) ((fun _ _ => (k : Int))) rfl (recs_one (by simp [go_sem]) hk64) ((fun q => by cases q)) (by omega) (by (try simp only [World.size_alloc]); first | omega | (have := Xa.size; (try simp only [World.size_alloc] at *); omega) | (have := Xb.size; (try simp only [World.size_alloc] at *); omega)) ?_; intro vb wb hmb hxb hcb; have Xb : Ext W wb := hxb _ (by repeat (first | with_reducible exact Ext.refl _ | with_reducible exact X7 | with_reducible exact Xb | with_reducible exact Xa | with_reducible apply Ext.drew | with_reducible apply Ext.alloc)) (Nat.le_refl _); obtain ⟨Ab, cb, rfl, ib, jb⟩ := hmb.form)
                        | (refine step_append_ints rfl _ _ rfl W.heap.size _ _ _ rfl (hmb) (some A2) ((ln - j)) ((cp - j)) ((fun i _ => ix zs (j + i))) rfl (HS2.out _ (by repeat (first | with_reducible exact Ext.refl _ | with_reducible exact X7 | with_reducible exact Xb | with_reducible exact Xa | with_reducible apply Ext.drew | with_reducible apply Ext.alloc))) ((fun q => by cases q)) (by omega) (by (try simp only [World.size_alloc]); first | omega | (have := Xa.size; (try simp only [World.size_alloc] at *); omega) | (have := Xb.size; (try simp only [World.size_alloc] at *); omega)) ?_; intro vd wd hmd hxd _; have X7 : Ext W wd := hxd _ (by repeat (first | with_reducible exact Ext.refl _ | with_reducible exact X7 | with_reducible exact Xb | with_reducible exact Xa | with_reducible apply Ext.drew | with_reducible apply Ext.alloc)) (Nat.le_refl _); obtain ⟨A7, c7, rfl, i7, j7⟩ := hmd.form; obtain ⟨g7, rfl⟩ := hmd.some_ (by omega); have y0 := X7.cell pc0; have y1 := X7.cell pc1; have z0 := X7.frozen pc0 pf0; have z1 := X7.frozen pc1 pf1))
                      all_goals
                        rw [← HFN.out, ← HF.out] at hmd
                        have hk8 := (hput wd none _ (insU zs (k : Int)) lim (X7.grownBy none) (.inr rfl) (hmd.more X.size) (.inr fun b hb => (hmd.lt b hb).1) hlim).2.2.1
                        rw [HFN.out] at hk8
                        rw [← HSRT.out, show upd (fun _ : Nat => lim) t lim = fun _ => lim from funext fun i => by unfold upd; split <;> rfl, ← upd_srtN] at hk8
                        have X8 := ((X.trans X7).setCell pg1 (p := ⟨gv, t * 2, none⟩) (.slice (some ⟨g7, 0, none⟩) (insU zs (k : Int)).length c7)).setCell pg1 (p := ⟨gv, t * 2 + 1, none⟩) (.int .i64 lim)
                        rw [HFN.out] at X8
                        have HK8 := Lib.hid hk8
                        clear hk8 hput hmd
                        go_wp2
                        go_roundw
                        case rel => exact ⟨q + 1, some ⟨gv, 0, none⟩, cvv, by omega, by go_num, by rw [HT2.out], .inr (by rw [HT2.out]; exact HK8.out), X8⟩
                        case measure => simp [intOf]; omega
                  · obtain rfl : j = ln := by omega
                    have HE := Lib.hid (insU_put (l := zs) (x := (k : Int)) (k := j) (by omega) HALL.out (fun q => by omega))
                    cases Ap with
                    | none =>
                      obtain ⟨h0, rfl⟩ := hcapn rfl
                      subst h0
                      clear hcapn hsome
                      have HF := Lib.hid (show insU zs (k : Int) = (tab 0 fun i => ix zs i) ++ (tab 1 fun _ => (k : Int)) ++ (tab 0 fun i => ix zs (0 + i)) by rw [List.length_eq_zero_iff.1 hzl]; rfl)
                      have HS1 := Lib.hid (fun W' (Z : Ext W W') => (show Recs W' 1 (none) 0 (fun i _ => ix zs i) from ⟨fun h => absurd h (by omega), fun _ _ => hzb _⟩))
                      have HS2 := Lib.hid (fun W' (Z : Ext W W') => (show Recs W' 1 (none) 0 (fun i _ => ix zs (0 + i)) from ⟨fun h => absurd h (by omega), fun _ _ => hzb _⟩))
                      have HFN := Lib.hid (show (insU zs (k : Int)).length = 0 + 1 + 0 by rw [HF.out, List.length_append, List.length_append, tab_len, tab_len, tab_len])
                      clear hpr
                      go_wp2_with fail
                      go_region_held3 (fun _ => True) (trivial) (first
                        | (refine step_append_ints rfl _ _ rfl W.heap.size (.slice (some ⟨_, 0, none⟩) 0 0) 0 [] rfl (by first | exact litI _ _ _ (by first | rfl | (simp; done)) (by first | exact Nat.le_refl _ | (simp; done) | (simp; omega)) | exact (litI _ _ _ (by first | rfl | (simp; done)) (by first | exact Nat.le_refl _ | (simp; done) | (simp; omega))).alloc _) (none) (0) (0) ((fun i _ => ix zs i)) rfl (HS1.out _ (by repeat (first | with_reducible exact Ext.refl _ | with_reducible exact X7 | with_reducible exact Xb | with_reducible exact Xa | with_reducible apply Ext.drew | with_reducible apply Ext.alloc))) ((fun _ => ⟨rfl, rfl⟩)) (by omega) (by (try simp only [World.size_alloc, World.size_drew]); first | omega | (have := Xa.size; (try simp only [World.size_alloc] at *); omega) | (have := Xb.size; (try simp only [World.size_alloc] at *); omega)) ?_; intro va wa hma hxa hcc; rw [Nat.zero_add, List.nil_append] at hma; have Xa : Ext W wa := hxa _ (by repeat (first | with_reducible exact Ext.refl _ | with_reducible exact X7 | with_reducible exact Xb | with_reducible exact Xa | with_reducible apply Ext.drew | with_reducible apply Ext.alloc)) (Nat.le_refl _); obtain ⟨Aa, ca, rfl, ia, ja⟩ := hma.form; (try (refine (fun (k0 : wa.cell? ⟨W.heap.size, 0, none⟩ = some (.int .i64 (k : Int))) => ?_) ?_; rotate_left; (refine hcc _ _ _ ?_ ?_; (focus (first | (simp [Value.ownBlock]; done) | (intro q; injection (show some _ = some _ from q) with q; omega))); (first | (focus (simp [go_sem]; done)) | (focus (simp [go_sem, *]; done)))))); (try (refine (fun (l0 : wa.cell? ⟨W.heap.size + 1, 0, none⟩ = some (.int .i64 (k : Int))) => ?_) ?_; rotate_left; (refine hcc _ _ _ ?_ ?_; (focus (first | (simp [Value.ownBlock]; done) | (intro q; injection (show some _ = some _ from q) with q; omega))); (first | (focus (simp [go_sem]; done)) | (focus (simp [go_sem, *]; done)))))))
                        | (refine step_append_ints rfl _ _ rfl W.heap.size _ _ _ rfl (hma) (some ⟨_, 0, none⟩) (1) (1) ((fun _ _ => (k : Int))) rfl (recs_one k0 hk64) ((fun q => by cases q)) (by omega) (by (try simp only [World.size_alloc]); first | omega | (have := Xa.size; (try simp only [World.size_alloc] at *); omega) | (have := Xb.size; (try simp only [World.size_alloc] at *); omega)) ?_; intro vb wb hmb hxb hcb; have Xb : Ext W wb := hxb _ (by repeat (first | with_reducible exact Ext.refl _ | with_reducible exact X7 | with_reducible exact Xb | with_reducible exact Xa | with_reducible apply Ext.drew | with_reducible apply Ext.alloc)) (Nat.le_refl _); obtain ⟨Ab, cb, rfl, ib, jb⟩ := hmb.form)
                        | (refine step_append_ints rfl _ _ rfl W.heap.size _ _ _ rfl (hma) (some ⟨_, 0, none⟩) (1) (1) ((fun _ _ => (k : Int))) rfl (recs_one l0 hk64) ((fun q => by cases q)) (by omega) (by (try simp only [World.size_alloc]); first | omega | (have := Xa.size; (try simp only [World.size_alloc] at *); omega) | (have := Xb.size; (try simp only [World.size_alloc] at *); omega)) ?_; intro vb wb hmb hxb hcb; have Xb : Ext W wb := hxb _ (by repeat (first | with_reducible exact Ext.refl _ | with_reducible exact X7 | with_reducible exact Xb | with_reducible exact Xa | with_reducible apply Ext.drew | with_reducible apply Ext.alloc)) (Nat.le_refl _); obtain ⟨Ab, cb, rfl, ib, jb⟩ := hmb.form)
                        | (refine step_append_ints rfl _ _ rfl W.heap.size _ _ _ rfl (hma.alloc _) (some ⟨_, 0, none⟩) (1) (1) ((fun _ _ => (k : Int))) rfl (recs_one (by simp [go_sem]) hk64) ((fun q => by cases q)) (by omega) (by (try simp only [World.size_alloc]); first | omega | (have := Xa.size; (try simp only [World.size_alloc] at *); omega) | (have := Xb.size; (try simp only [World.size_alloc] at *); omega)) ?_; intro vb wb hmb hxb hcb; have Xb : Ext W wb := hxb _ (by repeat (first | with_reducible exact Ext.refl _ | with_reducible exact X7 | with_reducible exact Xb | with_reducible exact Xa | with_reducible apply Ext.drew | with_reducible apply Ext.alloc)) (Nat.le_refl _); obtain ⟨Ab, cb, rfl, ib, jb⟩ := hmb.form)
                        | (refine step_append_ints rfl _ _ rfl W.heap.size _ _ _ rfl (hmb) (none) (0) (0) ((fun i _ => ix zs (0 + i))) rfl (HS2.out _ (by repeat (first | with_reducible exact Ext.refl _ | with_reducible exact X7 | with_reducible exact Xb | with_reducible exact Xa | with_reducible apply Ext.drew | with_reducible apply Ext.alloc))) ((fun _ => ⟨rfl, rfl⟩)) (by omega) (by (try simp only [World.size_alloc]); first | omega | (have := Xa.size; (try simp only [World.size_alloc] at *); omega) | (have := Xb.size; (try simp only [World.size_alloc] at *); omega)) ?_; intro vd wd hmd hxd _; have X7 : Ext W wd := hxd _ (by repeat (first | with_reducible exact Ext.refl _ | with_reducible exact X7 | with_reducible exact Xb | with_reducible exact Xa | with_reducible apply Ext.drew | with_reducible apply Ext.alloc)) (Nat.le_refl _); obtain ⟨A7, c7, rfl, i7, j7⟩ := hmd.form; obtain ⟨g7, rfl⟩ := hmd.some_ (by omega); have y0 := X7.cell pc0; have y1 := X7.cell pc1; have z0 := X7.frozen pc0 pf0; have z1 := X7.frozen pc1 pf1))
                      all_goals
                        rw [← HFN.out, ← HF.out] at hmd
                        have hk8 := (hput wd none _ (insU zs (k : Int)) lim (X7.grownBy none) (.inr rfl) (hmd.more X.size) (.inr fun b hb => (hmd.lt b hb).1) hlim).2.2.1
                        rw [HFN.out] at hk8
                        rw [← HSRT.out, show upd (fun _ : Nat => lim) t lim = fun _ => lim from funext fun i => by unfold upd; split <;> rfl, ← upd_srtN] at hk8
                        have X8 := ((X.trans X7).setCell pg1 (p := ⟨gv, t * 2, none⟩) (.slice (some ⟨g7, 0, none⟩) (insU zs (k : Int)).length c7)).setCell pg1 (p := ⟨gv, t * 2 + 1, none⟩) (.int .i64 lim)
                        rw [HFN.out] at X8
                        have HK8 := Lib.hid hk8
                        clear hk8 hput hmd
                        go_wp2
                        go_roundw
                        case rel => exact ⟨q + 1, some ⟨gv, 0, none⟩, cvv, by omega, by go_num, by rw [HT2.out], .inr (by rw [HT2.out]; exact HK8.out), X8⟩
                        case measure => simp [intOf]; omega
                    | some ad =>
                      obtain ⟨B, rfl⟩ := hsome _ rfl
                      clear hcapn hsome
                      obtain ⟨A2, hA2⟩ : ∃ A2 : Addr, (if cp = j then some (⟨B, 0, none⟩ : Addr) else some ⟨B, j, none⟩) = some A2 := by split <;> exact ⟨_, rfl⟩
                      have HS1 := Lib.hid (fun W' (Z : Ext W W') => (show Recs W' 1 (some ⟨B, 0, none⟩) j (fun i _ => ix zs i) from (hpr.take_ (by omega)).ext Z))
                      have HS2 := Lib.hid (fun W' (Z : Ext W W') => (show Recs W' 1 (some A2) 0 (fun i _ => ix zs (j + i)) from Recs.ext (suf0 hpr hA2) Z))
                      have HF := Lib.hid (show insU zs (k : Int) = (tab j fun i => ix zs i) ++ (tab 1 fun _ => (k : Int)) ++ (tab 0 fun i => ix zs (j + i)) by rw [HE.out, tab_take (by omega), List.drop_eq_nil_of_le (by omega)]; rfl)
                      have hjc : j ≤ cp := by omega
                      have hj0 : ¬ ((j : Int) < (j : Int)) := by omega
                      have HFN := Lib.hid (show (insU zs (k : Int)).length = j + 1 + 0 by rw [HF.out, List.length_append, List.length_append, tab_len, tab_len, tab_len])
                      clear hpr
                      go_wp2_with fail
                      go_region_held3 (fun _ => True) (trivial) (first
                        | (refine step_append_ints rfl _ _ rfl W.heap.size (.slice (some ⟨_, 0, none⟩) 0 0) 0 [] rfl (by first | exact litI _ _ _ (by first | rfl | (simp; done)) (by first | exact Nat.le_refl _ | (simp; done) | (simp; omega)) | exact (litI _ _ _ (by first | rfl | (simp; done)) (by first | exact Nat.le_refl _ | (simp; done) | (simp; omega))).alloc _) (some ⟨B, 0, none⟩) (j) (cp) ((fun i _ => ix zs i)) rfl (HS1.out _ (by repeat (first | with_reducible exact Ext.refl _ | with_reducible exact X7 | with_reducible exact Xb | with_reducible exact Xa | with_reducible apply Ext.drew | with_reducible apply Ext.alloc))) ((fun q => by cases q)) (by omega) (by (try simp only [World.size_alloc, World.size_drew]); first | omega | (have := Xa.size; (try simp only [World.size_alloc] at *); omega) | (have := Xb.size; (try simp only [World.size_alloc] at *); omega)) ?_; intro va wa hma hxa hcc; rw [Nat.zero_add, List.nil_append] at hma; have Xa : Ext W wa := hxa _ (by repeat (first | with_reducible exact Ext.refl _ | with_reducible exact X7 | with_reducible exact Xb | with_reducible exact Xa | with_reducible apply Ext.drew | with_reducible apply Ext.alloc)) (Nat.le_refl _); obtain ⟨Aa, ca, rfl, ia, ja⟩ := hma.form; (try (refine (fun (k0 : wa.cell? ⟨W.heap.size, 0, none⟩ = some (.int .i64 (k : Int))) => ?_) ?_; rotate_left; (refine hcc _ _ _ ?_ ?_; (focus (first | (simp [Value.ownBlock]; done) | (intro q; injection (show some _ = some _ from q) with q; omega))); (first | (focus (simp [go_sem]; done)) | (focus (simp [go_sem, *]; done)))))); (try (refine (fun (l0 : wa.cell? ⟨W.heap.size + 1, 0, none⟩ = some (.int .i64 (k : Int))) => ?_) ?_; rotate_left; (refine hcc _ _ _ ?_ ?_; (focus (first | (simp [Value.ownBlock]; done) | (intro q; injection (show some _ = some _ from q) with q; omega))); (first | (focus (simp [go_sem]; done)) | (focus (simp [go_sem, *]; done)))))))
                        | (refine step_append_ints rfl _ _ rfl W.heap.size _ _ _ rfl (hma) (some ⟨_, 0, none⟩) (1) (1) ((fun _ _ => (k : Int))) rfl (recs_one k0 hk64) ((fun q => by cases q)) (by omega) (by (try simp only [World.size_alloc]); first | omega | (have := Xa.size; (try simp only [World.size_alloc] at *); omega) | (have := Xb.size; (try simp only [World.size_alloc] at *); omega)) ?_; intro vb wb hmb hxb hcb; have Xb : Ext W wb := hxb _ (by repeat (first | with_reducible exact Ext.refl _ | with_reducible exact X7 | with_reducible exact Xb | with_reducible exact Xa | with_reducible apply Ext.drew | with_reducible apply Ext.alloc)) (Nat.le_refl _); obtain ⟨Ab, cb, rfl, ib, jb⟩ := hmb.form)
                        | (refine step_append_ints rfl _ _ rfl W.heap.size _ _ _ rfl (hma) (some ⟨_, 0, none⟩) (1) (1) ((fun _ _ => (k : Int))) rfl (recs_one l0 hk64) ((fun q => by cases q)) (by omega) (by (try simp only [World.size_alloc]); first | omega | (have := Xa.size; (try simp only [World.size_alloc] at *); omega) | (have := Xb.size; (try simp only [World.size_alloc] at *); omega)) ?_; intro vb wb hmb hxb hcb; have Xb : Ext W wb := hxb _ (by repeat (first | with_reducible exact Ext.refl _ | with_reducible exact X7 | with_reducible exact Xb | with_reducible exact Xa | with_reducible apply Ext.drew | with_reducible apply Ext.alloc)) (Nat.le_refl _); obtain ⟨Ab, cb, rfl, ib, jb⟩ := hmb.form)
                        | (refine step_append_ints rfl _ _ rfl W.heap.size _ _ _ rfl (hma.alloc _) (some ⟨_, 0, none⟩) (1) (1) ((fun _ _ => (k : Int))) rfl (recs_one (by simp [go_sem]) hk64) ((fun q => by cases q)) (by omega) (by (try simp only [World.size_alloc]); first | omega | (have := Xa.size; (try simp only [World.size_alloc] at *); omega) | (have := Xb.size; (try simp only [World.size_alloc] at *); omega)) ?_; intro vb wb hmb hxb hcb; have Xb : Ext W wb := hxb _ (by repeat (first | with_reducible exact Ext.refl _ | with_reducible exact X7 | with_reducible exact Xb | with_reducible exact Xa | with_reducible apply Ext.drew | with_reducible apply Ext.alloc)) (Nat.le_refl _); obtain ⟨Ab, cb, rfl, ib, jb⟩ := hmb.form)
                        | (refine step_append_ints rfl _ _ rfl W.heap.size _ _ _ rfl (hmb) (some A2) (0) ((cp - j)) ((fun i _ => ix zs (j + i))) rfl (HS2.out _ (by repeat (first | with_reducible exact Ext.refl _ | with_reducible exact X7 | with_reducible exact Xb | with_reducible exact Xa | with_reducible apply Ext.drew | with_reducible apply Ext.alloc))) ((fun q => by cases q)) (by omega) (by (try simp only [World.size_alloc]); first | omega | (have := Xa.size; (try simp only [World.size_alloc] at *); omega) | (have := Xb.size; (try simp only [World.size_alloc] at *); omega)) ?_; intro vd wd hmd hxd _; have X7 : Ext W wd := hxd _ (by repeat (first | with_reducible exact Ext.refl _ | with_reducible exact X7 | with_reducible exact Xb | with_reducible exact Xa | with_reducible apply Ext.drew | with_reducible apply Ext.alloc)) (Nat.le_refl _); obtain ⟨A7, c7, rfl, i7, j7⟩ := hmd.form; obtain ⟨g7, rfl⟩ := hmd.some_ (by omega); have y0 := X7.cell pc0; have y1 := X7.cell pc1; have z0 := X7.frozen pc0 pf0; have z1 := X7.frozen pc1 pf1))
                      all_goals
                        rw [← HFN.out, ← HF.out] at hmd
                        have hk8 := (hput wd none _ (insU zs (k : Int)) lim (X7.grownBy none) (.inr rfl) (hmd.more X.size) (.inr fun b hb => (hmd.lt b hb).1) hlim).2.2.1
                        rw [HFN.out] at hk8
                        rw [← HSRT.out, show upd (fun _ : Nat => lim) t lim = fun _ => lim from funext fun i => by unfold upd; split <;> rfl, ← upd_srtN] at hk8
                        have X8 := ((X.trans X7).setCell pg1 (p := ⟨gv, t * 2, none⟩) (.slice (some ⟨g7, 0, none⟩) (insU zs (k : Int)).length c7)).setCell pg1 (p := ⟨gv, t * 2 + 1, none⟩) (.int .i64 lim)
                        rw [HFN.out] at X8
                        have HK8 := Lib.hid hk8
                        clear hk8 hput hmd
                        go_wp2
                        go_roundw
                        case rel => exact ⟨q + 1, some ⟨gv, 0, none⟩, cvv, by omega, by go_num, by rw [HT2.out], .inr (by rw [HT2.out]; exact HK8.out), X8⟩
                        case measure => simp [intOf]; omega
              · have hgt : decide (lim < sumF f (L t) + f k 0) = true := by simp; omega
                go_wp2
                first | refine wp_region_gr2 (by kernel_rfl) (by kernel_rfl) ?_ | refine wp_region_gr (by kernel_rfl) (by kernel_rfl) ?_
                repeat (go_big_quiet_step ((go_at_call 54; exact gr_of (HCW.out _ (by first | exact Ext.refl _ | exact Ext.gr _ _)))))
                refine wpQuiet_nil ?_
                intro _ hw'
                obtain ⟨gq, hw''⟩ := hw'
                subst hw''
                go_wp2
                go_roundw
                case rel =>
                  refine ⟨t + 1, by omega, by go_num, fun i hi => ?_, .inr (hmk.ext (Ext.gr wr gq)), X.wgr gq⟩
                  by_cases e : i = t
                  · subst e; simpa using hle
                  · exact HALL.out i (by omega)
                case measure => simp [intOf]; omega
            · obtain rfl : m = t := by omega
              have HT2 : Hid (pcs f lim ord (q + 1) = (m + 1, upd L m (L m ++ [k]))) := Lib.hid (by rw [HSC.out m (fstP_none HALL.out), Nat.max_eq_right (by omega)])
              have HL0 := Lib.hid (show srtN (L m) = [] by rw [HOQ.out m (Nat.le_refl _)]; simp [srtN, nums, srtL])
              have hzz := Lib.hid (show (srtN (L m)).length = 0 by rw [HL0.out]; rfl)
              clear HSC HALL
              have t2 : ((m : Int) == (m : Int)) = true := by simp
              go_wp2
              first | refine wp_region_gr2 (by kernel_rfl) (by kernel_rfl) ?_ | refine wp_region_gr (by kernel_rfl) (by kernel_rfl) ?_
              repeat (go_big_quiet_step (fail))
              refine wpQuiet_nil ?_
              intro _ hw'
              obtain ⟨gq, hw''⟩ := hw'
              subst hw''
              replace hmk : (m = 0 ∧ ∃ ao, Value.slice Av m cvv = .slice ao 0 0) ∨ MineK w5.heap.size (wgr wr gq) 64 3 (.slice Av m cvv) m (fun j => srtN (L j)) (fun _ => lim) := by
                rcases hmk with ⟨e1, e2, e3⟩ | h
                · exact .inl ⟨e1, some ⟨w.heap.size, 0, none⟩, by rw [e1, e2, e3]⟩
                · exact .inr (h.ext (Ext.gr wr gq))
              replace X := X.wgr gq
              clear hck
              generalize wgr wr gq = W0 at *
              go_wp2_with (at_builtin; refine append_crate_out _ rfl _ _ rfl w5 _ _ (fun j => srtN (L j)) lim hlim rfl (by rcases hmk with h | h; exact .inl h; exact .inr (h.ext ((Ext.refl W0).alloc _))) (X.alloc _) HL0.out _ rfl (by simp [go_sem]) (by simp [go_sem]) (by omega) ?_; intro v3 W hmk6 X6; obtain ⟨A3, cvv3, rfl, i3, j3⟩ := hmk6.form; obtain ⟨gv, rfl⟩ := hmk6.some_ (by omega); obtain ⟨pv, pc0, pc1, pf0, pf1, pm, pg1, pg2, pS, hput⟩ := hmk6.row (k := m) (by omega); obtain ⟨Ap, cp, rfl, ip, jp⟩ := pm.form; have r1 : (m : Int) < (m : Int) + 1 := (by omega); have r2 : (0 : Int) ≤ (m : Int) := (by omega))
              replace X := X6
              clear pS hmk6 X6 hmk
              have HSRT := Lib.hid (srtN_put (HND.out m) (HNEW.out m))
              have hnotin : ¬ (k : Int) ∈ srtN (L m) := srtN_notin (HNEW.out m)
              have hlz : (srtN (L m)).length ≤ 20 := by rw [srtN_len]; have := HLT.out m; omega
              have hzb := pm.ix_bd
              have hcapn := fun (e : Ap = none) => noneI_cap (by rw [e] at pm; exact pm)
              have hsome : ∀ ad, Ap = some ad → ∃ B, ad = ⟨B, 0, none⟩ := fun ad e => Mine.head_ (by rw [e] at pm; exact pm)
              have hpr := pm.recs
              clear pm
              have hzero := hzz.out
              generalize srtN (L m) = zs at *
              generalize hzl : zs.length = ln at *
              subst hzero
              have HNI := Lib.hid (fun j (hj : j < 0) => (show ix zs j ≠ (k : Int) from fun e => hnotin (by rw [← e, ix_get (by omega)]; exact List.getElem_mem _)))
              clear hnotin
              go_loop [14] (fun i => ∃ j : Nat, j ≤ 0 ∧ i = .int .i64 j ∧ ∀ i, i < j → ix zs i < (k : Int)) (fun i => 0 - (intOf i).toNat)
              case atStart => exact ⟨0, Nat.zero_le _, rfl, fun i hi => absurd hi (by omega)⟩
              case round =>
                obtain ⟨j, hj, rfl, hall⟩ := hrel
                have HALL := Lib.hid hall
                clear hall
                by_cases hjl : j < 0
                · exfalso; omega
                · obtain rfl : j = 0 := by omega
                  have HE := Lib.hid (insU_put (l := zs) (x := (k : Int)) (k := 0) (by omega) (fun i hi => absurd hi (by omega)) (fun q => by omega))
                  cases Ap with
                  | none =>
                    obtain ⟨h0, rfl⟩ := hcapn rfl
                    skip
                    clear hcapn hsome
                    have HF := Lib.hid (show insU zs (k : Int) = (tab 0 fun i => ix zs i) ++ (tab 1 fun _ => (k : Int)) ++ (tab 0 fun i => ix zs (0 + i)) by rw [List.length_eq_zero_iff.1 hzl]; rfl)
                    have HS1 := Lib.hid (fun W' (Z : Ext W W') => (show Recs W' 1 (none) 0 (fun i _ => ix zs i) from ⟨fun h => absurd h (by omega), fun _ _ => hzb _⟩))
                    have HS2 := Lib.hid (fun W' (Z : Ext W W') => (show Recs W' 1 (none) 0 (fun i _ => ix zs (0 + i)) from ⟨fun h => absurd h (by omega), fun _ _ => hzb _⟩))
                    have HFN := Lib.hid (show (insU zs (k : Int)).length = 0 + 1 + 0 by rw [HF.out, List.length_append, List.length_append, tab_len, tab_len, tab_len])
                    clear hpr
                    go_wp2_with fail
                    go_region_held3 (fun _ => True) (trivial) (first
                      | (refine step_append_ints rfl _ _ rfl W.heap.size (.slice (some ⟨_, 0, none⟩) 0 0) 0 [] rfl (by first | exact litI _ _ _ (by first | rfl | (simp; done)) (by first | exact Nat.le_refl _ | (simp; done) | (simp; omega)) | exact (litI _ _ _ (by first | rfl | (simp; done)) (by first | exact Nat.le_refl _ | (simp; done) | (simp; omega))).alloc _) (none) (0) (0) ((fun i _ => ix zs i)) rfl (HS1.out _ (by repeat (first | with_reducible exact Ext.refl _ | with_reducible exact X7 | with_reducible exact Xb | with_reducible exact Xa | with_reducible apply Ext.drew | with_reducible apply Ext.alloc))) ((fun _ => ⟨rfl, rfl⟩)) (by omega) (by (try simp only [World.size_alloc, World.size_drew]); first | omega | (have := Xa.size; (try simp only [World.size_alloc] at *); omega) | (have := Xb.size; (try simp only [World.size_alloc] at *); omega)) ?_; intro va wa hma hxa hcc; rw [Nat.zero_add, List.nil_append] at hma; have Xa : Ext W wa := hxa _ (by repeat (first | with_reducible exact Ext.refl _ | with_reducible exact X7 | with_reducible exact Xb | with_reducible exact Xa | with_reducible apply Ext.drew | with_reducible apply Ext.alloc)) (Nat.le_refl _); obtain ⟨Aa, ca, rfl, ia, ja⟩ := hma.form; (try (refine (fun (k0 : wa.cell? ⟨W.heap.size, 0, none⟩ = some (.int .i64 (k : Int))) => ?_) ?_; rotate_left; (refine hcc _ _ _ ?_ ?_; (focus (first | (simp [Value.ownBlock]; done) | (intro q; injection (show some _ = some _ from q) with q; omega))); (first | (focus (simp [go_sem]; done)) | (focus (simp [go_sem, *]; done)))))); (try (refine (fun (l0 : wa.cell? ⟨W.heap.size + 1, 0, none⟩ = some (.int .i64 (k : Int))) => ?_) ?_; rotate_left; (refine hcc _ _ _ ?_ ?_; (focus (first | (simp [Value.ownBlock]; done) | (intro q; injection (show some _ = some _ from q) with q; omega))); (first | (focus (simp [go_sem]; done)) | (focus (simp [go_sem, *]; done)))))))
                      | (refine step_append_ints rfl _ _ rfl W.heap.size _ _ _ rfl (hma) (some ⟨_, 0, none⟩) (1) (1) ((fun _ _ => (k : Int))) rfl (recs_one k0 hk64) ((fun q => by cases q)) (by omega) (by (try simp only [World.size_alloc]); first | omega | (have := Xa.size; (try simp only [World.size_alloc] at *); omega) | (have := Xb.size; (try simp only [World.size_alloc] at *); omega)) ?_; intro vb wb hmb hxb hcb; have Xb : Ext W wb := hxb _ (by repeat (first | with_reducible exact Ext.refl _ | with_reducible exact X7 | with_reducible exact Xb | with_reducible exact Xa | with_reducible apply Ext.drew | with_reducible apply Ext.alloc)) (Nat.le_refl _); obtain ⟨Ab, cb, rfl, ib, jb⟩ := hmb.form)
                      | (refine step_append_ints rfl _ _ rfl W.heap.size _ _ _ rfl (hma) (some ⟨_, 0, none⟩) (1) (1) ((fun _ _ => (k : Int))) rfl (recs_one l0 hk64) ((fun q => by cases q)) (by omega) (by (try simp only [World.size_alloc]); first | omega | (have := Xa.size; (try simp only [World.size_alloc] at *); omega) | (have := Xb.size; (try simp only [World.size_alloc] at *); omega)) ?_; intro vb wb hmb hxb hcb; have Xb : Ext W wb := hxb _ (by repeat (first | with_reducible exact Ext.refl _ | with_reducible exact X7 | with_reducible exact Xb | with_reducible exact Xa | with_reducible apply Ext.drew | with_reducible apply Ext.alloc)) (Nat.le_refl _); obtain ⟨Ab, cb, rfl, ib, jb⟩ := hmb.form)
                      | (refine step_append_ints rfl _ _ rfl W.heap.size _ _ _ rfl (hma.alloc _) (some ⟨_, 0, none⟩) (1) (1) ((fun _ _ => (k : Int))) rfl (recs_one (by simp [go_sem]) hk64) ((fun q => by cases q)) (by omega) (by (try simp only [World.size_alloc]); first | omega | (have := Xa.size; (try simp only [World.size_alloc] at *); omega) | (have := Xb.size; (try simp only [World.size_alloc] at *); omega)) ?_; intro vb wb hmb hxb hcb; have Xb : Ext W wb := hxb _ (by repeat (first | with_reducible exact Ext.refl _ | with_reducible exact X7 | with_reducible exact Xb | with_reducible exact Xa | with_reducible apply Ext.drew | with_reducible apply Ext.alloc)) (Nat.le_refl _); obtain ⟨Ab, cb, rfl, ib, jb⟩ := hmb.form)
                      | (refine step_append_ints rfl _ _ rfl W.heap.size _ _ _ rfl (hmb) (none) (0) (0) ((fun i _ => ix zs (0 + i))) rfl (HS2.out _ (by repeat (first | with_reducible exact Ext.refl _ | with_reducible exact X7 | with_reducible exact Xb | with_reducible exact Xa | with_reducible apply Ext.drew | with_reducible apply Ext.alloc))) ((fun _ => ⟨rfl, rfl⟩)) (by omega) (by (try simp only [World.size_alloc]); first | omega | (have := Xa.size; (try simp only [World.size_alloc] at *); omega) | (have := Xb.size; (try simp only [World.size_alloc] at *); omega)) ?_; intro vd wd hmd hxd _; have X7 : Ext W wd := hxd _ (by repeat (first | with_reducible exact Ext.refl _ | with_reducible exact X7 | with_reducible exact Xb | with_reducible exact Xa | with_reducible apply Ext.drew | with_reducible apply Ext.alloc)) (Nat.le_refl _); obtain ⟨A7, c7, rfl, i7, j7⟩ := hmd.form; obtain ⟨g7, rfl⟩ := hmd.some_ (by omega); have y0 := X7.cell pc0; have y1 := X7.cell pc1; have z0 := X7.frozen pc0 pf0; have z1 := X7.frozen pc1 pf1))
                    all_goals
                      rw [← HFN.out, ← HF.out] at hmd
                      have hk8 := (hput wd none _ (insU zs (k : Int)) lim (X7.grownBy none) (.inr rfl) (hmd.more X.size) (.inr fun b hb => (hmd.lt b hb).1) hlim).2.2.1
                      rw [HFN.out] at hk8
                      rw [← HSRT.out, show upd (fun _ : Nat => lim) m lim = fun _ => lim from funext fun i => by unfold upd; split <;> rfl, ← upd_srtN] at hk8
                      have X8 := ((X.trans X7).setCell pg1 (p := ⟨gv, m * 2, none⟩) (.slice (some ⟨g7, 0, none⟩) (insU zs (k : Int)).length c7)).setCell pg1 (p := ⟨gv, m * 2 + 1, none⟩) (.int .i64 lim)
                      rw [HFN.out] at X8
                      have HK8 := Lib.hid hk8
                      clear hk8 hput hmd
                      go_wp2
                      go_roundw
                      case rel => exact ⟨q + 1, some ⟨gv, 0, none⟩, cvv3, by omega, by go_num, by rw [HT2.out], .inr (by rw [HT2.out]; exact HK8.out), X8⟩
                      case measure => simp [intOf]; omega
                  | some ad =>
                    obtain ⟨B, rfl⟩ := hsome _ rfl
                    clear hcapn hsome
                    have HF := Lib.hid (show insU zs (k : Int) = (tab 0 fun i => ix zs i) ++ (tab 1 fun _ => (k : Int)) ++ (tab 0 fun i => ix zs (0 + i)) by rw [List.length_eq_zero_iff.1 hzl]; rfl)
                    have HS1 := Lib.hid (fun W' (Z : Ext W W') => (show Recs W' 1 (some ⟨B, 0, none⟩) 0 (fun i _ => ix zs i) from ⟨fun h => absurd h (by omega), fun _ _ => hzb _⟩))
                    have HS2 := Lib.hid (fun W' (Z : Ext W W') => (show Recs W' 1 (some ⟨B, 0, none⟩) 0 (fun i _ => ix zs (0 + i)) from ⟨fun h => absurd h (by omega), fun _ _ => hzb _⟩))
                    have HFN := Lib.hid (show (insU zs (k : Int)).length = 0 + 1 + 0 by rw [HF.out, List.length_append, List.length_append, tab_len, tab_len, tab_len])
                    clear hpr
                    go_wp2_with fail
                    go_region_held3 (fun _ => True) (trivial) (first
                      | (refine step_append_ints rfl _ _ rfl W.heap.size (.slice (some ⟨_, 0, none⟩) 0 0) 0 [] rfl (by first | exact litI _ _ _ (by first | rfl | (simp; done)) (by first | exact Nat.le_refl _ | (simp; done) | (simp; omega)) | exact (litI _ _ _ (by first | rfl | (simp; done)) (by first | exact Nat.le_refl _ | (simp; done) | (simp; omega))).alloc _) (some ⟨B, 0, none⟩) (0) (cp) ((fun i _ => ix zs i)) rfl (HS1.out _ (by repeat (first | with_reducible exact Ext.refl _ | with_reducible exact X7 | with_reducible exact Xb | with_reducible exact Xa | with_reducible apply Ext.drew | with_reducible apply Ext.alloc))) ((fun q => by cases q)) (by omega) (by (try simp only [World.size_alloc, World.size_drew]); first | omega | (have := Xa.size; (try simp only [World.size_alloc] at *); omega) | (have := Xb.size; (try simp only [World.size_alloc] at *); omega)) ?_; intro va wa hma hxa hcc; rw [Nat.zero_add, List.nil_append] at hma; have Xa : Ext W wa := hxa _ (by repeat (first | with_reducible exact Ext.refl _ | with_reducible exact X7 | with_reducible exact Xb | with_reducible exact Xa | with_reducible apply Ext.drew | with_reducible apply Ext.alloc)) (Nat.le_refl _); obtain ⟨Aa, ca, rfl, ia, ja⟩ := hma.form; (try (refine (fun (k0 : wa.cell? ⟨W.heap.size, 0, none⟩ = some (.int .i64 (k : Int))) => ?_) ?_; rotate_left; (refine hcc _ _ _ ?_ ?_; (focus (first | (simp [Value.ownBlock]; done) | (intro q; injection (show some _ = some _ from q) with q; omega))); (first | (focus (simp [go_sem]; done)) | (focus (simp [go_sem, *]; done)))))); (try (refine (fun (l0 : wa.cell? ⟨W.heap.size + 1, 0, none⟩ = some (.int .i64 (k : Int))) => ?_) ?_; rotate_left; (refine hcc _ _ _ ?_ ?_; (focus (first | (simp [Value.ownBlock]; done) | (intro q; injection (show some _ = some _ from q) with q; omega))); (first | (focus (simp [go_sem]; done)) | (focus (simp [go_sem, *]; done)))))))
                      | (refine step_append_ints rfl _ _ rfl W.heap.size _ _ _ rfl (hma) (some ⟨_, 0, none⟩) (1) (1) ((fun _ _ => (k : Int))) rfl (recs_one k0 hk64) ((fun q => by cases q)) (by omega) (by (try simp only [World.size_alloc]); first | omega | (have := Xa.size; (try simp only [World.size_alloc] at *); omega) | (have := Xb.size; (try simp only [World.size_alloc] at *); omega)) ?_; intro vb wb hmb hxb hcb; have Xb : Ext W wb := hxb _ (by repeat (first | with_reducible exact Ext.refl _ | with_reducible exact X7 | with_reducible exact Xb | with_reducible exact Xa | with_reducible apply Ext.drew | with_reducible apply Ext.alloc)) (Nat.le_refl _); obtain ⟨Ab, cb, rfl, ib, jb⟩ := hmb.form)
                      | (refine step_append_ints rfl _ _ rfl W.heap.size _ _ _ rfl (hma) (some ⟨_, 0, none⟩) (1) (1) ((fun _ _ => (k : Int))) rfl (recs_one l0 hk64) ((fun q => by cases q)) (by omega) (by (try simp only [World.size_alloc]); first | omega | (have := Xa.size; (try simp only [World.size_alloc] at *); omega) | (have := Xb.size; (try simp only [World.size_alloc] at *); omega)) ?_; intro vb wb hmb hxb hcb; have Xb : Ext W wb := hxb _ (by repeat (first | with_reducible exact Ext.refl _ | with_reducible exact X7 | with_reducible exact Xb | with_reducible exact Xa | with_reducible apply Ext.drew | with_reducible apply Ext.alloc)) (Nat.le_refl _); obtain ⟨Ab, cb, rfl, ib, jb⟩ := hmb.form)
                      | (refine step_append_ints rfl _ _ rfl W.heap.size _ _ _ rfl (hma.alloc _) (some ⟨_, 0, none⟩) (1) (1) ((fun _ _ => (k : Int))) rfl (recs_one (by simp [go_sem]) hk64) ((fun q => by cases q)) (by omega) (by (try simp only [World.size_alloc]); first | omega | (have := Xa.size; (try simp only [World.size_alloc] at *); omega) | (have := Xb.size; (try simp only [World.size_alloc] at *); omega)) ?_; intro vb wb hmb hxb hcb; have Xb : Ext W wb := hxb _ (by repeat (first | with_reducible exact Ext.refl _ | with_reducible exact X7 | with_reducible exact Xb | with_reducible exact Xa | with_reducible apply Ext.drew | with_reducible apply Ext.alloc)) (Nat.le_refl _); obtain ⟨Ab, cb, rfl, ib, jb⟩ := hmb.form)
                      | (refine step_append_ints rfl _ _ rfl W.heap.size _ _ _ rfl (hmb) (some ⟨B, 0, none⟩) (0) (cp) ((fun i _ => ix zs (0 + i))) rfl (HS2.out _ (by repeat (first | with_reducible exact Ext.refl _ | with_reducible exact X7 | with_reducible exact Xb | with_reducible exact Xa | with_reducible apply Ext.drew | with_reducible apply Ext.alloc))) ((fun q => by cases q)) (by omega) (by (try simp only [World.size_alloc]); first | omega | (have := Xa.size; (try simp only [World.size_alloc] at *); omega) | (have := Xb.size; (try simp only [World.size_alloc] at *); omega)) ?_; intro vd wd hmd hxd _; have X7 : Ext W wd := hxd _ (by repeat (first | with_reducible exact Ext.refl _ | with_reducible exact X7 | with_reducible exact Xb | with_reducible exact Xa | with_reducible apply Ext.drew | with_reducible apply Ext.alloc)) (Nat.le_refl _); obtain ⟨A7, c7, rfl, i7, j7⟩ := hmd.form; obtain ⟨g7, rfl⟩ := hmd.some_ (by omega); have y0 := X7.cell pc0; have y1 := X7.cell pc1; have z0 := X7.frozen pc0 pf0; have z1 := X7.frozen pc1 pf1))
                    all_goals
                      rw [← HFN.out, ← HF.out] at hmd
                      have hk8 := (hput wd none _ (insU zs (k : Int)) lim (X7.grownBy none) (.inr rfl) (hmd.more X.size) (.inr fun b hb => (hmd.lt b hb).1) hlim).2.2.1
                      rw [HFN.out] at hk8
                      rw [← HSRT.out, show upd (fun _ : Nat => lim) m lim = fun _ => lim from funext fun i => by unfold upd; split <;> rfl, ← upd_srtN] at hk8
                      have X8 := ((X.trans X7).setCell pg1 (p := ⟨gv, m * 2, none⟩) (.slice (some ⟨g7, 0, none⟩) (insU zs (k : Int)).length c7)).setCell pg1 (p := ⟨gv, m * 2 + 1, none⟩) (.int .i64 lim)
                      rw [HFN.out] at X8
                      have HK8 := Lib.hid hk8
                      clear hk8 hput hmd
                      go_wp2
                      go_roundw
                      case rel => exact ⟨q + 1, some ⟨gv, 0, none⟩, cvv3, by omega, by go_num, by rw [HT2.out], .inr (by rw [HT2.out]; exact HK8.out), X8⟩
                      case measure => simp [intOf]; omega
        · obtain rfl : n = q := by omega
          have hN20 := HLE.out n
          have h12 := H12.out
          clear HSUC HSUM HOUT HRL HLE HAT HF hor hr5 HNWQ HNDQ HELM H12
          generalize pcs f lim ord n = SS at *
          obtain ⟨N, L⟩ := SS
          simp only at HN HPL hmk hN20 ⊢
          rcases hmk with ⟨rfl, rfl, rfl⟩ | hmk
          · have hl2 := hlit.ext X
            go_wp2
            go_ret2
            unfold PostKB
            rw [HB.out, HN.out]
            exact ⟨_, 0, rfl, Nat.le_refl _, by omega, hl2, XW5.trans X⟩
          · obtain ⟨Ax, cx, hvx, ix9, jx9⟩ := hmk.form
            injection hvx with q1 q2 q3
            subst q1 q3
            go_wp2
            go_ret2
            unfold PostKB
            rw [HB.out, HN.out]
            exact ⟨Av, _, rfl, ix9, jx9, (hmk.congr (l' := pcL n f lim) (fun j hj => ⟨by rw [HPL.out], rfl⟩) (fun _ => hlim)).more hs5, XW5.trans X⟩

end Go.Proofs.Ytgfnkmalecfhbaa
