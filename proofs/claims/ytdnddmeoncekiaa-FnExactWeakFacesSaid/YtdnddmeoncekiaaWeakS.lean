/-
  Weak faces, on the reference's side. No conditions.
-/
import Derived.ArgAppend
import Derived.Test.YtdnddmeoncekiaaSixV
import Derived.Test.YtdnddmeoncekiaaSmaM
namespace Go.Proofs.Ytdnddmeoncekiaa
open Go.RowKit Ring
set_option linter.unusedVariables false

/-- A row of ints that began as an empty literal: still that, or a row of its own in newer blocks. -/
def OutB (g0 base : Nat) (w : World) (v : Value) (l : List Int) : Prop := (l = [] ∧ v = .slice (some ⟨g0, 0, none⟩) 0 0) ∨ (l ≠ [] ∧ Mine base w 3 v l.length l)
theorem OutB.ext {g0 base : Nat} {w w' : World} {v : Value} {l : List Int} (h : OutB g0 base w v l) (X : Ext w w') : OutB g0 base w' v l := by
  rcases h with h | ⟨h1, h2⟩
  · exact .inl h
  · exact .inr ⟨h1, h2.ext X⟩
theorem append_intZ (w : World) {ops : Array Oper} {rest : List Oper} {o : Oper} {a : Act} {Q : Exit → Act → World → Prop} (hgd : o.guard = none) (s x : Operand)
    (ho : o.op = .call { callee := .builtin .append, args := #[s, x], argTypes := #[35, 35] })
    (ao : Option Addr) (hs : a.eval s = .slice ao 0 0) (z : Int) (b : Nat) (hx : a.eval x = .slice (some ⟨b, 0, none⟩) 1 1) (hc : w.cell? ⟨b, 0, none⟩ = some (.int .i64 z)) (hz64 : I64 z)
    (h : ∀ v' w', Mine w.heap.size w' 3 v' 1 [z] → Ext w w' → wpList Try.prog ops Q rest (a.put o.dst v') w') : wpList Try.prog ops Q (o :: rest) a w := by
  obtain ⟨i0, hi, hz0, hz1, hz2⟩ := info_parts int_info
  refine wpList_append_grows w hgd s x 35 ho 3 i0 (.int .i64 0) 1 8 Try.underlying35 hi hz0 hz1 hz2 rfl (by decide) ao 0 0 [] hs (fun _ => ⟨rfl, rfl⟩) rfl (fun _ _ j u hj => by simp at hj) ⟨b, 0, none⟩ 1 1 [.int .i64 z] hx rfl ?_ ?_ (by decide) (by simp [maxLen]) (by decide) ?_
  · intro j u hj
    match j, hj with
    | 0, hj => simp at hj; subst hj; simpa [Addr.add] using hc
  · intro u hu; simp at hu; subst hu; rfl
  · intro v' w' h1 h2
    exact h v' w' ⟨rfl, by simpa using h1, fun y hy => by simp at hy; subst hy; exact hz64⟩ ((Ext.refl w).grown h2 (by simp))

set_option maxRecDepth 100000 in
set_option maxHeartbeats 8000000 in
theorem spec_WeakFaces (A : Option Addr) (n c : Nat) (P : Nat → Nat → Int) (B : Option Addr) (m d : Nat) (L : Nat → Nat → Int) (hnc : n ≤ c) (hcm : c ≤ 9223372036854775807) (hmd : m ≤ d) (hdm : d ≤ 9223372036854775807) (p t : Int) (hp : (-9223372036854775808 ≤ p ∧ p ≤ 9223372036854775807)) (ht : (-9223372036854775808 ≤ t ∧ t ≤ 9223372036854775807)) (w : World) (hr : Recs w 2 A n P) (hs : Recs w 2 B m L) :
    Calls Try.prog 17 #[.agg #[.slice A n c, .slice B m d], .int .i64 p, .int .i64 t] w (PostI w 3 (weakV n P m L p t).length (weakV n P m L p t)) := by
  have HFO : Hid (∀ W, Ext w W → Calls Try.prog 42 #[.agg #[.slice A n c, .slice B m d]] W (PostF W (facesV n P m L))) := Lib.hid (fun W Z => spec_FacesOf A n c P B m d L hnc hcm hmd hdm W (hr.ext Z) (hs.ext Z))
  have HIP := Lib.hid (fun W => l01In_any p 0 1000 W)
  have HIT := Lib.hid (fun W => l01In_any t 1 20 W)
  have hlen := faces_len (n := n) (m := m) (P := P) (L := L)
  have HV := Lib.hid (show weakV n P m L p t = if (inB p 0 1000 && inB t 1 20) = true then pick (facesV n P m L).length (weakP n P m L p t) else [] from rfl)
  have q0 : ((w.alloc (.cells #[.slice A n c, .slice B m d] 31)).alloc (.cells #[] 3)).cell? ⟨w.heap.size, 0, none⟩ = some (.slice A n c) := by simp [go_sem]
  have q1 : ((w.alloc (.cells #[.slice A n c, .slice B m d] 31)).alloc (.cells #[] 3)).cell? ⟨w.heap.size, 1, none⟩ = some (.slice B m d) := by simp [go_sem]
  have hm0 : Mine (w.heap.size + 1) ((w.alloc (.cells #[.slice A n c, .slice B m d] 31)).alloc (.cells #[] 3)) 3 (.slice (some ⟨w.heap.size + 1, 0, none⟩) 0 0) 0 [] := by
    have := Mine.lit0 (w.alloc (.cells #[.slice A n c, .slice B m d] 31)) 3
    simpa using this
  have HAR := Lib.hid (fun k (hk : k < (facesV n P m L).length) (B2 : Option Addr) (c2 : Nat) (h1 : ((facesV n P m L).getD k []).length ≤ c2) (h2 : c2 ≤ 9223372036854775807) W (Z : Ext w W) (hrow : Recs W 1 B2 ((facesV n P m L).getD k []).length (fun i _ => ((((facesV n P m L).getD k []).getD i 0 : Nat) : Int))) => (show Calls Try.prog 43 #[.agg #[.slice A n c, .slice B m d], .slice B2 ((facesV n P m L).getD k []).length c2] W fun e w' => e = .returned (.int .i64 (faceA n P m L k)) ∧ Ext W w' from spec_l06Area A n c P B m d L hnc hcm hmd hdm ((facesV n P m L).getD k []) B2 c2 h1 h2 (faces_row hk).1 (faces_row hk).2.2.1 (faces_row hk).2.2.2 W (hr.ext Z) (hs.ext Z) hrow))
  have HBX := Lib.hid (fun k (hk : k < (facesV n P m L).length) => faceA_box hk)
  have HWP := Lib.hid (fun k => show weakP n P m L p t k = (decide (0 < faceA n P m L k) && decide (500 * t * t < faceA n P m L k * p)) from rfl)
  clear hr hs
  by_cases hz : (facesV n P m L).length = 0
  · have HR := Lib.hid (show weakV n P m L p t = [] by rw [HV.out, hz]; split <;> rfl)
    generalize facesV n P m L = R at *
    go_enter Try.func17, Try.ntmps17
    go_wp2_with fail
    refine (HFO.out _ (by repeat (first | exact Ext.refl _ | apply Ext.alloc))).mono ?_
    rintro e w2 ⟨AF, cF, rfl, iF, jF, hF, x2⟩
    replace q0 := x2.cell q0
    replace q1 := x2.cell q1
    have X2 : Ext w w2 := Ext.trans (by repeat (first | exact Ext.refl _ | apply Ext.alloc)) x2
    replace hm0 := hm0.ext x2
    clear hF
    rw [hz] at *
    go_wp2
    refine wp_loop_rounds 1 ?_
    rw [rounds_succ]
    go_wp2
    go_ret
    rw [HR.out]
    exact ⟨_, _, rfl, Nat.le_refl _, by omega, hm0.more (by omega), X2⟩
  · have hR1 : (0 : Int) < ((facesV n P m L).length : Int) := by omega
    cases hip : inB p 0 1000
    · rw [hip] at HIP
      have HR := Lib.hid (show weakV n P m L p t = [] by rw [HV.out, hip]; rfl)
      clear hip
      generalize facesV n P m L = R at *
      go_enter Try.func17, Try.ntmps17
      go_wp2_with fail
      refine (HFO.out _ (by repeat (first | exact Ext.refl _ | apply Ext.alloc))).mono ?_
      rintro e w2 ⟨AF, cF, rfl, iF, jF, hF, x2⟩
      replace q0 := x2.cell q0
      replace q1 := x2.cell q1
      have X2 : Ext w w2 := Ext.trans (by repeat (first | exact Ext.refl _ | apply Ext.alloc)) x2
      replace hm0 := hm0.ext x2
      clear hF
      go_wp2
      refine wp_loop_rounds 1 ?_
      rw [rounds_succ]
      go_wp2_with fail
      refine (HIP.out _).mono ?_
      rintro e w5 ⟨rfl, x5⟩
      have X5 := X2.trans x5
      replace hm0 := hm0.ext x5
      go_wp2
      go_ret
      rw [HR.out]
      exact ⟨_, _, rfl, Nat.le_refl _, by omega, hm0.more (by omega), X5⟩
    · rw [hip] at HIP
      cases hit : inB t 1 20
      · rw [hit] at HIT
        have HR := Lib.hid (show weakV n P m L p t = [] by rw [HV.out, hip, hit]; rfl)
        clear hip hit
        generalize facesV n P m L = R at *
        go_enter Try.func17, Try.ntmps17
        go_wp2_with fail
        refine (HFO.out _ (by repeat (first | exact Ext.refl _ | apply Ext.alloc))).mono ?_
        rintro e w2 ⟨AF, cF, rfl, iF, jF, hF, x2⟩
        replace q0 := x2.cell q0
        replace q1 := x2.cell q1
        have X2 : Ext w w2 := Ext.trans (by repeat (first | exact Ext.refl _ | apply Ext.alloc)) x2
        replace hm0 := hm0.ext x2
        clear hF
        go_wp2
        refine wp_loop_rounds 1 ?_
        rw [rounds_succ]
        go_wp2_with fail
        refine (HIP.out _).mono ?_
        rintro e w5 ⟨rfl, x5⟩
        have X5 := X2.trans x5
        replace hm0 := hm0.ext x5
        go_wp2_with fail
        refine (HIT.out _).mono ?_
        rintro e w6 ⟨rfl, x6⟩
        have X6 := X5.trans x6
        replace hm0 := hm0.ext x6
        go_wp2
        go_ret
        rw [HR.out]
        exact ⟨_, _, rfl, Nat.le_refl _, by omega, hm0.more (by omega), X6⟩
      · rw [hit] at HIT
        have hbp := inB_of hip
        have hbt := inB_of hit
        have hsq := sq_rng hbt.1 hbt.2
        have HR := Lib.hid (show weakV n P m L p t = pick (facesV n P m L).length (weakP n P m L p t) by rw [HV.out, hip, hit]; rfl)
        clear hip hit HV hz hR1
        have f1 : -9223372036854775808 ≤ 500 * t ∧ 500 * t ≤ 9223372036854775807 := by omega
        generalize facesV n P m L = R at *
        generalize weakP n P m L p t = wk at *
        generalize faceA n P m L = fa at *
        generalize hy1 : 500 * t = y1 at *
        generalize hyC : y1 * t = C at *
        go_enter Try.func17, Try.ntmps17
        go_wp2_with fail
        refine (HFO.out _ (by repeat (first | exact Ext.refl _ | apply Ext.alloc))).mono ?_
        rintro e w2 ⟨AF, cF, rfl, iF, jF, hF, x2⟩
        replace q0 := x2.cell q0
        replace q1 := x2.cell q1
        have X2 : Ext w w2 := Ext.trans (by repeat (first | exact Ext.refl _ | apply Ext.alloc)) x2
        replace hm0 := hm0.ext x2
        have Q0 := Lib.hid q0
        have Q1 := Lib.hid q1
        have HF := Lib.hid hF
        have HM0 := Lib.hid hm0
        have hm0' : OutB (w.heap.size + 1) w2.heap.size w2 (.slice (some ⟨w.heap.size + 1, 0, none⟩) 0 0) (pick 0 wk) := .inl ⟨rfl, rfl⟩
        have bs2 := x2.size
        simp only [World.size_alloc] at bs2
        clear q0 q1 x2 hF HFO hm0
        go_wp2
        go_loopw [7, 9] (fun v i wr => ∃ k : Nat, k ≤ R.length ∧ i = .int .i64 k ∧ Ext w2 wr ∧ OutB (w.heap.size + 1) w2.heap.size wr v (pick k wk)) (fun _ i _ => R.length - (intOf i).toNat)
        case atStart => exact ⟨0, Nat.zero_le _, rfl, Ext.refl _, hm0'⟩
        case round =>
          clear hm0'
          obtain ⟨k, hk, rfl, Y, hm⟩ := hrel
          have q0 := Y.cell Q0.out
          have q1 := Y.cell Q1.out
          have XW := X2.trans Y
          have hpl := pick_len k wk
          have hbs := Y.size
          by_cases hlt : k < R.length
          · obtain ⟨b', o', Bk, ck, rfl, hb', hck, i1, i2, hrow⟩ := HF.out.at_ hlt
            replace hck := Y.cell hck
            have hbx := HBX.out k hlt
            have k1 : (0 : Int) ≤ (k : Int) := by omega
            have k2 : (k : Int) < (R.length : Int) := by omega
            have hl0 : (0 : Int) ≤ ((R.getD k []).length : Int) := by omega
            have HAk := Lib.hid (fun W (Z : Ext wr W) => HAR.out k hlt Bk ck i1 i2 W (XW.trans Z) (hrow.ext (Y.trans Z)))
            have hwp := HWP.out k
            clear hrow
            generalize R.getD k [] = r at *
            generalize fa k = a at *
            by_cases ha : 0 < a
            · have d1 : decide (0 < a) = true := decide_eq_true ha
              have hm9 := mul_rng (a := a) (p := p) (by omega) (by omega) (by omega) (by omega)
              rw [d1] at hwp
              generalize hap : a * p = ap at *
              by_cases hc : C < ap
              · have HP := Lib.hid (pick_yes (p := wk) (n := k) (by rw [hwp, decide_eq_true hc]; rfl))
                clear hwp d1
                go_wp2_with fail
                refine (HIP.out _).mono ?_
                rintro e w5 ⟨rfl, x5⟩
                go_wp2_with fail
                refine (HIT.out _).mono ?_
                rintro e w6 ⟨rfl, x6⟩
                have x56 := x5.trans x6
                replace q0 := x56.cell q0
                replace q1 := x56.cell q1
                replace hck := x56.cell hck
                replace hm := hm.ext x56
                have HA6 := Lib.hid (fun W (Z : Ext w6 W) => HAk.out W (x56.trans Z))
                have Y6 := Y.trans x56
                clear Y XW x56 x5 x6
                go_wp2
                first | refine wp_region_gr2 (by kernel_rfl) (by kernel_rfl) ?_ | refine wp_region_gr (by kernel_rfl) (by kernel_rfl) ?_
                repeat (go_big_quiet_step ((go_at_call 43; exact gr_of (HA6.out _ (by repeat (first | exact Ext.refl _ | apply Ext.wgr | apply Ext.drew | apply Ext.drewN | apply Ext.alloc))))))
                refine wpQuiet_nil ?_
                intro _ hw'
                obtain ⟨gq, hw''⟩ := hw'
                subst hw''
                have Y5 := Y6.wgr gq
                replace hm := hm.ext (Ext.gr _ gq)
                have hbs5 := Y5.size
                generalize wgr w6 gq = w9 at *
                rcases hm with ⟨hp0, rfl⟩ | ⟨hp1, hm⟩
                · go_wp2_with (at_builtin; refine append_intZ _ rfl _ _ rfl _ rfl (k : Int) _ rfl (cell_new1 (by simp)) (by unfold I64; omega) ?_; intro v2 w7 hm7 he7; have hm7' := hm7.more (base' := w2.heap.size) (by rw [World.size_alloc]; omega); have X7 := (Y5.alloc (.cells #[.int .i64 (k : Int)] 3)).trans he7)
                  go_roundw
                  case rel => exact ⟨k + 1, by omega, by go_num, X7, .inr ⟨by rw [HP.out]; simp, by rw [HP.out, hp0]; exact hm7'⟩⟩
                  case measure => simp [intOf]; omega
                · go_wp2_with (at_builtin; refine append_int _ rfl _ _ rfl w2.heap.size _ _ _ rfl (hm.alloc _) (k : Int) _ rfl (cell_new1 (by simp)) (by unfold I64; omega) (by omega) (by rw [World.size_alloc]; omega) ?_; intro v2 w7 hm7 hg7; have X7 := (hm.alloc (.cells #[.int .i64 (k : Int)] 3)).fresh (Y5.alloc (.cells #[.int .i64 (k : Int)] 3)) (Nat.le_refl _) hg7 rfl)
                  go_roundw
                  case rel => exact ⟨k + 1, by omega, by go_num, X7, .inr ⟨by rw [HP.out]; simp, by rw [HP.out, List.length_append]; exact hm7⟩⟩
                  case measure => simp [intOf]; omega
              · have HP := Lib.hid (pick_no (p := wk) (n := k) (by rw [hwp, decide_eq_false hc]; rfl))
                clear hwp d1
                go_wp2_with fail
                refine (HIP.out _).mono ?_
                rintro e w5 ⟨rfl, x5⟩
                go_wp2_with fail
                refine (HIT.out _).mono ?_
                rintro e w6 ⟨rfl, x6⟩
                have x56 := x5.trans x6
                replace q0 := x56.cell q0
                replace q1 := x56.cell q1
                replace hck := x56.cell hck
                replace hm := hm.ext x56
                have HA6 := Lib.hid (fun W (Z : Ext w6 W) => HAk.out W (x56.trans Z))
                have Y6 := Y.trans x56
                clear Y XW x56 x5 x6
                go_wp2
                first | refine wp_region_gr2 (by kernel_rfl) (by kernel_rfl) ?_ | refine wp_region_gr (by kernel_rfl) (by kernel_rfl) ?_
                repeat (go_big_quiet_step ((go_at_call 43; exact gr_of (HA6.out _ (by repeat (first | exact Ext.refl _ | apply Ext.wgr | apply Ext.drew | apply Ext.drewN | apply Ext.alloc))))))
                refine wpQuiet_nil ?_
                intro _ hw'
                obtain ⟨gq, hw''⟩ := hw'
                subst hw''
                have Y5 := Y6.wgr gq
                replace hm := hm.ext (Ext.gr _ gq)
                have hbs5 := Y5.size
                go_wp2
                go_roundw
                case rel => exact ⟨k + 1, by omega, by go_num, Y5, by rw [HP.out]; exact hm⟩
                case measure => simp [intOf]; omega
            · have HP := Lib.hid (pick_no (p := wk) (n := k) (by rw [hwp, decide_eq_false ha]; rfl))
              clear hwp
              go_wp2_with fail
              refine (HIP.out _).mono ?_
              rintro e w5 ⟨rfl, x5⟩
              go_wp2_with fail
              refine (HIT.out _).mono ?_
              rintro e w6 ⟨rfl, x6⟩
              have x56 := x5.trans x6
              replace q0 := x56.cell q0
              replace q1 := x56.cell q1
              replace hck := x56.cell hck
              replace hm := hm.ext x56
              have HA6 := Lib.hid (fun W (Z : Ext w6 W) => HAk.out W (x56.trans Z))
              have Y6 := Y.trans x56
              clear Y XW x56 x5 x6
              go_wp2
              first | refine wp_region_gr2 (by kernel_rfl) (by kernel_rfl) ?_ | refine wp_region_gr (by kernel_rfl) (by kernel_rfl) ?_
              repeat (go_big_quiet_step ((go_at_call 43; exact gr_of (HA6.out _ (by repeat (first | exact Ext.refl _ | apply Ext.wgr | apply Ext.drew | apply Ext.drewN | apply Ext.alloc))))))
              refine wpQuiet_nil ?_
              intro _ hw'
              obtain ⟨gq, hw''⟩ := hw'
              subst hw''
              have Y5 := Y6.wgr gq
              replace hm := hm.ext (Ext.gr _ gq)
              have hbs5 := Y5.size
              go_wp2
              go_roundw
              case rel => exact ⟨k + 1, by omega, by go_num, Y5, by rw [HP.out]; exact hm⟩
              case measure => simp [intOf]; omega
          · obtain rfl : k = R.length := by omega
            have hm9 : Mine (w.heap.size + 1) wr 3 u7 (pick R.length wk).length (pick R.length wk) := by
              rcases hm with ⟨hp0, e⟩ | ⟨_, hm⟩
              · rw [e, hp0]; exact HM0.out.ext Y
              · exact hm.more (by omega)
            clear hm
            obtain ⟨A', c', rfl, hc1, hc2⟩ := hm9.form
            go_wp2
            go_ret
            rw [HR.out]
            exact ⟨A', c', rfl, hc1, hc2, hm9.more (by omega), XW⟩

end Go.Proofs.Ytdnddmeoncekiaa
