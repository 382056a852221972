/-
  Texts of one kind, one behind the other: FaceK FacesI FacesS. No conditions.
-/
import Derived.Test.YtgmhmlhdiklaaaaGreatDoorKitR
import Derived.Test.YtgmhmlhdiklaaaaGreatDoorInts
import Derived.Test.YtgmhmlhdiklaaaaGreatDoorDarts
import Derived.Test.YtgmhmlhdiklaaaaGreatDoorAroM
import Derived.Test.YtgmhmlhdiklaaaaGreatDoorWhoM
/- FaceK -/
namespace Go.Proofs.YtgmhmlhdiklaaaaGreatDoor
open Go.RowKit Ring
set_option linter.unusedVariables false

theorem bool_info : (Tryz.prog.info? 4).map (fun i => (i.zero, i.size, i.bytes)) = some (some (.bool false), 1, 1) := by kernel_rfl
theorem rows_info : (Tryz.prog.info? 29).map (fun i => (i.zero, i.size, i.bytes)) = some (some (.slice none 0 0), 1, 24) := by kernel_rfl
theorem madeBools (n : Nat) : (madeCells (Value.bool false).cells (n * 1)).toList = (List.range n).map fun i => Value.bool ((fun _ => false) i) := by
  rw [Nat.mul_one]
  have := toList_madeCells_one (.bool false) n
  rw [show (Value.bool false).cells = #[.bool false] from rfl, this]
  apply List.ext_getElem (by simp)
  intro k h1 h2
  simp
theorem make_bools (w : World) {ops : Array Oper} {rest : List Oper} {o : Oper} {a : Act} {Q : Exit → Act → World → Prop} (hg : o.guard = none) (l : Operand) (hop : o.op = Op.makeSlice 47 l l) (L : Int) (n : Nat) (hl : a.eval l = .int .i64 L) (hL : L = (n : Int)) (hn : n ≤ 1000000)
    (hK : ∀ w', MineB w.heap.size w' 4 (.slice (some ⟨w.heap.size, 0, none⟩) n n) n (fun _ => false) → Ext w w' → w.heap.size < w'.heap.size → wpList Tryz.prog ops Q rest (a.put o.dst (.slice (some ⟨w.heap.size, 0, none⟩) n n)) w') : wpList Tryz.prog ops Q (o :: rest) a w := by
  obtain ⟨i0, hi, hz0, hz1, hz2⟩ := info_parts bool_info
  refine wpList_make_full w hg l l 47 hop w.heap.size 4 i0 (.bool false) 1 Tryz.underlying47 hi hz0 hz1 .i64 .i64 L L n hl hl hL hL (by rw [hz2]; omega) (by simp only [maxLen]; omega) (Nat.le_refl _) ?_
  intro w' h1 h2
  rw [madeBools] at h1
  exact hK w' h1 ((Ext.refl w).grown h2 (by simp)) (World.ownsRow.lt h1 w.heap.size rfl).2
/-- append of one row, over this program. -/
theorem append_row (w : World) {ops : Array Oper} {rest : List Oper} {o : Oper} {a : Act} {Q : Exit → Act → World → Prop} (hgd : o.guard = none) (s x : Operand)
    (ho : o.op = .call { callee := .builtin .append, args := #[s, x], argTypes := #[31, 31] })
    (base : Nat) (S : Nat) (v : Value) (R : List (List Nat)) (hs : a.eval s = v) (hm : MineR base w 29 3 S v R) (hS : S < w.heap.size)
    (l : List Nat) (B c b : Nat) (hx : a.eval x = .slice (some ⟨b, 0, none⟩) 1 1) (hc : w.cell? ⟨b, 0, none⟩ = some (.slice (some ⟨B, 0, none⟩) l.length c)) (hl : Mine base w 3 (.slice (some ⟨B, 0, none⟩) l.length c) l.length (nums l)) (hBS : B ≠ S) (hBv : v.ownBlock ≠ some B)
    (hn : R.length ≤ 1000000000) (hbase : base ≤ w.heap.size)
    (h : ∀ v' w', MineR base w' 29 3 S v' (R ++ [l]) → w.grownBy w' v.ownBlock → (v'.ownBlock = v.ownBlock ∨ v'.ownBlock = some w.heap.size) → wpList Tryz.prog ops Q rest (a.put o.dst v') w') : wpList Tryz.prog ops Q (o :: rest) a w := by
  obtain ⟨i0, hi, hz0, hz1, hz2⟩ := info_parts rows_info
  exact wpList_append_row w hgd s x 31 ho base 29 3 S i0 Tryz.underlying31 hi hz0 hz1 hz2 v R hs hm hS l B c b hx hc hl hBS hBv hn hbase h
theorem MineR.lt {base S : Nat} {w : World} {E F : TypeId} {v : Value} {R : List (List Nat)} (h : MineR base w E F S v R) : ∀ k, v.ownBlock = some k → base ≤ k ∧ k < w.heap.size := by
  obtain ⟨vs, h1, _⟩ := h
  exact fun k hk => h1.lt k hk
theorem MineR.taboo {base S : Nat} {w : World} {E F : TypeId} {v : Value} {R : List (List Nat)} (h : MineR base w E F S v R) : v.ownBlock ≠ some S := by
  obtain ⟨vs, _, h2, _⟩ := h
  exact h2
theorem MineR.more {base base' S : Nat} {w : World} {E F : TypeId} {v : Value} {R : List (List Nat)} (h : MineR base w E F S v R) (hb : base' ≤ base) : MineR base' w E F S v R := by
  obtain ⟨vs, h1, h2, h3⟩ := h
  refine ⟨vs, ⟨h1.1, ?_⟩, h2, fun k hk => ?_⟩
  · rcases h1.2 with q | ⟨g, cap, cur, q1, q2, q3⟩
    · exact .inl q
    · exact .inr ⟨g, cap, cur, q1, by omega, q3⟩
  · obtain ⟨B, c, k1, k2, k3, k4⟩ := h3 k hk
    exact ⟨B, c, k1, k2.more hb, k3, k4⟩

end Go.Proofs.YtgmhmlhdiklaaaaGreatDoor

/- FacesI -/
namespace Go.Proofs.YtgmhmlhdiklaaaaGreatDoor
open Go.RowKit Ring
set_option linter.unusedVariables false

def facesV (n : Nat) (P : Nat → Nat → Int) (m : Nat) (L : Nat → Nat → Int) : List (List Nat) := if wholeB n P m L = true then fcs P L m else []
theorem facesV_yes {n m : Nat} {P L : Nat → Nat → Int} (h : wholeB n P m L = true) : facesV n P m L = fcs P L m := if_pos h
theorem facesV_no {n m : Nat} {P L : Nat → Nat → Int} (h : wholeB n P m L = false) : facesV n P m L = [] := if_neg (by rw [h]; simp)
/-- What is seen when u of the path's darts have been marked. -/
def seenF (R : List (List Nat)) (p : List Nat) (u : Nat) : Nat → Bool := fun e => decide (e ∈ R.flatten) || decide (e ∈ p.take u)
theorem seenF_0 (R : List (List Nat)) (p : List Nat) : seenF R p 0 = fun e => decide (e ∈ R.flatten) := by funext e; simp [seenF]
theorem seenF_succ (R : List (List Nat)) (p : List Nat) {u : Nat} (hu : u < p.length) : seenF R p (u + 1) = fun e => if e = p.getD u 0 then true else seenF R p u e := by
  funext e
  unfold seenF
  have h1 : (e ∈ p.take (u + 1)) ↔ (e ∈ p.take u ∨ e = p.getD u 0) := by
    rw [List.take_add_one, List.getElem?_eq_getElem hu, List.mem_append, List.getD_eq_getElem?_getD, List.getElem?_eq_getElem hu]
    exact or_congr Iff.rfl (by simp)
  by_cases h : e = p.getD u 0
  · rw [if_pos h, decide_eq_true (h1.2 (.inr h)), Bool.or_true]
  · rw [if_neg h]
    congr 1
    exact decide_eq_decide.2 (h1.trans ⟨fun q => q.resolve_right h, .inl⟩)
theorem seenF_all (R : List (List Nat)) (p : List Nat) : seenF R p p.length = fun e => decide (e ∈ (R ++ [p]).flatten) := by
  funext e; simp [seenF]
theorem rnds_le (nx : Nat → Nat) (M : Nat) : ∀ d, (rnds nx M d).length ≤ d
  | 0 => by simp [rnds]
  | d + 1 => by
    have := rnds_le nx M d
    by_cases g : d ∈ (rnds nx M d).flatten
    · rw [rnds_old g]; omega
    · rw [rnds_new g]; simp; omega

theorem cl_far2 {w : World} {b j b' j' : Nat} {u v : Value} (hne : b' ≠ b) (h : w.cell? ⟨b, j, none⟩ = some u) : (w.setCell ⟨b', j', none⟩ v).cell? ⟨b, j, none⟩ = some u := by
  rw [World.cell?_setCell_other _ _ _ _ (by intro e; simp only [Addr.mk.injEq] at e; omega)]; exact h

set_option maxRecDepth 100000 in
set_option maxHeartbeats 8000000 in
theorem impl_FacesOf (A : Option Addr) (n c : Nat) (P : Nat → Nat → Int) (B : Option Addr) (m d : Nat) (L : Nat → Nat → Int) (hnc : n ≤ c) (hcm : c ≤ 9223372036854775807) (hmd : m ≤ d) (hdm : d ≤ 9223372036854775807) (w : World) (hr : Recs w 2 A n P) (hs : Recs w 2 B m L) :
    Calls Tryz.prog 18 #[.agg #[.slice A n c, .slice B m d]] w (PostF w (facesV n P m L)) := by
  have HWH := Lib.hid (fun W (Z : Ext w W) => impl_IsWhole A n c P B m d L hnc hcm hmd hdm W (hr.ext Z) (hs.ext Z))
  have q0 : (w.alloc (.cells #[.slice A n c, .slice B m d] 27)).cell? ⟨w.heap.size, 0, none⟩ = some (.slice A n c) := by simp [go_sem]
  have q1 : (w.alloc (.cells #[.slice A n c, .slice B m d] 27)).cell? ⟨w.heap.size, 1, none⟩ = some (.slice B m d) := by simp [go_sem]
  cases hwh : wholeB n P m L
  · rw [hwh] at HWH
    have HV := Lib.hid (facesV_no hwh)
    clear hwh
    go_enter Tryz.func18, Tryz.ntmps18
    go_wp2_with fail
    refine (HWH.out _ (by repeat (first | exact Ext.refl _ | apply Ext.alloc))).mono ?_
    rintro e w1 ⟨rfl, x1⟩
    have X1 : Ext w w1 := Ext.trans (by repeat (first | exact Ext.refl _ | apply Ext.alloc)) x1
    go_wp2
    go_ret
    rw [HV.out]
    exact ⟨_, _, rfl, by simp, by simp, fun h => absurd h (by simp), X1⟩
  · rw [hwh] at HWH
    have HV := Lib.hid (facesV_yes hwh)
    obtain ⟨hwin, hm0, _⟩ := wholeB_get hwh
    have hm20 := (winB_get hwin).1.2.2
    have hbij := nxt_bij P L m
    obtain ⟨M, hM⟩ : ∃ M, M = 2 * m := ⟨_, rfl⟩
    have HWALK := Lib.hid (fun W (Z : Ext w W) (y : Nat) (hy : y < M) => (show Calls Tryz.prog 37 #[.agg #[.slice A n c, .slice B m d], .int .i64 (y : Int)] W (PostI W 3 (rnd (nxt P L m) M y).length (nums (rnd (nxt P L m) M y))) from by rw [hM] at hy ⊢; exact impl_walk A n c P B m d L hnc hcm hmd hdm hwin y hy W (hr.ext Z) (hs.ext Z)))
    have HFC := Lib.hid (show fcs P L m = rnds (nxt P L m) M M by rw [hM]; rfl)
    rw [← hM] at hbij
    have HRL := Lib.hid (fun y (hy : y < M) e (he : e ∈ rnd (nxt P L m) M y) => rnd_lt hbij hy e he)
    have HRP := Lib.hid (fun y (hy : y < M) => show (rnd (nxt P L m) M y).length ≤ M ∧ 0 < (rnd (nxt P L m) M y).length by rw [rnd_len]; exact ⟨per_le hbij hy, per_pos _ _ _⟩)
    have HOLD := Lib.hid (fun t (h : t ∈ (rnds (nxt P L m) M t).flatten) => rnds_old h)
    have HNEW := Lib.hid (fun t (h : ¬ t ∈ (rnds (nxt P L m) M t).flatten) => rnds_new h)
    have HLE := Lib.hid (fun t => rnds_le (nxt P L m) M t)
    have h00 : (fun e => decide (e ∈ (rnds (nxt P L m) M 0).flatten)) = fun _ => false := by funext e; simp [rnds]
    have HR0 := Lib.hid (show rnds (nxt P L m) M 0 = [] from rfl)
    clear hbij hwh hwin
    generalize nxt P L m = nx at *
    have hM40 : M ≤ 40 := by omega
    go_enter Tryz.func18, Tryz.ntmps18
    go_wp2_with fail
    refine (HWH.out _ (by repeat (first | exact Ext.refl _ | apply Ext.alloc))).mono ?_
    rintro e w1 ⟨rfl, x1⟩
    replace q0 := x1.cell q0
    replace q1 := x1.cell q1
    have Q0 := Lib.hid q0
    have Q1 := Lib.hid q1
    have X1 : Ext (w.alloc (.cells #[.slice A n c, .slice B m d] 27)) w1 := Ext.trans (by repeat (first | exact Ext.refl _ | apply Ext.alloc)) x1
    have Z1 := X1.size
    rw [World.size_alloc] at Z1
    have hl0 : MineR (w.heap.size + 1) w1 29 3 w1.heap.size (.slice none 0 0) [] := MineR.nil_ _ _ _ _ _
    clear x1 q0 q1 HWH
    have q0 := Q0.out
    have q1 := Q1.out
    have hLM : IntKind.i64.wrap (2 * (m : Int)) = (M : Int) := by rw [IntKind.wrap_i64]; omega
    go_wp2_with (refine make_bools _ rfl (.tmp 15) rfl _ M rfl (by first | exact hLM | omega) (by omega) ?_; intro w2 hb2 he2 hlt2)
    rw [← h00] at hb2
    replace hl0 := hl0.ext he2
    rw [← HR0.out] at hl0
    have X2 := X1.trans he2
    have q02 := he2.cell q0
    have q12 := he2.cell q1
    clear X1 he2 h00 q0 q1
    generalize hS : w1.heap.size = S at *
    clear hS
    go_loopw [4, 19] (fun v i wr => ∃ t : Nat, t ≤ M ∧ i = .int .i64 t ∧ Ext (w.alloc (.cells #[.slice A n c, .slice B m d] 27)) wr ∧ wr.cell? ⟨w.heap.size, 0, none⟩ = some (.slice A n c) ∧ wr.cell? ⟨w.heap.size, 1, none⟩ = some (.slice B m d) ∧ S < wr.heap.size ∧ MineB S wr 4 (.slice (some ⟨S, 0, none⟩) M M) M (fun e => decide (e ∈ (rnds nx M t).flatten)) ∧ MineR (w.heap.size + 1) wr 29 3 S v (rnds nx M t)) (fun _ i _ => M - (intOf i).toNat)
    case atStart => exact ⟨0, Nat.zero_le _, rfl, X2, q02, q12, hlt2, hb2, hl0⟩
    case round =>
      clear hb2 hl0 X2 hlt2 q02 q12
      obtain ⟨t, ht, rfl, X, q0, q1, hSl, hb, hl⟩ := hrel
      obtain ⟨Av, cv, rfl, hc1, hc2⟩ := hl.form
      by_cases hlt : t < M
      · obtain ⟨f0, f1, _, _⟩ := hb.at_ hlt
        have k1 : (0 : Int) ≤ (t : Int) := by omega
        have k2 : (t : Int) < (M : Int) := by omega
        have XW := ((Ext.refl w).alloc (.cells #[.slice A n c, .slice B m d] 27)).trans X
        by_cases hin : t ∈ (rnds nx M t).flatten
        · have f0' : wr.cell? ⟨S, t, none⟩ = some (.bool true) := by rw [f0]; simp [hin]
          have HO := Lib.hid (HOLD.out t hin)
          clear f0 hin
          go_wp2
          go_roundw
          case rel => exact ⟨t + 1, by omega, by go_num, X, q0, q1, hSl, by rw [HO.out]; exact hb, by rw [HO.out]; exact hl⟩
          case measure => simp [intOf]; omega
        · have f0' : wr.cell? ⟨S, t, none⟩ = some (.bool false) := by rw [f0]; simp [hin]
          have HO := Lib.hid (HNEW.out t hin)
          have hrt := HLE.out t
          have HRLt := Lib.hid (HRL.out t hlt)
          have hrp := HRP.out t hlt
          have HW_ := Lib.hid (fun W (Z : Ext w W) => HWALK.out W Z t hlt)
          clear f0 hin
          generalize rnd nx M t = p at *
          generalize rnds nx M t = R at *
          go_wp2_with fail
          refine (HW_.out _ XW).mono ?_
          rintro e w5 ⟨A5, c5, rfl, i5, j5, hm5, x5⟩
          obtain ⟨G, rfl⟩ := hm5.some_ (by omega)
          have hG := (hm5.lt G rfl).1
          have hb5 := hb.ext x5
          have hl5 := hl.ext x5
          have X5 := X.trans x5
          have hS5 : S < w5.heap.size := Nat.lt_of_lt_of_le hSl x5.size
          have hGv : (Value.slice Av R.length cv).ownBlock ≠ some G := fun q => by have := (hl.lt G q).2; omega
          have hGS : G ≠ S := by omega
          have hvS := hl.taboo
          have hmm := hm5.more (Nat.le_trans (by have := XW.size; have := X.size; rw [World.size_alloc] at this; omega : w.heap.size + 1 ≤ wr.heap.size) (Nat.le_refl _))
          have q05 := x5.cell q0
          have q15 := x5.cell q1
          clear hb hl X XW x5 q0 q1 hSl hG hm5 f1 f0' HW_ HWALK
          rw [← seenF_0 R p] at hb5
          go_wp2
          go_loopw [31] (fun i wi => ∃ u : Nat, u ≤ p.length ∧ i = .int .i64 u ∧ Ext (w.alloc (.cells #[.slice A n c, .slice B m d] 27)) wi ∧ wi.cell? ⟨w.heap.size, 0, none⟩ = some (.slice A n c) ∧ wi.cell? ⟨w.heap.size, 1, none⟩ = some (.slice B m d) ∧ S < wi.heap.size ∧ MineB S wi 4 (.slice (some ⟨S, 0, none⟩) M M) M (seenF R p u) ∧ MineR (w.heap.size + 1) wi 29 3 S (.slice Av R.length cv) R ∧ Mine (w.heap.size + 1) wi 3 (.slice (some ⟨G, 0, none⟩) p.length c5) p.length (nums p)) (fun i _ => p.length - (intOf i).toNat)
          case atStart => exact ⟨0, Nat.zero_le _, rfl, X5, q05, q15, hS5, hb5, hl5, hmm⟩
          case round =>
            clear hb5 hl5 X5 hmm hS5 q05 q15
            obtain ⟨u, hu, rfl, X, q0, q1, hSl, hb, hl, hm⟩ := hrel
            by_cases hul : u < p.length
            · obtain ⟨g0, _, _, _⟩ := hm.at_ hul
              rw [nums_ix] at g0
              have hpu : p.getD u 0 < M := HRLt.out _ (by rw [List.getD_eq_getElem?_getD, List.getElem?_eq_getElem hul]; exact List.getElem_mem hul)
              have HSU := Lib.hid (seenF_succ R p hul)
              obtain ⟨f0, f1, _, _⟩ := hb.at_ hpu
              generalize p.getD u 0 = y at *
              have k1 : (0 : Int) ≤ (u : Int) := by omega
              have k2 : (u : Int) < (p.length : Int) := by omega
              have k3 : (0 : Int) ≤ (y : Int) := by omega
              have k4 : (y : Int) < (M : Int) := by omega
              have hst := hb.stored (k := y) true
              have hl' := hl.kept (g := 0) hst.2
              have hm' := hm.kept hst.2 (.inr (by simpa [Value.ownBlock] using hGS))
              have Z := X.size
              rw [World.size_alloc] at Z
              have X' := X.setCell (p := ⟨S, y, none⟩) (by rw [World.size_alloc]; show w.heap.size + 1 ≤ S; omega) (.bool true)
              have hb' := hst.1
              rw [← HSU.out] at hb'
              have HB' := Lib.hid hb'
              have HL' := Lib.hid hl'
              have HM' := Lib.hid hm'
              have HX' := Lib.hid X'
              have q0' := cl_far2 (b' := S) (j' := y) (v := .bool true) (by omega) q0
              have q1' := cl_far2 (b' := S) (j' := y) (v := .bool true) (by omega) q1
              clear hb hl hm X hst hb' hl' hm' X'
              go_wp2
              go_roundw
              case rel => exact ⟨u + 1, by omega, by go_num, HX'.out, q0', q1', by simpa using hSl, HB'.out, HL'.out, HM'.out⟩
              case measure => simp [intOf]; omega
            · obtain rfl : u = p.length := by omega
              rw [seenF_all, ← HO.out] at hb
              have hcell : ∀ (W : World), (W.alloc (.cells #[.slice (some ⟨G, 0, none⟩) p.length c5] 29)).cell? ⟨W.heap.size, 0, none⟩ = some (.slice (some ⟨G, 0, none⟩) p.length c5) := fun W => by simp [go_sem]
              go_wp2_with (at_builtin; go_loud (refine append_row _ rfl _ _ rfl (w.heap.size + 1) S (.slice Av R.length cv) R rfl (hl.ext ((Ext.refl _).alloc _)) (by rw [World.size_alloc]; omega) p G c5 _ rfl (hcell _) (hm.ext ((Ext.refl _).alloc _)) hGS hGv (by omega) (by rw [World.size_alloc]; have := X.size; rw [World.size_alloc] at this; omega) ?_; intro v7 w7 hl7 hg7 hat7; have hb7 := (hb.ext ((Ext.refl _).alloc (.cells #[.slice (some ⟨G, 0, none⟩) p.length c5] 29))).kept hg7 (.inr (fun q => hvS q.symm)); have X7 := (X.alloc (.cells #[.slice (some ⟨G, 0, none⟩) p.length c5] 29)).grown hg7 (fun k hk => by have := (hl.lt k hk).1; rw [World.size_alloc]; omega); have q07 := X7.cell (a := ⟨w.heap.size, 0, none⟩) (u := .slice A n c) (by simp [go_sem]); have q17 := X7.cell (a := ⟨w.heap.size, 1, none⟩) (u := .slice B m d) (by simp [go_sem]); have hS7 : S < w7.heap.size := Nat.lt_of_lt_of_le hSl (by have := hg7.size; rw [World.size_alloc] at this; omega)))
              rw [← HO.out] at hl7
              clear hl hm hb X q0 q1
              go_wp2
              go_roundw
              case rel => exact ⟨t + 1, by omega, by go_num, X7, q07, q17, hS7, hb7, hl7⟩
              case measure => simp [intOf]; omega
      · obtain rfl : t = M := by omega
        have XW := ((Ext.refl w).alloc (.cells #[.slice A n c, .slice B m d] 27)).trans X
        go_wp2
        go_ret
        rw [HV.out, HFC.out]
        exact ⟨Av, cv, rfl, hc1, hc2, hl.faces, XW⟩

end Go.Proofs.YtgmhmlhdiklaaaaGreatDoor

/- FacesS -/
namespace Go.Proofs.YtgmhmlhdiklaaaaGreatDoor
open Go.RowKit Ring
set_option linter.unusedVariables false

set_option maxRecDepth 100000 in
set_option maxHeartbeats 8000000 in
theorem spec_FacesOf (A : Option Addr) (n c : Nat) (P : Nat → Nat → Int) (B : Option Addr) (m d : Nat) (L : Nat → Nat → Int) (hnc : n ≤ c) (hcm : c ≤ 9223372036854775807) (hmd : m ≤ d) (hdm : d ≤ 9223372036854775807) (w : World) (hr : Recs w 2 A n P) (hs : Recs w 2 B m L) :
    Calls Tryz.prog 7 #[.agg #[.slice A n c, .slice B m d]] w (PostF w (facesV n P m L)) := by
  have HWH := Lib.hid (fun W (Z : Ext w W) => spec_IsWhole A n c P B m d L hnc hcm hmd hdm W (hr.ext Z) (hs.ext Z))
  have q0 : ((w.alloc (.cells #[.slice A n c, .slice B m d] 27)).alloc (.cells #[] 29)).cell? ⟨w.heap.size, 0, none⟩ = some (.slice A n c) := by simp [go_sem]
  have q1 : ((w.alloc (.cells #[.slice A n c, .slice B m d] 27)).alloc (.cells #[] 29)).cell? ⟨w.heap.size, 1, none⟩ = some (.slice B m d) := by simp [go_sem]
  cases hwh : wholeB n P m L
  · rw [hwh] at HWH
    have HV := Lib.hid (facesV_no hwh)
    clear hwh
    go_enter Tryz.func7, Tryz.ntmps7
    go_wp2_with fail
    refine (HWH.out _ (by repeat (first | exact Ext.refl _ | apply Ext.alloc))).mono ?_
    rintro e w1 ⟨rfl, x1⟩
    have X1 : Ext w w1 := Ext.trans (by repeat (first | exact Ext.refl _ | apply Ext.alloc)) x1
    go_wp2
    go_ret
    rw [HV.out]
    exact ⟨_, _, rfl, by simp, by simp, fun h => absurd h (by simp), X1⟩
  · rw [hwh] at HWH
    have HV := Lib.hid (facesV_yes hwh)
    obtain ⟨hwin, hm0, _⟩ := wholeB_get hwh
    have hm20 := (winB_get hwin).1.2.2
    have hbij := nxt_bij P L m
    obtain ⟨M, hM⟩ : ∃ M, M = 2 * m := ⟨_, rfl⟩
    have HWALK := Lib.hid (fun W (Z : Ext w W) (y : Nat) (hy : y < M) => (show Calls Tryz.prog 24 #[.agg #[.slice A n c, .slice B m d], .int .i64 (y : Int)] W (PostI W 3 (rnd (nxt P L m) M y).length (nums (rnd (nxt P L m) M y))) from by rw [hM] at hy ⊢; exact spec_walk A n c P B m d L hnc hcm hmd hdm hwin y hy W (hr.ext Z) (hs.ext Z)))
    have HFC := Lib.hid (show fcs P L m = rnds (nxt P L m) M M by rw [hM]; rfl)
    rw [← hM] at hbij
    have HRL := Lib.hid (fun y (hy : y < M) e (he : e ∈ rnd (nxt P L m) M y) => rnd_lt hbij hy e he)
    have HRP := Lib.hid (fun y (hy : y < M) => show (rnd (nxt P L m) M y).length ≤ M ∧ 0 < (rnd (nxt P L m) M y).length by rw [rnd_len]; exact ⟨per_le hbij hy, per_pos _ _ _⟩)
    have HOLD := Lib.hid (fun t (h : t ∈ (rnds (nxt P L m) M t).flatten) => rnds_old h)
    have HNEW := Lib.hid (fun t (h : ¬ t ∈ (rnds (nxt P L m) M t).flatten) => rnds_new h)
    have HLE := Lib.hid (fun t => rnds_le (nxt P L m) M t)
    have h00 : (fun e => decide (e ∈ (rnds (nxt P L m) M 0).flatten)) = fun _ => false := by funext e; simp [rnds]
    have HR0 := Lib.hid (show rnds (nxt P L m) M 0 = [] from rfl)
    clear hbij hwh hwin
    generalize nxt P L m = nx at *
    have hM40 : M ≤ 40 := by omega
    go_enter Tryz.func7, Tryz.ntmps7
    go_wp2_with fail
    refine (HWH.out _ (by repeat (first | exact Ext.refl _ | apply Ext.alloc))).mono ?_
    rintro e w1 ⟨rfl, x1⟩
    replace q0 := x1.cell q0
    replace q1 := x1.cell q1
    have Q0 := Lib.hid q0
    have Q1 := Lib.hid q1
    have X1 : Ext (w.alloc (.cells #[.slice A n c, .slice B m d] 27)) w1 := Ext.trans (by repeat (first | exact Ext.refl _ | apply Ext.alloc)) x1
    have Z1 := X1.size
    rw [World.size_alloc] at Z1
    have hl0 : MineR (w.heap.size + 1) w1 29 3 w1.heap.size (.slice (some ⟨w.heap.size + 1, 0, none⟩) 0 0) [] := by
      have Zx := x1.size
      rw [World.size_alloc, World.size_alloc] at Zx
      have := (MineR.lit0 (w := w.alloc (.cells #[.slice A n c, .slice B m d] 27)) (E := 29) (F := 3) (S := w1.heap.size) (by rw [World.size_alloc]; omega)).ext (w' := w1) x1
      rwa [World.size_alloc] at this
    clear x1 q0 q1 HWH
    have q0 := Q0.out
    have q1 := Q1.out
    have hLM : IntKind.i64.wrap (2 * (m : Int)) = (M : Int) := by rw [IntKind.wrap_i64]; omega
    go_wp2_with (refine make_bools _ rfl (.tmp 16) rfl _ M rfl (by first | exact hLM | omega) (by omega) ?_; intro w2 hb2 he2 hlt2)
    rw [← h00] at hb2
    replace hl0 := hl0.ext he2
    rw [← HR0.out] at hl0
    have X2 := X1.trans he2
    have q02 := he2.cell q0
    have q12 := he2.cell q1
    clear X1 he2 h00 q0 q1
    generalize hS : w1.heap.size = S at *
    clear hS
    go_loopw [3, 5] (fun v i wr => ∃ t : Nat, t ≤ M ∧ i = .int .i64 t ∧ Ext (w.alloc (.cells #[.slice A n c, .slice B m d] 27)) wr ∧ wr.cell? ⟨w.heap.size, 0, none⟩ = some (.slice A n c) ∧ wr.cell? ⟨w.heap.size, 1, none⟩ = some (.slice B m d) ∧ S < wr.heap.size ∧ MineB S wr 4 (.slice (some ⟨S, 0, none⟩) M M) M (fun e => decide (e ∈ (rnds nx M t).flatten)) ∧ MineR (w.heap.size + 1) wr 29 3 S v (rnds nx M t)) (fun _ i _ => M - (intOf i).toNat)
    case atStart => exact ⟨0, Nat.zero_le _, rfl, X2, q02, q12, hlt2, hb2, hl0⟩
    case round =>
      clear hb2 hl0 X2 hlt2 q02 q12
      obtain ⟨t, ht, rfl, X, q0, q1, hSl, hb, hl⟩ := hrel
      obtain ⟨Av, cv, rfl, hc1, hc2⟩ := hl.form
      by_cases hlt : t < M
      · obtain ⟨f0, f1, _, _⟩ := hb.at_ hlt
        have k1 : (0 : Int) ≤ (t : Int) := by omega
        have k2 : (t : Int) < (M : Int) := by omega
        have XW := ((Ext.refl w).alloc (.cells #[.slice A n c, .slice B m d] 27)).trans X
        by_cases hin : t ∈ (rnds nx M t).flatten
        · have f0' : wr.cell? ⟨S, t, none⟩ = some (.bool true) := by rw [f0]; simp [hin]
          have HO := Lib.hid (HOLD.out t hin)
          clear f0 hin
          go_wp2
          go_roundw
          case rel => exact ⟨t + 1, by omega, by go_num, X, q0, q1, hSl, by rw [HO.out]; exact hb, by rw [HO.out]; exact hl⟩
          case measure => simp [intOf]; omega
        · have f0' : wr.cell? ⟨S, t, none⟩ = some (.bool false) := by rw [f0]; simp [hin]
          have HO := Lib.hid (HNEW.out t hin)
          have hrt := HLE.out t
          have HRLt := Lib.hid (HRL.out t hlt)
          have hrp := HRP.out t hlt
          have HW_ := Lib.hid (fun W (Z : Ext w W) => HWALK.out W Z t hlt)
          clear f0 hin
          generalize rnd nx M t = p at *
          generalize rnds nx M t = R at *
          go_wp2_with fail
          refine (HW_.out _ XW).mono ?_
          rintro e w5 ⟨A5, c5, rfl, i5, j5, hm5, x5⟩
          obtain ⟨G, rfl⟩ := hm5.some_ (by omega)
          have hG := (hm5.lt G rfl).1
          have hb5 := hb.ext x5
          have hl5 := hl.ext x5
          have X5 := X.trans x5
          have hS5 : S < w5.heap.size := Nat.lt_of_lt_of_le hSl x5.size
          have hGv : (Value.slice Av R.length cv).ownBlock ≠ some G := fun q => by have := (hl.lt G q).2; omega
          have hGS : G ≠ S := by omega
          have hvS := hl.taboo
          have hmm := hm5.more (Nat.le_trans (by have := XW.size; have := X.size; rw [World.size_alloc] at this; omega : w.heap.size + 1 ≤ wr.heap.size) (Nat.le_refl _))
          have q05 := x5.cell q0
          have q15 := x5.cell q1
          clear hb hl X XW x5 q0 q1 hSl hG hm5 f1 f0' HW_ HWALK
          rw [← seenF_0 R p] at hb5
          go_wp2
          go_loopw [7] (fun i wi => ∃ u : Nat, u ≤ p.length ∧ i = .int .i64 u ∧ Ext (w.alloc (.cells #[.slice A n c, .slice B m d] 27)) wi ∧ wi.cell? ⟨w.heap.size, 0, none⟩ = some (.slice A n c) ∧ wi.cell? ⟨w.heap.size, 1, none⟩ = some (.slice B m d) ∧ S < wi.heap.size ∧ MineB S wi 4 (.slice (some ⟨S, 0, none⟩) M M) M (seenF R p u) ∧ MineR (w.heap.size + 1) wi 29 3 S (.slice Av R.length cv) R ∧ Mine (w.heap.size + 1) wi 3 (.slice (some ⟨G, 0, none⟩) p.length c5) p.length (nums p)) (fun i _ => p.length - (intOf i).toNat)
          case atStart => exact ⟨0, Nat.zero_le _, rfl, X5, q05, q15, hS5, hb5, hl5, hmm⟩
          case round =>
            clear hb5 hl5 X5 hmm hS5 q05 q15
            obtain ⟨u, hu, rfl, X, q0, q1, hSl, hb, hl, hm⟩ := hrel
            by_cases hul : u < p.length
            · obtain ⟨g0, _, _, _⟩ := hm.at_ hul
              rw [nums_ix] at g0
              have hpu : p.getD u 0 < M := HRLt.out _ (by rw [List.getD_eq_getElem?_getD, List.getElem?_eq_getElem hul]; exact List.getElem_mem hul)
              have HSU := Lib.hid (seenF_succ R p hul)
              obtain ⟨f0, f1, _, _⟩ := hb.at_ hpu
              generalize p.getD u 0 = y at *
              have k1 : (0 : Int) ≤ (u : Int) := by omega
              have k2 : (u : Int) < (p.length : Int) := by omega
              have k3 : (0 : Int) ≤ (y : Int) := by omega
              have k4 : (y : Int) < (M : Int) := by omega
              have hst := hb.stored (k := y) true
              have hl' := hl.kept (g := 0) hst.2
              have hm' := hm.kept hst.2 (.inr (by simpa [Value.ownBlock] using hGS))
              have Z := X.size
              rw [World.size_alloc] at Z
              have X' := X.setCell (p := ⟨S, y, none⟩) (by rw [World.size_alloc]; show w.heap.size + 1 ≤ S; omega) (.bool true)
              have hb' := hst.1
              rw [← HSU.out] at hb'
              have HB' := Lib.hid hb'
              have HL' := Lib.hid hl'
              have HM' := Lib.hid hm'
              have HX' := Lib.hid X'
              have q0' := cl_far2 (b' := S) (j' := y) (v := .bool true) (by omega) q0
              have q1' := cl_far2 (b' := S) (j' := y) (v := .bool true) (by omega) q1
              clear hb hl hm X hst hb' hl' hm' X'
              go_wp2
              go_roundw
              case rel => exact ⟨u + 1, by omega, by go_num, HX'.out, q0', q1', by simpa using hSl, HB'.out, HL'.out, HM'.out⟩
              case measure => simp [intOf]; omega
            · obtain rfl : u = p.length := by omega
              rw [seenF_all, ← HO.out] at hb
              have hcell : ∀ (W : World), (W.alloc (.cells #[.slice (some ⟨G, 0, none⟩) p.length c5] 29)).cell? ⟨W.heap.size, 0, none⟩ = some (.slice (some ⟨G, 0, none⟩) p.length c5) := fun W => by simp [go_sem]
              go_wp2_with (at_builtin; go_loud (refine append_row _ rfl _ _ rfl (w.heap.size + 1) S (.slice Av R.length cv) R rfl (hl.ext ((Ext.refl _).alloc _)) (by rw [World.size_alloc]; omega) p G c5 _ rfl (hcell _) (hm.ext ((Ext.refl _).alloc _)) hGS hGv (by omega) (by rw [World.size_alloc]; have := X.size; rw [World.size_alloc] at this; omega) ?_; intro v7 w7 hl7 hg7 hat7; have hb7 := (hb.ext ((Ext.refl _).alloc (.cells #[.slice (some ⟨G, 0, none⟩) p.length c5] 29))).kept hg7 (.inr (fun q => hvS q.symm)); have X7 := (X.alloc (.cells #[.slice (some ⟨G, 0, none⟩) p.length c5] 29)).grown hg7 (fun k hk => by have := (hl.lt k hk).1; rw [World.size_alloc]; omega); have q07 := X7.cell (a := ⟨w.heap.size, 0, none⟩) (u := .slice A n c) (by simp [go_sem]); have q17 := X7.cell (a := ⟨w.heap.size, 1, none⟩) (u := .slice B m d) (by simp [go_sem]); have hS7 : S < w7.heap.size := Nat.lt_of_lt_of_le hSl (by have := hg7.size; rw [World.size_alloc] at this; omega)))
              rw [← HO.out] at hl7
              clear hl hm hb X q0 q1
              go_wp2
              go_roundw
              case rel => exact ⟨t + 1, by omega, by go_num, X7, q07, q17, hS7, hb7, hl7⟩
              case measure => simp [intOf]; omega
      · obtain rfl : t = M := by omega
        have XW := ((Ext.refl w).alloc (.cells #[.slice A n c, .slice B m d] 27)).trans X
        go_wp2
        go_ret
        rw [HV.out, HFC.out]
        exact ⟨Av, cv, rfl, hc1, hc2, hl.faces, XW⟩

end Go.Proofs.YtgmhmlhdiklaaaaGreatDoor
