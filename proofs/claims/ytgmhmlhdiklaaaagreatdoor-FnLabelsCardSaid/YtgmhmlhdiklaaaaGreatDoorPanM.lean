/-
  Texts of one kind, one behind the other: PaneV PaneI PaneS BoxV BoxI BoxS. No conditions.
-/
import Derived.Test.YtgmhmlhdiklaaaaGreatDoorAreM
import Derived.Test.YtgmhmlhdiklaaaaGreatDoorInts
import Derived.Lib.SliceRun
import Derived.Deep.DeepCutAuto
import Derived.Deep.CutRange
import Derived.Deep.DrawnRows
import Derived.RowKit3
import Derived.Test.YtgmhmlhdiklaaaaGreatDoorSmallV
/- PaneV -/
namespace Go.Proofs.YtgmhmlhdiklaaaaGreatDoor
open Go.RowKit Ring
set_option linter.unusedVariables false

def paneN (n : Nat) (P : Nat → Nat → Int) (m : Nat) (L : Nat → Nat → Int) (f : Int) : List Nat := if inB f 0 (((facesV n P m L).length : Nat) - 1 : Int) = true then ((facesV n P m L).getD f.toNat []).map (orgN L) else []
section
variable {n m : Nat} {P L : Nat → Nat → Int}
theorem paneN_no {f : Int} (h : inB f 0 (((facesV n P m L).length : Nat) - 1 : Int) = false) : paneN n P m L f = [] := if_neg (by rw [h]; simp)
theorem paneN_yes {k : Nat} (hk : k < (facesV n P m L).length) : paneN n P m L (k : Int) = ((facesV n P m L).getD k []).map (orgN L) := by
  unfold paneN
  rw [if_pos (inB_yes (by omega))]; rfl
theorem paneN_len (f : Int) : (paneN n P m L f).length ≤ 40 := by
  cases h : inB f 0 (((facesV n P m L).length : Nat) - 1 : Int)
  · rw [paneN_no h]; simp
  · have := inB_of h
    obtain ⟨k, rfl⟩ : ∃ k : Nat, f = k := ⟨f.toNat, by omega⟩
    have hk : k < (facesV n P m L).length := by omega
    rw [paneN_yes hk, List.length_map]
    exact (faces_row hk).2.2.1
theorem paneN_lt {f : Int} {j : Nat} (hj : j < (paneN n P m L f).length) : winB n P m L = true ∧ (paneN n P m L f).getD j 0 < n := by
  cases h : inB f 0 (((facesV n P m L).length : Nat) - 1 : Int)
  · rw [paneN_no h] at hj; simp at hj
  · have := inB_of h
    obtain ⟨k, rfl⟩ : ∃ k : Nat, f = k := ⟨f.toNat, by omega⟩
    have hk : k < (facesV n P m L).length := by omega
    rw [paneN_yes hk] at hj ⊢
    rw [List.length_map] at hj
    obtain ⟨hwin, _, _, hlt⟩ := faces_row hk
    refine ⟨hwin, ?_⟩
    rw [List.getD_eq_getElem?_getD, List.getElem?_map, List.getElem?_eq_getElem hj]
    have := hlt j hj
    rw [List.getD_eq_getElem?_getD, List.getElem?_eq_getElem hj] at this
    exact orgN_lt (win_ends hwin) this
end
theorem map_take_succ {l : List Nat} {g : Nat → Nat} {t : Nat} (h : t < l.length) : (l.take (t + 1)).map g = (l.take t).map g ++ [g (l.getD t 0)] := by
  rw [List.take_add_one, List.getElem?_eq_getElem h, List.getD_eq_getElem?_getD, List.getElem?_eq_getElem h]
  simp only [Option.toList_some, List.map_append, List.map_cons, List.map_nil, Option.getD_some]
/-- append of one int to a row that has no room at all. -/
theorem append_int0 (w : World) {ops : Array Oper} {rest : List Oper} {o : Oper} {a : Act} {Q : Exit → Act → World → Prop} (hgd : o.guard = none) (s x : Operand)
    (ho : o.op = .call { callee := .builtin .append, args := #[s, x], argTypes := #[29, 29] })
    (ao : Option Addr) (hs : a.eval s = .slice ao 0 0) (z : Int) (b : Nat) (hx : a.eval x = .slice (some ⟨b, 0, none⟩) 1 1) (hc : w.cell? ⟨b, 0, none⟩ = some (.int .i64 z)) (hz64 : I64 z)
    (h : ∀ v' w', Mine w.heap.size w' 3 v' 1 [z] → Ext w w' → wpList Tryz.prog ops Q rest (a.put o.dst v') w') : wpList Tryz.prog ops Q (o :: rest) a w := by
  obtain ⟨i0, hi, hz0, hz1, hz2⟩ := info_parts int_info
  refine wpList_append_grows w hgd s x 29 ho 3 i0 (.int .i64 0) 1 8 Tryz.underlying29 hi hz0 hz1 hz2 rfl (by decide) ao 0 0 [] hs (fun _ => ⟨rfl, rfl⟩) rfl (fun _ _ j u hj => by simp at hj) ⟨b, 0, none⟩ 1 1 [.int .i64 z] hx rfl ?_ ?_ (by decide) (by simp [maxLen]) (by decide) ?_
  · intro j u hj
    match j, hj with
    | 0, hj => simp at hj; subst hj; simpa [Addr.add] using hc
  · intro u hu; simp at hu; subst hu; rfl
  · intro v' w' h1 h2
    exact h v' w' ⟨rfl, by simpa using h1, fun y hy => by simp at hy; subst hy; exact hz64⟩ ((Ext.refl w).grown h2 (by simp))
theorem res_cells {fn : Func} {p q : Tmp} {ty tz : TypeId} (h : fn.results = #[.cell p ty, .cell q tz]) (tmps : Array Value) (P : Program) (w : World) :
    (results fn tmps).run P w =
      ((asAddr (tmps.getD p undef)).run P w).andThen fun a w₁ => ((loadVar ty a).run P w₁).andThen fun v w₂ => ((asAddr (tmps.getD q undef)).run P w₂).andThen fun a2 w₃ => ((loadVar tz a2).run P w₃).andThen fun v2 w₄ => .ok (.tuple #[v, v2]) w₄ := by
  simp only [results, h]
  simp [Sem.run_bind, Result.andThen]

end Go.Proofs.YtgmhmlhdiklaaaaGreatDoor

/- PaneI -/
namespace Go.Proofs.YtgmhmlhdiklaaaaGreatDoor
open Go.RowKit Ring
set_option linter.unusedVariables false

set_option maxRecDepth 100000 in
set_option maxHeartbeats 4000000 in
theorem impl_PaneNodes_no (A : Option Addr) (n c : Nat) (P : Nat → Nat → Int) (B : Option Addr) (m d : Nat) (L : Nat → Nat → Int) (hnc : n ≤ c) (hcm : c ≤ 9223372036854775807) (hmd : m ≤ d) (hdm : d ≤ 9223372036854775807) (f : Int) (hf : (-9223372036854775808 ≤ f ∧ f ≤ 9223372036854775807)) (hin : inB f 0 (((facesV n P m L).length : Nat) - 1 : Int) = false) (w : World) (hr : Recs w 2 A n P) (hs : Recs w 2 B m L) :
    Calls Tryz.prog 39 #[.agg #[.slice A n c, .slice B m d], .int .i64 f] w fun e w' => e = .returned (.slice none 0 0) ∧ Ext w w' := by
  have HFO : Hid (∀ W, Ext w W → Calls Tryz.prog 18 #[.agg #[.slice A n c, .slice B m d]] W (PostF W (facesV n P m L))) := Lib.hid (fun W Z => impl_FacesOf A n c P B m d L hnc hcm hmd hdm W (hr.ext Z) (hs.ext Z))
  have hlen := faces_len (n := n) (m := m) (P := P) (L := L)
  have HI := Lib.hid (fun W => within_any f 0 (((facesV n P m L).length : Nat) - 1 : Int) W)
  have q0 : (w.alloc (.cells #[.slice A n c, .slice B m d] 27)).cell? ⟨w.heap.size, 0, none⟩ = some (.slice A n c) := by simp [go_sem]
  have q1 : (w.alloc (.cells #[.slice A n c, .slice B m d] 27)).cell? ⟨w.heap.size, 1, none⟩ = some (.slice B m d) := by simp [go_sem]
  rw [hin] at HI
  clear hin
  generalize facesV n P m L = R at *
  go_enter Tryz.func39, Tryz.ntmps39
  go_wp2_with fail
  refine (HFO.out _ (by repeat (first | exact Ext.refl _ | apply Ext.alloc))).mono ?_
  rintro e w1 ⟨AF, cF, rfl, iF, jF, hF, x1⟩
  have X1 : Ext w w1 := Ext.trans (by repeat (first | exact Ext.refl _ | apply Ext.alloc)) x1
  replace q0 := x1.cell q0
  replace q1 := x1.cell q1
  clear HFO x1
  go_wp2_with fail
  refine (HI.out _).mono ?_
  rintro e w2 ⟨rfl, x2⟩
  go_wp2
  go_ret
  exact ⟨rfl, X1.trans x2⟩
set_option maxRecDepth 100000 in
set_option maxHeartbeats 8000000 in
theorem impl_PaneNodes_yes (A : Option Addr) (n c : Nat) (P : Nat → Nat → Int) (B : Option Addr) (m d : Nat) (L : Nat → Nat → Int) (hnc : n ≤ c) (hcm : c ≤ 9223372036854775807) (hmd : m ≤ d) (hdm : d ≤ 9223372036854775807) (k : Nat) (hk : k < (facesV n P m L).length) (w : World) (hr : Recs w 2 A n P) (hs : Recs w 2 B m L) :
    Calls Tryz.prog 39 #[.agg #[.slice A n c, .slice B m d], .int .i64 (k : Int)] w (PostI w 3 (paneN n P m L (k : Int)).length (nums (paneN n P m L (k : Int)))) := by
  obtain ⟨f, hfk⟩ : ∃ f : Int, f = (k : Int) := ⟨_, rfl⟩
  have HFO : Hid (∀ W, Ext w W → Calls Tryz.prog 18 #[.agg #[.slice A n c, .slice B m d]] W (PostF W (facesV n P m L))) := Lib.hid (fun W Z => impl_FacesOf A n c P B m d L hnc hcm hmd hdm W (hr.ext Z) (hs.ext Z))
  have hlen := faces_len (n := n) (m := m) (P := P) (L := L)
  have HI := Lib.hid (fun W => within_any f 0 (((facesV n P m L).length : Nat) - 1 : Int) W)
  have q0 : (w.alloc (.cells #[.slice A n c, .slice B m d] 27)).cell? ⟨w.heap.size, 0, none⟩ = some (.slice A n c) := by simp [go_sem]
  have q1 : (w.alloc (.cells #[.slice A n c, .slice B m d] 27)).cell? ⟨w.heap.size, 1, none⟩ = some (.slice B m d) := by simp [go_sem]
  subst hfk
  rw [inB_yes (x := (k : Int)) (lo := 0) (hi := (((facesV n P m L).length : Nat) - 1 : Int)) (by omega)] at HI
  obtain ⟨hwin, hl1, h40, hlt⟩ := faces_row hk
  obtain ⟨⟨hn1, hn12, hm20⟩, hN, _⟩ := winB_get hwin
  have hE := win_ends hwin
  have HD := Lib.hid (fun W (Z : Ext w W) (x : Nat) (hx : x < 2 * m) => (show Calls Tryz.prog 59 #[.agg #[.slice A n c, .slice B m d], .int .i64 (x : Int)] W fun e w' => e = .returned (.int .i64 (orgN L x : Nat)) ∧ Ext W w' from by have z := impl_dartFrom A n c P B m d L hnc hcm hmd hdm x hx hm20 W (hr.ext Z) (hs.ext Z); rwa [orgI_eq hE hx] at z))
  have HV := Lib.hid (paneN_yes (n := n) (m := m) (P := P) (L := L) hk)
  have HLT := Lib.hid hlt
  have HON := Lib.hid (fun x (hx : x < 2 * m) => orgN_lt hE hx)
  clear hwin hN hE hlt
  generalize facesV n P m L = R at *
  go_enter Tryz.func39, Tryz.ntmps39
  go_wp2_with fail
  refine (HFO.out _ (by repeat (first | exact Ext.refl _ | apply Ext.alloc))).mono ?_
  rintro e w1 ⟨AF, cF, rfl, iF, jF, hF, x1⟩
  have X1 : Ext w w1 := Ext.trans (by repeat (first | exact Ext.refl _ | apply Ext.alloc)) x1
  replace q0 := x1.cell q0
  replace q1 := x1.cell q1
  clear HFO
  obtain ⟨b', o', Bk, ck, rfl, hb', hck, i1, i2, hrow⟩ := hF.at_ hk
  go_wp2_with fail
  refine (HI.out _).mono ?_
  rintro e w2 ⟨rfl, x2⟩
  replace q0 := x2.cell q0
  replace q1 := x2.cell q1
  replace hck := x2.cell hck
  replace hrow := hrow.ext x2
  have X2 := X1.trans x2
  have k1 : (0 : Int) ≤ (k : Int) := by omega
  have k2 : (k : Int) < (R.length : Int) := by omega
  generalize R.getD k [] = l at *
  have Q0 := Lib.hid q0
  have Q1 := Lib.hid q1
  have HCK := Lib.hid hck
  clear hF x1 x2 X1
  have hm0 := Mine.nil_ w2.heap.size w2 3
  go_wp2
  go_loopw [6, 22] (fun v i wr => ∃ t : Nat, t ≤ l.length ∧ i = .int .i64 t ∧ Ext w2 wr ∧ Mine w2.heap.size wr 3 v t (nums ((l.take t).map (orgN L)))) (fun _ i _ => l.length - (intOf i).toNat)
  case atStart => exact ⟨0, Nat.zero_le _, rfl, Ext.refl _, hm0⟩
  case round =>
    clear hm0 q0 q1 hck
    obtain ⟨t, ht, rfl, X, hm⟩ := hrel
    have q0 := X.cell Q0.out
    have q1 := X.cell Q1.out
    have XW := X2.trans X
    by_cases hlt' : t < l.length
    · obtain ⟨br, or_, rfl, hbr, c0⟩ := hrow.at1 hlt'
      replace c0 := X.cell c0
      have hy := HLT.out t hlt'
      have HMT := Lib.hid (map_take_succ (g := orgN L) hlt')
      generalize hyd : l.getD t 0 = y at *
      have HD1 := Lib.hid (fun W Z => HD.out W Z y hy)
      have ho := HON.out y hy
      generalize orgN L y = z at *
      have u1 : (0 : Int) ≤ (t : Int) := by omega
      have u2 : (t : Int) < (l.length : Int) := by omega
      go_wp2_with fail
      refine (HD1.out _ XW).mono ?_
      rintro e w5 ⟨rfl, x5⟩
      have X5 := X.trans x5
      have hm5 := hm.ext x5
      clear hm X XW q0 q1 c0 x5
      have hz5 := X5.size
      go_wp2_with (at_builtin; refine append_int _ rfl _ _ rfl w2.heap.size _ _ _ rfl (hm5.alloc _) (z : Int) _ rfl (cell_new1 (by simp)) (by unfold I64; omega) (by omega) (by rw [World.size_alloc]; omega) ?_; intro v2 w6 hm6 hg6; have he6 := (hm5.alloc (.cells #[.int .i64 (z : Int)] 3)).fresh (X5.alloc (.cells #[.int .i64 (z : Int)] 3)) (Nat.le_refl _) hg6 rfl)
      go_roundw
      case rel => exact ⟨t + 1, by omega, by go_num, he6, by rw [HMT.out, nums_snoc]; exact hm6⟩
      case measure => simp [intOf]; omega
    · obtain rfl : t = l.length := by omega
      obtain ⟨A', c', rfl, hc1, hc2⟩ := hm.form
      go_wp2
      go_ret
      rw [HV.out]
      have e1 : (l.map (orgN L)).length = l.length := List.length_map _
      rw [List.take_length] at hm
      rw [e1]
      exact ⟨A', c', rfl, hc1, hc2, hm.more (by have := X2.size; omega), XW⟩

end Go.Proofs.YtgmhmlhdiklaaaaGreatDoor

/- PaneS -/
namespace Go.Proofs.YtgmhmlhdiklaaaaGreatDoor
open Go.RowKit Ring
set_option linter.unusedVariables false

set_option maxRecDepth 100000 in
set_option maxHeartbeats 4000000 in
theorem spec_PaneNodes_no (A : Option Addr) (n c : Nat) (P : Nat → Nat → Int) (B : Option Addr) (m d : Nat) (L : Nat → Nat → Int) (hnc : n ≤ c) (hcm : c ≤ 9223372036854775807) (hmd : m ≤ d) (hdm : d ≤ 9223372036854775807) (f : Int) (hf : (-9223372036854775808 ≤ f ∧ f ≤ 9223372036854775807)) (hin : inB f 0 (((facesV n P m L).length : Nat) - 1 : Int) = false) (w : World) (hr : Recs w 2 A n P) (hs : Recs w 2 B m L) :
    Calls Tryz.prog 30 #[.agg #[.slice A n c, .slice B m d], .int .i64 f] w fun e w' => (∃ b, e = .returned (.slice (some ⟨b, 0, none⟩) 0 0)) ∧ Ext w w' := by
  have HFO : Hid (∀ W, Ext w W → Calls Tryz.prog 7 #[.agg #[.slice A n c, .slice B m d]] W (PostF W (facesV n P m L))) := Lib.hid (fun W Z => spec_FacesOf A n c P B m d L hnc hcm hmd hdm W (hr.ext Z) (hs.ext Z))
  have hlen := faces_len (n := n) (m := m) (P := P) (L := L)
  have HI := Lib.hid (fun W => l01In_any f 0 (((facesV n P m L).length : Nat) - 1 : Int) W)
  have q0 : ((w.alloc (.cells #[.slice A n c, .slice B m d] 27)).alloc (.cells #[] 3)).cell? ⟨w.heap.size, 0, none⟩ = some (.slice A n c) := by simp [go_sem]
  have q1 : ((w.alloc (.cells #[.slice A n c, .slice B m d] 27)).alloc (.cells #[] 3)).cell? ⟨w.heap.size, 1, none⟩ = some (.slice B m d) := by simp [go_sem]
  rw [hin] at HI
  clear hin
  generalize facesV n P m L = R at *
  go_enter Tryz.func30, Tryz.ntmps30
  go_wp2_with fail
  refine (HFO.out _ (by repeat (first | exact Ext.refl _ | apply Ext.alloc))).mono ?_
  rintro e w1 ⟨AF, cF, rfl, iF, jF, hF, x1⟩
  have X1 : Ext w w1 := Ext.trans (by repeat (first | exact Ext.refl _ | apply Ext.alloc)) x1
  replace q0 := x1.cell q0
  replace q1 := x1.cell q1
  clear HFO x1
  go_wp2_with fail
  refine (HI.out _).mono ?_
  rintro e w2 ⟨rfl, x2⟩
  go_wp2
  go_ret
  exact ⟨⟨_, rfl⟩, X1.trans x2⟩
set_option maxRecDepth 100000 in
set_option maxHeartbeats 8000000 in
theorem spec_PaneNodes_yes (A : Option Addr) (n c : Nat) (P : Nat → Nat → Int) (B : Option Addr) (m d : Nat) (L : Nat → Nat → Int) (hnc : n ≤ c) (hcm : c ≤ 9223372036854775807) (hmd : m ≤ d) (hdm : d ≤ 9223372036854775807) (k : Nat) (hk : k < (facesV n P m L).length) (w : World) (hr : Recs w 2 A n P) (hs : Recs w 2 B m L) :
    Calls Tryz.prog 30 #[.agg #[.slice A n c, .slice B m d], .int .i64 (k : Int)] w (PostI w 3 (paneN n P m L (k : Int)).length (nums (paneN n P m L (k : Int)))) := by
  obtain ⟨f, hfk⟩ : ∃ f : Int, f = (k : Int) := ⟨_, rfl⟩
  have HFO : Hid (∀ W, Ext w W → Calls Tryz.prog 7 #[.agg #[.slice A n c, .slice B m d]] W (PostF W (facesV n P m L))) := Lib.hid (fun W Z => spec_FacesOf A n c P B m d L hnc hcm hmd hdm W (hr.ext Z) (hs.ext Z))
  have hlen := faces_len (n := n) (m := m) (P := P) (L := L)
  have HI := Lib.hid (fun W => l01In_any f 0 (((facesV n P m L).length : Nat) - 1 : Int) W)
  have q0 : ((w.alloc (.cells #[.slice A n c, .slice B m d] 27)).alloc (.cells #[] 3)).cell? ⟨w.heap.size, 0, none⟩ = some (.slice A n c) := by simp [go_sem]
  have q1 : ((w.alloc (.cells #[.slice A n c, .slice B m d] 27)).alloc (.cells #[] 3)).cell? ⟨w.heap.size, 1, none⟩ = some (.slice B m d) := by simp [go_sem]
  subst hfk
  rw [inB_yes (x := (k : Int)) (lo := 0) (hi := (((facesV n P m L).length : Nat) - 1 : Int)) (by omega)] at HI
  obtain ⟨hwin, hl1, h40, hlt⟩ := faces_row hk
  obtain ⟨⟨hn1, hn12, hm20⟩, hN, _⟩ := winB_get hwin
  have hE := win_ends hwin
  have HD := Lib.hid (fun W (Z : Ext w W) (x : Nat) (hx : x < 2 * m) => (show Calls Tryz.prog 44 #[.agg #[.slice A n c, .slice B m d], .int .i64 (x : Int)] W fun e w' => e = .returned (.tuple #[.int .i64 (orgN L x : Nat), .int .i64 (endN L x : Nat)]) ∧ Ext W w' from by have z := spec_l05Ends A n c P B m d L hnc hcm hmd hdm x hx hm20 W (hr.ext Z) (hs.ext Z); rwa [orgI_eq hE hx, orgI_eq hE (tw_lt hx)] at z))
  have HV := Lib.hid (paneN_yes (n := n) (m := m) (P := P) (L := L) hk)
  have HLT := Lib.hid hlt
  have HON := Lib.hid (fun x (hx : x < 2 * m) => orgN_lt hE hx)
  clear hwin hN hE hlt
  generalize facesV n P m L = R at *
  go_enter Tryz.func30, Tryz.ntmps30
  go_wp2_with fail
  refine (HFO.out _ (by repeat (first | exact Ext.refl _ | apply Ext.alloc))).mono ?_
  rintro e w1 ⟨AF, cF, rfl, iF, jF, hF, x1⟩
  have X1 : Ext w w1 := Ext.trans (by repeat (first | exact Ext.refl _ | apply Ext.alloc)) x1
  replace q0 := x1.cell q0
  replace q1 := x1.cell q1
  clear HFO
  obtain ⟨b', o', Bk, ck, rfl, hb', hck, i1, i2, hrow⟩ := hF.at_ hk
  go_wp2_with fail
  refine (HI.out _).mono ?_
  rintro e w2 ⟨rfl, x2⟩
  replace q0 := x2.cell q0
  replace q1 := x2.cell q1
  replace hck := x2.cell hck
  replace hrow := hrow.ext x2
  have X2 := X1.trans x2
  have k1 : (0 : Int) ≤ (k : Int) := by omega
  have k2 : (k : Int) < (R.length : Int) := by omega
  generalize R.getD k [] = l at *
  have Q0 := Lib.hid q0
  have Q1 := Lib.hid q1
  have HCK := Lib.hid hck
  clear hF x1 x2 X1
  go_wp2
  go_loopw [5, 7] (fun v i wr => ∃ t : Nat, t ≤ l.length ∧ i = .int .i64 t ∧ Ext w2 wr ∧ ((t = 0 ∧ v = .slice (some ⟨w.heap.size + 1, 0, none⟩) 0 0) ∨ (0 < t ∧ Mine w2.heap.size wr 3 v t (nums ((l.take t).map (orgN L)))))) (fun _ i _ => l.length - (intOf i).toNat)
  case atStart => exact ⟨0, Nat.zero_le _, rfl, Ext.refl _, .inl ⟨rfl, rfl⟩⟩
  case round =>
    clear q0 q1 hck
    obtain ⟨t, ht, rfl, X, hm⟩ := hrel
    have q0 := X.cell Q0.out
    have q1 := X.cell Q1.out
    have hck := X.cell HCK.out
    have XW := X2.trans X
    by_cases hlt' : t < l.length
    · obtain ⟨br, or_, rfl, hbr, c0⟩ := hrow.at1 hlt'
      replace c0 := X.cell c0
      have hy := HLT.out t hlt'
      have HMT := Lib.hid (map_take_succ (g := orgN L) hlt')
      generalize hyd : l.getD t 0 = y at *
      have HD1 := Lib.hid (fun W Z => HD.out W Z y hy)
      have ho := HON.out y hy
      generalize orgN L y = z at *
      have u1 : (0 : Int) ≤ (t : Int) := by omega
      have u2 : (t : Int) < (l.length : Int) := by omega
      rcases hm with ⟨ht0, rfl⟩ | ⟨h0t, hm⟩
      · have HT0 := Lib.hid ht0
        clear ht0
        go_wp2
        first | refine wp_region_gr2 (by kernel_rfl) (by kernel_rfl) ?_ | refine wp_region_gr (by kernel_rfl) (by kernel_rfl) ?_
        repeat (go_big_quiet_step ((go_at_call 44; exact gr_of (HD1.out _ (XW.trans (by repeat (first | exact Ext.refl _ | apply Ext.wgr | apply Ext.drew | apply Ext.drewN | apply Ext.alloc)))))))
        refine wpQuiet_nil ?_
        intro _ hw'
        obtain ⟨gq, hw''⟩ := hw'
        subst hw''
        have X5 := X.wgr gq
        clear X XW q0 q1 c0 hck
        generalize wgr _ gq = w5 at *
        have hz5 := X5.size
        go_wp2_with (at_builtin; refine append_int0 _ rfl _ _ rfl _ rfl (z : Int) _ rfl (cell_new1 (by simp)) (by unfold I64; omega) ?_; intro v2 w6 hm6 he6; have hm6' := hm6.more (base' := w2.heap.size) (by rw [World.size_alloc]; omega); have X6 := (X5.alloc (.cells #[.int .i64 (z : Int)] 3)).trans he6)
        go_roundw
        case rel => exact ⟨t + 1, by omega, by go_num, X6, .inr ⟨by omega, by have e := HT0.out; subst e; rw [HMT.out, nums_snoc]; exact hm6'⟩⟩
        case measure => simp [intOf]; omega
      · go_wp2
        first | refine wp_region_gr2 (by kernel_rfl) (by kernel_rfl) ?_ | refine wp_region_gr (by kernel_rfl) (by kernel_rfl) ?_
        repeat (go_big_quiet_step ((go_at_call 44; exact gr_of (HD1.out _ (XW.trans (by repeat (first | exact Ext.refl _ | apply Ext.wgr | apply Ext.drew | apply Ext.drewN | apply Ext.alloc)))))))
        refine wpQuiet_nil ?_
        intro _ hw'
        obtain ⟨gq, hw''⟩ := hw'
        subst hw''
        have X5 := X.wgr gq
        have hm5 := hm.gr gq
        clear hm X XW q0 q1 c0 hck
        generalize wgr _ gq = w5 at *
        have hz5 := X5.size
        go_wp2_with (at_builtin; refine append_int _ rfl _ _ rfl w2.heap.size _ _ _ rfl (hm5.alloc _) (z : Int) _ rfl (cell_new1 (by simp)) (by unfold I64; omega) (by omega) (by rw [World.size_alloc]; omega) ?_; intro v2 w6 hm6 hg6; have he6 := (hm5.alloc (.cells #[.int .i64 (z : Int)] 3)).fresh (X5.alloc (.cells #[.int .i64 (z : Int)] 3)) (Nat.le_refl _) hg6 rfl)
        go_roundw
        case rel => exact ⟨t + 1, by omega, by go_num, he6, .inr ⟨by omega, by rw [HMT.out, nums_snoc]; exact hm6⟩⟩
        case measure => simp [intOf]; omega
    · obtain rfl : t = l.length := by omega
      rcases hm with ⟨h0, _⟩ | ⟨h0t, hm⟩
      · omega
      obtain ⟨A', c', rfl, hc1, hc2⟩ := hm.form
      go_wp2
      go_ret
      rw [HV.out]
      have e1 : (l.map (orgN L)).length = l.length := List.length_map _
      rw [List.take_length] at hm
      rw [e1]
      exact ⟨A', c', rfl, hc1, hc2, hm.more (by have := X2.size; omega), XW⟩

end Go.Proofs.YtgmhmlhdiklaaaaGreatDoor

/- BoxV -/
namespace Go.Proofs.YtgmhmlhdiklaaaaGreatDoor
open Go.RowKit Ring
set_option linter.unusedVariables false

def bxLo (P : Nat → Nat → Int) (l : List Nat) (j : Nat) : Nat → Int
  | 0 => P (l.getD 0 0) j
  | t + 1 => if bxLo P l j t < P (l.getD t 0) j then bxLo P l j t else P (l.getD t 0) j
def bxHi (P : Nat → Nat → Int) (l : List Nat) (j : Nat) : Nat → Int
  | 0 => P (l.getD 0 0) j
  | t + 1 => if P (l.getD t 0) j < bxHi P l j t then bxHi P l j t else P (l.getD t 0) j
theorem bxLo_old {P : Nat → Nat → Int} {l : List Nat} {j t : Nat} (h : bxLo P l j t < P (l.getD t 0) j) : bxLo P l j (t + 1) = bxLo P l j t := if_pos h
theorem bxLo_new {P : Nat → Nat → Int} {l : List Nat} {j t : Nat} (h : ¬ bxLo P l j t < P (l.getD t 0) j) : bxLo P l j (t + 1) = P (l.getD t 0) j := if_neg h
theorem bxHi_old {P : Nat → Nat → Int} {l : List Nat} {j t : Nat} (h : P (l.getD t 0) j < bxHi P l j t) : bxHi P l j (t + 1) = bxHi P l j t := if_pos h
theorem bxHi_new {P : Nat → Nat → Int} {l : List Nat} {j t : Nat} (h : ¬ P (l.getD t 0) j < bxHi P l j t) : bxHi P l j (t + 1) = P (l.getD t 0) j := if_neg h
theorem bxLo_zero {P : Nat → Nat → Int} {l : List Nat} {z : Nat} (h : l.getD 0 0 = z) (j : Nat) : bxLo P l j 0 = P z j ∧ bxHi P l j 0 = P z j := by rw [← h]; exact ⟨rfl, rfl⟩
def loN (n : Nat) (P : Nat → Nat → Int) (m : Nat) (L : Nat → Nat → Int) (f : Int) (j : Nat) : Int := if (paneN n P m L f).length = 0 then 0 else bxLo P (paneN n P m L f) j (paneN n P m L f).length
def hiN (n : Nat) (P : Nat → Nat → Int) (m : Nat) (L : Nat → Nat → Int) (f : Int) (j : Nat) : Int := if (paneN n P m L f).length = 0 then 0 else bxHi P (paneN n P m L f) j (paneN n P m L f).length
def boxV (n : Nat) (P : Nat → Nat → Int) (m : Nat) (L : Nat → Nat → Int) (f : Int) : Value := .tuple #[.agg #[.int .i64 (loN n P m L f 0), .int .i64 (loN n P m L f 1)], .agg #[.int .i64 (hiN n P m L f 0), .int .i64 (hiN n P m L f 1)]]
section
variable {n m : Nat} {P L : Nat → Nat → Int}
theorem bx_rng (hP : ∀ k j, k < n → j < 2 → 0 ≤ P k j ∧ P k j ≤ 20) {l : List Nat} (hl : ∀ j, j < l.length → l.getD j 0 < n) (h0 : 0 < l.length) {j : Nat} (hj : j < 2) : ∀ t, t ≤ l.length → (0 ≤ bxLo P l j t ∧ bxLo P l j t ≤ 20) ∧ (0 ≤ bxHi P l j t ∧ bxHi P l j t ≤ 20)
  | 0, _ => ⟨hP _ j (hl 0 h0) hj, hP _ j (hl 0 h0) hj⟩
  | t + 1, ht => by
    obtain ⟨h1, h2⟩ := bx_rng hP hl h0 hj t (by omega)
    have h3 := hP _ j (hl t (by omega)) hj
    constructor
    · by_cases g : bxLo P l j t < P (l.getD t 0) j
      · rw [bxLo_old g]; exact h1
      · rw [bxLo_new g]; exact h3
    · by_cases g : P (l.getD t 0) j < bxHi P l j t
      · rw [bxHi_old g]; exact h2
      · rw [bxHi_new g]; exact h3
theorem node_rng (hN : NodesOk n P) : ∀ k j, k < n → j < 2 → 0 ≤ P k j ∧ P k j ≤ 20 := by
  intro k j hk hj
  have := nodeB_rng (hN.1 k hk)
  match j, hj with
  | 0, _ => omega
  | 1, _ => omega
theorem lohi_rng (f : Int) {j : Nat} (hj : j < 2) : (0 ≤ loN n P m L f j ∧ loN n P m L f j ≤ 20) ∧ (0 ≤ hiN n P m L f j ∧ hiN n P m L f j ≤ 20) := by
  unfold loN hiN
  by_cases h : (paneN n P m L f).length = 0
  · rw [if_pos h, if_pos h]; omega
  · rw [if_neg h, if_neg h]
    have h0 : 0 < (paneN n P m L f).length := by omega
    have hwin := (paneN_lt h0).1
    exact bx_rng (node_rng (winB_get hwin).2.1) (fun j hj => (paneN_lt hj).2) h0 hj _ (Nat.le_refl _)
theorem boxV_no {f : Int} (h : paneN n P m L f = []) : boxV n P m L f = .tuple #[.agg #[.int .i64 0, .int .i64 0], .agg #[.int .i64 0, .int .i64 0]] := by
  unfold boxV loN hiN; rw [h]; rfl
theorem boxV_yes {f : Int} (h : 0 < (paneN n P m L f).length) : boxV n P m L f = .tuple #[.agg #[.int .i64 (bxLo P (paneN n P m L f) 0 (paneN n P m L f).length), .int .i64 (bxLo P (paneN n P m L f) 1 (paneN n P m L f).length)], .agg #[.int .i64 (bxHi P (paneN n P m L f) 0 (paneN n P m L f).length), .int .i64 (bxHi P (paneN n P m L f) 1 (paneN n P m L f).length)]] := by
  unfold boxV loN hiN
  rw [if_neg (by omega), if_neg (by omega), if_neg (by omega), if_neg (by omega)]
end

end Go.Proofs.YtgmhmlhdiklaaaaGreatDoor

/- BoxI -/
namespace Go.Proofs.YtgmhmlhdiklaaaaGreatDoor
open Go.RowKit Ring
set_option linter.unusedVariables false

attribute [local go_sem ↓] Go.wp_at_zero Go.wp_at_succ
attribute [local go_sem, local simp] Go.World.cell?_alloc_some Go.World.frozen?_alloc_past

set_option maxRecDepth 100000 in
set_option maxHeartbeats 20000000 in
theorem impl_PaneBox (A : Option Addr) (n c : Nat) (P : Nat → Nat → Int) (B : Option Addr) (m d : Nat) (L : Nat → Nat → Int) (hnc : n ≤ c) (hcm : c ≤ 9223372036854775807) (hmd : m ≤ d) (hdm : d ≤ 9223372036854775807) (f : Int) (hf : (-9223372036854775808 ≤ f ∧ f ≤ 9223372036854775807)) (w : World) (hr : Recs w 2 A n P) (hs : Recs w 2 B m L) :
    Calls Tryz.prog 22 #[.agg #[.slice A n c, .slice B m d], .int .i64 f] w fun e w' => e = .returned (boxV n P m L f) ∧ Ext w w' := by
  have q0 : (((w.alloc (.cells #[.slice A n c, .slice B m d] 27)).alloc (.cells #[.int .i64 0, .int .i64 0] 38)).alloc (.cells #[.int .i64 0, .int .i64 0] 38)).cell? ⟨w.heap.size, 0, none⟩ = some (.slice A n c) := by simp [go_sem]
  have q1 : (((w.alloc (.cells #[.slice A n c, .slice B m d] 27)).alloc (.cells #[.int .i64 0, .int .i64 0] 38)).alloc (.cells #[.int .i64 0, .int .i64 0] 38)).cell? ⟨w.heap.size, 1, none⟩ = some (.slice B m d) := by simp [go_sem]
  have r0 : (((w.alloc (.cells #[.slice A n c, .slice B m d] 27)).alloc (.cells #[.int .i64 0, .int .i64 0] 38)).alloc (.cells #[.int .i64 0, .int .i64 0] 38)).cell? ⟨w.heap.size + 1, 0, none⟩ = some (.int .i64 0) := by simp [go_sem]
  have r1 : (((w.alloc (.cells #[.slice A n c, .slice B m d] 27)).alloc (.cells #[.int .i64 0, .int .i64 0] 38)).alloc (.cells #[.int .i64 0, .int .i64 0] 38)).cell? ⟨w.heap.size + 1, 1, none⟩ = some (.int .i64 0) := by simp [go_sem]
  have s0 : (((w.alloc (.cells #[.slice A n c, .slice B m d] 27)).alloc (.cells #[.int .i64 0, .int .i64 0] 38)).alloc (.cells #[.int .i64 0, .int .i64 0] 38)).cell? ⟨w.heap.size + 1 + 1, 0, none⟩ = some (.int .i64 0) := by simp [go_sem]
  have s1 : (((w.alloc (.cells #[.slice A n c, .slice B m d] 27)).alloc (.cells #[.int .i64 0, .int .i64 0] 38)).alloc (.cells #[.int .i64 0, .int .i64 0] 38)).cell? ⟨w.heap.size + 1 + 1, 1, none⟩ = some (.int .i64 0) := by simp [go_sem]
  have rf0 : (((w.alloc (.cells #[.slice A n c, .slice B m d] 27)).alloc (.cells #[.int .i64 0, .int .i64 0] 38)).alloc (.cells #[.int .i64 0, .int .i64 0] 38)).frozen? ⟨w.heap.size + 1, 0, none⟩ = false := by simp [go_sem]
  have rf1 : (((w.alloc (.cells #[.slice A n c, .slice B m d] 27)).alloc (.cells #[.int .i64 0, .int .i64 0] 38)).alloc (.cells #[.int .i64 0, .int .i64 0] 38)).frozen? ⟨w.heap.size + 1, 1, none⟩ = false := by simp [go_sem]
  have sf0 : (((w.alloc (.cells #[.slice A n c, .slice B m d] 27)).alloc (.cells #[.int .i64 0, .int .i64 0] 38)).alloc (.cells #[.int .i64 0, .int .i64 0] 38)).frozen? ⟨w.heap.size + 1 + 1, 0, none⟩ = false := by simp [go_sem]
  have sf1 : (((w.alloc (.cells #[.slice A n c, .slice B m d] 27)).alloc (.cells #[.int .i64 0, .int .i64 0] 38)).alloc (.cells #[.int .i64 0, .int .i64 0] 38)).frozen? ⟨w.heap.size + 1 + 1, 1, none⟩ = false := by simp [go_sem]
  cases hin : inB f 0 (((facesV n P m L).length : Nat) - 1 : Int)
  · have HNO := Lib.hid (fun W (Z : Ext w W) => impl_PaneNodes_no A n c P B m d L hnc hcm hmd hdm f hf hin W (hr.ext Z) (hs.ext Z))
    have HV := Lib.hid (boxV_no (paneN_no hin))
    clear hin hr hs
    have HEQ : ∀ W : World, (binOp .eql 29 (.slice none 0 0) (.slice none 0 0)).run Tryz.prog W = .ok (.bool true) W := fun W => Lib.run_eql_slice_nil W _ 3 none 0 0 0 0 Tryz.underlying29
    go_enter Tryz.func22, Tryz.ntmps22
    go_wp2_with fail
    refine (HNO.out _ (by repeat (first | exact Ext.refl _ | apply Ext.alloc))).mono ?_
    rintro e w1 ⟨rfl, x1⟩
    have X1 : Ext w w1 := Ext.trans (by repeat (first | exact Ext.refl _ | apply Ext.alloc)) x1
    replace rf0 := x1.frozen r0 rf0
    replace rf1 := x1.frozen r1 rf1
    replace sf0 := x1.frozen s0 sf0
    replace sf1 := x1.frozen s1 sf1
    replace q0 := x1.cell q0
    replace q1 := x1.cell q1
    replace r0 := x1.cell r0
    replace r1 := x1.cell r1
    replace s0 := x1.cell s0
    replace s1 := x1.cell s1
    have Z1 := X1.size
    clear x1 HNO
    go_wp2
    have X9 : Ext w ((((w1.setCell ⟨w.heap.size + 1, 0, none⟩ (.int .i64 0)).setCell ⟨w.heap.size + 1, 1, none⟩ (.int .i64 0)).setCell ⟨w.heap.size + 1 + 1, 0, none⟩ (.int .i64 0)).setCell ⟨w.heap.size + 1 + 1, 1, none⟩ (.int .i64 0)) := (((X1.setCell (by simp) _).setCell (by simp) _).setCell (by simp; omega) _).setCell (by simp; omega) _
    refine bodyPost_ret (v := .tuple #[.agg #[.int .i64 0, .int .i64 0], .agg #[.int .i64 0, .int .i64 0]]) ?_ rfl ⟨?_, ?_⟩
    · rw [res_cells rfl]
      simp [go_sem, *]
    · exact ret_v HV.out.symm
    · exact X9
  · have hfr := inB_of hin
    obtain ⟨k, rfl⟩ : ∃ k : Nat, f = k := ⟨f.toNat, by omega⟩
    have hk : k < (facesV n P m L).length := by omega
    have HYE := Lib.hid (fun W (Z : Ext w W) => impl_PaneNodes_yes A n c P B m d L hnc hcm hmd hdm k hk W (hr.ext Z) (hs.ext Z))
    have hl0 : 0 < (paneN n P m L (k : Int)).length := by
      rw [paneN_yes hk, List.length_map]; exact (faces_row hk).2.1
    have hl40 := paneN_len (n := n) (m := m) (P := P) (L := L) (k : Int)
    have hN := (winB_get (faces_row hk).1).2.1
    have HNR := Lib.hid (node_rng hN)
    have HPL := Lib.hid (fun j (hj : j < (paneN n P m L (k : Int)).length) => (paneN_lt hj).2)
    have HV := Lib.hid (boxV_yes hl0)
    clear hin hfr hN hk
    generalize paneN n P m L (k : Int) = l at *
    go_enter Tryz.func22, Tryz.ntmps22
    go_wp2_with fail
    refine (HYE.out _ (by repeat (first | exact Ext.refl _ | apply Ext.alloc))).mono ?_
    rintro e w1 ⟨A5, c5, rfl, i5, j5, hm5, x1⟩
    have X1 : Ext w w1 := Ext.trans (by repeat (first | exact Ext.refl _ | apply Ext.alloc)) x1
    replace rf0 := x1.frozen r0 rf0
    replace rf1 := x1.frozen r1 rf1
    replace sf0 := x1.frozen s0 sf0
    replace sf1 := x1.frozen s1 sf1
    replace q0 := x1.cell q0
    replace q1 := x1.cell q1
    replace r0 := x1.cell r0
    replace r1 := x1.cell r1
    replace s0 := x1.cell s0
    replace s1 := x1.cell s1
    have Z1 := x1.size
    simp only [World.size_alloc] at Z1
    obtain ⟨G, rfl⟩ := hm5.some_ hl0
    obtain ⟨hc0, _, _, hGl⟩ := hm5.at_ hl0
    rw [nums_ix] at hc0
    have HM := Lib.hid hm5
    have hz0 := HPL.out 0 hl0
    obtain ⟨b, o, rfl, hb, n0, n1⟩ := hr.at2 hz0
    replace n0 := X1.cell n0
    replace n1 := X1.cell n1
    have z1 : (0 : Int) ≤ (l.getD 0 0 : Nat) := by omega
    have z2 : ((l.getD 0 0 : Nat) : Int) < (n : Int) := by omega
    have z3 : (0 : Int) < (l.length : Int) := by omega
    clear hm5 x1 HYE
    have HRR := Lib.hid hr
    clear hr hs
    have HEQ : ∀ W : World, (binOp .eql 29 (.slice (some ⟨G, 0, none⟩) l.length c5) (.slice none 0 0)).run Tryz.prog W = .ok (.bool false) W := fun W => Lib.run_eql_slice_nil W _ 3 _ _ _ 0 0 Tryz.underlying29
    generalize hz_ : l.getD 0 0 = z at *
    go_upto_region 4 with fail
    go_cut [7, 8] from 19 to 32 (fun s7 s8 wx => ∃ g7 g8 : Nat, s7 = .pointer (some ⟨g7, 0, none⟩) ∧ s8 = .pointer (some ⟨g8, 0, none⟩) ∧ (w1.heap.size ≤ g7 ∧ w1.heap.size ≤ g8 ∧ g7 ≠ g8) ∧ Ext w1 wx ∧ wx.cell? ⟨g7, 0, none⟩ = some (.int .i64 (P z 0)) ∧ wx.cell? ⟨g7, 1, none⟩ = some (.int .i64 (P z 1)) ∧ wx.cell? ⟨g8, 0, none⟩ = some (.int .i64 (P z 0)) ∧ wx.cell? ⟨g8, 1, none⟩ = some (.int .i64 (P z 1)) ∧ wx.frozen? ⟨g7, 0, none⟩ = false ∧ wx.frozen? ⟨g7, 1, none⟩ = false ∧ wx.frozen? ⟨g8, 0, none⟩ = false ∧ wx.frozen? ⟨g8, 1, none⟩ = false)
    case first =>
      go_region_held3 (fun w' => w'.cell? ⟨w.heap.size, 0, none⟩ = some (.slice (some ⟨b, o, none⟩) n c) ∧ w'.cell? ⟨w.heap.size, 1, none⟩ = some (.slice B m d) ∧ w'.cell? ⟨G, 0, none⟩ = some (.int .i64 (z : Int)) ∧ w'.cell? ⟨b, o + z * 2, none⟩ = some (.int .i64 (P z 0)) ∧ w'.cell? ⟨b, o + z * 2 + 1, none⟩ = some (.int .i64 (P z 1))) (exact (fun (Z : Ext w1 _) => ⟨Z.cell q0, Z.cell q1, Z.cell hc0, Z.cell n0, Z.cell n1⟩) (by repeat (first | with_reducible exact Ext.refl _ | with_reducible apply Ext.drew | with_reducible apply Ext.alloc | with_reducible (refine Ext.setCell ?_ (by first | (simp; done) | (simp; omega)) _)))) (fail)
      all_goals
        go_wp2_with fail
        go_meet
        refine ⟨_, _, rfl, rfl, ⟨?_, ?_, ?_⟩, ?_, ?_, ?_, ?_, ?_, ?_, ?_, ?_, ?_⟩
        all_goals first | (focus ((repeat (first | with_reducible exact Ext.refl _ | with_reducible apply Ext.drew | with_reducible apply Ext.alloc | with_reducible (refine Ext.setCell ?_ (by first | (simp; done) | (simp; omega)) _))); done)) | (focus (simp [go_sem]; done)) | (focus (simp [go_sem, *]; done)) | (focus (simp [go_sem, *]; omega))
    case rest =>
    obtain ⟨g7, g8, rfl, rfl, ⟨hg7, hg8, hg78⟩, XR, a0, a1, b0, b1, af0, af1, bf0, bf1⟩ := hcut
    have w1g : w1.heap.size ≤ wc.heap.size := XR.size
    have XRh := Lib.hid XR
    have Q0 := Lib.hid q0
    have Q1 := Lib.hid q1
    have BL0 := Lib.hid (bxLo_zero (P := P) (l := l) hz_)
    clear q0 q1 hz0 hc0 n0 n1 z1 z2 hz_
    go_wp2_with fail
    go_loopw [35] (fun i wr => ∃ t : Nat, t ≤ l.length ∧ i = .int .i64 t ∧ Ext w1 wr ∧ wr.cell? ⟨g7, 0, none⟩ = some (.int .i64 (bxLo P l 0 t)) ∧ wr.cell? ⟨g7, 1, none⟩ = some (.int .i64 (bxLo P l 1 t)) ∧ wr.cell? ⟨g8, 0, none⟩ = some (.int .i64 (bxHi P l 0 t)) ∧ wr.cell? ⟨g8, 1, none⟩ = some (.int .i64 (bxHi P l 1 t)) ∧ wr.frozen? ⟨g7, 0, none⟩ = false ∧ wr.frozen? ⟨g7, 1, none⟩ = false ∧ wr.frozen? ⟨g8, 0, none⟩ = false ∧ wr.frozen? ⟨g8, 1, none⟩ = false) (fun i _ => l.length - (intOf i).toNat)
    case atStart => exact ⟨0, Nat.zero_le _, rfl, XR, by rw [(BL0.out 0).1]; exact a0, by rw [(BL0.out 1).1]; exact a1, by rw [(BL0.out 0).2]; exact b0, by rw [(BL0.out 1).2]; exact b1, af0, af1, bf0, bf1⟩
    case round =>
      clear a0 a1 b0 b1 af0 af1 bf0 bf1 XR XRh w1g
      obtain ⟨t, ht, rfl, X, a0, a1, b0, b1, af0, af1, bf0, bf1⟩ := hrel
      have q0 := X.cell Q0.out
      have q1 := X.cell Q1.out
      by_cases hlt : t < l.length
      · skip
        obtain ⟨hcG, _, _, _⟩ := HM.out.at_ hlt
        rw [nums_ix] at hcG
        replace hcG := X.cell hcG
        have hzt := HPL.out t hlt
        obtain ⟨_, _, hA2, hb2, n0, n1⟩ := HRR.out.at2 hzt
        cases hA2
        replace n0 := X.cell (X1.cell n0)
        replace n1 := X.cell (X1.cell n1)
        have L0 : Hid (bxLo P l 0 (t + 1) = if bxLo P l 0 t < P (l.getD t 0) 0 then bxLo P l 0 t else P (l.getD t 0) 0) := Lib.hid rfl
        have L1 : Hid (bxLo P l 1 (t + 1) = if bxLo P l 1 t < P (l.getD t 0) 1 then bxLo P l 1 t else P (l.getD t 0) 1) := Lib.hid rfl
        have M0 : Hid (bxHi P l 0 (t + 1) = if P (l.getD t 0) 0 < bxHi P l 0 t then bxHi P l 0 t else P (l.getD t 0) 0) := Lib.hid rfl
        have M1 : Hid (bxHi P l 1 (t + 1) = if P (l.getD t 0) 1 < bxHi P l 1 t then bxHi P l 1 t else P (l.getD t 0) 1) := Lib.hid rfl
        generalize hz2 : l.getD t 0 = z2 at *
        have hz2' := Lib.hid hz2
        clear hz2
        generalize P z2 0 = x at *
        generalize P z2 1 = y at *
        have z4 : (0 : Int) ≤ (z2 : Int) := by omega
        have z5 : (z2 : Int) < (n : Int) := by omega
        have z6 : (0 : Int) ≤ (t : Int) := by omega
        have z7 : (t : Int) < (l.length : Int) := by omega
        have gl7 := World.block_lt_of_cell? _ _ a0
        have gl8 := World.block_lt_of_cell? _ _ b0
        have XZ := X.size
        generalize bxLo P l 0 t = u0 at *
        generalize bxLo P l 1 t = u1 at *
        generalize bxHi P l 0 t = v0 at *
        generalize bxHi P l 1 t = v1 at *
        by_cases c0 : u0 < x <;> by_cases c1 : u1 < y <;> by_cases c2 : x < v0 <;> by_cases c3 : y < v1
        all_goals
          go_wp2_with fail
          go_roundw
          case rel =>
            refine ⟨t + 1, by omega, by go_num, ?_, ?_, ?_, ?_, ?_, ?_, ?_, ?_, ?_⟩
            · repeat (first | with_reducible exact X | with_reducible exact XX | with_reducible apply Ext.alloc | with_reducible (refine Ext.setCell ?_ (by first | assumption | omega) _))
            · rw [L0.out]; first | (simp [go_sem, *]; done) | (simp [go_sem, *]; omega)
            · rw [L1.out]; first | (simp [go_sem, *]; done) | (simp [go_sem, *]; omega)
            · rw [M0.out]; first | (simp [go_sem, *]; done) | (simp [go_sem, *]; omega)
            · rw [M1.out]; first | (simp [go_sem, *]; done) | (simp [go_sem, *]; omega)
            all_goals first | (simp [go_sem]; done) | (simp [go_sem, *]; done) | (simp [go_sem, *]; omega)
          case measure => simp [intOf]; omega
      · obtain rfl : t = l.length := by omega
        have gl7 := World.block_lt_of_cell? _ _ a0
        have gl8 := World.block_lt_of_cell? _ _ b0
        clear hlt
        replace rf0 := X.frozen r0 rf0
        replace rf1 := X.frozen r1 rf1
        replace sf0 := X.frozen s0 sf0
        replace sf1 := X.frozen s1 sf1
        skip
        skip
        replace r0 := X.cell r0
        replace r1 := X.cell r1
        replace s0 := X.cell s0
        replace s1 := X.cell s1
        have XZ := X.size
        generalize bxLo P l 0 l.length = u0 at *
        generalize bxLo P l 1 l.length = u1 at *
        generalize bxHi P l 0 l.length = v0 at *
        generalize bxHi P l 1 l.length = v1 at *
        have hr1 : w.heap.size + 1 ≠ g7 ∧ w.heap.size + 1 ≠ g8 ∧ w.heap.size + 1 + 1 ≠ g7 ∧ w.heap.size + 1 + 1 ≠ g8 := by omega
        obtain ⟨d1, d2, d3, d4⟩ := hr1
        have XW := X1.trans X
        go_wp2_with fail
        go_region
        all_goals
          go_wp2_with fail
          have X9 : Ext w (((((wr.setCell ⟨w.heap.size + 1, 0, none⟩ (.int .i64 u0)).setCell ⟨w.heap.size + 1, 1, none⟩ (.int .i64 u1)).setCell ⟨w.heap.size + 1 + 1, 0, none⟩ (.int .i64 v0)).setCell ⟨w.heap.size + 1 + 1, 1, none⟩ (.int .i64 v1)).drew) := ((((XW.setCell (by simp) _).setCell (by simp) _).setCell (by simp; omega) _).setCell (by simp; omega) _).drew
          refine bodyPost_ret (v := .tuple #[.agg #[.int .i64 u0, .int .i64 u1], .agg #[.int .i64 v0, .int .i64 v1]]) ?_ rfl ⟨?_, ?_⟩
          · rw [res_cells rfl]
            simp [go_sem, *]
          · exact ret_v HV.out.symm
          · exact X9

end Go.Proofs.YtgmhmlhdiklaaaaGreatDoor

/- BoxS -/
namespace Go.Proofs.YtgmhmlhdiklaaaaGreatDoor
open Go.RowKit Ring
set_option linter.unusedVariables false

attribute [local go_sem ↓] Go.wp_at_zero Go.wp_at_succ
attribute [local go_sem, local simp] Go.World.cell?_alloc_some Go.World.frozen?_alloc_past

set_option maxRecDepth 100000 in
set_option maxHeartbeats 20000000 in
theorem spec_PaneBox (A : Option Addr) (n c : Nat) (P : Nat → Nat → Int) (B : Option Addr) (m d : Nat) (L : Nat → Nat → Int) (hnc : n ≤ c) (hcm : c ≤ 9223372036854775807) (hmd : m ≤ d) (hdm : d ≤ 9223372036854775807) (f : Int) (hf : (-9223372036854775808 ≤ f ∧ f ≤ 9223372036854775807)) (w : World) (hr : Recs w 2 A n P) (hs : Recs w 2 B m L) :
    Calls Tryz.prog 13 #[.agg #[.slice A n c, .slice B m d], .int .i64 f] w fun e w' => e = .returned (boxV n P m L f) ∧ Ext w w' := by
  have q0 : (((w.alloc (.cells #[.slice A n c, .slice B m d] 27)).alloc (.cells #[.int .i64 0, .int .i64 0] 38)).alloc (.cells #[.int .i64 0, .int .i64 0] 38)).cell? ⟨w.heap.size, 0, none⟩ = some (.slice A n c) := by simp [go_sem]
  have q1 : (((w.alloc (.cells #[.slice A n c, .slice B m d] 27)).alloc (.cells #[.int .i64 0, .int .i64 0] 38)).alloc (.cells #[.int .i64 0, .int .i64 0] 38)).cell? ⟨w.heap.size, 1, none⟩ = some (.slice B m d) := by simp [go_sem]
  have r0 : (((w.alloc (.cells #[.slice A n c, .slice B m d] 27)).alloc (.cells #[.int .i64 0, .int .i64 0] 38)).alloc (.cells #[.int .i64 0, .int .i64 0] 38)).cell? ⟨w.heap.size + 1, 0, none⟩ = some (.int .i64 0) := by simp [go_sem]
  have r1 : (((w.alloc (.cells #[.slice A n c, .slice B m d] 27)).alloc (.cells #[.int .i64 0, .int .i64 0] 38)).alloc (.cells #[.int .i64 0, .int .i64 0] 38)).cell? ⟨w.heap.size + 1, 1, none⟩ = some (.int .i64 0) := by simp [go_sem]
  have s0 : (((w.alloc (.cells #[.slice A n c, .slice B m d] 27)).alloc (.cells #[.int .i64 0, .int .i64 0] 38)).alloc (.cells #[.int .i64 0, .int .i64 0] 38)).cell? ⟨w.heap.size + 1 + 1, 0, none⟩ = some (.int .i64 0) := by simp [go_sem]
  have s1 : (((w.alloc (.cells #[.slice A n c, .slice B m d] 27)).alloc (.cells #[.int .i64 0, .int .i64 0] 38)).alloc (.cells #[.int .i64 0, .int .i64 0] 38)).cell? ⟨w.heap.size + 1 + 1, 1, none⟩ = some (.int .i64 0) := by simp [go_sem]
  have rf0 : (((w.alloc (.cells #[.slice A n c, .slice B m d] 27)).alloc (.cells #[.int .i64 0, .int .i64 0] 38)).alloc (.cells #[.int .i64 0, .int .i64 0] 38)).frozen? ⟨w.heap.size + 1, 0, none⟩ = false := by simp [go_sem]
  have rf1 : (((w.alloc (.cells #[.slice A n c, .slice B m d] 27)).alloc (.cells #[.int .i64 0, .int .i64 0] 38)).alloc (.cells #[.int .i64 0, .int .i64 0] 38)).frozen? ⟨w.heap.size + 1, 1, none⟩ = false := by simp [go_sem]
  have sf0 : (((w.alloc (.cells #[.slice A n c, .slice B m d] 27)).alloc (.cells #[.int .i64 0, .int .i64 0] 38)).alloc (.cells #[.int .i64 0, .int .i64 0] 38)).frozen? ⟨w.heap.size + 1 + 1, 0, none⟩ = false := by simp [go_sem]
  have sf1 : (((w.alloc (.cells #[.slice A n c, .slice B m d] 27)).alloc (.cells #[.int .i64 0, .int .i64 0] 38)).alloc (.cells #[.int .i64 0, .int .i64 0] 38)).frozen? ⟨w.heap.size + 1 + 1, 1, none⟩ = false := by simp [go_sem]
  cases hin : inB f 0 (((facesV n P m L).length : Nat) - 1 : Int)
  · have HNO := Lib.hid (fun W (Z : Ext w W) => spec_PaneNodes_no A n c P B m d L hnc hcm hmd hdm f hf hin W (hr.ext Z) (hs.ext Z))
    have HV := Lib.hid (boxV_no (paneN_no hin))
    clear hin hr hs
    go_enter Tryz.func13, Tryz.ntmps13
    go_wp2_with fail
    refine (HNO.out _ (by repeat (first | exact Ext.refl _ | apply Ext.alloc))).mono ?_
    rintro e w1 ⟨⟨b0, rfl⟩, x1⟩
    have X1 : Ext w w1 := Ext.trans (by repeat (first | exact Ext.refl _ | apply Ext.alloc)) x1
    replace rf0 := x1.frozen r0 rf0
    replace rf1 := x1.frozen r1 rf1
    replace sf0 := x1.frozen s0 sf0
    replace sf1 := x1.frozen s1 sf1
    replace q0 := x1.cell q0
    replace q1 := x1.cell q1
    replace r0 := x1.cell r0
    replace r1 := x1.cell r1
    replace s0 := x1.cell s0
    replace s1 := x1.cell s1
    have Z1 := X1.size
    clear x1 HNO
    go_wp2
    have X9 : Ext w ((((w1.setCell ⟨w.heap.size + 1, 0, none⟩ (.int .i64 0)).setCell ⟨w.heap.size + 1, 1, none⟩ (.int .i64 0)).setCell ⟨w.heap.size + 1 + 1, 0, none⟩ (.int .i64 0)).setCell ⟨w.heap.size + 1 + 1, 1, none⟩ (.int .i64 0)) := (((X1.setCell (by simp) _).setCell (by simp) _).setCell (by simp; omega) _).setCell (by simp; omega) _
    refine bodyPost_ret (v := .tuple #[.agg #[.int .i64 0, .int .i64 0], .agg #[.int .i64 0, .int .i64 0]]) ?_ rfl ⟨?_, ?_⟩
    · rw [res_cells rfl]
      simp [go_sem, *]
    · exact ret_v HV.out.symm
    · exact X9
  · have hfr := inB_of hin
    obtain ⟨k, rfl⟩ : ∃ k : Nat, f = k := ⟨f.toNat, by omega⟩
    have hk : k < (facesV n P m L).length := by omega
    have HYE := Lib.hid (fun W (Z : Ext w W) => spec_PaneNodes_yes A n c P B m d L hnc hcm hmd hdm k hk W (hr.ext Z) (hs.ext Z))
    have hl0 : 0 < (paneN n P m L (k : Int)).length := by
      rw [paneN_yes hk, List.length_map]; exact (faces_row hk).2.1
    have hl40 := paneN_len (n := n) (m := m) (P := P) (L := L) (k : Int)
    have hN := (winB_get (faces_row hk).1).2.1
    have HNR := Lib.hid (node_rng hN)
    have HPL := Lib.hid (fun j (hj : j < (paneN n P m L (k : Int)).length) => (paneN_lt hj).2)
    have HV := Lib.hid (boxV_yes hl0)
    clear hin hfr hN hk
    generalize paneN n P m L (k : Int) = l at *
    go_enter Tryz.func13, Tryz.ntmps13
    go_wp2_with fail
    refine (HYE.out _ (by repeat (first | exact Ext.refl _ | apply Ext.alloc))).mono ?_
    rintro e w1 ⟨A5, c5, rfl, i5, j5, hm5, x1⟩
    have X1 : Ext w w1 := Ext.trans (by repeat (first | exact Ext.refl _ | apply Ext.alloc)) x1
    replace rf0 := x1.frozen r0 rf0
    replace rf1 := x1.frozen r1 rf1
    replace sf0 := x1.frozen s0 sf0
    replace sf1 := x1.frozen s1 sf1
    replace q0 := x1.cell q0
    replace q1 := x1.cell q1
    replace r0 := x1.cell r0
    replace r1 := x1.cell r1
    replace s0 := x1.cell s0
    replace s1 := x1.cell s1
    have Z1 := x1.size
    simp only [World.size_alloc] at Z1
    obtain ⟨G, rfl⟩ := hm5.some_ hl0
    obtain ⟨hc0, _, _, hGl⟩ := hm5.at_ hl0
    rw [nums_ix] at hc0
    have HM := Lib.hid hm5
    have hz0 := HPL.out 0 hl0
    obtain ⟨b, o, rfl, hb, n0, n1⟩ := hr.at2 hz0
    replace n0 := X1.cell n0
    replace n1 := X1.cell n1
    have z1 : (0 : Int) ≤ (l.getD 0 0 : Nat) := by omega
    have z2 : ((l.getD 0 0 : Nat) : Int) < (n : Int) := by omega
    have z3 : (0 : Int) < (l.length : Int) := by omega
    clear hm5 x1 HYE
    have HRR := Lib.hid hr
    clear hr hs
    generalize hz_ : l.getD 0 0 = z at *
    have d9 : (((l.length : Nat) : Int) == 0) = false := beq_eq_false_iff_ne.2 (by omega)
    go_upto_region 4 with fail
    go_cut [7] from 19 to 25 (fun s7 wx => ∃ g7 : Nat, s7 = .pointer (some ⟨g7, 0, none⟩) ∧ w1.heap.size ≤ g7 ∧ Ext w1 wx ∧ wx.cell? ⟨g7, 0, none⟩ = some (.int .i64 (P z 0)) ∧ wx.cell? ⟨g7, 1, none⟩ = some (.int .i64 (P z 1)) ∧ wx.frozen? ⟨g7, 0, none⟩ = false ∧ wx.frozen? ⟨g7, 1, none⟩ = false)
    case first =>
      go_region_held3 (fun w' => w'.cell? ⟨w.heap.size, 0, none⟩ = some (.slice (some ⟨b, o, none⟩) n c) ∧ w'.cell? ⟨w.heap.size, 1, none⟩ = some (.slice B m d) ∧ w'.cell? ⟨G, 0, none⟩ = some (.int .i64 (z : Int)) ∧ w'.cell? ⟨b, o + z * 2, none⟩ = some (.int .i64 (P z 0)) ∧ w'.cell? ⟨b, o + z * 2 + 1, none⟩ = some (.int .i64 (P z 1))) (exact (fun (Z : Ext w1 _) => ⟨Z.cell q0, Z.cell q1, Z.cell hc0, Z.cell n0, Z.cell n1⟩) (by repeat (first | with_reducible exact Ext.refl _ | with_reducible apply Ext.drew | with_reducible apply Ext.alloc | with_reducible (refine Ext.setCell ?_ (by first | (simp; done) | (simp; omega)) _)))) (fail)
      all_goals
        go_wp2_with fail
        go_meet
        refine ⟨_, rfl, ?_, ?_, ?_, ?_, ?_, ?_⟩
        all_goals first | (focus ((repeat (first | with_reducible exact Ext.refl _ | with_reducible apply Ext.drew | with_reducible apply Ext.alloc | with_reducible (refine Ext.setCell ?_ (by first | (simp; done) | (simp; omega)) _))); done)) | (focus (simp [go_sem]; done)) | (focus (simp [go_sem, *]; done)) | (focus (simp [go_sem, *]; omega))
    case rest =>
    obtain ⟨g7, rfl, hg7, XR, a0, a1, af0, af1⟩ := hcut
    have XRz := XR.size
    have hgl := World.block_lt_of_cell? _ _ a0
    go_upto_region 5 with fail
    go_cut [8] from 26 to 26 (fun s8 wx => ∃ g8 : Nat, s8 = .pointer (some ⟨g8, 0, none⟩) ∧ (w1.heap.size ≤ g8 ∧ g7 ≠ g8) ∧ Ext w1 wx ∧ wx.cell? ⟨g7, 0, none⟩ = some (.int .i64 (P z 0)) ∧ wx.cell? ⟨g7, 1, none⟩ = some (.int .i64 (P z 1)) ∧ wx.cell? ⟨g8, 0, none⟩ = some (.int .i64 (P z 0)) ∧ wx.cell? ⟨g8, 1, none⟩ = some (.int .i64 (P z 1)) ∧ wx.frozen? ⟨g7, 0, none⟩ = false ∧ wx.frozen? ⟨g7, 1, none⟩ = false ∧ wx.frozen? ⟨g8, 0, none⟩ = false ∧ wx.frozen? ⟨g8, 1, none⟩ = false)
    case first =>
      go_wp2_with fail
      go_meet
      refine ⟨_, rfl, ⟨?_, ?_⟩, ?_, ?_, ?_, ?_, ?_, ?_, ?_, ?_, ?_⟩
      all_goals first | (focus ((repeat (first | with_reducible exact Ext.refl _ | with_reducible apply Ext.drew | with_reducible apply Ext.alloc | with_reducible (refine Ext.setCell ?_ (by first | (simp; done) | (simp; omega)) _))); done)) | (focus (simp [go_sem]; done)) | (focus (simp [go_sem, *]; done)) | (focus (simp [go_sem, *]; omega)) | omega | exact XR.alloc _
    case rest =>
    obtain ⟨g8, rfl, ⟨hg8, hg78⟩, XR, a0, a1, b0, b1, af0, af1, bf0, bf1⟩ := hcut
    have w1g : w1.heap.size ≤ wc.heap.size := XR.size
    have XRh := Lib.hid XR
    have Q0 := Lib.hid q0
    have Q1 := Lib.hid q1
    have BL0 := Lib.hid (bxLo_zero (P := P) (l := l) hz_)
    clear q0 q1 hz0 hc0 n0 n1 z1 z2 hz_
    go_wp2_with fail
    go_loopw [9] (fun i wr => ∃ t : Nat, t ≤ l.length ∧ i = .int .i64 t ∧ Ext w1 wr ∧ wr.cell? ⟨g7, 0, none⟩ = some (.int .i64 (bxLo P l 0 t)) ∧ wr.cell? ⟨g7, 1, none⟩ = some (.int .i64 (bxLo P l 1 t)) ∧ wr.cell? ⟨g8, 0, none⟩ = some (.int .i64 (bxHi P l 0 t)) ∧ wr.cell? ⟨g8, 1, none⟩ = some (.int .i64 (bxHi P l 1 t)) ∧ wr.frozen? ⟨g7, 0, none⟩ = false ∧ wr.frozen? ⟨g7, 1, none⟩ = false ∧ wr.frozen? ⟨g8, 0, none⟩ = false ∧ wr.frozen? ⟨g8, 1, none⟩ = false) (fun i _ => l.length - (intOf i).toNat)
    case atStart => exact ⟨0, Nat.zero_le _, rfl, XR, by rw [(BL0.out 0).1]; exact a0, by rw [(BL0.out 1).1]; exact a1, by rw [(BL0.out 0).2]; exact b0, by rw [(BL0.out 1).2]; exact b1, af0, af1, bf0, bf1⟩
    case round =>
      clear a0 a1 b0 b1 af0 af1 bf0 bf1 XR XRh w1g
      obtain ⟨t, ht, rfl, X, a0, a1, b0, b1, af0, af1, bf0, bf1⟩ := hrel
      have q0 := X.cell Q0.out
      have q1 := X.cell Q1.out
      by_cases hlt : t < l.length
      · skip
        obtain ⟨hcG, _, _, _⟩ := HM.out.at_ hlt
        rw [nums_ix] at hcG
        replace hcG := X.cell hcG
        have hzt := HPL.out t hlt
        obtain ⟨_, _, hA2, hb2, n0, n1⟩ := HRR.out.at2 hzt
        cases hA2
        replace n0 := X.cell (X1.cell n0)
        replace n1 := X.cell (X1.cell n1)
        have L0 : Hid (bxLo P l 0 (t + 1) = if bxLo P l 0 t < P (l.getD t 0) 0 then bxLo P l 0 t else P (l.getD t 0) 0) := Lib.hid rfl
        have L1 : Hid (bxLo P l 1 (t + 1) = if bxLo P l 1 t < P (l.getD t 0) 1 then bxLo P l 1 t else P (l.getD t 0) 1) := Lib.hid rfl
        have M0 : Hid (bxHi P l 0 (t + 1) = if P (l.getD t 0) 0 < bxHi P l 0 t then bxHi P l 0 t else P (l.getD t 0) 0) := Lib.hid rfl
        have M1 : Hid (bxHi P l 1 (t + 1) = if P (l.getD t 0) 1 < bxHi P l 1 t then bxHi P l 1 t else P (l.getD t 0) 1) := Lib.hid rfl
        generalize hz2 : l.getD t 0 = z2 at *
        have hz2' := Lib.hid hz2
        clear hz2
        generalize P z2 0 = x at *
        generalize P z2 1 = y at *
        have z4 : (0 : Int) ≤ (z2 : Int) := by omega
        have z5 : (z2 : Int) < (n : Int) := by omega
        have z6 : (0 : Int) ≤ (t : Int) := by omega
        have z7 : (t : Int) < (l.length : Int) := by omega
        have gl7 := World.block_lt_of_cell? _ _ a0
        have gl8 := World.block_lt_of_cell? _ _ b0
        have XZ := X.size
        generalize bxLo P l 0 t = u0 at *
        generalize bxLo P l 1 t = u1 at *
        generalize bxHi P l 0 t = v0 at *
        generalize bxHi P l 1 t = v1 at *
        go_upto_region 9 with fail
        go_cut [10] from 33 to 40 (fun s10 wx => ∃ g10 : Nat, s10 = .pointer (some ⟨g10, 0, none⟩) ∧ (g10 ≠ g7 ∧ g10 ≠ g8) ∧ Ext wr wx ∧ wx.cell? ⟨g10, 0, none⟩ = some (.int .i64 x) ∧ wx.cell? ⟨g10, 1, none⟩ = some (.int .i64 y))
        case first =>
          go_region_held3 (fun w' => w'.cell? ⟨w.heap.size, 0, none⟩ = some (.slice (some ⟨b, o, none⟩) n c) ∧ w'.cell? ⟨w.heap.size, 1, none⟩ = some (.slice B m d) ∧ w'.cell? ⟨G, t, none⟩ = some (.int .i64 (z2 : Int)) ∧ w'.cell? ⟨b, o + z2 * 2, none⟩ = some (.int .i64 x) ∧ w'.cell? ⟨b, o + z2 * 2 + 1, none⟩ = some (.int .i64 y)) (exact (fun (Z : Ext wr _) => ⟨Z.cell q0, Z.cell q1, Z.cell hcG, Z.cell n0, Z.cell n1⟩) (by repeat (first | with_reducible exact Ext.refl _ | with_reducible apply Ext.drew | with_reducible apply Ext.alloc | with_reducible (refine Ext.setCell ?_ (by first | (simp; done) | (simp; omega)) _)))) (fail)
          all_goals
            go_wp2_with fail
            go_meet
            refine ⟨_, rfl, ⟨?_, ?_⟩, ?_, ?_, ?_⟩
            all_goals first | (focus ((repeat (first | with_reducible exact Ext.refl _ | with_reducible apply Ext.drew | with_reducible apply Ext.alloc | with_reducible (refine Ext.setCell ?_ (by first | (simp; done) | (simp; omega)) _))); done)) | (focus (simp [go_sem]; done)) | (focus (simp [go_sem, *]; done)) | (focus (simp [go_sem, *]; omega)) | omega
        case rest =>
        obtain ⟨g10, rfl, ⟨hg107, hg108⟩, XQ, e0, e1⟩ := hcut
        have XX := X.trans XQ
        replace af0 := XQ.frozen a0 af0
        replace af1 := XQ.frozen a1 af1
        replace bf0 := XQ.frozen b0 bf0
        replace bf1 := XQ.frozen b1 bf1
        replace a0 := XQ.cell a0
        replace a1 := XQ.cell a1
        replace b0 := XQ.cell b0
        replace b1 := XQ.cell b1
        by_cases c0 : u0 < x <;> by_cases c1 : u1 < y <;> by_cases c2 : x < v0 <;> by_cases c3 : y < v1
        all_goals
          go_wp2_with fail
          go_roundw
          case rel =>
            refine ⟨t + 1, by omega, by go_num, ?_, ?_, ?_, ?_, ?_, ?_, ?_, ?_, ?_⟩
            · repeat (first | with_reducible exact X | with_reducible exact XX | with_reducible apply Ext.alloc | with_reducible (refine Ext.setCell ?_ (by first | assumption | omega) _))
            · rw [L0.out]; first | (simp [go_sem, *]; done) | (simp [go_sem, *]; omega)
            · rw [L1.out]; first | (simp [go_sem, *]; done) | (simp [go_sem, *]; omega)
            · rw [M0.out]; first | (simp [go_sem, *]; done) | (simp [go_sem, *]; omega)
            · rw [M1.out]; first | (simp [go_sem, *]; done) | (simp [go_sem, *]; omega)
            all_goals first | (simp [go_sem]; done) | (simp [go_sem, *]; done) | (simp [go_sem, *]; omega)
          case measure => simp [intOf]; omega
      · obtain rfl : t = l.length := by omega
        have gl7 := World.block_lt_of_cell? _ _ a0
        have gl8 := World.block_lt_of_cell? _ _ b0
        clear hlt
        replace rf0 := X.frozen r0 rf0
        replace rf1 := X.frozen r1 rf1
        replace sf0 := X.frozen s0 sf0
        replace sf1 := X.frozen s1 sf1
        skip
        skip
        replace r0 := X.cell r0
        replace r1 := X.cell r1
        replace s0 := X.cell s0
        replace s1 := X.cell s1
        have XZ := X.size
        generalize bxLo P l 0 l.length = u0 at *
        generalize bxLo P l 1 l.length = u1 at *
        generalize bxHi P l 0 l.length = v0 at *
        generalize bxHi P l 1 l.length = v1 at *
        have hr1 : w.heap.size + 1 ≠ g7 ∧ w.heap.size + 1 ≠ g8 ∧ w.heap.size + 1 + 1 ≠ g7 ∧ w.heap.size + 1 + 1 ≠ g8 := by omega
        obtain ⟨d1, d2, d3, d4⟩ := hr1
        have XW := X1.trans X
        go_wp2_with fail
        go_region
        all_goals
          go_wp2_with fail
          have X9 : Ext w (((((wr.setCell ⟨w.heap.size + 1, 0, none⟩ (.int .i64 u0)).setCell ⟨w.heap.size + 1, 1, none⟩ (.int .i64 u1)).setCell ⟨w.heap.size + 1 + 1, 0, none⟩ (.int .i64 v0)).setCell ⟨w.heap.size + 1 + 1, 1, none⟩ (.int .i64 v1)).drew) := ((((XW.setCell (by simp) _).setCell (by simp) _).setCell (by simp; omega) _).setCell (by simp; omega) _).drew
          refine bodyPost_ret (v := .tuple #[.agg #[.int .i64 u0, .int .i64 u1], .agg #[.int .i64 v0, .int .i64 v1]]) ?_ rfl ⟨?_, ?_⟩
          · rw [res_cells rfl]
            simp [go_sem, *]
          · exact ret_v HV.out.symm
          · exact X9

end Go.Proofs.YtgmhmlhdiklaaaaGreatDoor
