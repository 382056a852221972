/-
  A number put into an ascending row of ints; append of a row of ints as a step of a region that draws its order. No conditions.
-/
import Derived.Maps.AppendAt
import Derived.Laws.AppendOwnNone
import Derived.Deep.DeepCutAuto
import Derived.Deep.CutRange
import Derived.Deep.DrawnRows
import Derived.RowKit3
import Derived.Deep.RegionLaw
import Derived.Deep.RegionHeld3
import Derived.Laws.OwnMore
import Derived.Test.YtgfnkmalecfhbaaInP
import Derived.Test.YtgfnkmalecfhbaaInts
namespace Go.Proofs.Ytgfnkmalecfhbaa
open Go.RowKit
set_option linter.unusedVariables false

theorem rcells1 {w : World} {A : Option Addr} {n : Nat} {f : Nat → Nat → Int} (h : Recs w 1 A n f) {ad : Addr} (hA : A = some ad) : ∀ j u, ((tab n fun k => f k 0).map (Value.int .i64))[j]? = some u → w.cell? (ad.add j) = some u := by
  intro j u hj
  have hlt : j < n := by
    have := (List.getElem?_eq_some_iff.1 hj).1
    simpa [tab] using this
  obtain ⟨b, o, hA2, hb, hc⟩ := h.1 (by omega)
  rw [hA] at hA2
  injection hA2 with e
  subst e
  have hcell := hc j hlt 0 (by omega)
  rw [List.getElem?_map, List.getElem?_eq_getElem (by simpa [tab] using hlt)] at hj
  simp [tab] at hj
  subst hj
  rw [show o + j * 1 + 0 = o + j by omega] at hcell
  by_cases h0 : j = 0
  · subst h0; simpa [Addr.add] using hcell
  · simpa [Addr.add, h0] using hcell
theorem tab_bd {w : World} {A : Option Addr} {n : Nat} {f : Nat → Nat → Int} (h : Recs w 1 A n f) : ∀ z ∈ (tab n fun k => f k 0), I64 z := by
  intro z hz
  simp [tab] at hz
  obtain ⟨k, _, rfl⟩ := hz
  exact h.2 _ _
theorem recs_one {w : World} {b : Nat} {x : Int} (h : w.cell? ⟨b, 0, none⟩ = some (.int .i64 x)) (hx : I64 x) : Recs w 1 (some ⟨b, 0, none⟩) 1 (fun _ _ => x) :=
  ⟨fun _ => ⟨b, 0, rfl, World.block_lt_of_cell? _ _ h, fun k hk j hj => by rw [show 0 + k * 1 + j = 0 by omega]; exact h⟩, fun _ _ => hx⟩
/-- append of a row of ints to a row of the call's own, as a step of a region that draws its order. -/
theorem step_append_ints {ops : Array Oper} {o : Oper} {a : Act} {w : World} {K : Act → World → Prop} {Q : Exit → Act → World → Prop} {E : Prop}
    (hgd : o.guard = none) (s x : Operand) (ho : o.op = .call { callee := .builtin .append, args := #[s, x], argTypes := #[37, 37] })
    (base : Nat) (v : Value) (n : Nat) (zs : List Int) (hs : a.eval s = v) (hm : Mine base w 3 v n zs) (A : Option Addr) (m c : Nat) (f : Nat → Nat → Int) (hx : a.eval x = .slice A m c) (hr : Recs w 1 A m f) (hA : A = none → m = 0 ∧ c = 0)
    (hn : n + m ≤ 100000000000) (hbase : base ≤ w.heap.size)
    (hK : ∀ v' w', Mine base w' 3 v' (n + m) (zs ++ tab m fun k => f k 0) → (∀ b, Ext b w → b.heap.size ≤ base → Ext b w') → (∀ k j u, v.ownBlock ≠ some k → w.cell? ⟨k, j, none⟩ = some u → w'.cell? ⟨k, j, none⟩ = some u) → K (a.put o.dst v') w') :
    if Region.wanted o (yielded ops a.tmps) = true then Oper.wp Try.prog o a w K Q else E := by
  have hw : Region.wanted o (yielded ops a.tmps) = true := by simp [Region.wanted, hgd]
  rw [if_pos hw]
  obtain ⟨i0, hi, hz0, hz1, hz2⟩ := info_parts int_info
  have key : ∃ v' w', (Builtin.append_ #[37, 37] o.type #[v, .slice A m c]).run Try.prog w = .ok v' w' ∧ Mine base w' 3 v' (n + m) (zs ++ tab m fun k => f k 0) ∧ w.grownBy w' v.ownBlock := by
    cases A with
    | none =>
      obtain ⟨rfl, rfl⟩ := hA rfl
      exact ⟨v, w, run_append_owned_none (P := Try.prog) (w := w) base 37 o.type 3 i0 1 Try.underlying37 hi v n _ hm.2.1, by simpa [tab] using hm, (Ext.refl w).grownBy _⟩
    | some ad =>
      obtain ⟨v', w', hrun, hown, hg, _, _⟩ := run_append_own_at (P := Try.prog) w base 37 o.type 3 i0 (.int .i64 0) 1 8 Try.underlying37 hi hz0 hz1 hz2 rfl (by decide) v n _ hm.2.1 ad m c ((tab m fun k => f k 0).map (Value.int .i64)) (by simp [tab]) (rcells1 hr rfl) (by
        intro u hu
        obtain ⟨z, _, rfl⟩ := List.mem_map.1 hu
        rfl) (by simp only [maxLen]; omega) (by omega) hbase
      refine ⟨v', w', hrun, ⟨by simp [hm.1, tab], by simpa using hown, ?_⟩, hg⟩
      intro y hy
      rcases List.mem_append.1 hy with e | e
      · exact hm.2.2 y e
      · exact tab_bd hr y e
  obtain ⟨v', w', hrun, h1, hg⟩ := key
  unfold Oper.wp
  simp [execOp, ho, resolve, invoke, builtin, hs, hx, hrun, Result.andThen]
  refine hK v' w' h1 (fun b X hb => hm.fresh X hb hg rfl) (fun k j u hk hc => ?_)
  have hlt := World.block_lt_of_cell? _ _ hc
  have e := hg.block k hlt (fun q => hk q.symm)
  unfold World.cell? at hc ⊢
  rw [e]
  exact hc
theorem litI (W : World) (g base : Nat) (hg : g = W.heap.size) (hb : base ≤ W.heap.size) : Mine base (W.alloc (.cells #[] 3)) 3 (.slice (some ⟨g, 0, none⟩) 0 0) 0 [] := by
  subst hg
  exact (Mine.lit0 W 3).more hb
theorem tab_take {zs : List Int} {k : Nat} (h : k ≤ zs.length) : (tab k fun i => ix zs i) = zs.take k := by
  apply ext_ix (by simp [tab]; omega)
  intro i hi
  rw [tab_len] at hi
  rw [tab_ix hi, ix_get (by omega), ix_get (by simp; omega)]
  simp
theorem tab_drop {zs : List Int} {k : Nat} (h : k ≤ zs.length) : (tab (zs.length - k) fun i => ix zs (k + i)) = zs.drop k := by
  apply ext_ix (by simp [tab])
  intro i hi
  rw [tab_len] at hi
  rw [tab_ix hi, ix_get (by omega), ix_get (by simp; omega)]
  simp
theorem suf_recs {w : World} {g n c k : Nat} {zs : List Int} (h : Recs w 1 (some ⟨g, 0, none⟩) n (fun k _ => ix zs k)) {A : Addr} (hA : (if c = k then some (⟨g, 0, none⟩ : Addr) else some ⟨g, k, none⟩) = some A) (hc : n ≤ c ∧ k ≤ n) : Recs w 1 (some A) (n - k) (fun j _ => ix zs (k + j)) := by
  refine ⟨fun hn => ?_, fun j _ => h.2 _ 0⟩
  rw [if_neg (by omega)] at hA
  injection hA with e
  subst e
  obtain ⟨b, o, e1, hb, _⟩ := h.at1 (k := 0) (by omega)
  injection e1 with e1
  injection e1 with e1 e2
  subst e1 e2
  refine ⟨_, k, rfl, hb, fun j hj i hi => ?_⟩
  have := h.cell1 (k := k + j) (by omega)
  rw [Nat.zero_add] at this
  rw [show k + j * 1 + i = k + j by omega]
  exact this
theorem suf0 {w : World} {A0 : Option Addr} {n c k g : Nat} {zs : List Int} (h : Recs w 1 A0 n (fun k _ => ix zs k)) {A : Addr} (hA : (if c = k then some (⟨g, 0, none⟩ : Addr) else some ⟨g, k, none⟩) = some A) : Recs w 1 (some A) 0 (fun j _ => ix zs (k + j)) :=
  ⟨fun hn => absurd hn (by omega), fun j _ => h.2 _ 0⟩
/-- A call hands back a row of ints that lies in a block. -/
def PostG (base : Nat) (w : World) (zs : List Int) (e : Ending) (w' : World) : Prop :=
  ∃ g c, e = .returned (.slice (some ⟨g, 0, none⟩) zs.length c) ∧ zs.length ≤ c ∧ c ≤ 9223372036854775807 ∧ Mine base w' 3 (.slice (some ⟨g, 0, none⟩) zs.length c) zs.length zs ∧ Ext w w'

attribute [local go_sem ↓] Go.wp_at_zero Go.wp_at_succ
attribute [local go_sem, local simp] Go.World.cell?_alloc_some Go.World.frozen?_alloc_past
set_option maxRecDepth 100000 in
set_option maxHeartbeats 4000000 in
theorem spec_l32Sorted (base g n c : Nat) (zs : List Int) (x : Int) (hx : I64 x) (hn : n ≤ 1000000) (w : World) (hb : base ≤ w.heap.size) (hm : Mine base w 3 (.slice (some ⟨g, 0, none⟩) n c) n zs) :
    Calls Try.prog 50 #[.slice (some ⟨g, 0, none⟩) n c, .int .i64 x] w (PostG base w (insU zs x)) := by
  have hzl := hm.1
  obtain ⟨A0, c0, hv0, hnc, hcm⟩ := hm.form
  injection hv0 with q1 q2 q3
  subst q1 q3
  have hr := hm.recs
  have hib := hm.ix_bd
  have HM := Lib.hid hm
  clear hm
  go_enter Try.func50, Try.ntmps50
  go_wp2
  go_loop [5] (fun i => ∃ j : Nat, j ≤ n ∧ i = .int .i64 j ∧ ∀ q, q < j → ix zs q < x) (fun i => n - (intOf i).toNat)
  case atStart => exact ⟨0, Nat.zero_le _, rfl, fun q hq => absurd hq (by omega)⟩
  case round =>
    obtain ⟨j, hj, rfl, hall⟩ := hrel
    have HALL := Lib.hid hall
    clear hall
    by_cases hlt : j < n
    · have hc0 := hr.cell1 hlt
      rw [Nat.zero_add] at hc0
      by_cases hlx : ix zs j < x
      · go_wp2
        go_round
        case rel =>
          refine ⟨j + 1, by omega, by go_num, fun q hq => ?_⟩
          by_cases e : q = j
          · subst e; exact hlx
          · exact HALL.out q (by omega)
        case measure => simp [intOf]; omega
      · by_cases hex : ix zs j = x
        · have hxe : (ix zs j == x) = true := by simpa using hex
          have HE := Lib.hid (insU_found (l := zs) (x := x) (k := j) (by omega) HALL.out hex)
          clear hex
          go_wp2
          go_ret
          unfold PostG
          rw [HE.out, hzl]
          exact ⟨g, c, rfl, hnc, hcm, HM.out, Ext.refl w⟩
        · have hxe : (ix zs j == x) = false := by simpa using hex
          have HE := Lib.hid (insU_put (l := zs) (x := x) (k := j) (by omega) HALL.out (fun _ => by omega))
          clear hex
          obtain ⟨A2, hA2⟩ : ∃ A2 : Addr, (if c = j then some (⟨g, 0, none⟩ : Addr) else some ⟨g, j, none⟩) = some A2 := by split <;> exact ⟨_, rfl⟩
          have HS1 := Lib.hid (fun W (Z : Ext w W) => (show Recs W 1 (some ⟨g, 0, none⟩) j (fun k _ => ix zs k) from (hr.take_ (by omega)).ext Z))
          have HS2 := Lib.hid (fun W (Z : Ext w W) => (show Recs W 1 (some A2) (n - j) (fun k _ => ix zs (j + k)) from Recs.ext (suf_recs hr hA2 (by omega)) Z))
          have HF := Lib.hid (show insU zs x = (tab j fun k => ix zs k) ++ (tab 1 fun _ => x) ++ (tab (n - j) fun k => ix zs (j + k)) by rw [HE.out, tab_take (by omega), ← hzl, tab_drop (by omega)]; rfl)
          have HFN := Lib.hid (show (insU zs x).length = j + 1 + (n - j) by rw [HF.out, List.length_append, List.length_append, tab_len, tab_len, tab_len])
          have hjc : j ≤ c := by omega
          have hj0 : ¬ ((n : Int) < (j : Int)) := by omega
          clear hr
          go_wp2_with fail
          go_region_held3 (fun _ => True) (trivial) (first
            | (refine step_append_ints rfl _ _ rfl w.heap.size (.slice (some ⟨_, 0, none⟩) 0 0) 0 [] rfl (by first | exact litI _ _ _ (by first | rfl | (simp; done)) (by first | exact Nat.le_refl _ | (simp; done) | (simp; omega)) | exact (litI _ _ _ (by first | rfl | (simp; done)) (by first | exact Nat.le_refl _ | (simp; done) | (simp; omega))).alloc _) (some ⟨g, 0, none⟩) (j) (c) ((fun k _ => ix zs k)) rfl (HS1.out _ (by repeat (first | with_reducible exact Ext.refl _ | with_reducible exact X7 | with_reducible exact Xb | with_reducible exact Xa | with_reducible apply Ext.drew | with_reducible apply Ext.alloc))) ((fun q => by cases q)) (by omega) (by (try simp only [World.size_alloc, World.size_drew]); first | omega | (have := Xa.size; (try simp only [World.size_alloc] at *); omega) | (have := Xb.size; (try simp only [World.size_alloc] at *); omega)) ?_; intro va wa hma hxa hcc; rw [Nat.zero_add, List.nil_append] at hma; have Xa : Ext w wa := hxa _ (by repeat (first | with_reducible exact Ext.refl _ | with_reducible exact X7 | with_reducible exact Xb | with_reducible exact Xa | with_reducible apply Ext.drew | with_reducible apply Ext.alloc)) (Nat.le_refl _); obtain ⟨Aa, ca, rfl, ia, ja⟩ := hma.form; (try (refine (fun (k0 : wa.cell? ⟨w.heap.size, 0, none⟩ = some (.int .i64 x)) => ?_) ?_; rotate_left; (refine hcc _ _ _ ?_ ?_; (focus (first | (simp [Value.ownBlock]; done) | (intro q; injection (show some _ = some _ from q) with q; omega))); (first | (focus (simp [go_sem]; done)) | (focus (simp [go_sem, *]; done)))))); (try (refine (fun (l0 : wa.cell? ⟨w.heap.size + 1, 0, none⟩ = some (.int .i64 x)) => ?_) ?_; rotate_left; (refine hcc _ _ _ ?_ ?_; (focus (first | (simp [Value.ownBlock]; done) | (intro q; injection (show some _ = some _ from q) with q; omega))); (first | (focus (simp [go_sem]; done)) | (focus (simp [go_sem, *]; done)))))))
            | (refine step_append_ints rfl _ _ rfl w.heap.size _ _ _ rfl (hma) (some ⟨_, 0, none⟩) (1) (1) ((fun _ _ => x)) rfl (recs_one k0 hx) ((fun q => by cases q)) (by omega) (by (try simp only [World.size_alloc]); first | omega | (have := Xa.size; (try simp only [World.size_alloc] at *); omega) | (have := Xb.size; (try simp only [World.size_alloc] at *); omega)) ?_; intro vb wb hmb hxb hcb; have Xb : Ext w wb := hxb _ (by repeat (first | with_reducible exact Ext.refl _ | with_reducible exact X7 | with_reducible exact Xb | with_reducible exact Xa | with_reducible apply Ext.drew | with_reducible apply Ext.alloc)) (Nat.le_refl _); obtain ⟨Ab, cb, rfl, ib, jb⟩ := hmb.form)
            | (refine step_append_ints rfl _ _ rfl w.heap.size _ _ _ rfl (hma) (some ⟨_, 0, none⟩) (1) (1) ((fun _ _ => x)) rfl (recs_one l0 hx) ((fun q => by cases q)) (by omega) (by (try simp only [World.size_alloc]); first | omega | (have := Xa.size; (try simp only [World.size_alloc] at *); omega) | (have := Xb.size; (try simp only [World.size_alloc] at *); omega)) ?_; intro vb wb hmb hxb hcb; have Xb : Ext w wb := hxb _ (by repeat (first | with_reducible exact Ext.refl _ | with_reducible exact X7 | with_reducible exact Xb | with_reducible exact Xa | with_reducible apply Ext.drew | with_reducible apply Ext.alloc)) (Nat.le_refl _); obtain ⟨Ab, cb, rfl, ib, jb⟩ := hmb.form)
            | (refine step_append_ints rfl _ _ rfl w.heap.size _ _ _ rfl (hma.alloc _) (some ⟨_, 0, none⟩) (1) (1) ((fun _ _ => x)) rfl (recs_one (by simp [go_sem]) hx) ((fun q => by cases q)) (by omega) (by (try simp only [World.size_alloc]); first | omega | (have := Xa.size; (try simp only [World.size_alloc] at *); omega) | (have := Xb.size; (try simp only [World.size_alloc] at *); omega)) ?_; intro vb wb hmb hxb hcb; have Xb : Ext w wb := hxb _ (by repeat (first | with_reducible exact Ext.refl _ | with_reducible exact X7 | with_reducible exact Xb | with_reducible exact Xa | with_reducible apply Ext.drew | with_reducible apply Ext.alloc)) (Nat.le_refl _); obtain ⟨Ab, cb, rfl, ib, jb⟩ := hmb.form)
            | (refine step_append_ints rfl _ _ rfl w.heap.size _ _ _ rfl (hmb) (some A2) ((n - j)) ((c - j)) ((fun k _ => ix zs (j + k))) rfl (HS2.out _ (by repeat (first | with_reducible exact Ext.refl _ | with_reducible exact X7 | with_reducible exact Xb | with_reducible exact Xa | with_reducible apply Ext.drew | with_reducible apply Ext.alloc))) ((fun q => by cases q)) (by omega) (by (try simp only [World.size_alloc]); first | omega | (have := Xa.size; (try simp only [World.size_alloc] at *); omega) | (have := Xb.size; (try simp only [World.size_alloc] at *); omega)) ?_; intro vd wd hmd hxd _; have X7 : Ext w wd := hxd _ (by repeat (first | with_reducible exact Ext.refl _ | with_reducible exact X7 | with_reducible exact Xb | with_reducible exact Xa | with_reducible apply Ext.drew | with_reducible apply Ext.alloc)) (Nat.le_refl _)))
          all_goals
            obtain ⟨A7, c7, rfl, i7, j7⟩ := hmd.form
            obtain ⟨g7, rfl⟩ := hmd.some_ (by omega)
            go_wp2
            go_ret
            unfold PostG
            rw [HFN.out, HF.out]
            exact ⟨g7, c7, rfl, i7, j7, hmd.more hb, X7⟩
    · obtain rfl : j = n := by omega
      have HE := Lib.hid (insU_put (l := zs) (x := x) (k := j) (by omega) HALL.out (fun q => by omega))
      obtain ⟨A2, hA2⟩ : ∃ A2 : Addr, (if c = j then some (⟨g, 0, none⟩ : Addr) else some ⟨g, j, none⟩) = some A2 := by split <;> exact ⟨_, rfl⟩
      have HS1 := Lib.hid (fun W (Z : Ext w W) => (show Recs W 1 (some ⟨g, 0, none⟩) j (fun k _ => ix zs k) from (hr.take_ (by omega)).ext Z))
      have HS2 := Lib.hid (fun W (Z : Ext w W) => (show Recs W 1 (some A2) (0) (fun k _ => ix zs (j + k)) from Recs.ext (suf0 hr hA2) Z))
      have HF := Lib.hid (show insU zs x = (tab j fun k => ix zs k) ++ (tab 1 fun _ => x) ++ (tab 0 fun k => ix zs (j + k)) by rw [HE.out, tab_take (by omega), List.drop_eq_nil_of_le (by omega)]; rfl)
      have HFN := Lib.hid (show (insU zs x).length = j + 1 + 0 by rw [HF.out, List.length_append, List.length_append, tab_len, tab_len, tab_len])
      have hjc : j ≤ c := by omega
      have hj0 : ¬ ((j : Int) < (j : Int)) := by omega
      clear hr
      go_wp2_with fail
      go_region_held3 (fun _ => True) (trivial) (first
        | (refine step_append_ints rfl _ _ rfl w.heap.size (.slice (some ⟨_, 0, none⟩) 0 0) 0 [] rfl (by first | exact litI _ _ _ (by first | rfl | (simp; done)) (by first | exact Nat.le_refl _ | (simp; done) | (simp; omega)) | exact (litI _ _ _ (by first | rfl | (simp; done)) (by first | exact Nat.le_refl _ | (simp; done) | (simp; omega))).alloc _) (some ⟨g, 0, none⟩) (j) (c) ((fun k _ => ix zs k)) rfl (HS1.out _ (by repeat (first | with_reducible exact Ext.refl _ | with_reducible exact X7 | with_reducible exact Xb | with_reducible exact Xa | with_reducible apply Ext.drew | with_reducible apply Ext.alloc))) ((fun q => by cases q)) (by omega) (by (try simp only [World.size_alloc, World.size_drew]); first | omega | (have := Xa.size; (try simp only [World.size_alloc] at *); omega) | (have := Xb.size; (try simp only [World.size_alloc] at *); omega)) ?_; intro va wa hma hxa hcc; rw [Nat.zero_add, List.nil_append] at hma; have Xa : Ext w wa := hxa _ (by repeat (first | with_reducible exact Ext.refl _ | with_reducible exact X7 | with_reducible exact Xb | with_reducible exact Xa | with_reducible apply Ext.drew | with_reducible apply Ext.alloc)) (Nat.le_refl _); obtain ⟨Aa, ca, rfl, ia, ja⟩ := hma.form; (try (refine (fun (k0 : wa.cell? ⟨w.heap.size, 0, none⟩ = some (.int .i64 x)) => ?_) ?_; rotate_left; (refine hcc _ _ _ ?_ ?_; (focus (first | (simp [Value.ownBlock]; done) | (intro q; injection (show some _ = some _ from q) with q; omega))); (first | (focus (simp [go_sem]; done)) | (focus (simp [go_sem, *]; done)))))); (try (refine (fun (l0 : wa.cell? ⟨w.heap.size + 1, 0, none⟩ = some (.int .i64 x)) => ?_) ?_; rotate_left; (refine hcc _ _ _ ?_ ?_; (focus (first | (simp [Value.ownBlock]; done) | (intro q; injection (show some _ = some _ from q) with q; omega))); (first | (focus (simp [go_sem]; done)) | (focus (simp [go_sem, *]; done)))))))
        | (refine step_append_ints rfl _ _ rfl w.heap.size _ _ _ rfl (hma) (some ⟨_, 0, none⟩) (1) (1) ((fun _ _ => x)) rfl (recs_one k0 hx) ((fun q => by cases q)) (by omega) (by (try simp only [World.size_alloc]); first | omega | (have := Xa.size; (try simp only [World.size_alloc] at *); omega) | (have := Xb.size; (try simp only [World.size_alloc] at *); omega)) ?_; intro vb wb hmb hxb hcb; have Xb : Ext w wb := hxb _ (by repeat (first | with_reducible exact Ext.refl _ | with_reducible exact X7 | with_reducible exact Xb | with_reducible exact Xa | with_reducible apply Ext.drew | with_reducible apply Ext.alloc)) (Nat.le_refl _); obtain ⟨Ab, cb, rfl, ib, jb⟩ := hmb.form)
        | (refine step_append_ints rfl _ _ rfl w.heap.size _ _ _ rfl (hma) (some ⟨_, 0, none⟩) (1) (1) ((fun _ _ => x)) rfl (recs_one l0 hx) ((fun q => by cases q)) (by omega) (by (try simp only [World.size_alloc]); first | omega | (have := Xa.size; (try simp only [World.size_alloc] at *); omega) | (have := Xb.size; (try simp only [World.size_alloc] at *); omega)) ?_; intro vb wb hmb hxb hcb; have Xb : Ext w wb := hxb _ (by repeat (first | with_reducible exact Ext.refl _ | with_reducible exact X7 | with_reducible exact Xb | with_reducible exact Xa | with_reducible apply Ext.drew | with_reducible apply Ext.alloc)) (Nat.le_refl _); obtain ⟨Ab, cb, rfl, ib, jb⟩ := hmb.form)
        | (refine step_append_ints rfl _ _ rfl w.heap.size _ _ _ rfl (hma.alloc _) (some ⟨_, 0, none⟩) (1) (1) ((fun _ _ => x)) rfl (recs_one (by simp [go_sem]) hx) ((fun q => by cases q)) (by omega) (by (try simp only [World.size_alloc]); first | omega | (have := Xa.size; (try simp only [World.size_alloc] at *); omega) | (have := Xb.size; (try simp only [World.size_alloc] at *); omega)) ?_; intro vb wb hmb hxb hcb; have Xb : Ext w wb := hxb _ (by repeat (first | with_reducible exact Ext.refl _ | with_reducible exact X7 | with_reducible exact Xb | with_reducible exact Xa | with_reducible apply Ext.drew | with_reducible apply Ext.alloc)) (Nat.le_refl _); obtain ⟨Ab, cb, rfl, ib, jb⟩ := hmb.form)
        | (refine step_append_ints rfl _ _ rfl w.heap.size _ _ _ rfl (hmb) (some A2) ((0)) ((c - j)) ((fun k _ => ix zs (j + k))) rfl (HS2.out _ (by repeat (first | with_reducible exact Ext.refl _ | with_reducible exact X7 | with_reducible exact Xb | with_reducible exact Xa | with_reducible apply Ext.drew | with_reducible apply Ext.alloc))) ((fun q => by cases q)) (by omega) (by (try simp only [World.size_alloc]); first | omega | (have := Xa.size; (try simp only [World.size_alloc] at *); omega) | (have := Xb.size; (try simp only [World.size_alloc] at *); omega)) ?_; intro vd wd hmd hxd _; have X7 : Ext w wd := hxd _ (by repeat (first | with_reducible exact Ext.refl _ | with_reducible exact X7 | with_reducible exact Xb | with_reducible exact Xa | with_reducible apply Ext.drew | with_reducible apply Ext.alloc)) (Nat.le_refl _)))
      all_goals
        obtain ⟨A7, c7, rfl, i7, j7⟩ := hmd.form
        obtain ⟨g7, rfl⟩ := hmd.some_ (by omega)
        go_wp2
        go_ret
        unfold PostG
        rw [HFN.out, HF.out]
        exact ⟨g7, c7, rfl, i7, j7, hmd.more hb, X7⟩

end Go.Proofs.Ytgfnkmalecfhbaa
