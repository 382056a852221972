/-
  slices.Delete of one deposit out of a row of the call's own. No conditions.
-/
import Derived.Test.YthnngekibkcgdaaDepC
import Derived.Deep.RegionLaw
import Derived.Lib.SliceRun
import Derived.Lib.Hide
namespace Go.Proofs.Ythnngekibkcgdaa
open Go.RowKit
set_option linter.unusedVariables false

def putAt : List Int → Nat → List Int → List Int
  | zs, _, [] => zs
  | zs, o, v :: r => putAt (zs.set o v) (o + 1) r
theorem putAt_len : ∀ (vs zs : List Int) (o : Nat), (putAt zs o vs).length = zs.length
  | [], _, _ => rfl
  | v :: r, zs, o => by simp [putAt, putAt_len r]
theorem putAt_get : ∀ (vs zs : List Int) (o i : Nat), o + vs.length ≤ zs.length → (putAt zs o vs)[i]? = if o ≤ i ∧ i < o + vs.length then vs[i - o]? else zs[i]?
  | [], zs, o, i, h => by
    rw [if_neg (by simp)]
    rfl
  | v :: r, zs, o, i, h => by
    simp only [List.length_cons] at h
    simp only [putAt, List.length_cons]
    rw [putAt_get r _ (o + 1) i (by simp; omega), List.getElem?_set]
    by_cases e : i = o
    · subst e
      rw [if_neg (by omega), if_pos rfl, if_pos (by omega), if_pos (by omega)]
      simp
    · by_cases q : o + 1 ≤ i ∧ i < o + 1 + r.length
      · rw [if_pos q, if_pos (by omega), show i - o = (i - (o + 1)) + 1 by omega]
        rfl
      · rw [if_neg q, if_neg (fun h => e h.symm), if_neg (by omega)]
theorem MineS.cellsSet {base n s g c : Nat} {E : TypeId} : ∀ (vs : List Int) (o : Nat) (w : World) (zs : List Int), MineS base w E s (.slice (some ⟨g, 0, none⟩) n c) n zs → (∀ z ∈ vs, I64 z) → MineS base (w.setCells g o (vs.map (Value.int .i64))) E s (.slice (some ⟨g, 0, none⟩) n c) n (putAt zs o vs)
  | [], _, _, _, h, _ => h
  | v :: r, o, w, zs, h, hb => by
    simp only [List.map_cons, World.setCells, putAt]
    exact MineS.cellsSet r (o + 1) _ _ (h.stored (hb v (by simp))) fun z hz => hb z (by simp [hz])
theorem grown_cellsSet {g : Nat} : ∀ (vs : List Value) (o : Nat) (w w0 : World), w0.grownBy w (some g) → w0.grownBy (w.setCells g o vs) (some g)
  | [], _, _, _, h => h
  | v :: r, o, w, w0, h => by
    simp only [World.setCells]
    exact grown_cellsSet r (o + 1) _ _ (grownBy_setCell h o v)
theorem MineS.front {base n s c m : Nat} {w : World} {E : TypeId} {A : Option Addr} {zs : List Int} (h : MineS base w E s (.slice A n c) n zs) (hm : m ≤ n) (hA : 0 < n) : MineS base w E s (.slice A m c) m (zs.take (m * s)) := by
  have hms : m * s ≤ n * s := Nat.mul_le_mul_right s hm
  refine ⟨by rw [List.length_take, h.1]; omega, ⟨by rw [List.length_map, List.length_take, h.1]; omega, ?_⟩, fun z hz => h.2.2 z (List.mem_of_mem_take hz)⟩
  rcases h.2.1.2 with ⟨_, h0⟩ | ⟨g, cap, cur, hv, hb, hh, h1, h2, h3, h4⟩
  · omega
  · injection hv with e1 e2 e3
    subst e1 e3
    refine .inr ⟨g, c, cur, rfl, hb, hh, by omega, h2, h3, ?_⟩
    have := congrArg (List.take (m * s)) h4
    rw [List.take_take, Nat.min_eq_left hms] at this
    rw [this, List.map_take]
/-- what is left where element k goes. -/
def cutD (k : Nat) (zs : List Int) : List Int := zs.take (k * 3) ++ zs.drop (k * 3 + 3)
theorem cutD_eq {n k : Nat} {zs : List Int} (hz : zs.length = n * 3) (hk : k < n) (cl : List Int) (hc : cl.length = 3) : (putAt (putAt zs (k * 3) (zs.drop (k * 3 + 3))) ((n - 1) * 3) cl).take ((n - 1) * 3) = cutD k zs := by
  apply List.ext_getElem?
  intro i
  rw [List.getElem?_take]
  by_cases hi : i < (n - 1) * 3
  · rw [if_pos hi, putAt_get _ _ _ _ (by rw [putAt_len, hz, hc]; omega), if_neg (by omega), putAt_get _ _ _ _ (by rw [hz, List.length_drop, hz]; omega), List.length_drop, hz]
    unfold cutD
    by_cases q : i < k * 3
    · rw [if_neg (by omega), List.getElem?_append_left (by rw [List.length_take, hz]; omega), List.getElem?_take, if_pos q]
    · rw [if_pos (by omega), List.getElem?_append_right (by rw [List.length_take, hz]; omega), List.length_take, hz, Nat.min_eq_left (by omega)]
  · rw [if_neg hi, List.getElem?_eq_none]
    unfold cutD
    rw [List.length_append, List.length_take, List.length_drop, hz]
    omega
theorem clear_one (w : World) (ty : TypeId) (g o c : Nat) (hc : ∀ j, j < 3 → (w.cell? ⟨g, o + j, none⟩).isSome = true) (hf : ∀ j, j < 3 → w.frozen? ⟨g, o + j, none⟩ = false) :
    (Builtin.clear_ #[24] ty #[.slice (some ⟨g, o, none⟩) 1 c]).run Try.prog w = .ok (.tuple #[]) (w.setCells g o (([0, 0, 0] : List Int).map (Value.int .i64))) := by
  obtain ⟨i0, hi, hz0, hz1, hz2⟩ := info_parts infoDeposit
  have hzc : (Builtin.zeroCells (Value.agg #[.int .i64 0, .int .i64 0, .int .i64 0]).cells 1).toList = ([0, 0, 0] : List Int).map (Value.int .i64) := by simp [Builtin.zeroCells, Value.cells, Array.range]; try decide
  have hst := run_storeCells_cells (P := Try.prog) g o (([0, 0, 0] : List Int).map (Value.int .i64)) 0 w (by simpa using hc) (by simpa using hf) (by intro v hv; simp at hv; subst hv; rfl)
  simp only [Nat.add_zero] at hst
  have hv : (zeroValue 31).run Try.prog w = .ok (Value.agg #[.int .i64 0, .int .i64 0, .int .i64 0]) w := by simp [zeroValue, typeInfo, hi, hz0]
  simp only [Builtin.clear_]
  simp only [List.map_cons, List.map_nil] at hzc hst
  simp [run_underlying Try.underlying24, hv, hzc, hst]

set_option maxHeartbeats 4000000 in
set_option maxRecDepth 1000000 in
theorem slices_Delete (base g n c k : Nat) (zs : List Int) (hk : k < n) (hnc : n ≤ c) (hcm : c ≤ 9223372036854775807) (w : World) (hm : MineS base w 31 3 (.slice (some ⟨g, 0, none⟩) n c) n zs) :
    Calls Try.prog 25 #[.slice (some ⟨g, 0, none⟩) n c, .int .i64 k, .int .i64 ((k : Int) + 1)] w fun e w' => e = .returned (.slice (some ⟨g, 0, none⟩) (n - 1) c) ∧ MineS base w' 31 3 (.slice (some ⟨g, 0, none⟩) (n - 1) c) (n - 1) (cutD k zs) ∧ w.grownBy w' (some g) := by
  obtain ⟨i0, hi0, hz0, hz1, hz2⟩ := info_parts infoDeposit
  have hzl := hm.1
  have cl3 : ∀ (z : List Int) (W : World) (i : Nat), MineS base W 31 3 (.slice (some ⟨g, 0, none⟩) n c) n z → i < n * 3 → W.cell? ⟨g, i, none⟩ = some (.int .i64 (ix z i)) ∧ W.frozen? ⟨g, i, none⟩ = false := by
    intro z W i hW hi
    have := hW.at_ (k := i / 3) (j := i % 3) (by omega) (by omega)
    rw [show i / 3 * 3 + i % 3 = i by omega] at this
    exact ⟨this.1, this.2.1⟩
  obtain ⟨news, hnews⟩ : ∃ news, news = (zs.drop (k * 3 + 3)).map (Value.int .i64) := ⟨_, rfl⟩
  have hlen : news.length = (n - (k + 1)) * 3 := by rw [hnews]; simp [hzl]; omega
  obtain ⟨A, hA, hsrc⟩ : ∃ A : Addr, (if c = k + 1 then some (⟨g, 0, none⟩ : Addr) else some ⟨g, k * 3 + 3, none⟩) = some A ∧ Hid (∀ t u, news[t]? = some u → w.drew.cell? (A.add t) = some u) := by
    by_cases h : c = k + 1
    · refine ⟨⟨g, 0, none⟩, by simp [h], fun t u hu => ?_⟩
      have h0 : news.length = 0 := by rw [hlen]; omega
      rw [List.length_eq_zero_iff.1 h0] at hu
      simp at hu
    · refine ⟨⟨g, k * 3 + 3, none⟩, by simp [h], fun t u hu => ?_⟩
      have ht : t < news.length := (List.getElem?_eq_some_iff.1 hu).1
      rw [hlen] at ht
      rw [hnews, List.getElem?_map, List.getElem?_drop, List.getElem?_eq_getElem (by omega)] at hu
      simp at hu
      rw [Addr.add_lit]
      refine (cl3 zs w _ hm (by omega)).1.trans ?_
      rw [ix_get (by omega), ← hu]
  have s1 : Hid (news.length = (n - (k + 1)) * 3) := hlen
  have s2 : Hid (∀ u ∈ news, u.oneCell' = true) := by
    intro u hu
    rw [hnews] at hu
    obtain ⟨x, _, rfl⟩ := List.mem_map.1 hu
    rfl
  have s3 : Hid (∀ t, t < news.length → (w.drew.cell? ⟨g, 0 + k * 3 + t, none⟩).isSome = true ∧ w.drew.frozen? ⟨g, 0 + k * 3 + t, none⟩ = false) := by
    intro t ht
    rw [hlen] at ht
    rw [Nat.zero_add]
    have := cl3 zs w (k * 3 + t) hm (by omega)
    exact ⟨by show (w.cell? _).isSome = true; rw [this.1]; rfl, this.2⟩
  obtain ⟨W1, hW1⟩ : ∃ W1, W1 = w.drew.setCells g (0 + k * 3) news := ⟨_, rfl⟩
  have hm1 : MineS base W1 31 3 (.slice (some ⟨g, 0, none⟩) n c) n (putAt zs (k * 3) (zs.drop (k * 3 + 3))) := by
    rw [hW1, hnews, Nat.zero_add]
    exact MineS.cellsSet _ _ _ _ (hm.ext (Ext.refl w).drew) fun z hz => hm.2.2 z (List.mem_of_mem_drop hz)
  have hg1 : w.grownBy W1 (some g) := by
    rw [hW1]
    exact grown_cellsSet _ _ _ _ ((Ext.refl w).drew.grownBy _)
  have e1 : k + (n - (k + 1)) = n - 1 := by omega
  have hcl : ∀ ty, (Builtin.clear_ #[24] ty #[.slice (some ⟨g, (k + (n - (k + 1))) * 3, none⟩) (n - (k + (n - (k + 1)))) (c - (k + (n - (k + 1))))]).run Try.prog W1 = .ok (.tuple #[]) (W1.setCells g ((k + (n - (k + 1))) * 3) (([0, 0, 0] : List Int).map (Value.int .i64))) := by
    rw [e1, show n - (n - 1) = 1 by omega]
    exact fun ty => clear_one W1 ty g ((n - 1) * 3) _ (fun j hj => by rw [(cl3 _ W1 _ hm1 (by omega)).1]; rfl) (fun j hj => (cl3 _ W1 _ hm1 (by omega)).2)
  have HE1 := Lib.hid e1
  have HM1 := Lib.hid hm1
  have HG1 := Lib.hid hg1
  have hW : Hid (W1 = w.drew.setCells g (0 + k * 3) news) := hW1
  have hkc : k ≤ c := by omega
  have hkc1 : k + 1 ≤ c := by omega
  have hp0 : (0 : Int) ≤ (k : Int) + 1 := by omega
  have hp1 : (k : Int) + 1 ≤ (n : Int) := by omega
  have hp2 : ((k : Int) + 1).toNat = k + 1 := by omega
  have hp3 : (k + 1) * 3 = k * 3 + 3 := by omega
  have hwz : Hid (zs.length = n * 3) := hzl
  clear e1 hW1 hm1 hg1 hnews hlen hzl cl3 hm
  go_enter Try.func25, Try.ntmps25
  go_wp2_with fail
  go_region_law (refine step_append_room rfl (.tmp 22) (.tmp 25) 24 rfl 31 i0 3 Try.underlying24 hi0 hz1 g 0 k c (by simp [Act.eval, Act.put]) A (n - (k + 1)) (c - (k + 1)) news (by simp [Act.eval, Act.put]) s1.out hsrc.out s2.out (by omega) s3.out ?_; rw [← hW.out])
  go_wp2
  go_ret
  rw [HE1.out]
  refine ⟨rfl, ?_, grown_cellsSet _ _ _ _ HG1.out⟩
  rw [← cutD_eq hwz.out hk [0, 0, 0] rfl]
  exact (MineS.cellsSet [0, 0, 0] _ _ _ HM1.out (by simp [I64.zero])).front (by omega) (by omega)

end Go.Proofs.Ythnngekibkcgdaa
