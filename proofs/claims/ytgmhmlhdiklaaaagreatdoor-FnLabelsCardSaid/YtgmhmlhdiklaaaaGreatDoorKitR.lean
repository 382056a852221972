/-
  A row of rows of numbers that a call has made itself ('MineR'), how it is kept and appended to, how it reads ('Faces'); a row of truth values of its own ('MineB'). Nothing of the program stands here. No conditions.
-/
import Derived.Test.YtgmhmlhdiklaaaaGreatDoorKitC
import Derived.Maps.AppendAt
namespace Go.Proofs.YtgmhmlhdiklaaaaGreatDoor
open Go.RowKit
set_option linter.unusedVariables false

/-- Numbers as integers. -/
def nums (l : List Nat) : List Int := l.map fun d => ((d : Nat) : Int)
theorem nums_len (l : List Nat) : (nums l).length = l.length := by simp [nums]
theorem nums_ix {l : List Nat} {k : Nat} : ix (nums l) k = ((l.getD k 0 : Nat) : Int) := by
  unfold ix nums
  rw [List.getD_eq_getElem?_getD, List.getD_eq_getElem?_getD, List.getElem?_map]
  cases l[k]? <;> rfl
theorem nums_snoc (l : List Nat) (x : Nat) : nums (l ++ [x]) = nums l ++ [((x : Nat) : Int)] := by simp [nums]

/-- A value that reads as a row of numbers. -/
def RowAt (w : World) (v : Value) (l : List Nat) : Prop :=
  ∃ B c, v = .slice B l.length c ∧ l.length ≤ c ∧ c ≤ 9223372036854775807 ∧ Recs w 1 B l.length (fun i _ => ((l.getD i 0 : Nat) : Int))
theorem RowAt.ext {w w' : World} {v : Value} {l : List Nat} (h : RowAt w v l) (X : Ext w w') : RowAt w' v l := by
  obtain ⟨B, c, e, h1, h2, h3⟩ := h
  exact ⟨B, c, e, h1, h2, h3.ext X⟩
/-- The slice at A holds the rows R. -/
def Faces (w : World) (A : Option Addr) (R : List (List Nat)) : Prop :=
  0 < R.length → ∃ b o, A = some ⟨b, o, none⟩ ∧ b < w.heap.size ∧ ∀ k, k < R.length → ∃ v, w.cell? ⟨b, o + k, none⟩ = some v ∧ RowAt w v (R.getD k [])
theorem Faces.ext {w w' : World} {A : Option Addr} {R : List (List Nat)} (h : Faces w A R) (X : Ext w w') : Faces w' A R := fun hn => by
  obtain ⟨b, o, e, hb, hc⟩ := h hn
  refine ⟨b, o, e, Nat.lt_of_lt_of_le hb X.size, fun k hk => ?_⟩
  obtain ⟨v, h1, h2⟩ := hc k hk
  exact ⟨v, X.cell h1, h2.ext X⟩
theorem Faces.at_ {w : World} {A : Option Addr} {R : List (List Nat)} (h : Faces w A R) {k : Nat} (hk : k < R.length) :
    ∃ b o B c, A = some ⟨b, o, none⟩ ∧ b < w.heap.size ∧ w.cell? ⟨b, o + k, none⟩ = some (.slice B (R.getD k []).length c) ∧ (R.getD k []).length ≤ c ∧ c ≤ 9223372036854775807 ∧ Recs w 1 B (R.getD k []).length (fun i _ => (((R.getD k []).getD i 0 : Nat) : Int)) := by
  obtain ⟨b, o, e, hb, hc⟩ := h (by omega)
  obtain ⟨v, h1, B, c, rfl, h2, h3, h4⟩ := hc k hk
  exact ⟨b, o, B, c, e, hb, h1, h2, h3, h4⟩
theorem Faces.at' {w : World} {b o : Nat} {R : List (List Nat)} (h : Faces w (some ⟨b, o, none⟩) R) {k : Nat} (hk : k < R.length) :
    ∃ B c, w.cell? ⟨b, o + k, none⟩ = some (.slice B (R.getD k []).length c) ∧ (R.getD k []).length ≤ c ∧ c ≤ 9223372036854775807 ∧ Recs w 1 B (R.getD k []).length (fun i _ => (((R.getD k []).getD i 0 : Nat) : Int)) := by
  obtain ⟨b', o', B, c, e, hb, h1, h2, h3, h4⟩ := h.at_ hk
  injection e with e; injection e with e1 e2; subst e1 e2
  exact ⟨B, c, h1, h2, h3, h4⟩
/-- A call hands back rows; the world has only grown. -/
def PostF (w : World) (R : List (List Nat)) (e : Ending) (w' : World) : Prop :=
  ∃ A c, e = .returned (.slice A R.length c) ∧ R.length ≤ c ∧ c ≤ 9223372036854775807 ∧ Faces w' A R ∧ Ext w w'

/-- The value v is a row of the call's own that holds the rows R, each of them the call's own too; the block S is none of these. -/
def MineR (base : Nat) (w : World) (E F : TypeId) (S : Nat) (v : Value) (R : List (List Nat)) : Prop :=
  ∃ vs : List Value, w.ownsRow base E 1 v R.length vs ∧ v.ownBlock ≠ some S ∧
    ∀ k, k < R.length → ∃ B c, vs[k]? = some (.slice (some ⟨B, 0, none⟩) (R.getD k []).length c) ∧ Mine base w F (.slice (some ⟨B, 0, none⟩) (R.getD k []).length c) (R.getD k []).length (nums (R.getD k [])) ∧ B ≠ S ∧ v.ownBlock ≠ some B
section
variable {base S : Nat} {w w' : World} {E F : TypeId} {v : Value} {R : List (List Nat)}
theorem MineR.nil_ (base S : Nat) (w : World) (E F : TypeId) : MineR base w E F S (.slice none 0 0) [] :=
  ⟨[], World.ownsRow_nil _ _ _ _, by simp [Value.ownBlock], fun k hk => absurd hk (by simp)⟩
theorem MineR.lit0 {w : World} {E F : TypeId} {S : Nat} (hS : S ≠ w.heap.size) : MineR w.heap.size (w.alloc (.cells #[] E)) E F S (.slice (some ⟨w.heap.size, 0, none⟩) 0 0) [] :=
  ⟨[], by simpa using World.ownsRow_made (base := w.heap.size) (e := E) (size := 1) w #[] 0 (Nat.le_refl _) (by simp [maxLen]) (by simp), by simpa [Value.ownBlock] using fun h => hS h.symm, fun k hk => absurd hk (by simp)⟩
theorem MineR.form (h : MineR base w E F S v R) : ∃ A c, v = .slice A R.length c ∧ R.length ≤ c ∧ c ≤ 9223372036854775807 := by
  obtain ⟨vs, h1, _⟩ := h
  rcases h1.2 with ⟨rfl, hn⟩ | ⟨g, cap, cur, rfl, _, _, h1, h2, _⟩
  · exact ⟨none, 0, by rw [hn], by omega, by omega⟩
  · exact ⟨_, cap, rfl, h1, by simpa [maxLen] using h2⟩
theorem MineR.kept {g : Nat} (h : MineR base w E F S v R) (hg : w.grownBy w' (some S)) : MineR base w' E F S v R := by
  obtain ⟨vs, h1, h2, h3⟩ := h
  refine ⟨vs, h1.kept hg (.inr h2), h2, fun k hk => ?_⟩
  obtain ⟨B, c, k1, k2, k3, k4⟩ := h3 k hk
  exact ⟨B, c, k1, k2.kept hg (.inr (by simpa [Value.ownBlock] using k3)), k3, k4⟩
theorem MineR.ext (h : MineR base w E F S v R) (he : Ext w w') : MineR base w' E F S v R := MineR.kept (g := 0) h (he.grownBy _)
theorem MineR.old (h : MineR base w E F S v R) : Old w.heap.size v := by
  obtain ⟨vs, h1, _⟩ := h
  exact fun k hk => (h1.lt k hk).2
theorem MineR.faces {A : Option Addr} {c : Nat} (h : MineR base w E F S (.slice A R.length c) R) : Faces w A R := by
  intro hn
  obtain ⟨vs, h1, h2, h3⟩ := h
  rcases h1.2 with ⟨_, h0⟩ | ⟨g, cap, cur, hv, hb, hh, _⟩
  · omega
  · injection hv with e1 e2 e3
    subst e1 e3
    have hlt : g < w.heap.size := by
      rcases Nat.lt_or_ge g w.heap.size with q | q
      · exact q
      · rw [Array.getElem?_eq_none q] at hh; cases hh
    refine ⟨g, 0, rfl, hlt, fun k hk => ?_⟩
    obtain ⟨B, cc, k1, k2, _, _⟩ := h3 k hk
    have hc := h1.cellAt k (by omega)
    rw [Nat.zero_add, hc, k1]
    obtain ⟨A2, c2, e2, i2, j2⟩ := k2.form
    injection e2 with _ _ e3
    subst e3
    refine ⟨_, rfl, some ⟨B, 0, none⟩, cc, rfl, i2, j2, ?_⟩
    have := k2.recs
    simpa [nums_ix] using this
/-- append of one row. -/
theorem wpList_append_row {P : Program} (w : World) {ops : Array Oper} {rest : List Oper} {o : Oper} {a : Act} {Q : Exit → Act → World → Prop} (hgd : o.guard = none) (s x : Operand) (t : TypeId)
    (ho : o.op = .call { callee := .builtin .append, args := #[s, x], argTypes := #[t, t] })
    (base : Nat) (E F : TypeId) (S : Nat) (i : TypeInfo) (ht : P.underlying t = some (.slice E)) (hi : P.info? E = some i) (hz : i.zero = some (.slice none 0 0)) (hsize : i.size = 1) (hby : i.bytes = 24)
    (v : Value) (R : List (List Nat)) (hs : a.eval s = v) (hm : MineR base w E F S v R) (hS : S < w.heap.size)
    (l : List Nat) (B c b : Nat) (hx : a.eval x = .slice (some ⟨b, 0, none⟩) 1 1) (hc : w.cell? ⟨b, 0, none⟩ = some (.slice (some ⟨B, 0, none⟩) l.length c)) (hl : Mine base w F (.slice (some ⟨B, 0, none⟩) l.length c) l.length (nums l)) (hBS : B ≠ S) (hBv : v.ownBlock ≠ some B)
    (hn : R.length ≤ 1000000000) (hbase : base ≤ w.heap.size)
    (h : ∀ v' w', MineR base w' E F S v' (R ++ [l]) → w.grownBy w' v.ownBlock → (v'.ownBlock = v.ownBlock ∨ v'.ownBlock = some w.heap.size) → wpList P ops Q rest (a.put o.dst v') w') : wpList P ops Q (o :: rest) a w := by
  obtain ⟨vs, h1, h2, h3⟩ := hm
  refine wpList_append_own_at w hgd s x t ho base E i (.slice none 0 0) 1 24 ht hi hz hsize hby rfl (by decide) v R.length vs hs h1 ⟨b, 0, none⟩ 1 1 [.slice (some ⟨B, 0, none⟩) l.length c] hx rfl ?_ ?_ (by simp only [maxLen]; omega) (by omega) hbase ?_
  · intro j u hj
    match j, hj with
    | 0, hj => simp at hj; subst hj; simpa [Addr.add] using hc
  · intro u hu; simp at hu; subst hu; rfl
  · intro v' w' hown hg _ hat
    have hBw := (hl.lt B rfl).2
    refine h v' w' ⟨vs ++ [.slice (some ⟨B, 0, none⟩) l.length c], by simpa using hown, ?_, fun k hk => ?_⟩ hg hat
    · rcases hat with e | e
      · rw [e]; exact h2
      · rw [e]; intro q; injection q with q; omega
    · have hvl : vs.length = R.length := by have := h1.1; omega
      have hne : ∀ B2 : Nat, v.ownBlock ≠ some B2 → B2 < w.heap.size → v'.ownBlock ≠ some B2 := by
        intro B2 g1 g2
        rcases hat with e | e
        · rw [e]; exact g1
        · rw [e]; intro q; injection q with q; omega
      by_cases e : k < R.length
      · obtain ⟨B2, c2, k1, k2, k3, k4⟩ := h3 k e
        have hR : (R ++ [l]).getD k [] = R.getD k [] := by
          rw [List.getD_eq_getElem?_getD, List.getD_eq_getElem?_getD, List.getElem?_append_left e]
        rw [hR]
        refine ⟨B2, c2, by rw [List.getElem?_append_left (by omega)]; exact k1, k2.kept hg (.inr (by simpa [Value.ownBlock] using fun q => k4 q.symm)), k3, hne B2 k4 (k2.lt B2 rfl).2⟩
      · have ek : k = R.length := by simp at hk; omega
        subst ek
        have hR : (R ++ [l]).getD R.length [] = l := by
          rw [List.getD_eq_getElem?_getD, List.getElem?_append_right (Nat.le_refl _)]; simp
        rw [hR]
        refine ⟨B, c, by rw [List.getElem?_append_right (by omega), hvl]; simp, hl.kept hg (.inr (by simpa [Value.ownBlock] using fun q => hBv q.symm)), hBS, hne B hBv hBw⟩
end

/-- The value v, of n truth values, is a row that the call has made itself and holds p. -/
def MineB (base : Nat) (w : World) (E : TypeId) (v : Value) (n : Nat) (p : Nat → Bool) : Prop :=
  w.ownsRow base E 1 v n ((List.range n).map fun i => Value.bool (p i))
section
variable {base n : Nat} {w w' : World} {E : TypeId} {v : Value} {p : Nat → Bool}
theorem MineB.kept {row : Option Nat} (h : MineB base w E v n p) (hg : w.grownBy w' row) (hne : v.ownBlock = none ∨ v.ownBlock ≠ row) : MineB base w' E v n p := World.ownsRow.kept h hg hne
theorem MineB.ext (h : MineB base w E v n p) (he : Ext w w') : MineB base w' E v n p :=
  h.kept (he.grownBy none) (by cases v.ownBlock <;> simp)
theorem MineB.at_ {g c k : Nat} (h : MineB base w E (.slice (some ⟨g, 0, none⟩) n c) n p) (hk : k < n) :
    w.cell? ⟨g, k, none⟩ = some (.bool (p k)) ∧ w.frozen? ⟨g, k, none⟩ = false ∧ base ≤ g ∧ g < w.heap.size := by
  have hc := World.ownsRow.cellAt h k (by omega)
  refine ⟨by rw [hc]; simp [hk], World.ownsRow.frozenAt h k, World.ownsRow.lt h g rfl⟩
theorem MineB.stored {g c k : Nat} (h : MineB base w E (.slice (some ⟨g, 0, none⟩) n c) n p) (b : Bool) :
    MineB base (w.setCell ⟨g, k, none⟩ (.bool b)) E (.slice (some ⟨g, 0, none⟩) n c) n (fun i => if i = k then b else p i) ∧ w.grownBy (w.setCell ⟨g, k, none⟩ (.bool b)) (some g) := by
  have h1 := World.ownsRow.stored h k (.bool b)
  refine ⟨?_, h1.2⟩
  have e : ((List.range n).map fun i => Value.bool (p i)).set k (.bool b) = (List.range n).map fun i => Value.bool (if i = k then b else p i) := by
    apply List.ext_getElem (by simp)
    intro i h1 h2
    rw [List.getElem_set]
    by_cases q : k = i
    · subst q; simp
    · rw [if_neg q]; simp [Ne.symm q]
  have h2 := h1.1
  rw [e] at h2
  exact h2
end
end Go.Proofs.YtgmhmlhdiklaaaaGreatDoor
