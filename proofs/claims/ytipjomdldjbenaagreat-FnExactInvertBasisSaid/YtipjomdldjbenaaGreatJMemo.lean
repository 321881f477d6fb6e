/- A map from pairs of short lists of numbers to lists of numbers, that remembers values of a function. No condition. -/
import Derived.Test.YtipjomdldjbenaaGreatJGKeys
import Derived.Maps.OwnSet
import Derived.Maps.OwnOps
import Derived.DeepKeys4
namespace Go.Proofs.YtipjomdldjbenaaGreat
open Go.RowKit
open Go.Maps (Keyed)
set_option maxRecDepth 20000

theorem keyed2 : Keyed Tryz.prog 75 := Keyed.of_law (Go.deep_law_laid laidOut (m := 5) (by decide) (k := 75) (of_decide_eq_true (by kernel_rfl)) (by kernel_rfl) (by kernel_rfl))

/-- The key of two lists. -/
def keyV (a b : List Int) : Value := .agg #[.int .i64 (num a 0), .int .i64 (num a 1), .int .i64 (num a 2), .int .i64 (num a 3), .int .i64 (num b 0), .int .i64 (num b 1), .int .i64 (num b 2), .int .i64 (num b 3)]
def keyB (a b : List Int) : Lit := .string (keyBytes [.int .i64 (num a 0), .int .i64 (num a 1), .int .i64 (num a 2), .int .i64 (num a 3), .int .i64 (num b 0), .int .i64 (num b 1), .int .i64 (num b 2), .int .i64 (num b 3)])
theorem keyOf2 {a b : List Int} (ha : InI a) (hb : InI b) : keyOf Tryz.prog 75 (keyV a b) = some (keyB a b) := by
  have a0 := num_in ha 0
  have a1 := num_in ha 1
  have a2 := num_in ha 2
  have a3 := num_in ha 3
  have b0 := num_in hb 0
  have b1 := num_in hb 1
  have b2 := num_in hb 2
  have b3 := num_in hb 3
  unfold keyV keyB
  generalize num a 0 = x0 at *
  generalize num a 1 = x1 at *
  generalize num a 2 = x2 at *
  generalize num a 3 = x3 at *
  generalize num b 0 = y0 at *
  generalize num b 1 = y1 at *
  generalize num b 2 = y2 at *
  generalize num b 3 = y3 at *
  have cs2 : Tryz.prog.cellsOf 75 = 8 := by kernel_rfl
  have cs1 : Tryz.prog.cellsOf 73 = 4 := by kernel_rfl
  have cs0 : Tryz.prog.cellsOf 3 = 1 := by kernel_rfl
  have hk : Tryz.prog.keyType 75 = true := by kernel_rfl
  obtain ⟨d, hd⟩ : ∃ d, Tryz.prog.types.size + 1 = d + 3 := ⟨Tryz.prog.types.size - 2, by have : 2 ≤ Tryz.prog.types.size := of_decide_eq_true (by kernel_rfl); omega⟩
  have h0 : ∀ x : Int, I64 x → Tryz.prog.keyLits (d + 1) 3 [.int .i64 x] = some [.int .i64 x] := fun x hx => by
    simp [Program.keyLits, Tryz.underlying3]; exact hx
  have h1 : ∀ x0 x1 x2 x3 : Int, I64 x0 → I64 x1 → I64 x2 → I64 x3 → Tryz.prog.keyLits (d + 2) 73 [.int .i64 x0, .int .i64 x1, .int .i64 x2, .int .i64 x3] = some [.int .i64 x0, .int .i64 x1, .int .i64 x2, .int .i64 x3] := fun x0 x1 x2 x3 k0 k1 k2 k3 => by
    unfold Program.keyLits
    simp [Tryz.underlying73, cs1, cs0, show List.range 4 = [0, 1, 2, 3] from rfl, h0 _ k0, h0 _ k1, h0 _ k2, h0 _ k3]
  have h2 : Tryz.prog.keyLits (d + 3) 75 [.int .i64 x0, .int .i64 x1, .int .i64 x2, .int .i64 x3, .int .i64 y0, .int .i64 y1, .int .i64 y2, .int .i64 y3] = some [.int .i64 x0, .int .i64 x1, .int .i64 x2, .int .i64 x3, .int .i64 y0, .int .i64 y1, .int .i64 y2, .int .i64 y3] := by
    unfold Program.keyLits
    simp [Tryz.underlying75, cs2, cs1, show List.range 2 = [0, 1] from rfl, h1 _ _ _ _ a0 a1 a2 a3, h1 _ _ _ _ b0 b1 b2 b3]
  unfold keyOf
  rw [hd]
  simp [Tryz.underlying75, hk, Value.formed, cs2, Value.cells, h2]

theorem keyB_inj {a b a' b' : List Int} (ha : InI a) (hb : InI b) (ha' : InI a') (hb' : InI b') (h : keyB a b = keyB a' b') (h1 : a.length = a'.length) (h2 : b.length = b'.length) (h3 : a.length ≤ 4) (h4 : b.length ≤ 4) : a = a' ∧ b = b' := by
  have := keyed2.inj (keyOf2 ha hb) (by rw [h]; exact keyOf2 ha' hb')
  simp [keyV] at this
  exact ⟨num4_inj ⟨this.1, this.2.1, this.2.2.1, this.2.2.2.1⟩ h1 h3, num4_inj ⟨this.2.2.2.2.1, this.2.2.2.2.2.1, this.2.2.2.2.2.2.1, this.2.2.2.2.2.2.2⟩ h2 h4⟩

/-- The pairs of lists of n numbers of Go's int that meet A. -/
def Adm (A : List Int → List Int → Prop) (n : Nat) (a b : List Int) : Prop := a.length = n ∧ b.length = n ∧ InI a ∧ InI b ∧ A a b

/-- Block mb is a map of at most m entries: what it holds at the pairs that meet A reads as F of the pair, outside of the map's block. -/
def Memo (A : List Int → List Int → Prop) (F : List Int → List Int → List Int) (n mb m : Nat) (w : World) : Prop :=
  ∃ D, w.ownsMap Tryz.prog 75 RD mb m D ∧ ∀ a b v, Adm A n a b → Maps.has D (keyB a b) = true → D.atKey (keyB a b) (.held (.slice none 0 0)) = .held v → RI (fun g => g ≠ mb) w v (F a b)

section
variable {A : List Int → List Int → Prop} {F : List Int → List Int → List Int} {n mb m : Nat} {w w' : World}

theorem Memo.made (w : World) : Memo A F n w.heap.size 0 (w.alloc (.map #[] 0)) :=
  ⟨_, World.ownsMap_made _ _ _ _, fun a b v _ h => by simp [Maps.has] at h⟩

theorem Memo.below (h : Memo A F n mb m w) (hb : Below w.heap.size w w') : Memo A F n mb m w' := by
  obtain ⟨D, h1, h2⟩ := h
  exact ⟨D, h1.kept (grown_below hb) (by simp), fun a b v ha hh hat => (h2 a b v ha hh hat).keep fun b _ hl => hb.block b hl⟩

theorem Memo.lt (h : Memo A F n mb m w) : mb < w.heap.size := by
  obtain ⟨D, h1, _⟩ := h
  exact h1.lt

section
variable {ops : Array Oper} {rest : List Oper} {o : Oper} {a : Act} {Q : Exit → Act → World → Prop}

/-- 'v, ok := m[key]'. -/
theorem wpList_memo (hg : o.guard = none) (mo x : Operand) (hop : o.op = Op.lookup 56 mo x true) (hm : a.eval mo = .map (some mb)) (hM : Memo A F n mb m w) {p q : List Int} (hp : Adm A n p q) (hx : a.eval x = keyV p q)
    (h1 : ∀ v, RI (fun g => g ≠ mb) w v (F p q) → wpList Tryz.prog ops Q rest (a.put o.dst (.tuple #[v, .bool true])) w)
    (h2 : ∀ v, wpList Tryz.prog ops Q rest (a.put o.dst (.tuple #[v, .bool false])) w) : wpList Tryz.prog ops Q (o :: rest) a w := by
  obtain ⟨D, hown, hD⟩ := hM
  refine wpList_lookup_own_ok w hg mo x _ hop 75 23 keyed2 Tryz.underlying56 RD (z := .slice none 0 0) (by kernel_rfl) (.held (.slice none 0 0)) [] rfl mb m D hm hown _ _ hx (keyOf2 hp.2.2.1 hp.2.2.2.1) (fun v ps hv => ?_)
  cases hb : Maps.has D (keyB p q) with
  | false => exact h2 v
  | true =>
    refine h1 v (hD p q v hp hb ?_)
    simp [RD] at hv
    exact hv.1.symm

/-- 'm[key] = v'. -/
theorem wpList_memoPut (hg : o.guard = none) (mo x y : Operand) (hop : o.op = Op.mapUpdate 56 mo x y) (hm : a.eval mo = .map (some mb)) (hM : Memo A F n mb m w) (hn : n ≤ 4) (hmm : m < maxLen) {p q : List Int} (hp : Adm A n p q) (hx : a.eval x = keyV p q)
    {v : Value} (hy : a.eval y = v) (hv : RI (fun g => g ≠ mb) w v (F p q))
    (h1 : ∀ w', Memo A F n mb (m + 1) w' → w.grownBy w' (some mb) → wpList Tryz.prog ops Q rest (a.put o.dst undef) w') : wpList Tryz.prog ops Q (o :: rest) a w := by
  obtain ⟨D, hown, hD⟩ := hM
  refine wpList_mapUpdate_own w hg mo x y _ hop 75 23 keyed2 Tryz.underlying56 RD mb m D hm hown hmm _ _ _ hx hy (keyOf2 hp.2.2.1 hp.2.2.2.1) (.held v) [] rfl (fun w' ho hgr => ?_)
  refine h1 w' ⟨_, ho, fun a b u ha hh hat => ?_⟩ hgr
  have kp : ∀ {u : Value} {L : List Int}, RI (fun g => g ≠ mb) w u L → RI (fun g => g ≠ mb) w' u L := fun h => h.keep fun b hb hl => hgr.block b hl (by simpa using hb)
  by_cases he : keyB a b = keyB p q
  · obtain ⟨rfl, rfl⟩ := keyB_inj ha.2.2.1 ha.2.2.2.1 hp.2.2.1 hp.2.2.2.1 he (by rw [ha.1, hp.1]) (by rw [ha.2.1, hp.2.1]) (by rw [ha.1]; exact hn) (by rw [ha.2.1]; exact hn)
    rw [Maps.atKey_put_same hown.isMap (keyed2.key (keyOf2 hp.2.2.1 hp.2.2.2.1))] at hat
    injection hat with hat
    subst hat
    exact kp hv
  · rw [Maps.atKey_put_other he] at hat
    rw [Maps.has_put_other he] at hh
    exact kp (hD a b u ha hh hat)
end
end
end Go.Proofs.YtipjomdldjbenaaGreat
