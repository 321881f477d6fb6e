/- Sets of points by their masks: the reference's list of all, the program's one by one. Condition: at most four points. Matrices of some points. Condition: a square matrix of at most four rows, its points in order. 'append' to a slice of numbers of the call's own, and where the new slice lies: in the old one's block, or in a new one. Condition: at most 2^26 numbers. Matrices of sets of points, by the reference. Condition: a Cartan matrix, an ascending set of its points. Determinants by the reference's text. Condition: square matrices of at most four rows, numbers up to 2000. Determinants by the reference. Condition: square matrices of at most four rows, numbers up to 2000. Determinants by the program. Condition: square matrices of at most four rows, numbers up to 2000. Whether the group of a matrix is finite: both sides. Condition: sizes up to 2^24. A word from its end, by the program. Condition: at most 2^24 letters. Letters taken until a vector is dominant: by the program, for whatever goes down; dominant weights. Condition: sizes up to 2^24. The product that never shortens, and longest elements, both sides. Condition: words of at most 15 letters. The product that never shortens by the reference; whether a word covers all. Condition: sizes up to 2^24. -/
import Derived.Test.YtipjomdldjbenaaGreatJAppS
import Derived.Test.YtipjomdldjbenaaGreatJGFin
import Derived.Test.YtipjomdldjbenaaGreatJGCart
import Derived.Test.YtipjomdldjbenaaGreatJOwnR
import Derived.Deep.RegionHeld3
import Derived.Test.YtipjomdldjbenaaGreatJNorm
import Derived.RegionTactic
import Derived.BigRegion
import Derived.Test.YtipjomdldjbenaaGreatJGNrm
import Derived.Test.YtipjomdldjbenaaGreatJCoeff
/-! Sets of points by their masks: the reference's list of all, the program's one by one. Condition: at most four points. -/
namespace Go.Proofs.YtipjomdldjbenaaGreat
open Go.RowKit
set_option maxRecDepth 20000

def bitsI (n k : Nat) : List Int := (Fin.bits n k).map fun (i : Nat) => (i : Int)
theorem bitsI_step (n k : Nat) : bitsI (n + 1) k = bitsI n k ++ if k / 2 ^ n % 2 = 1 then [(n : Int)] else [] := by
  unfold bitsI
  simp only [Fin.bits, List.map_append]
  split <;> simp
theorem bitsI_len : ∀ (n k : Nat), (bitsI n k).length ≤ n
  | 0, k => by simp [bitsI, Fin.bits]
  | n + 1, k => by
    rw [bitsI_step]
    have := bitsI_len n k
    split <;> simp <;> omega

theorem cast_shr (k i : Nat) : ((k / 2 ^ i : Nat) : Int) = (k : Int) / 2 ^ i := by simp
theorem i1_of {k i : Nat} (h : 0 < k / 2 ^ i) : 0 < (k : Int) / 2 ^ i := by rw [← cast_shr]; omega
theorem i1_no {k i : Nat} (h : ¬ 0 < k / 2 ^ i) : ¬ 0 < (k : Int) / 2 ^ i := by rw [← cast_shr]; omega
theorem and_one (n : Int) : bits .and .i64 n 1 = n % 2 := by
  have h127 : (BitVec.ofInt 64 1).toNat = 2 ^ 1 - 1 := by decide
  have key : (BitVec.ofInt 64 n &&& BitVec.ofInt 64 1).toNat = (n % ((2 ^ 64 : Nat) : Int)).toNat % 2 ^ 1 := by
    rw [BitVec.toNat_and, BitVec.toNat_ofInt, h127, Nat.and_two_pow_sub_one_eq_mod]
  show IntKind.i64.wrap ((BitVec.ofInt 64 n &&& BitVec.ofInt 64 1).toNat : Nat) = n % 2
  rw [key, IntKind.wrap_i64]
  omega
theorem bit_yes {k i : Nat} (h : k / 2 ^ i % 2 = 1) : (bits BinOp.and IntKind.i64 ((k : Int) / 2 ^ i) 1 == 1) = true := by
  rw [and_one, ← cast_shr]; simp only [beq_iff_eq]; omega
theorem bit_no {k i : Nat} (h : ¬ k / 2 ^ i % 2 = 1) : (bits BinOp.and IntKind.i64 ((k : Int) / 2 ^ i) 1 == 1) = false := by
  rw [and_one, ← cast_shr]; simp only [beq_eq_false_iff_ne]; omega
theorem bits_stay {k i : Nat} (h : k / 2 ^ i = 0) {j : Nat} (hij : i ≤ j) : bitsI j k = bitsI i k := by
  induction j with
  | zero =>
    have : i = 0 := by omega
    subst this; rfl
  | succ j ih =>
    rcases Nat.lt_or_ge j i with h1 | h1
    · have : i = j + 1 := by omega
      subst this; rfl
    · have h2 : k / 2 ^ j = 0 := Nat.div_eq_of_lt (Nat.lt_of_lt_of_le ((Nat.div_eq_zero_iff_lt (Nat.two_pow_pos i)).1 h) (Nat.pow_le_pow_right (by omega) h1))
      rw [bitsI_step, h2, ih h1]
      simp

theorem wpow_lt {n k : Nat} (hn : n ≤ 4) : (k : Int) + 1 < wrap64 (2 ^ n) ↔ k + 1 < 2 ^ n := by
  match n, hn with
  | 0, _ => simp [wrap64]; omega
  | 1, _ => simp [wrap64]; omega
  | 2, _ => simp [wrap64]; omega
  | 3, _ => simp [wrap64]; omega
  | 4, _ => simp [wrap64]; omega

end Go.Proofs.YtipjomdldjbenaaGreat

/-! Matrices of some points. Condition: a square matrix of at most four rows, its points in order. -/
namespace Go.Proofs.YtipjomdldjbenaaGreat
open Go.RowKit
set_option maxRecDepth 20000

def rowL (c : List (List Int)) (i : Int) (l : List Int) : List Int := l.map fun j => ent c i.toNat j.toNat
def subL (c : List (List Int)) (l : List Int) : List (List Int) := l.map fun i => rowL c i l
theorem subL_bits (c : List (List Int)) (n k : Nat) : subL c (bitsI n k) = Fin.sub c (Fin.bits n k) := by
  simp only [subL, rowL, bitsI, Fin.sub, List.map_map]
  refine List.map_congr_left fun i _ => ?_
  simp only [Function.comp_def]
  refine List.map_congr_left fun j _ => ?_
  simp only [Int.toNat_natCast]
  rfl
theorem rowL_step {c : List (List Int)} {i : Int} {l : List Int} {k : Nat} {x : Int} (h : l[k]? = some x) : rowL c i (l.take (k + 1)) = rowL c i (l.take k) ++ [ent c i.toNat x.toNat] := by
  rw [take_step h]; simp [rowL]
theorem subL_step {c : List (List Int)} {l : List Int} {k : Nat} {x : Int} (h : l[k]? = some x) : (l.take (k + 1)).map (fun i => rowL c i l) = (l.take k).map (fun i => rowL c i l) ++ [rowL c x l] := by
  rw [take_step h]; simp

/-- All numbers are points. -/
def Pts (n : Nat) (l : List Int) : Prop := ∀ (j : Nat) (x : Int), l[j]? = some x → ∃ i : Nat, x = (i : Int) ∧ i < n

end Go.Proofs.YtipjomdldjbenaaGreat

/-! 'append' to a slice of numbers of the call's own, and where the new slice lies: in the old one's block, or in a new one. Condition: at most 2^26 numbers. -/
namespace Go.Proofs.YtipjomdldjbenaaGreat
open Go.RowKit
set_option maxRecDepth 20000

section
variable {w : World} {ops : Array Oper} {rest : List Oper} {o : Oper} {a : Act} {Q : Exit → Act → World → Prop}
theorem run_append_where {P : Program} (w : World) (base : Nat) (t ty e : TypeId) (i : TypeInfo) (z : Value) (size bytes : Nat) (ht : P.underlying t = some (.slice e)) (hi : P.info? e = some i) (hz : i.zero = some z)
    (hsize : i.size = size) (hby : i.bytes = bytes) (hzs : z.cells.size = size) (hsz : 0 < size)
    (v : Value) (n : Nat) (xs : List Value) (hown : w.ownsRow base e size v n xs)
    (a : Addr) (m c : Nat) (news : List Value) (hl : news.length = m * size) (hnews : ∀ j u, news[j]? = some u → w.cell? (a.add j) = some u) (h1 : ∀ u ∈ news, u.oneCell' = true)
    (h63 : n + m ≤ maxLen) (hbytes : (n + m) * bytes ≤ 140737488355328) {v' : Value} {w' : World}
    (hrun : (Builtin.append_ #[t, t] ty #[v, .slice (some a) m c]).run P w = .ok v' w') : ∀ b, v'.ownBlock = some b → v.ownBlock = some b ∨ w.heap.size ≤ b := by
  subst hsize
  subst hby
  have hsmall : n + m ≤ 9223372036854775807 := by simp only [maxLen] at h63; omega
  rcases hown.2 with ⟨rfl, rfl⟩ | ⟨g, cap, cur, rfl, hbg, hg, hnc, hcm, hcs, htake⟩
  · by_cases hm : m = 0
    · subst hm
      have hn : news = [] := List.eq_nil_of_length_eq_zero (by simpa using hl)
      subst hn
      have hr : (Builtin.append_ #[t, t] ty #[.slice none 0 0, .slice (some a) 0 c]).run P w = .ok (.slice none 0 0) w := by
        simp [Builtin.append_, run_underlying ht, sizeOf, typeInfo, hi, Builtin.lenOf, Builtin.firstCells, loadCells, loadCellsFrom]
      rw [hr] at hrun
      injection hrun with e1 e2
      subst e1
      intro b hb
      cases hb
    · have hr := run_append_nil (P := P) w t ty e i z ht hi hz a m c news hl hnews (by omega) (by omega) (by have hb := hbytes; simp only [Nat.zero_add] at hb; omega)
      rw [hr] at hrun
      injection hrun with e1 e2
      subst e1
      intro b hb
      simp [Value.ownBlock] at hb
      exact .inr (by omega)
  · by_cases hroom : n + m ≤ cap
    · have hfit : n * i.size + news.length ≤ cur.size := by rw [hl, hcs, ← Nat.add_mul]; exact Nat.mul_le_mul_right _ hroom
      have hr := run_append_room (P := P) w t ty e i ht hi g n cap cur hg a m c news hl hnews h1 hroom hfit
      rw [hr] at hrun
      injection hrun with e1 e2
      subst e1
      intro b hb
      exact .inl hb
    · have holds : ∀ j u, xs[j]? = some u → w.cell? ((⟨g, 0, none⟩ : Addr).add j) = some u := hown.cells (g := g) rfl
      have hr := run_append_grow (P := P) w t ty e i z ht hi hz ⟨g, 0, none⟩ n cap xs hown.1 holds a m c news hl hnews (by omega) (by omega) (growslice_fits (by omega) hbytes)
      rw [hr] at hrun
      injection hrun with e1 e2
      subst e1
      intro b hb
      simp [Value.ownBlock] at hb
      exact .inr (by omega)

/-- append(v, y): one number, laid in a block of its own. -/
theorem wpList_appW {W : World} (hgd : o.guard = none) (s x : Operand)
    (ho : o.op = .call { callee := .builtin .append, args := #[s, x], argTypes := #[23, 23] })
    {v : Value} {l : List Int} {y : Int} (hs : a.eval s = v) (hf : FI (New W w) w v l) (hb : Below W.heap.size W w)
    {H : Nat} (hx : a.eval x = .slice (some ⟨H, 0, none⟩) 1 1) (hc : w.cell? ⟨H, 0, none⟩ = some (.int .i64 y)) (hlen : l.length + 1 ≤ 67108864)
    (h : ∀ v' w', FI (New W w') w' v' (l ++ [y]) → Below W.heap.size W w' → w.grownBy w' v.ownBlock → (∀ b, v'.ownBlock = some b → v.ownBlock = some b ∨ w.heap.size ≤ b) → wpList Tryz.prog ops Q rest (a.put o.dst v') w') : wpList Tryz.prog ops Q (o :: rest) a w := by
  refine wpList_plain hgd fun K hK => ?_
  obtain ⟨i0, hi, hz0, hz1, hz2⟩ := info_parts infoInt
  obtain ⟨hown, hS⟩ := hf
  have hown' : w.ownsRow W.heap.size 3 1 v l.length (l.map (Value.int .i64)) := by
    refine ⟨hown.1, ?_⟩
    rcases hown.2 with h | ⟨g, cap, cur, hv, _, r⟩
    · exact .inl h
    · exact .inr ⟨g, cap, cur, hv, (hS g (by rw [hv]; rfl)).1, r⟩
  have hnews : ∀ (j : Nat) (u : Value), [Value.int .i64 y][j]? = some u → w.cell? ((⟨H, 0, none⟩ : Addr).add j) = some u := by
    intro j u hj
    match j, hj with
    | 0, hj => simp at hj; subst hj; simpa [Addr.add] using hc
  have h1 : ∀ u ∈ [Value.int .i64 y], u.oneCell' = true := by intro u hu; simp at hu; subst hu; rfl
  obtain ⟨v', w', hr, h2, h3, _⟩ := run_append_own (P := Tryz.prog) w W.heap.size 23 o.type 3 i0 (.int .i64 0) 1 8 Tryz.underlying23 hi hz0 hz1 hz2 rfl (by decide) v l.length (l.map (Value.int .i64)) hown' ⟨H, 0, none⟩ 1 1 [.int .i64 y] rfl hnews h1 (by unfold maxLen; omega) (by omega) hb.size
  have h4 := run_append_where (P := Tryz.prog) w W.heap.size 23 o.type 3 i0 (.int .i64 0) 1 8 Tryz.underlying23 hi hz0 hz1 hz2 rfl (by decide) v l.length (l.map (Value.int .i64)) hown' ⟨H, 0, none⟩ 1 1 [.int .i64 y] rfl hnews h1 (by unfold maxLen; omega) (by omega) hr
  unfold Oper.wp execOp
  simp only [ho, resolve, invoke, builtin, Sem.run_bind, Sem.run_pure, Result.andThen_ok, List.map_toArray, List.map_cons, List.map_nil, hs, hx, hr]
  exact hK _ _ (h v' w' (FI.of_row h2 (Nat.le_refl _) (by simp) (by simp)) (hb.grown h3 hb.size (fun k hk => (hS k hk).1)) h3 h4)
end
/-- What a result owns alone. -/
theorem FI.own {S : Nat → Prop} {w : World} {v : Value} {l : List Int} (h : FI S w v l) : FI (fun b => S b ∧ v.ownBlock = some b) w v l := ⟨h.1, fun b hb => ⟨h.2 b hb, hb⟩⟩
end Go.Proofs.YtipjomdldjbenaaGreat

/-! Matrices of sets of points, by the reference. Condition: a Cartan matrix, an ascending set of its points. -/
namespace Go.Proofs.YtipjomdldjbenaaGreat
open Go.RowKit
set_option maxRecDepth 20000

/-- Ascending. -/
def Asc (l : List Int) : Prop := ∀ (j : Nat) (x y : Int), l[j]? = some x → l[j + 1]? = some y → x < y

end Go.Proofs.YtipjomdldjbenaaGreat

/-! Determinants by the reference's text. Condition: square matrices of at most four rows, numbers up to 2000. -/
namespace Go.Proofs.YtipjomdldjbenaaGreat
open Go.RowKit
set_option maxRecDepth 20000

end Go.Proofs.YtipjomdldjbenaaGreat

/-! Determinants by the reference. Condition: square matrices of at most four rows, numbers up to 2000. -/
namespace Go.Proofs.YtipjomdldjbenaaGreat
open Go.RowKit
set_option maxRecDepth 20000

theorem sgn_odd {k : Nat} (h : k % 2 = 1) (x : Int) : Fin.sgn k x = -x := by unfold Fin.sgn; rw [if_pos h]
theorem sgn_even {k : Nat} (h : ¬ k % 2 = 1) (x : Int) : Fin.sgn k x = x := by unfold Fin.sgn; rw [if_neg h]

end Go.Proofs.YtipjomdldjbenaaGreat

/-! Determinants by the program. Condition: square matrices of at most four rows, numbers up to 2000. -/
namespace Go.Proofs.YtipjomdldjbenaaGreat
open Go.RowKit
set_option maxRecDepth 20000

end Go.Proofs.YtipjomdldjbenaaGreat

/-! Whether the group of a matrix is finite: both sides. Condition: sizes up to 2^24. -/
namespace Go.Proofs.YtipjomdldjbenaaGreat
open Go.RowKit
set_option maxRecDepth 20000

def finB (c : List (List Int)) : Bool := isC c && Fin.isFin c
theorem bitsI_length (n k : Nat) : (bitsI n k).length = (Fin.bits n k).length := by simp [bitsI]
theorem bits_ne : ∀ n, n < 5 → ∀ k, k < 16 → 1 ≤ k → k < 2 ^ n → 1 ≤ (Fin.bits n k).length := by decide
theorem bitsI_ne {n k : Nat} (hn : n ≤ 4) (h1 : 1 ≤ k) (h2 : k < 2 ^ n) : 1 ≤ (bitsI n k).length := by
  rw [bitsI_length]
  exact bits_ne n (by omega) k (by have := Nat.pow_le_pow_right (n := 2) (by omega) hn; omega) h1 h2
theorem bits_pts {n k m : Nat} (hm : n ≤ m) : Pts m (bitsI n k) := by
  intro j x hx
  obtain ⟨i, hi, rfl⟩ := List.mem_map.1 (List.mem_of_getElem? hx)
  exact ⟨i, rfl, Nat.lt_of_lt_of_le (Fin.bits_lt hi) hm⟩
theorem bits_asc : ∀ (n k : Nat), Asc (bitsI n k)
  | 0, k => by intro j x y h; simp [bitsI, Fin.bits] at h
  | n + 1, k => by
    have ih := bits_asc n k
    intro j x y hx hy
    rw [bitsI_step] at hx hy
    by_cases h : k / 2 ^ n % 2 = 1
    · rw [if_pos h] at hx hy
      rcases Nat.lt_or_ge (j + 1) (bitsI n k).length with h1 | h1
      · rw [List.getElem?_append_left (by omega)] at hx
        rw [List.getElem?_append_left h1] at hy
        exact ih j x y hx hy
      · rw [List.getElem?_append_right h1] at hy
        have h2 : j + 1 - (bitsI n k).length = 0 := by
          rcases Nat.eq_zero_or_pos (j + 1 - (bitsI n k).length) with h | h
          · exact h
          · rw [List.getElem?_eq_none (by simp; omega)] at hy; cases hy
        rw [h2] at hy
        simp at hy
        rw [List.getElem?_append_left (by omega)] at hx
        obtain ⟨i, rfl, hi⟩ := bits_pts (Nat.le_refl n) j x hx
        omega
    · rw [if_neg h, List.append_nil] at hx hy
      exact ih j x y hx hy
theorem sub_sqr (c : List (List Int)) (l : List Int) : Fin.Sqr (subL c l) l.length := by
  refine ⟨by simp [subL], fun r hr => ?_⟩
  obtain ⟨i, _, rfl⟩ := List.mem_map.1 hr
  simp [rowL]
theorem ent_small {c : List (List Int)} (hc : CartanP c) (i j : Nat) : (ent c i j).natAbs ≤ 3 := by
  by_cases hi : i < c.length
  · by_cases hj : j < c.length
    · by_cases h : i = j
      · subst h; rw [hc.car.diag i hi]; decide
      · have := hc.car.off i j hi hj h; omega
    · have hr : (c[i]).length = c.length := hc.row _ (List.getElem_mem hi)
      have : (c[i])[j]? = none := List.getElem?_eq_none (by omega)
      simp [ent, hi, this]
  · have : c[i]? = none := List.getElem?_eq_none (by omega)
    simp [ent, this]
theorem car_small {c : List (List Int)} (hc : CartanP c) (l : List Int) : Fin.Small 2000 (subL c l) := by
  intro r hr x hx
  obtain ⟨i, _, rfl⟩ := List.mem_map.1 hr
  obtain ⟨j, _, rfl⟩ := List.mem_map.1 hx
  have := ent_small hc i.toNat j.toNat
  omega
theorem minor_sub (c : List (List Int)) (n k : Nat) : Fin.minor c n k = Fin.det (bitsI n k).length (subL c (bitsI n k)) := by
  rw [bitsI_length, subL_bits]; rfl

/-- A slice is returned, of a length with P; memory has only grown. -/
def SliceWith (P : Nat → Prop) (w : World) (e : Ending) (w' : World) : Prop := ∃ a n cap, e = .returned (.slice a n cap) ∧ P n ∧ Below w.heap.size w w'

/-- The minors of all sets up to a mask. -/
def minL (c : List (List Int)) (n : Nat) : Nat → List Int
  | 0 => []
  | k + 1 => minL c n k ++ [Fin.minor c n (k + 1)]
theorem minL_len (c : List (List Int)) (n : Nat) : ∀ k, (minL c n k).length = k
  | 0 => rfl
  | k + 1 => by simp [minL, minL_len c n k]
theorem minL_at (c : List (List Int)) (n : Nat) : ∀ (k j : Nat), j < k → (minL c n k)[j]? = some (Fin.minor c n (j + 1))
  | 0, j, h => by omega
  | k + 1, j, h => by
    simp only [minL]
    rcases Nat.lt_or_ge j k with h1 | h1
    · rw [List.getElem?_append_left (by rw [minL_len]; exact h1)]
      exact minL_at c n k j h1
    · have : j = k := by omega
      subst this
      rw [List.getElem?_append_right (by rw [minL_len]; exact Nat.le_refl _), minL_len]
      simp

end Go.Proofs.YtipjomdldjbenaaGreat

/-! A word from its end, by the program. Condition: at most 2^24 letters. -/
namespace Go.Proofs.YtipjomdldjbenaaGreat
open Go.RowKit
set_option maxRecDepth 20000

theorem Only.drew {S : Nat → Prop} {a b : World} (h : Only S a b) : Only S a b.drew := ⟨h.os, h.tape, h.output, h.size, h.block⟩
theorem FI.drew {S : Nat → Prop} {w : World} {v : Value} {l : List Int} (h : FI S w v l) : FI S w.drew v l := FI.keep h fun _ _ => rfl

/-- Between k and q as it was, elsewhere turned. -/
def Turned (l L : List Int) (n k q : Nat) : Prop := L.length = n ∧ ∀ p, p < n → L[p]? = if k ≤ p ∧ p < q then l[p]? else l[n - 1 - p]?
theorem turned_0 {l : List Int} {n : Nat} (h : l.length = n) : Turned l l n 0 n := ⟨h, fun p hp => by rw [if_pos ⟨Nat.zero_le _, hp⟩]⟩
theorem turned_end {l L : List Int} {n k q : Nat} (hl : l.length = n) (hkq : k + q = n) (h : Turned l L n k q) (hq : ¬ k + 1 < q) : L = l.reverse := by
  refine List.ext_getElem? fun p => ?_
  rcases Nat.lt_or_ge p n with hp | hp
  · rw [h.2 p hp, List.getElem?_reverse (by omega), hl]
    by_cases h1 : k ≤ p ∧ p < q
    · rw [if_pos h1]; congr 1; omega
    · rw [if_neg h1]
  · rw [List.getElem?_eq_none (by have := h.1; omega), List.getElem?_eq_none (by simp; omega)]
theorem turned_step {l L : List Int} {n k j : Nat} {x y : Int} (_ : l.length = n) (hkq : k + (j + 1) = n) (h : Turned l L n k (j + 1)) (hq : k < j) (hx : L[k]? = some x) (hy : L[j]? = some y) : Turned l ((L.set k y).set j x) n (k + 1) j := by
  refine ⟨by simp [h.1], fun p hp => ?_⟩
  have hk : k < L.length := by rw [h.1]; omega
  have hj : j < L.length := by rw [h.1]; omega
  have e1 : l[k]? = some x := by rw [← hx, h.2 k (by omega), if_pos (by omega)]
  have e2 : l[j]? = some y := by rw [← hy, h.2 j (by omega), if_pos (by omega)]
  by_cases h1 : p = j
  · subst h1
    rw [List.getElem?_set_self (by simp; omega), if_neg (by omega), show n - 1 - p = k by omega, e1]
  · rw [List.getElem?_set_ne (by omega)]
    by_cases h2 : p = k
    · subst h2
      rw [List.getElem?_set_self (by omega), if_neg (by omega), show n - 1 - p = j by omega, e2]
    · rw [List.getElem?_set_ne (by omega), h.2 p hp]
      by_cases h3 : k ≤ p ∧ p < j + 1
      · rw [if_pos h3, if_pos (by omega)]
      · rw [if_neg h3, if_neg (by omega)]

end Go.Proofs.YtipjomdldjbenaaGreat

/-! Letters taken until a vector is dominant: by the program, for whatever goes down; dominant weights. Condition: sizes up to 2^24. -/
namespace Go.Proofs.YtipjomdldjbenaaGreat
open Go.RowKit
set_option maxRecDepth 20000

set_option maxHeartbeats 1000000 in
theorem normalImplG {S S' : Nat → Prop} {u v : Value} {c : List (List Int)} {l : List Int} {w : World} {m : Nat} {P : List Int → Nat → Prop} (h : RII S w u c) (h' : RI S' w v l) (hc : CartanP c) (hD : Down c P) (him : P l m) :
    Calls Tryz.prog 81 #[u, v] w fun e w' => ∃ r, e = .returned r ∧ FI (New w w') w' r (nf c 30 l) ∧ Below w.heap.size w w' := by
  have h := h.old
  have hn4 := hc.le
  have hlen := hD.len _ _ him
  have hm := hD.le _ _ him
  have HDN := Lib.hid hD
  clear hD
  obtain ⟨a, cap, rfl⟩ := h.form
  obtain ⟨a', cap', rfl⟩ := h'.form
  have HQ := Lib.hid hc.sq
  have HC := Lib.hid hc
  have HIM := Lib.hid him
  rw [hlen] at h' ⊢
  have HN := Lib.hid hlen
  clear hc him hlen
  go_enter Tryz.func81, Tryz.ntmps81
  obtain ⟨f1, b1⟩ := fresh_of (w := w) (Below.refl _ w) rfl
  go_wp2_with (at_builtin; go_must (refine wpList_app (W := w) rfl _ _ rfl rfl f1 b1 rfl (h'.below b1) ?_ ?_))
  · have := HN.out; simp; omega
  · intro v1 w2 f2 b2 _
    clear b1 f1 h'
    go_wp2_with fail
    obtain ⟨w3, hw3⟩ : ∃ w3, w3 = w2.alloc (.cells #[] 3) := ⟨_, rfl⟩
    obtain ⟨f3, b3⟩ := fresh_of (Below.refl _ w2) hw3
    rw [← hw3]
    clear hw3
    have f2 := f2.below b3
    have hD : ∀ b, Bt 0 w.heap.size b → ¬ New w w2 b := fun b hb hb' => by have := hb.2; have := hb'.1; omega
    have hD2 : ∀ (W : World) b, Bt w2.heap.size W.heap.size b → ¬ New w w2 b := fun W b hb hb' => by have := hb.1; have := hb'.2; omega
    have b03 := Keeps.step b2 b3
    have hs2 : w.heap.size ≤ w2.heap.size := b2.size
    have hs3 : w2.heap.size ≤ w3.heap.size := b3.size
    have HR0 : Hid ([] ++ nf c 30 l = nf c 30 l) := Lib.hid rfl
    go_loopw [5, 6] (fun z y wr => ∃ (acc x : List Int) (m : Nat), FI (New w w2) wr v1 x ∧ FI (Bt w2.heap.size wr.heap.size) wr z acc ∧ Hid (P x m) ∧ acc.length + m ≤ 30 ∧ Hid (acc ++ nf c 30 x = nf c 30 l) ∧ w2.heap.size ≤ wr.heap.size ∧ Below w.heap.size w wr) (fun z _ _ => 31 - lenV z)
    case atStart => exact ⟨[], l, m, f2, f3, HIM, by simpa using hm, HR0, hs3, b03⟩
    case round =>
      obtain ⟨acc, x, m, hf, hz, HI, hlen, HR, hs, hb⟩ := hrel
      have hxl : x.length = c.length := HDN.out.len _ _ HI.out
      obtain ⟨az, capz, rfl⟩ := hz.form
      go_wp2_with fail
      refine (firstDescentImpl hf.reads (by omega)).mono ?_
      rintro e w4 ⟨rfl, rfl⟩
      cases e : firstN x with
      | none =>
        have e1 : Hid (acc = nf c 30 l) := Lib.hid (by rw [← HR.out, nf_end e, List.append_nil])
        have e2 : fd x = -1 := by unfold fd; rw [e]
        rw [e2]
        go_wp2_with fail
        go_ret
        rw [← e1.out]
        exact ⟨_, rfl, hz.mono (fun b hb' => ⟨by have := hb'.1; omega, hb'.2⟩), hb⟩
      | some i =>
        have e2 : fd x = (i : Int) := by unfold fd; rw [e]
        have hi : i < c.length := by have := firstN_lt e; omega
        obtain ⟨m', hm', him', hnf⟩ := HDN.out.turn _ _ _ HI.out e
        have HI2 := Lib.hid him'
        have HR2 : Hid ((acc ++ [(i : Int)]) ++ nf c 30 (refl c i x) = nf c 30 l) := Lib.hid (by rw [← HR.out, hnf, List.append_assoc]; rfl)
        clear him' hnf
        rw [e2]
        have bb := (Below.refl w4.heap.size w4).alloc (Nat.le_refl _) (.cells #[.int .i64 i] 3)
        have hz2 : FI (Bt w2.heap.size (w4.alloc (.cells #[.int .i64 i] 3)).heap.size) (w4.alloc (.cells #[.int .i64 i] 3)) _ acc := (hz.below bb).mono (fun b hb' => ⟨hb'.1, Nat.lt_of_lt_of_le hb'.2 bb.size⟩)
        have hi0 : ¬ (i : Int) < 0 := by omega
        go_wp2_with (at_builtin; go_must (refine wpList_appB (B := w2.heap.size) rfl _ _ rfl rfl hz2 (Nat.le_trans hs bb.size) rfl (RI.one w4 i) ?_ ?_))
        · simp; omega
        · intro v' w5 f5 b5 _
          have b45 : Below w2.heap.size w4 w5 := (bb.mono hs).trans b5
          have hb5 : Below w.heap.size w w5 := hb.trans (b45.mono hs2)
          have hf5 : FI (New w w2) w5 v1 x := hf.keep (fun b hb' => b45.block b (hf.2 b hb').2)
          go_wp2_with fail
          refine (reflectedImpl (h.below hb5) hf5 hD i hi HQ.out hxl (by omega)).mono ?_
          rintro e w6 ⟨rfl, f6, o6⟩
          have f7 := f5.only o6 (hD2 w5)
          obtain ⟨a7, cap7, rfl⟩ := f7.form
          go_wp2_with fail
          go_roundw
          case rel => exact ⟨acc ++ [(i : Int)], refl c i x, m', f6, by rw [o6.size]; rw [List.length_append] at f7; exact f7, HI2, by simp; omega, HR2, by rw [o6.size]; exact Nat.le_trans hs b45.size, hb5.trans (o6.below (fun b hb' => hb'.1))⟩
          case measure => simp [lenV]; omega

theorem lets_rev {n : Nat} {w : List Int} (h : Lets n w) : Lets n w.reverse := fun x hx => h x (by simpa using hx)

/-- Two lists of the call's own, apart. -/
def Two (L1 L2 : List Int) (ok : Bool) (w : World) (e : Ending) (w' : World) : Prop := ∃ r1 r2, e = .returned (.tuple #[r1, r2, .bool ok]) ∧ FI (New w w') w' r1 L1 ∧ FI (New w w') w' r2 L2 ∧ (∀ b, r1.ownBlock = some b → r2.ownBlock ≠ some b) ∧ Below w.heap.size w w'
def Two2 (L1 L2 : List Int) (w : World) (e : Ending) (w' : World) : Prop := ∃ r1 r2, e = .returned (.tuple #[r1, r2]) ∧ FI (New w w') w' r1 L1 ∧ FI (New w w') w' r2 L2 ∧ (∀ b, r1.ownBlock = some b → r2.ownBlock ≠ some b) ∧ Below w.heap.size w w'

def domOk (c : List (List Int)) (l : List Int) : Bool := isW c l && finB c
def dom1 (c : List (List Int)) (l : List Int) : List Int := if domOk c l then dmL c l else []
def dom2 (c : List (List Int)) (l : List Int) : List Int := if domOk c l then nf c 30 l else []
theorem isW_len {c : List (List Int)} {l : List Int} (h : isW c l = true) : CartanP c ∧ l.length = c.length ∧ ∀ x ∈ l, -1000 ≤ x ∧ x ≤ 1000 := by
  unfold isW at h
  simp only [Bool.and_eq_true, decide_eq_true_eq] at h
  refine ⟨isC_iff.1 h.1.1, h.1.2, fun x hx => ?_⟩
  have := allB_iff.1 h.2 x hx
  unfold wtB inR at this
  simp at this
  exact this
theorem finB_p {c : List (List Int)} (h : finB c = true) : FinP c := by
  unfold finB at h
  simp only [Bool.and_eq_true] at h
  exact ⟨isC_iff.1 h.1, h.2⟩
theorem domOk_parts {c : List (List Int)} {l : List Int} (h : domOk c l = true) : FinP c ∧ CartanP c ∧ Cor c (cors c) ∧ DomS c (cors c) l (negs c (cors c) l) := by
  unfold domOk at h
  simp only [Bool.and_eq_true] at h
  obtain ⟨h1, h2, h3⟩ := isW_len h.1
  have hf := finB_p h.2
  exact ⟨hf, h1, hf.cor, wt_start hf.cor h2 (fun x hx => by have := h3 x hx; omega), rfl⟩

theorem two_empty {w w1 w2 : World} (h1 : w1 = w.alloc (.cells #[] 3)) (h2 : w2 = w1.alloc (.cells #[] 3)) {W : World} (hb : Below W.heap.size W w) :
    FI (New W w2) w2 (.slice (some ⟨w.heap.size, 0, none⟩) 0 0) [] ∧ FI (New W w2) w2 (.slice (some ⟨w.heap.size + 1, 0, none⟩) 0 0) [] ∧ (∀ b, (Value.slice (some ⟨w.heap.size, 0, none⟩) 0 0).ownBlock = some b → (Value.slice (some ⟨w.heap.size + 1, 0, none⟩) 0 0).ownBlock ≠ some b) ∧ Below W.heap.size W w2 := by
  obtain ⟨f1, b1⟩ := fresh_of hb h1
  obtain ⟨f2, b2⟩ := fresh_of b1 h2
  have hs : w1.heap.size = w.heap.size + 1 := by rw [h1]; simp
  rw [hs] at f2
  have b12 : Below w1.heap.size w1 w2 := by rw [h2]; exact (Below.refl _ _).alloc (Nat.le_refl _) _
  exact ⟨f1.grow b12, f2, fun b e e' => by simp [Value.ownBlock] at e e'; omega, b2⟩

end Go.Proofs.YtipjomdldjbenaaGreat

/-! The product that never shortens, and longest elements, both sides. Condition: words of at most 15 letters. -/
namespace Go.Proofs.YtipjomdldjbenaaGreat
open Go.RowKit
set_option maxRecDepth 20000

def starL (c : List (List Int)) (x : List Int) (i : Int) : List Int := if (normL c (x ++ [i])).length < x.length then x else normL c (x ++ [i])
def starW (c : List (List Int)) : List Int → List Int → List Int
  | x, [] => x
  | x, i :: w => starW c (starL c x i) w
theorem starL_yes {c : List (List Int)} {x : List Int} {i : Int} (h : (normL c (x ++ [i])).length < x.length) : starL c x i = x := by unfold starL; rw [if_pos h]
theorem starL_no {c : List (List Int)} {x : List Int} {i : Int} (h : ¬ (normL c (x ++ [i])).length < x.length) : starL c x i = normL c (x ++ [i]) := by unfold starL; rw [if_neg h]
theorem lets_snoc {n : Nat} {x : List Int} {i : Nat} (hx : Lets n x) (hi : i < n) : Lets n (x ++ [(i : Int)]) := fun y hy => by
  rcases List.mem_append.1 hy with h | h
  · exact hx y h
  · simp at h; omega
theorem starL_ok {c : List (List Int)} (hc : CartanP c) {x : List Int} {i : Nat} (hx : Lets c.length x) (hi : i < c.length) (hl : x.length ≤ 28) : Lets c.length (starL c x i) ∧ (starL c x i).length ≤ x.length + 1 := by
  unfold starL
  split
  · exact ⟨hx, by omega⟩
  · exact ⟨normL_lets hc (lets_snoc hx hi) (by simp; omega), (norm_snoc hc hx hi hl).1⟩
theorem starW_drop {c : List (List Int)} {x w : List Int} {k : Nat} {i : Int} (h : w[k]? = some i) : starW c x (w.drop k) = starW c (starL c x i) (w.drop (k + 1)) := by
  rw [drop_step h]; rfl

set_option maxHeartbeats 1000000 in
theorem cloneInts {S : Nat → Prop} {v : Value} {l : List Int} {w : World} (h : RI S w v l) (hl : l.length ≤ 16777216) :
    Calls Tryz.prog 44 #[v] w fun e w' => ∃ r, e = .returned r ∧ FI (New w w') w' r l ∧ Below w.heap.size w w' := by
  obtain ⟨a, cap, rfl⟩ := h.form
  cases a with
  | none =>
    have h0 : l = [] := by
      obtain ⟨_, _, hv, _, hc⟩ := h
      simp only [Value.slice.injEq] at hv
      obtain ⟨rfl, _, _⟩ := hv
      rcases hc with h | ⟨b, o, e, _⟩
      · exact h
      · cases e
    subst h0
    show Calls Tryz.prog 44 #[.slice none 0 cap] w _
    clear h hl
    go_enter Tryz.func44, Tryz.ntmps44
    have he : ∀ w : World, (binOp .eql 23 (.slice none 0 cap) (.slice none 0 0)).run Tryz.prog w = .ok (.bool true) w := fun _ => rfl
    go_wp2_with fail
    go_ret
    exact ⟨_, rfl, FI.empty _ _, Below.refl _ _⟩
  | some ad =>
    obtain ⟨f1, b1⟩ := fresh_of (w := w) (Below.refl _ w) rfl
    have he : ∀ (w : World) (n : Nat), (binOp .eql 23 (.slice (some ad) n cap) (.slice none 0 0)).run Tryz.prog w = .ok (.bool false) w := fun _ _ => rfl
    go_enter Tryz.func44, Tryz.ntmps44
    go_wp2_with (at_builtin; go_must (refine wpList_app (W := w) rfl _ _ rfl rfl f1 b1 rfl (h.below b1) ?_ ?_))
    · simp; omega
    · intro v1 w2 f2 b2 _
      go_wp2_with fail
      go_ret
      exact ⟨_, rfl, f2, b2⟩

end Go.Proofs.YtipjomdldjbenaaGreat

/-! The product that never shortens by the reference; whether a word covers all. Condition: sizes up to 2^24. -/
namespace Go.Proofs.YtipjomdldjbenaaGreat
open Go.RowKit
set_option maxRecDepth 20000

set_option maxHeartbeats 1000000 in
theorem concatSpec {S S' : Nat → Prop} {u v : Value} {l l' : List Int} {w : World} (h : RI S w u l) (h' : RI S' w v l') (hl : l.length ≤ 16777216) (hl' : l'.length ≤ 16777216) :
    Calls Tryz.prog 66 #[u, v] w fun e w' => ∃ r, e = .returned r ∧ FI (New w w') w' r (l ++ l') ∧ Below w.heap.size w w' := by
  obtain ⟨a, cap, rfl⟩ := h.form
  obtain ⟨a', cap', rfl⟩ := h'.form
  obtain ⟨f1, b1⟩ := fresh_of (w := w) (Below.refl _ w) rfl
  go_enter Tryz.func66, Tryz.ntmps66
  go_wp2_with (at_builtin; go_must (refine wpList_app (W := w) rfl _ _ rfl rfl f1 b1 rfl (h.below b1) ?_ ?_))
  · first | omega | (simp; omega) | (simp; done)
  · intro v2 w2 f2 b2 _
    clear f1 b1
    go_wp2_with (at_builtin; go_must (refine wpList_app (W := w) rfl _ _ rfl rfl f2 b2 rfl (h'.below b2) ?_ ?_))
    · first | omega | (simp; omega) | (simp; done)
    · intro v3 w3 f3 b3 _
      go_wp2_with fail
      go_ret
      exact ⟨_, rfl, f3, b3⟩

theorem starL_gt {c : List (List Int)} (_ : CartanP c) {x : List Int} {i : Nat} (_ : Lets c.length x) (_ : i < c.length) (_ : x.length ≤ 28) (h : x.length < (normL c (x ++ [(i : Int)])).length) : starL c x i = normL c (x ++ [(i : Int)]) := starL_no (by omega)
theorem starL_ngt {c : List (List Int)} (hc : CartanP c) {x : List Int} {i : Nat} (hx : Lets c.length x) (hi : i < c.length) (hl : x.length ≤ 28) (h : ¬ x.length < (normL c (x ++ [(i : Int)])).length) : starL c x i = x := starL_yes (by have := (norm_snoc hc hx hi hl).2; omega)

theorem rep_step (k : Nat) : List.replicate (k + 1) (-1 : Int) = List.replicate k (-1) ++ [-1] := by simp [List.replicate_succ']

end Go.Proofs.YtipjomdldjbenaaGreat
