/- Polynomials without zeros at their end. Condition: at most 2^24 numbers. Values, sums and differences of polynomials, by the reference; values by the program. Condition: at most 2^23 numbers of Go's int. Differences and shifts of polynomials by the reference. Condition: at most 2^22 numbers of Go's int. Sums, differences and shifts of polynomials by the program. Condition: at most 2^22 numbers of Go's int. -/
import Derived.Test.YtkgjecabigdnoaaGreatJGCart
import Derived.Test.YtkgjecabigdnoaaGreatJAppS
import Derived.Test.YtkgjecabigdnoaaGreatJGBase
import Derived.Laws.CopyOwn
/-! Polynomials without zeros at their end. Condition: at most 2^24 numbers. -/
namespace Go.Proofs.YtkgjecabigdnoaaGreat
open Go.RowKit
set_option maxRecDepth 20000

def trimTo (p : List Int) : Nat → Nat
  | 0 => 0
  | n + 1 => if num p n = 0 then trimTo p n else n + 1
def trim (p : List Int) : List Int := p.take (trimTo p p.length)
theorem trimTo_le (p : List Int) : ∀ n, trimTo p n ≤ n
  | 0 => Nat.le_refl _
  | n + 1 => by
    unfold trimTo
    have := trimTo_le p n
    split <;> omega
theorem trim_le (p : List Int) : (trim p).length ≤ p.length := by unfold trim; simp; omega
theorem RI.take {S : Nat → Prop} {w : World} {a : Option Addr} {n cap k : Nat} {l : List Int} (h : RI S w (.slice a n cap) l) (hk : k ≤ n) : RI S w (.slice a k cap) (l.take k) := by
  obtain ⟨a', cap', hv, hc, h⟩ := h
  simp only [Value.slice.injEq] at hv
  obtain ⟨rfl, rfl, rfl⟩ := hv
  have hl : (l.take k).length = k := by simp; omega
  refine ⟨a, cap, by rw [hl], ⟨by omega, hc.2⟩, ?_⟩
  rcases h with h | ⟨b, o, ha, hs, ht, h⟩
  · subst h; exact .inl (by simp)
  · exact .inr ⟨b, o, ha, hs, ht, fun j x hx => h j x (by rw [List.getElem?_take] at hx; split at hx <;> first | exact hx | cases hx)⟩

def isP (p : List Int) : Bool := decide (p.length ≤ 61) && decide (trimTo p p.length = p.length)

end Go.Proofs.YtkgjecabigdnoaaGreat

/-! Values, sums and differences of polynomials, by the reference; values by the program. Condition: at most 2^23 numbers of Go's int. -/
namespace Go.Proofs.YtkgjecabigdnoaaGreat
open Go.RowKit
set_option maxRecDepth 20000

def evalP (x : Int) : List Int → Int
  | [] => 0
  | y :: ys => wrap64 (wrap64 (evalP x ys * x) + y)
theorem evalP_step {x : Int} {l : List Int} {k : Nat} {y : Int} (h : l[k]? = some y) : evalP x (l.drop k) = wrap64 (wrap64 (evalP x (l.drop (k + 1)) * x) + y) := by rw [drop_step h]; rfl

/-- The sum, number by number, and without zeros at its end. -/
def sumTo (a b : List Int) (n : Nat) : List Int := (List.range n).map fun k => wrap64 (num a k + num b k)
def addP (a b : List Int) : List Int := trim (sumTo a b (max a.length b.length))
theorem sumTo_step (a b : List Int) (k : Nat) : sumTo a b (k + 1) = sumTo a b k ++ [wrap64 (num a k + num b k)] := by simp [sumTo, List.range_succ]
theorem sumTo_len (a b : List Int) (k : Nat) : (sumTo a b k).length = k := by simp [sumTo]
theorem num_out {l : List Int} {k : Nat} (h : l.length ≤ k) : num l k = 0 := by simp [num, List.getElem?_eq_none h]
theorem wrap_in {x : Int} (h : -9223372036854775808 ≤ x ∧ x ≤ 9223372036854775807) : wrap64 x = x := by unfold wrap64; omega
def InI (l : List Int) : Prop := ∀ x ∈ l, -9223372036854775808 ≤ x ∧ x ≤ 9223372036854775807

end Go.Proofs.YtkgjecabigdnoaaGreat

/-! Differences and shifts of polynomials by the reference. Condition: at most 2^22 numbers of Go's int. -/
namespace Go.Proofs.YtkgjecabigdnoaaGreat
open Go.RowKit
set_option maxRecDepth 20000

def negL (l : List Int) : List Int := l.map fun x => wrap64 (-x)
def subP (a b : List Int) : List Int := addP a (negL b)
theorem negL_step {l : List Int} {k : Nat} {x : Int} (h : l[k]? = some x) : negL (l.take (k + 1)) = negL (l.take k) ++ [wrap64 (-x)] := by rw [take_step h]; simp [negL]
theorem wrap_in' (x : Int) : -9223372036854775808 ≤ wrap64 x ∧ wrap64 x ≤ 9223372036854775807 := by unfold wrap64; omega
theorem negL_in (l : List Int) : InI (negL l) := fun x hx => by
  obtain ⟨y, _, rfl⟩ := List.mem_map.1 hx
  exact wrap_in' _
theorem trim_mem {l : List Int} {x : Int} (h : x ∈ trim l) : x ∈ l := List.mem_of_mem_take h
theorem addP_in (a b : List Int) : InI (addP a b) := fun x hx => by
  obtain ⟨k, _, rfl⟩ := List.mem_map.1 (trim_mem hx)
  exact wrap_in' _
theorem addP_le (a b : List Int) : (addP a b).length ≤ max a.length b.length := by
  have := trim_le (sumTo a b (max a.length b.length))
  rw [sumTo_len] at this
  exact this

def shiftP (p : List Int) (k : Nat) : List Int := if p.length = 0 then trim p else trim (List.replicate k 0 ++ p)

end Go.Proofs.YtkgjecabigdnoaaGreat

/-! Sums, differences and shifts of polynomials by the program. Condition: at most 2^22 numbers of Go's int. -/
namespace Go.Proofs.YtkgjecabigdnoaaGreat
open Go.RowKit
set_option maxRecDepth 20000

section
variable {w : World} {ops : Array Oper} {rest : List Oper} {o : Oper} {a : Act} {Q : Exit → Act → World → Prop}
/-- copy(v, x): v numbers of the call's own, x at most as many. -/
theorem wpList_copyI {S : Nat → Prop} {W : World} (hgd : o.guard = none) (d s : Operand)
    (ho : o.op = .call { callee := .builtin .copy, args := #[d, s], argTypes := #[23, 23] })
    {g n cap : Nat} {L l2 : List Int} (hd : a.eval d = .slice (some ⟨g, 0, none⟩) n cap) (hf : FI (New W w) w (.slice (some ⟨g, 0, none⟩) n cap) L) (hL : L.length = n) (hb : Below W.heap.size W w)
    {sa : Option Addr} {m c : Nat} (hx : a.eval s = .slice sa m c) (hr : RI S w (.slice sa m c) l2) (hmn : m ≤ n)
    (h : ∀ w', FI (New W w') w' (.slice (some ⟨g, 0, none⟩) n cap) (l2 ++ L.drop m) → Below W.heap.size W w' → wpList Tryz.prog ops Q rest (a.put o.dst (goInt m)) w') : wpList Tryz.prog ops Q (o :: rest) a w := by
  subst hL
  obtain ⟨hown, hS⟩ := hf
  obtain ⟨a', cap', hv, hcap, hcase⟩ := hr
  simp only [Value.slice.injEq] at hv
  obtain ⟨rfl, rfl, rfl⟩ := hv
  have hSg := hS g rfl
  rcases hown.2 with ⟨hv, _⟩ | ⟨g', cap', cur, hv, _, hg, hnc, hcm, hcs, htake⟩
  · cases hv
  · simp only [Value.slice.injEq, Option.some.injEq, Addr.mk.injEq, and_true, true_and] at hv
    obtain ⟨rfl, rfl⟩ := hv
    have hcl : cur.toList.length = cap := by simpa using hcs
    refine wpList_copy_splice (P := Tryz.prog) (w := w) hgd d s 23 23 ho 3 Tryz.underlying23 (by kernel_rfl) (some ⟨g, 0, none⟩) sa L.length cap l2.length c hd hx g 0 cur.toList 3 (by simpa using hg) (l2.map (Value.int .i64)) (by rw [List.length_map]; exact (Nat.min_eq_left hmn).symm) (fun hp => ?_) (by simp; simp at hcl; omega) (fun v hv => ?_) g w (Below.refl _ _) (Nat.le_refl _) (fun w' hg' hb' => ?_)
    · rcases hcase with h0 | ⟨b, off, ha, _, _, hc⟩
      · subst h0; simp at hp
      · refine ⟨rfl, _, ha, fun j v hj => ?_⟩
        rw [List.getElem?_map] at hj
        obtain ⟨x, hx1, hx2⟩ := Option.map_eq_some_iff.1 hj
        obtain ⟨r, h1, h2⟩ := hc j x hx1
        have hadd : (⟨b, off, none⟩ : Addr).add j = ⟨b, off + j, none⟩ := by unfold Addr.add; split <;> simp_all
        rw [hadd, h1, ← hx2]
        exact congrArg some h2
    · obtain ⟨x, _, rfl⟩ := List.mem_map.1 hv
      rfl
    · have e1 : (l2.map (Value.int .i64)).length = l2.length := by simp
      rw [e1]
      have hgs : g < w'.heap.size := (Array.getElem?_eq_some_iff.1 hg'.out).1
      have e0 : (l2 ++ L.drop l2.length).length = L.length := by simp; omega
      refine h w' ⟨⟨?_, .inr ⟨g, cap, _, by rw [e0], Nat.zero_le _, hg'.out, ?_, hcm, ?_, ?_⟩⟩, fun b hb2 => ?_⟩ (hb.trans (hb'.mono hSg.1))
      · rw [List.length_map, Nat.mul_one]
      · simp; omega
      · simp [splice]; simp at hcl; omega
      · simp only [splice, List.take_zero, List.nil_append, Nat.zero_add, List.length_map]
        have e2 : cur.toList = L.map (Value.int .i64) ++ cur.toList.drop L.length := by
          rw [← htake]; simp
        have e3 : (l2 ++ L.drop l2.length).length = L.length := by simp; omega
        rw [e3, Nat.mul_one]
        have e4 : cur.toList.drop l2.length = (L.map (Value.int .i64)).drop l2.length ++ cur.toList.drop L.length := by
          conv => lhs; rw [e2]
          rw [List.drop_append_of_le_length (by simp; omega)]
        rw [e4, ← List.append_assoc, List.take_append_of_le_length (by simp; omega)]
        rw [List.take_of_length_le (by simp; omega)]
        simp
      · simp [Value.ownBlock] at hb2
        subst hb2
        exact ⟨hSg.1, hgs⟩
end

/-- A list padded with zeros, its first k numbers combined with another's. -/
def midL (f : Int → Int → Int) (a b : List Int) (M k : Nat) : List Int := ((List.range k).map fun j => f (num a j) (num b j)) ++ (a ++ List.replicate (M - a.length) 0).drop k
theorem midL_0 {f : Int → Int → Int} {a b : List Int} {M : Nat} (_h : a.length ≤ M) : midL f a b M 0 = a ++ (List.replicate M (0 : Int)).drop a.length := by simp [midL]
theorem midL_len {f : Int → Int → Int} {a b : List Int} {M : Nat} (k : Nat) (h : a.length ≤ M ∧ k ≤ M) : (midL f a b M k).length = M := by simp [midL]; omega
theorem num_pad {a : List Int} {M j : Nat} (hj : j < M) (h : a.length ≤ M) : (a ++ List.replicate (M - a.length) 0)[j]? = some (num a j) := by
  rcases Nat.lt_or_ge j a.length with h1 | h1
  · rw [List.getElem?_append_left h1]; simp [num, h1]
  · rw [List.getElem?_append_right h1, num_out h1, List.getElem?_replicate, if_pos (by omega)]
theorem midL_step {f : Int → Int → Int} {a b : List Int} {M k : Nat} {x y : Int} (hx : (midL f a b M k)[k]? = some x) (hy : b[k]? = some y) (h : a.length ≤ M ∧ b.length ≤ M) : (midL f a b M k).set k (f x y) = midL f a b M (k + 1) := by
  have hk : k < b.length := (List.getElem?_eq_some_iff.1 hy).1
  have hr : ((List.range k).map fun j => f (num a j) (num b j)).length = k := by simp
  have hp := num_pad (a := a) (M := M) (j := k) (by omega) h.1
  unfold midL at hx ⊢
  rw [List.getElem?_append_right (by rw [hr]; exact Nat.le_refl _), hr, Nat.sub_self, List.getElem?_drop, Nat.add_zero, hp] at hx
  injection hx with hx
  subst hx
  rw [List.set_append_right _ _ (by rw [hr]; exact Nat.le_refl _), hr, Nat.sub_self, drop_step hp, List.range_succ, List.map_append]
  simp [num_at hy]
theorem add_fin {a b : List Int} (hi : InI a) : trim (midL (fun x y => wrap64 (x + y)) a b (max a.length b.length) b.length) = addP a b := by
  unfold addP
  congr 1
  refine List.ext_getElem? fun j => ?_
  rcases Nat.lt_or_ge j (max a.length b.length) with hj | hj
  · have e : (sumTo a b (max a.length b.length))[j]? = some (wrap64 (num a j + num b j)) := by simp [sumTo, hj]
    rw [e]
    unfold midL
    have hr : ((List.range b.length).map fun j => wrap64 (num a j + num b j)).length = b.length := by simp
    rcases Nat.lt_or_ge j b.length with h1 | h1
    · rw [List.getElem?_append_left (by rw [hr]; exact h1)]; simp [h1]
    · rw [List.getElem?_append_right (by rw [hr]; exact h1), hr, List.getElem?_drop, show b.length + (j - b.length) = j by omega, num_pad hj (by omega), num_out h1, Int.add_zero]
      have hja : j < a.length := by omega
      have : num a j ∈ a := by simp [num, hja]
      rw [wrap_in (hi _ this)]
  · rw [List.getElem?_eq_none (by rw [midL_len _ (by omega)]; exact hj), List.getElem?_eq_none (by rw [sumTo_len]; exact hj)]
theorem num_neg (b : List Int) (j : Nat) : num (negL b) j = wrap64 (-(num b j)) := by
  unfold num negL
  rw [List.getElem?_map]
  cases b[j]? with
  | none => simp [wrap64]
  | some x => simp
theorem wrap_sub (x y : Int) : wrap64 (x + wrap64 (-y)) = wrap64 (x - y) := by unfold wrap64; omega
theorem sub_fin {a b : List Int} (hi : InI a) : trim (midL (fun x y => wrap64 (x - y)) a b (max a.length b.length) b.length) = subP a b := by
  unfold subP
  have hl : (negL b).length = b.length := by simp [negL]
  rw [← add_fin hi, hl]
  congr 1
  unfold midL
  congr 1
  refine List.map_congr_left fun j _ => ?_
  show wrap64 (num a j - num b j) = wrap64 (num a j + num (negL b) j)
  rw [num_neg, wrap_sub]

end Go.Proofs.YtkgjecabigdnoaaGreat
