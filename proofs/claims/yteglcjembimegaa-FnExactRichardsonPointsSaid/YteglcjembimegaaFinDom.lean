/- Matrices of finite type: every weight becomes dominant after at most 24 reflections, and its numbers stay small. Plain. Condition: numbers up to 1001. -/
import Derived.Test.YteglcjembimegaaNorm
import Derived.Test.YteglcjembimegaaFinL
namespace Go.Proofs.Yteglcjembimegaa
open Go.RowKit
set_option maxRecDepth 20000
set_option linter.unusedVariables false

/-- A coroot reflected. -/
def cRef (n : Nat) (c : List (List Int)) (i : Nat) (b : List Int) : List Int := (List.range n).map fun j => Cox.sR n (Cox.tr (ent c)) i (num b) j
def unitL (n i : Nat) : List Int := (List.range n).map fun j => Cox.e i j

/-- Coroots as numbers: four digits to the base 16. -/
def dg (b k : Nat) : Nat := b / 16 ^ k % 16
def sumN (f : Nat → Nat) : Nat → Nat
  | 0 => 0
  | n + 1 => sumN f n + f n
def mkD (n : Nat) (f : Nat → Nat) : Nat := sumN (fun k => f k * 16 ^ k) n
def offN (c : List (List Int)) (k i : Nat) : Nat := if k = i then 0 else (-(ent c k i)).toNat
def upN (n : Nat) (c : List (List Int)) (i b : Nat) : Nat := sumN (fun k => dg b k * offN c k i) n
def sB (n : Nat) (c : List (List Int)) (i b : Nat) : Nat := mkD n fun j => if j = i then upN n c i b - dg b i else dg b j
def bfs (n : Nat) (c : List (List Int)) : Nat → List Nat → Nat → List Nat
  | 0, T, _ => T
  | f + 1, T, k => match T[k]? with
    | none => T
    | some b => bfs n c f ((List.range n).foldl (fun T i => if dg b i ≤ upN n c i b && !(T.contains (sB n c i b)) then T ++ [sB n c i b] else T) T) (k + 1)
def corts (c : List (List Int)) : List Nat := bfs c.length c 30 ((List.range c.length).map (16 ^ ·)) 0
def nodupB : List Nat → Bool
  | [] => true
  | x :: l => !(l.contains x) && nodupB l
def chkT (c : List (List Int)) (T : List Nat) : Bool :=
  decide (T.length ≤ 24) && (nodupB T && (T.all (fun b => decide (sumN (dg b) c.length ≤ 12) && decide (mkD c.length (dg b) = b)) &&
  (List.range c.length).all fun i => T.contains (16 ^ i) && T.all fun b => decide (b = 16 ^ i) || (decide (dg b i ≤ upN c.length c i b) && (decide (upN c.length c i b - dg b i < 16) && (T.contains (sB c.length c i b) && !(decide (sB c.length c i b = 16 ^ i)))))))
theorem chk_all : (Fin.L1 ++ Fin.L2 ++ Fin.L3 ++ Fin.L4).all (fun c => chkT c (corts c)) = true := by decide +kernel

/-- A matrix of finite type. -/
structure FinP (c : List (List Int)) : Prop where
  cart : CartanP c
  pos : Fin.isFin c = true
theorem FinP.listed {c : List (List Int)} (h : FinP c) : c ∈ Fin.L1 ++ Fin.L2 ++ Fin.L3 ++ Fin.L4 := by
  have hk := h.cart.car
  exact Fin.mem_lists h.cart.pos h.cart.le ⟨rfl, h.cart.row⟩ ⟨hk.diag, hk.off, fun i j hi hj => ⟨hk.zero i j hi hj, hk.zero j i hj hi⟩⟩ h.pos
/-- A check of all of them serves each. -/
theorem FinP.all {c : List (List Int)} (h : FinP c) {P : List (List Int) → Bool} (hP : (Fin.L1 ++ Fin.L2 ++ Fin.L3 ++ Fin.L4).all P = true) : P c = true := List.all_eq_true.1 hP c h.listed

structure Cor (c : List (List Int)) (T : List (List Int)) : Prop where
  len : T.length ≤ 24
  nonneg : ∀ b ∈ T, ∀ x ∈ b, 0 ≤ x
  small : ∀ b ∈ T, Cox.dotN (num b) Cox.one c.length ≤ 12
  unit : ∀ i, i < c.length → unitL c.length i ∈ T
  perm : ∀ i, i < c.length → ((T.erase (unitL c.length i)).map (cRef c.length c i)).Perm (T.erase (unitL c.length i))
theorem num_range {n : Nat} {f : Nat → Int} {k : Nat} (hk : k < n) : num ((List.range n).map f) k = f k := by simp [num, hk]
theorem dotN_congr1 {f f' g : Nat → Int} {n : Nat} (h : ∀ k, k < n → f k = f' k) : Cox.dotN f g n = Cox.dotN f' g n := by
  rw [Cox.dotN_comm, Cox.dotN_congr (f := g) h, Cox.dotN_comm]

theorem perm_of_sub {α : Type} [DecidableEq α] : ∀ {l l' : List α}, l.Nodup → (∀ x ∈ l, x ∈ l') → l'.length ≤ l.length → l.Perm l'
  | [], l', _, _, h => by
    have : l' = [] := List.eq_nil_of_length_eq_zero (by simpa using h)
    subst this; exact List.Perm.nil
  | a :: l, l', hn, hs, hl => by
    have ha := hs a (by simp)
    have hp := List.perm_cons_erase ha
    refine List.Perm.trans ((perm_of_sub (l' := l'.erase a) (List.nodup_cons.1 hn).2 (fun x hx => ?_) ?_).cons a) hp.symm
    · have hne : x ≠ a := fun e => (List.nodup_cons.1 hn).1 (e ▸ hx)
      exact (List.mem_erase_of_ne hne).2 (hs x (by simp [hx]))
    · rw [List.length_erase_of_mem ha]
      simp at hl
      omega

def vecOf (n b : Nat) : List Int := (List.range n).map fun k => (dg b k : Int)
theorem num_vec {n b k : Nat} (hk : k < n) : num (vecOf n b) k = (dg b k : Int) := num_range hk
theorem dg_mk {n : Nat} (hn : n ≤ 4) {f : Nat → Nat} (hf : ∀ k, k < n → f k < 16) {k : Nat} (hk : k < n) : dg (mkD n f) k = f k := by
  match n, hn, k, hk with
  | 1, _, 0, _ => have := hf 0 (by omega); simp [dg, mkD, sumN]; omega
  | 2, _, 0, _ => have := hf 0 (by omega); have := hf 1 (by omega); simp [dg, mkD, sumN]; omega
  | 2, _, 1, _ => have := hf 0 (by omega); have := hf 1 (by omega); simp [dg, mkD, sumN]; omega
  | 3, _, 0, _ => have := hf 0 (by omega); have := hf 1 (by omega); have := hf 2 (by omega); simp [dg, mkD, sumN]; omega
  | 3, _, 1, _ => have := hf 0 (by omega); have := hf 1 (by omega); have := hf 2 (by omega); simp [dg, mkD, sumN]; omega
  | 3, _, 2, _ => have := hf 0 (by omega); have := hf 1 (by omega); have := hf 2 (by omega); simp [dg, mkD, sumN]; omega
  | 4, _, 0, _ => have := hf 0 (by omega); have := hf 1 (by omega); have := hf 2 (by omega); have := hf 3 (by omega); simp [dg, mkD, sumN]; omega
  | 4, _, 1, _ => have := hf 0 (by omega); have := hf 1 (by omega); have := hf 2 (by omega); have := hf 3 (by omega); simp [dg, mkD, sumN]; omega
  | 4, _, 2, _ => have := hf 0 (by omega); have := hf 1 (by omega); have := hf 2 (by omega); have := hf 3 (by omega); simp [dg, mkD, sumN]; omega
  | 4, _, 3, _ => have := hf 0 (by omega); have := hf 1 (by omega); have := hf 2 (by omega); have := hf 3 (by omega); simp [dg, mkD, sumN]; omega
theorem dg_lt (b k : Nat) : dg b k < 16 := Nat.mod_lt _ (by omega)
theorem dg_unit {i k : Nat} (hi : i < 4) (hk : k < 4) : (dg (16 ^ i) k : Int) = Cox.e i k := by
  match i, hi, k, hk with
  | 0, _, 0, _ => rfl
  | 0, _, 1, _ => rfl
  | 0, _, 2, _ => rfl
  | 0, _, 3, _ => rfl
  | 1, _, 0, _ => rfl
  | 1, _, 1, _ => rfl
  | 1, _, 2, _ => rfl
  | 1, _, 3, _ => rfl
  | 2, _, 0, _ => rfl
  | 2, _, 1, _ => rfl
  | 2, _, 2, _ => rfl
  | 2, _, 3, _ => rfl
  | 3, _, 0, _ => rfl
  | 3, _, 1, _ => rfl
  | 3, _, 2, _ => rfl
  | 3, _, 3, _ => rfl
theorem vec_unit {n i : Nat} (hn : n ≤ 4) (hi : i < n) : vecOf n (16 ^ i) = unitL n i :=
  List.map_congr_left fun k hk => dg_unit (by omega) (by have := List.mem_range.1 hk; omega)
theorem mk_congr {f g : Nat → Nat} : ∀ {n : Nat}, (∀ k, k < n → f k = g k) → sumN f n = sumN g n
  | 0, _ => rfl
  | n + 1, h => by simp only [sumN]; rw [mk_congr (fun k hk => h k (by omega)), h n (by omega)]
theorem vec_inj {n b b' : Nat} (h : mkD n (dg b) = b) (h' : mkD n (dg b') = b') (e : vecOf n b = vecOf n b') : b = b' := by
  rw [← h, ← h']
  refine mk_congr fun k hk => ?_
  have h1 := num_vec (b := b) hk
  rw [e, num_vec hk] at h1
  rw [Int.ofNat_inj.1 h1]
theorem up_dot {c : List (List Int)} (hc : CartanP c) {i b : Nat} (hi : i < c.length) : ∀ {n : Nat}, n ≤ c.length → Cox.dotN (fun k => Cox.tr (ent c) i k) (fun k => (dg b k : Int)) n = (if i < n then 2 * (dg b i : Int) else 0) - (sumN (fun k => dg b k * offN c k i) n : Int)
  | 0, _ => by simp [Cox.dotN, sumN]
  | n + 1, hn => by
    have ih := up_dot hc (b := b) hi (n := n) (by omega)
    simp only [Cox.dotN, sumN]
    rw [ih]
    have hd := hc.car.diag i hi
    by_cases h : n = i
    · subst h
      simp [offN, Cox.tr, hd]
      omega
    · have ho := hc.car.off n i (by omega) hi h
      obtain ⟨a, ha⟩ : ∃ a : Nat, ent c n i = -(a : Int) := ⟨(-(ent c n i)).toNat, by omega⟩
      have e1 : Cox.tr (ent c) i n = -(a : Int) := ha
      have e2 : offN c n i = a := by unfold offN; rw [if_neg h, ha]; simp
      rw [e1, e2]
      have e3 : (i < n + 1) = (i < n) := by apply propext; omega
      simp only [e3]
      rw [Int.natCast_add, Int.natCast_mul, Int.neg_mul, Int.mul_comm (a : Int)]
      omega
theorem ref_vec {c : List (List Int)} (hc : CartanP c) {i b : Nat} (hi : i < c.length) (h1 : dg b i ≤ upN c.length c i b) (h2 : upN c.length c i b - dg b i < 16) : cRef c.length c i (vecOf c.length b) = vecOf c.length (sB c.length c i b) := by
  unfold cRef
  conv => rhs; unfold vecOf
  refine List.map_congr_left fun j hj => ?_
  have hj := List.mem_range.1 hj
  have hd := up_dot hc (b := b) hi (Nat.le_refl _)
  rw [if_pos hi] at hd
  unfold Cox.sR
  rw [Cox.dotN_congr (h := fun k => (dg b k : Int)) (fun k hk => num_vec hk)]
  have hd' : Cox.dotN (Cox.tr (ent c) i) (fun k => (dg b k : Int)) c.length = 2 * (dg b i : Int) - (upN c.length c i b : Int) := hd
  rw [hd', num_vec hj]
  unfold sB
  rw [dg_mk hc.le (fun k hk => by split; exact h2; exact dg_lt _ _) hj]
  unfold Cox.e
  by_cases h : j = i
  · subst h; simp; omega
  · simp [h]
theorem nodupB_iff : ∀ {l : List Nat}, nodupB l = true → l.Nodup
  | [], _ => List.nodup_nil
  | x :: l, h => by
    simp only [nodupB, Bool.and_eq_true, Bool.not_eq_true', List.contains_eq_mem, decide_eq_false_iff_not] at h
    exact List.nodup_cons.2 ⟨h.1, nodupB_iff h.2⟩
theorem nodup_map {α β : Type} {f : α → β} : ∀ {l : List α}, (∀ x ∈ l, ∀ y ∈ l, f x = f y → x = y) → l.Nodup → (l.map f).Nodup
  | [], _, _ => List.nodup_nil
  | a :: l, h, hn => by
    rw [List.map_cons, List.nodup_cons]
    refine ⟨fun hm => ?_, nodup_map (fun x hx y hy => h x (by simp [hx]) y (by simp [hy])) (List.nodup_cons.1 hn).2⟩
    obtain ⟨y, hy, e⟩ := List.mem_map.1 hm
    have := h a (by simp) y (by simp [hy]) e.symm
    exact (List.nodup_cons.1 hn).1 (this ▸ hy)
theorem ref_two {c : List (List Int)} (hc : CartanP c) {i : Nat} (hi : i < c.length) {b : List Int} (hb : b.length = c.length) : cRef c.length c i (cRef c.length c i b) = b := by
  refine List.ext_getElem (by simp [cRef, hb]) fun j h1 h2 => ?_
  have hj : j < c.length := by omega
  have e1 : (cRef c.length c i (cRef c.length c i b))[j] = Cox.sR c.length (Cox.tr (ent c)) i (num (cRef c.length c i b)) j := by simp [cRef]
  have e2 : ∀ k, k < c.length → num (cRef c.length c i b) k = Cox.sR c.length (Cox.tr (ent c)) i (num b) k := fun k hk => num_range hk
  have e3 : Cox.sR c.length (Cox.tr (ent c)) i (num (cRef c.length c i b)) j = Cox.sR c.length (Cox.tr (ent c)) i (Cox.sR c.length (Cox.tr (ent c)) i (num b)) j := by
    conv => lhs; unfold Cox.sR
    conv => rhs; unfold Cox.sR
    rw [Cox.dotN_congr e2, e2 j hj]
    rfl
  rw [e1, e3, Cox.sR_two hc.car.tr hi]
  simp [num, h2]
theorem sum_one {f : Nat → Nat} {g : Nat → Int} : ∀ {n : Nat}, (∀ k, k < n → g k = (f k : Int)) → Cox.dotN g Cox.one n = (sumN f n : Int)
  | 0, _ => rfl
  | n + 1, h => by
    simp only [Cox.dotN, sumN]
    rw [sum_one (fun k hk => h k (by omega)), h n (by omega)]
    simp [Cox.one]
def cors (c : List (List Int)) : List (List Int) := (corts c).map (vecOf c.length)
theorem FinP.cor {c : List (List Int)} (h : FinP c) : Cor c (cors c) := by
  have hc := h.cart
  have := h.all chk_all
  unfold chkT at this
  simp only [Bool.and_eq_true, decide_eq_true_eq, List.all_eq_true, List.mem_range, List.contains_eq_mem, Bool.or_eq_true, Bool.not_eq_true', decide_eq_false_iff_not] at this
  obtain ⟨h1, h2, h3, h4⟩ := this
  have hnd := nodupB_iff h2
  unfold cors
  generalize corts c = T at *
  have hinj : ∀ x ∈ T, ∀ y ∈ T, vecOf c.length x = vecOf c.length y → x = y := fun x hx y hy e => vec_inj (h3 x hx).2 (h3 y hy).2 e
  have hu : ∀ i, i < c.length → unitL c.length i ∈ T.map (vecOf c.length) := fun i hi => List.mem_map.2 ⟨_, (h4 i hi).1, vec_unit hc.le hi⟩
  refine ⟨by simpa using h1, fun b hb x hx => ?_, fun b hb => ?_, hu, fun i hi => ?_⟩
  · obtain ⟨b, _, rfl⟩ := List.mem_map.1 hb
    obtain ⟨k, _, rfl⟩ := List.mem_map.1 hx
    omega
  · obtain ⟨b, hb', rfl⟩ := List.mem_map.1 hb
    rw [sum_one (f := dg b) (fun k hk => num_vec hk)]
    have := (h3 b hb').1
    omega
  · have hn := nodup_map hinj hnd
    have hlen : ∀ b ∈ T.map (vecOf c.length), b.length = c.length := fun b hb => by
      obtain ⟨b, _, rfl⟩ := List.mem_map.1 hb
      simp [vecOf]
    refine perm_of_sub (nodup_map (fun x hx y hy e => ?_) (hn.erase _)) (fun x hx => ?_) (by simp)
    · have := congrArg (cRef c.length c i) e
      rwa [ref_two hc hi (hlen x (List.mem_of_mem_erase hx)), ref_two hc hi (hlen y (List.mem_of_mem_erase hy))] at this
    · obtain ⟨y, hy, rfl⟩ := List.mem_map.1 hx
      have hy' := List.mem_of_mem_erase hy
      obtain ⟨b, hb, rfl⟩ := List.mem_map.1 hy'
      have hne : b ≠ 16 ^ i := fun e => by
        rw [e, vec_unit hc.le hi] at hy
        exact (List.Nodup.mem_erase_iff hn).1 hy |>.1 rfl
      rcases (h4 i hi).2 b hb with e | ⟨k1, k2, k3, k4⟩
      · exact absurd e hne
      · rw [ref_vec hc hi k1 k2]
        refine (List.Nodup.mem_erase_iff hn).2 ⟨fun e => k4 ?_, List.mem_map.2 ⟨_, k3, rfl⟩⟩
        rw [← vec_unit hc.le hi] at e
        exact hinj _ k3 _ (h4 i hi).1 e

def prL (n : Nat) (b v : List Int) : Int := Cox.dotN (num b) (num v) n
theorem pr_unit {n i : Nat} (hi : i < n) (v : List Int) : prL n (unitL n i) v = num v i := by
  unfold prL unitL
  rw [dotN_congr1 (f' := Cox.e i) (fun k hk => num_range hk), Cox.dotN_comm, Cox.dotN_e _ _ _ hi]

/-- The numbers of a weight along all coroots are small. -/
structure Wt (c T : List (List Int)) (v : List Int) : Prop where
  len : v.length = c.length
  bd : ∀ b ∈ T, -12012 ≤ prL c.length b v ∧ prL c.length b v ≤ 12012

theorem dot_bound {x : Nat → Int} {m : Nat → Int} {B : Int} (hB : 0 ≤ B) : ∀ {n : Nat}, (∀ k, k < n → 0 ≤ x k) → (∀ k, k < n → -B ≤ m k ∧ m k ≤ B) → -(B * Cox.dotN x Cox.one n) ≤ Cox.dotN x m n ∧ Cox.dotN x m n ≤ B * Cox.dotN x Cox.one n
  | 0, _, _ => by simp [Cox.dotN]
  | n + 1, hx, hm => by
    have h1 := dot_bound hB (fun k hk => hx k (by omega)) (fun k hk => hm k (by omega)) (n := n)
    have h2 := hx n (by omega)
    obtain ⟨h3, h4⟩ := hm n (by omega)
    have h5 : x n * m n ≤ x n * B := Int.mul_le_mul_of_nonneg_left h4 h2
    have h6 : x n * (-B) ≤ x n * m n := Int.mul_le_mul_of_nonneg_left h3 h2
    have h7 : x n * (-B) = -(x n * B) := Int.mul_neg _ _
    have e0 : Cox.dotN x Cox.one (n + 1) = Cox.dotN x Cox.one n + x n := by simp [Cox.dotN, Cox.one]
    have e1 : Cox.dotN x m (n + 1) = Cox.dotN x m n + x n * m n := rfl
    have e : B * (Cox.dotN x Cox.one n + x n) = B * Cox.dotN x Cox.one n + x n * B := by rw [Int.mul_add, Int.mul_comm B (x n)]
    rw [e0, e1, e]
    omega

theorem wt_start {c T : List (List Int)} (hT : Cor c T) {v : List Int} (hl : v.length = c.length) (hv : ∀ x ∈ v, -1001 ≤ x ∧ x ≤ 1001) : Wt c T v := by
  refine ⟨hl, fun b hb => ?_⟩
  have h0 : ∀ k, k < c.length → 0 ≤ num b k := fun k _ => by
    unfold num
    cases e : b[k]? with
    | none => simp
    | some x => exact hT.nonneg b hb x (List.mem_of_getElem? e)
  have h1 : ∀ k, k < c.length → -1001 ≤ num v k ∧ num v k ≤ 1001 := fun k hk => by
    have : num v k = v[k]'(by omega) := by simp [num, show k < v.length by omega]
    rw [this]
    exact hv _ (List.getElem_mem _)
  have := dot_bound (B := 1001) (by omega) h0 h1
  have h2 := hT.small b hb
  unfold prL
  omega

section
variable {c T : List (List Int)} {v : List Int}
theorem Wt.num (h : Wt c T v) (hT : Cor c T) {k : Nat} (hk : k < c.length) : -12012 ≤ num v k ∧ num v k ≤ 12012 := by
  have := h.bd _ (hT.unit k hk)
  rwa [pr_unit hk] at this
theorem Wt.exact {v : List Int} (h : Wt c T v) (hT : Cor c T) (hc : CartanP c) {i k : Nat} (hi : i < c.length) (hk : k < c.length) : Proofs.Yteglcjembimegaa.num (refl c i v) k = Cox.sW (ent c) i (Proofs.Yteglcjembimegaa.num v) k := by
  rw [refl_get (by rw [h.len]; exact hk)]
  have h1 := h.num hT hi
  have h2 := h.num hT hk
  unfold Cox.sW
  generalize Proofs.Yteglcjembimegaa.num v i = x at *
  generalize Proofs.Yteglcjembimegaa.num v k = y at *
  have he : ent c k i = 2 ∨ ent c k i = 0 ∨ ent c k i = -1 ∨ ent c k i = -2 ∨ ent c k i = -3 := by
    by_cases hik : k = i
    · subst hik; exact .inl (hc.car.diag k hk)
    · have ho := hc.car.off k i hk hi hik; omega
  rcases he with e | e | e | e | e <;> rw [e] <;> rw [wrap_id (x := x * _) (by omega) (by omega), wrap_id (by omega) (by omega)]
theorem Wt.turn {v : List Int} (h : Wt c T v) (hT : Cor c T) (hc : CartanP c) {i : Nat} (hi : i < c.length) (b : List Int) : prL c.length b (refl c i v) = prL c.length (cRef c.length c i b) v := by
  unfold prL cRef
  rw [Cox.dotN_congr (fun k hk => h.exact hT hc hi hk), ← Cox.wt_adj (c := ent c) _ _ hi]
  exact (dotN_congr1 (fun k hk => num_range hk)).symm
theorem pr_back {v : List Int} (hc : CartanP c) {i : Nat} (hi : i < c.length) : prL c.length (cRef c.length c i (unitL c.length i)) v = -(num v i) := by
  have h1 : ∀ k, k < c.length → num (cRef c.length c i (unitL c.length i)) k = Cox.e i k * (-1) := fun k hk => by
    unfold cRef
    rw [num_range hk]
    unfold Cox.sR
    have hu : ∀ k, k < c.length → num (unitL c.length i) k = Cox.e i k := fun k hk => num_range hk
    rw [Cox.dotN_congr hu, Cox.dotN_e _ _ _ hi, hu k hk]
    have := hc.car.diag i hi
    unfold Cox.tr
    rw [this]
    omega
  unfold prL
  rw [dotN_congr1 (f' := fun k => -1 * Cox.e i k) (fun k hk => by rw [h1 k hk]; omega), Cox.dotN_comm, Cox.dotN_scale, Cox.dotN_e _ _ _ hi]
  omega
theorem perm_unit (hT : Cor c T) {i : Nat} (hi : i < c.length) : T.Perm (unitL c.length i :: T.erase (unitL c.length i)) := List.perm_cons_erase (hT.unit i hi)
theorem Wt.step {v : List Int} (h : Wt c T v) (hT : Cor c T) (hc : CartanP c) {i : Nat} (hi : i < c.length) : Wt c T (refl c i v) := by
  refine ⟨by rw [refl_length, h.len], fun b hb => ?_⟩
  rw [h.turn hT hc hi]
  rcases List.mem_cons.1 ((perm_unit hT hi).subset hb) with rfl | hb'
  · rw [pr_back hc hi]
    have := h.num hT hi
    omega
  · have : cRef c.length c i b ∈ T.erase (unitL c.length i) := (hT.perm i hi).subset (List.mem_map.2 ⟨b, hb', rfl⟩)
    exact h.bd _ (List.mem_of_mem_erase this)

/-- How many coroots see a number below zero. -/
def negs (c T : List (List Int)) (v : List Int) : Nat := T.countP fun b => decide (prL c.length b v < 0)
theorem negs_step {v : List Int} (h : Wt c T v) (hT : Cor c T) (hc : CartanP c) {i : Nat} (hi : i < c.length) (hn : num v i < 0) : negs c T v = negs c T (refl c i v) + 1 := by
  unfold negs
  rw [(perm_unit hT hi).countP_eq, (perm_unit hT hi).countP_eq, List.countP_cons, List.countP_cons]
  have h1 : (T.erase (unitL c.length i)).countP (fun b => decide (prL c.length b (refl c i v) < 0)) = (T.erase (unitL c.length i)).countP (fun b => decide (prL c.length b v < 0)) := by
    rw [← (hT.perm i hi).countP_eq (fun b => decide (prL c.length b v < 0)), List.countP_map]
    congr 1
    funext b
    simp only [Function.comp_apply]
    rw [h.turn hT hc hi]
  rw [h1, pr_unit hi, h.turn hT hc hi, pr_back hc hi]
  have h2 : ¬ -(num v i) < 0 := by omega
  simp [hn]
  omega
theorem negs_le (hT : Cor c T) (v : List Int) : negs c T v ≤ 24 := Nat.le_trans List.countP_le_length hT.len

/-- The state of a descent. -/
def DomS (c T : List (List Int)) (v : List Int) (m : Nat) : Prop := Wt c T v ∧ negs c T v = m
theorem num_first {v : List Int} {i : Nat} (e : firstN v = some i) : num v i < 0 := by
  obtain ⟨x, h1, h2, _⟩ := firstN_some e
  rw [num_at h1]; exact h2
theorem DomS.back {v : List Int} {m : Nat} (h : DomS c T v m) (hT : Cor c T) (hc : CartanP c) {i : Nat} (e : firstN v = some i) : ∃ m', m = m' + 1 ∧ DomS c T (refl c i v) m' := by
  have hi : i < c.length := by have := firstN_lt e; rw [h.1.len] at this; exact this
  have := negs_step h.1 hT hc hi (num_first e)
  exact ⟨negs c T (refl c i v), by rw [← h.2]; exact this, h.1.step hT hc hi, rfl⟩
theorem DomS.fuel (hT : Cor c T) (hc : CartanP c) : ∀ (m : Nat) {v : List Int} {f : Nat}, DomS c T v m → m ≤ f → nf c f v = nf c m v
  | 0, v, f, h, _ => by
    have h0 : firstN v = none := by
      cases e : firstN v with
      | none => rfl
      | some i => obtain ⟨m', hm, _⟩ := h.back hT hc e; omega
    cases f with
    | zero => rfl
    | succ f => simp [nf, h0]
  | m + 1, v, f, h, hf => by
    obtain ⟨f, rfl⟩ : ∃ k, f = k + 1 := ⟨f - 1, by omega⟩
    simp only [nf]
    cases e : firstN v with
    | none => rfl
    | some i =>
      obtain ⟨m', hm', h3⟩ := h.back hT hc e
      have : m' = m := by omega
      subst this
      simp only
      rw [DomS.fuel hT hc m' h3 (by omega)]
theorem DomS.le {v : List Int} {m : Nat} (h : DomS c T v m) (hT : Cor c T) : m ≤ 24 := by rw [← h.2]; exact negs_le hT v
end

/-- What a loop of the program that takes letters needs. -/
structure Down (c : List (List Int)) (P : List Int → Nat → Prop) : Prop where
  len : ∀ v m, P v m → v.length = c.length
  le : ∀ v m, P v m → m ≤ 30
  turn : ∀ v m i, P v m → firstN v = some i → ∃ m', m = m' + 1 ∧ P (refl c i v) m' ∧ nf c 30 v = (i : Int) :: nf c 30 (refl c i v)
theorem down_dom {c T : List (List Int)} (hT : Cor c T) (hc : CartanP c) : Down c (DomS c T) :=
  ⟨fun v m h => h.1.len, fun v m h => by have := h.le hT; omega, fun v m i h e => by
    obtain ⟨m', rfl, h3⟩ := h.back hT hc e
    refine ⟨m', rfl, h3, ?_⟩
    have := h.le hT
    rw [DomS.fuel hT hc (m' + 1) h (by omega), DomS.fuel hT hc m' h3 (by omega)]
    simp [nf, e]⟩
theorem down_im {c : List (List Int)} (hc : CartanP c) : Down c (fun v m => Im c v m ∧ m ≤ 30) :=
  ⟨fun v m h => h.1.len, fun v m h => h.2, fun v m i h e => by
    obtain ⟨m', rfl, h1, h2⟩ := nf_turn hc h.1 h.2 e
    exact ⟨m', rfl, ⟨h1, by have := h.2; omega⟩, h2⟩⟩
theorem nf_len {c : List (List Int)} {P : List Int → Nat → Prop} (hD : Down c P) : ∀ (m : Nat) {v : List Int}, P v m → (nf c 30 v).length ≤ m
  | 0, v, h => by
    cases e : firstN v with
    | none => simp [nf, e]
    | some i => obtain ⟨m', hm, _⟩ := hD.turn v 0 i h e; omega
  | m + 1, v, h => by
    cases e : firstN v with
    | none => simp [nf, e]
    | some i =>
      obtain ⟨m', hm, h1, h2⟩ := hD.turn v _ i h e
      have : m' = m := by omega
      subst this
      rw [h2]
      have := nf_len hD m' h1
      simp; omega
theorem nf_lets {c : List (List Int)} {P : List Int → Nat → Prop} (hD : Down c P) : ∀ (m : Nat) {v : List Int}, P v m → Lets c.length (nf c 30 v)
  | 0, v, h => by
    cases e : firstN v with
    | none => simp [nf, e, Lets]
    | some i => obtain ⟨m', hm, _⟩ := hD.turn v 0 i h e; omega
  | m + 1, v, h => by
    cases e : firstN v with
    | none => simp [nf, e, Lets]
    | some i =>
      obtain ⟨m', hm, h1, h2⟩ := hD.turn v _ i h e
      have : m' = m := by omega
      subst this
      rw [h2]
      have h3 := nf_lets hD m' h1
      have h4 := firstN_lt e
      have h5 := hD.len v _ h
      intro x hx
      rcases List.mem_cons.1 hx with rfl | hx
      · omega
      · exact h3 x hx

/-- The dominant weight at the end. -/
def dmL (c : List (List Int)) (v : List Int) : List Int := act c (nf c 30 v).reverse v
theorem act_snoc (c : List (List Int)) (i : Int) (v : List Int) : ∀ (w : List Int), act c (w ++ [i]) v = act c w (refl c i.toNat v)
  | [] => rfl
  | j :: w => by simp [act, act_snoc c i v w]
theorem dm_turn {c : List (List Int)} {P : List Int → Nat → Prop} (hD : Down c P) {v : List Int} {m i : Nat} (h : P v m) (e : firstN v = some i) : dmL c v = dmL c (refl c i v) := by
  obtain ⟨m', _, _, h2⟩ := hD.turn v m i h e
  unfold dmL
  rw [h2, List.reverse_cons, act_snoc]
  rfl
theorem dm_end {c : List (List Int)} {v : List Int} (e : firstN v = none) : dmL c v = v := by
  unfold dmL; rw [nf_end e]; rfl
end Go.Proofs.Yteglcjembimegaa
