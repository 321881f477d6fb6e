/- Determinants of small matrices of whole numbers; the matrices of finite type with at most four points, one by one. No program, no condition. -/
namespace Go.Proofs.Yteglcjembimegaa.Fin
set_option maxRecDepth 20000

def en (c : List (List Int)) (i j : Nat) : Int := (c[i]?.getD [])[j]?.getD 0
def cut (j : Nat) (r : List Int) : List Int := r.take j ++ r.drop (j + 1)
def without (m : List (List Int)) (j : Nat) : List (List Int) := (m.drop 1).map (cut j)
def sum (f : Nat → Int) : Nat → Int
  | 0 => 0
  | k + 1 => sum f k + f k
def sgn (j : Nat) (x : Int) : Int := if j % 2 = 1 then -x else x
def det : Nat → List (List Int) → Int
  | 0, _ => 1
  | n + 1, m => sum (fun j => sgn j (en m 0 j * det n (without m j))) (n + 1)
def bits : Nat → Nat → List Nat
  | 0, _ => []
  | n + 1, k => bits n k ++ if k / 2 ^ n % 2 = 1 then [n] else []
def sub (c : List (List Int)) (s : List Nat) : List (List Int) := s.map fun i => s.map fun j => en c i j
def minor (c : List (List Int)) (n k : Nat) : Int := det (bits n k).length (sub c (bits n k))
def posUp (c : List (List Int)) (n : Nat) : Nat → Bool
  | 0 => true
  | k + 1 => decide (0 < minor c n (k + 1)) && posUp c n k
def isFin (c : List (List Int)) : Bool := posUp c c.length (2 ^ c.length - 1)

theorem posUp_iff {c : List (List Int)} {n : Nat} : ∀ {k : Nat}, posUp c n k = true ↔ ∀ m, 1 ≤ m → m ≤ k → 0 < minor c n m
  | 0 => by simp [posUp]; omega
  | k + 1 => by
    simp only [posUp, Bool.and_eq_true, decide_eq_true_eq]
    rw [posUp_iff (k := k)]
    constructor
    · rintro ⟨h1, h2⟩ m hm hk
      rcases Nat.lt_or_ge k m with h | h
      · obtain rfl : m = k + 1 := by omega
        exact h1
      · exact h2 m hm h
    · exact fun h => ⟨h _ (by omega) (Nat.le_refl _), fun m hm hk => h m hm (by omega)⟩

theorem sum_abs {f : Nat → Int} {B : Nat} (h : ∀ j, (f j).natAbs ≤ B) : ∀ k, (sum f k).natAbs ≤ k * B
  | 0 => by simp [sum]
  | k + 1 => by
    have h1 := sum_abs h k
    have h2 := h k
    have h3 := Int.natAbs_add_le (sum f k) (f k)
    simp only [sum]
    rw [Nat.succ_mul]
    omega

def dB (B : Nat) : Nat → Nat
  | 0 => 1
  | n + 1 => (n + 1) * (B * dB B n)
def Small (B : Nat) (m : List (List Int)) : Prop := ∀ r ∈ m, ∀ x ∈ r, x.natAbs ≤ B
theorem cut_mem {j : Nat} {r : List Int} {x : Int} (h : x ∈ cut j r) : x ∈ r := by
  unfold cut at h
  rcases List.mem_append.1 h with h | h
  · exact List.mem_of_mem_take h
  · exact List.mem_of_mem_drop h
theorem Small.without {B : Nat} {m : List (List Int)} (h : Small B m) (j : Nat) : Small B (without m j) := by
  intro r hr x hx
  unfold Fin.without at hr
  obtain ⟨r0, h0, rfl⟩ := List.mem_map.1 hr
  exact h r0 (List.mem_of_mem_drop h0) x (cut_mem hx)
theorem Small.en {B : Nat} {m : List (List Int)} (h : Small B m) (i j : Nat) : (en m i j).natAbs ≤ B := by
  unfold Fin.en
  cases hr : m[i]? with
  | none => simp
  | some r =>
    simp only [Option.getD_some]
    cases hx : r[j]? with
    | none => simp
    | some x => exact h r (List.mem_of_getElem? hr) x (List.mem_of_getElem? hx)
theorem sgn_abs (j : Nat) (x : Int) : (sgn j x).natAbs = x.natAbs := by unfold sgn; split <;> simp
theorem det_abs {B : Nat} : ∀ (n : Nat) {m : List (List Int)}, Small B m → (det n m).natAbs ≤ dB B n
  | 0, _, _ => by simp [det, dB]
  | n + 1, m, h => by
    simp only [det, dB]
    refine sum_abs (fun j => ?_) (n + 1)
    rw [sgn_abs, Int.natAbs_mul]
    exact Nat.mul_le_mul (h.en 0 j) (det_abs n (h.without j))
theorem term_abs {B : Nat} (n : Nat) {m : List (List Int)} (h : Small B m) (j : Nat) : (en m 0 j * det n (without m j)).natAbs ≤ B * dB B n := by
  rw [Int.natAbs_mul]
  exact Nat.mul_le_mul (h.en 0 j) (det_abs n (h.without j))

/-- With numbers up to 2000 and at most four rows nothing wraps. -/
theorem dB_le : ∀ n, n ≤ 3 → dB 2000 n ≤ 48000000000
  | 0, _ => by decide
  | 1, _ => by decide
  | 2, _ => by decide
  | 3, _ => by decide
theorem term_bd {n : Nat} (hn : n ≤ 3) {m : List (List Int)} (h : Small 2000 m) (j : Nat) : -96000000000000 ≤ en m 0 j * det n (without m j) ∧ en m 0 j * det n (without m j) ≤ 96000000000000 := by
  have h1 := term_abs n h j
  have h2 := dB_le n hn
  have h3 : 2000 * dB 2000 n ≤ 2000 * 48000000000 := Nat.mul_le_mul_left _ h2
  omega
theorem sum_bd {n : Nat} (hn : n ≤ 3) {m : List (List Int)} (h : Small 2000 m) {k : Nat} (hk : k ≤ 4) :
    -384000000000000 ≤ sum (fun j => sgn j (en m 0 j * det n (without m j))) k ∧ sum (fun j => sgn j (en m 0 j * det n (without m j))) k ≤ 384000000000000 := by
  have h1 : (sum (fun j => sgn j (en m 0 j * det n (without m j))) k).natAbs ≤ k * 96000000000000 := sum_abs (fun j => by rw [sgn_abs]; have := term_bd hn h j; omega) k
  have h2 : k * 96000000000000 ≤ 4 * 96000000000000 := Nat.mul_le_mul_right _ hk
  omega
theorem en_at {c : List (List Int)} {i j : Nat} {l : List Int} {x : Int} (h : c[i]? = some l) (h' : l[j]? = some x) : en c i j = x := by simp [en, h, h']
theorem cut_step {j k : Nat} {r : List Int} {x : Int} (h : r[k]? = some x) : cut j (r.take (k + 1)) = if k = j then cut j (r.take k) else cut j (r.take k) ++ [x] := by
  have hk : k < r.length := by
    rcases Nat.lt_or_ge k r.length with h' | h'
    · exact h'
    · rw [List.getElem?_eq_none h'] at h; cases h
  have hl : (r.take k).length = k := by simp; omega
  have e : r.take (k + 1) = r.take k ++ [x] := by rw [List.take_add_one, h]; rfl
  rw [e]
  generalize r.take k = l at *
  unfold cut
  subst hl
  rcases Nat.lt_trichotomy l.length j with h1 | h1 | h1
  · rw [if_neg (by omega), List.take_of_length_le (by simp; omega), List.take_of_length_le (by omega), List.drop_of_length_le (by simp; omega), List.drop_of_length_le (by omega)]
    simp
  · rw [if_pos h1]
    subst h1
    simp
  · rw [if_neg (by omega), List.take_append_of_le_length (by omega), List.drop_append_of_le_length (by omega), List.append_assoc]
theorem without_step {m : List (List Int)} {j k : Nat} {r : List Int} (h : m[k + 1]? = some r) : ((m.drop 1).take (k + 1)).map (cut j) = ((m.drop 1).take k).map (cut j) ++ [cut j r] := by
  have e : (m.drop 1)[k]? = some r := by rw [List.getElem?_drop, Nat.add_comm]; exact h
  rw [List.take_add_one, e]
  simp

/-- A matrix out of its entries. -/
def tab (n : Nat) (f : Nat → Nat → Int) : List (List Int) := (List.range n).map fun i => (List.range n).map fun j => f i j
theorem en_tab {n : Nat} {f : Nat → Nat → Int} {i j : Nat} (hi : i < n) (hj : j < n) : en (tab n f) i j = f i j := by
  simp [en, tab, hi, hj]
theorem tab_congr {n : Nat} {f g : Nat → Nat → Int} (h : ∀ i j, i < n → j < n → f i j = g i j) : tab n f = tab n g := by
  unfold tab
  refine List.map_congr_left fun i hi => List.map_congr_left fun j hj => ?_
  exact h i j (List.mem_range.1 hi) (List.mem_range.1 hj)
structure Sqr (c : List (List Int)) (n : Nat) : Prop where
  len : c.length = n
  row : ∀ r ∈ c, r.length = n
theorem Sqr.without {m : List (List Int)} {n : Nat} (h : Sqr m (n + 1)) {j : Nat} (hj : j ≤ n) : Sqr (without m j) n := by
  refine ⟨by simp [Fin.without, h.len], fun r hr => ?_⟩
  unfold Fin.without at hr
  obtain ⟨r0, h0, rfl⟩ := List.mem_map.1 hr
  have := h.row r0 (List.mem_of_mem_drop h0)
  simp [cut]; omega
theorem tab_sqr (n : Nat) (f : Nat → Nat → Int) : Sqr (tab n f) n := by
  refine ⟨by simp [tab], fun r hr => ?_⟩
  obtain ⟨i, _, rfl⟩ := List.mem_map.1 hr
  simp
theorem tab_en {c : List (List Int)} {n : Nat} (h : Sqr c n) : tab n (en c) = c := by
  refine List.ext_getElem (by simp [tab, h.len]) fun i h1 h2 => ?_
  simp only [tab, List.getElem_map, List.getElem_range]
  have hr : (c[i]).length = n := h.row _ (List.getElem_mem h2)
  refine List.ext_getElem (by simp [hr]) fun j h3 h4 => ?_
  simp [en, h2, h4]

theorem bits_lt : ∀ {n k x : Nat}, x ∈ bits n k → x < n
  | 0, _, _, h => by simp [bits] at h
  | n + 1, k, x, h => by
    simp only [bits] at h
    rcases List.mem_append.1 h with h | h
    · have := bits_lt h; omega
    · split at h
      · simp at h; omega
      · simp at h
theorem bits_up {n k : Nat} (h : k < 2 ^ n) : bits (n + 1) k = bits n k := by
  simp [bits, Nat.div_eq_of_lt h]
theorem sub_congr {c c' : List (List Int)} {s : List Nat} (h : ∀ i ∈ s, ∀ j ∈ s, en c i j = en c' i j) : sub c s = sub c' s := by
  unfold sub
  exact List.map_congr_left fun i hi => List.map_congr_left fun j hj => h i hi j hj
theorem minor_up {c : List (List Int)} {n k : Nat} (h : k < 2 ^ n) : minor c (n + 1) k = minor (tab n (en c)) n k := by
  unfold minor
  rw [bits_up h]
  congr 1
  exact sub_congr fun i hi j hj => (en_tab (bits_lt hi) (bits_lt hj)).symm

def opts : List (Int × Int) := [(0, 0), (-1, -1), (-1, -2), (-2, -1), (-1, -3), (-3, -1)]
def allOpts : Nat → List (List (Int × Int))
  | 0 => [[]]
  | n + 1 => opts.flatMap fun o => (allOpts n).map (o :: ·)
theorem mem_allOpts : ∀ {n : Nat} {l : List (Int × Int)}, l.length = n → (∀ o ∈ l, o ∈ opts) → l ∈ allOpts n
  | 0, [], _, _ => by simp [allOpts]
  | n + 1, o :: l, hl, h => by
    simp only [allOpts, List.mem_flatMap, List.mem_map]
    exact ⟨o, h o (by simp), l, mem_allOpts (by simpa using hl) (fun x hx => h x (by simp [hx])), rfl⟩
def extL (m : List (List Int)) (ps : List (Int × Int)) : List (List Int) := List.zipWith (fun r p => r ++ [p.1]) m ps ++ [ps.map (·.2) ++ [2]]
/-- The minors that bear the last point, of a matrix of four, in natural numbers. -/
def fast (a01 a02 a03 a10 a12 a13 a20 a21 a23 a30 a31 a32 : Nat) : Bool :=
  decide (2 * (a01 * a10 + a03 * a30 + a13 * a31) + (a01 * a13 * a30 + a03 * a31 * a10) < 8) &&
  (decide (2 * (a02 * a20 + a03 * a30 + a23 * a32) + (a02 * a23 * a30 + a03 * a32 * a20) < 8) &&
  (decide (2 * (a12 * a21 + a13 * a31 + a23 * a32) + (a12 * a23 * a31 + a13 * a32 * a21) < 8) &&
  decide (4 * (a01 * a10 + a02 * a20 + a03 * a30 + a12 * a21 + a13 * a31 + a23 * a32) +
    2 * (a01 * a13 * a30 + a03 * a31 * a10 + (a02 * a23 * a30 + a03 * a32 * a20) + (a12 * a23 * a31 + a13 * a32 * a21) + (a01 * a12 * a20 + a02 * a21 * a10)) +
    (a01 * a12 * a23 * a30 + a01 * a13 * a32 * a20 + a02 * a21 * a13 * a30 + a02 * a23 * a31 * a10 + a03 * a31 * a12 * a20 + a03 * a32 * a21 * a10)
    < 16 + (a01 * a10 * (a23 * a32) + a02 * a20 * (a13 * a31) + a03 * a30 * (a12 * a21)))))
def fast4 : List (List Int) → Bool
  | [[_, a01, a02, a03], [a10, _, a12, a13], [a20, a21, _, a23], [a30, a31, a32, _]] =>
    fast (-a01).toNat (-a02).toNat (-a03).toNat (-a10).toNat (-a12).toNat (-a13).toNat (-a20).toNat (-a21).toNat (-a23).toNat (-a30).toNat (-a31).toNat (-a32).toNat
  | _ => false
def okM : Nat → List (List Int) → Bool
  | 4, c => fast4 c
  | n, c => posUp c n (2 ^ n - 1)
def mats : Nat → List (List (List Int))
  | 0 => [[]]
  | n + 1 => (mats n).flatMap fun m => ((allOpts n).map (extL m)).filter (okM (n + 1))

/-- What is asked of the entries. -/
structure Ent (n : Nat) (f : Nat → Nat → Int) : Prop where
  diag : ∀ i, i < n → f i i = 2
  off : ∀ i j, i < n → j < n → i ≠ j → -3 ≤ f i j ∧ f i j ≤ 0
  zero : ∀ i j, i < n → j < n → (f i j = 0 ↔ f j i = 0)

theorem minor_two {c : List (List Int)} {n i : Nat} (hn : n ≤ 3) (hi : i < n) (h1 : en c i i = 2) (h2 : en c n n = 2) : minor c (n + 1) (2 ^ i + 2 ^ n) = 4 - en c i n * en c n i := by
  have hb : bits (n + 1) (2 ^ i + 2 ^ n) = [i, n] := by
    match n, i, hn, hi with
    | 1, 0, _, _ => rfl
    | 2, 0, _, _ => rfl
    | 2, 1, _, _ => rfl
    | 3, 0, _, _ => rfl
    | 3, 1, _, _ => rfl
    | 3, 2, _, _ => rfl
  unfold minor
  rw [hb]
  simp [sub, det, sum, sgn, without, cut, en]
  simp [en] at h1 h2
  rw [h1, h2]
  omega

theorem pair_opts {x y : Int} (hx : -3 ≤ x ∧ x ≤ 0) (hy : -3 ≤ y ∧ y ≤ 0) (h0 : x = 0 ↔ y = 0) (h : 0 < 4 - x * y) : (x, y) ∈ opts := by
  have h1 : x = 0 ∨ x = -1 ∨ x = -2 ∨ x = -3 := by omega
  have h2 : y = 0 ∨ y = -1 ∨ y = -2 ∨ y = -3 := by omega
  rcases h1 with rfl | rfl | rfl | rfl <;> rcases h2 with rfl | rfl | rfl | rfl <;> simp [opts] at * <;> omega

theorem list1 {α : Type} {l : List α} (h : l.length = 1) : ∃ a, l = [a] := by match l, h with | [a], _ => exact ⟨a, rfl⟩
theorem list4 {α : Type} {l : List α} (h : l.length = 4) : ∃ a b c d, l = [a, b, c, d] := by match l, h with | [a, b, c, d], _ => exact ⟨a, b, c, d, rfl⟩
theorem neg_nat {x : Int} (h : -3 ≤ x ∧ x ≤ 0) : ∃ a : Nat, x = -(a : Int) := ⟨(-x).toNat, by omega⟩

theorem minor_11 (a01 a02 a03 a10 a12 a13 a20 a21 a23 a30 a31 a32 : Int) :
    minor [[2, -a01, -a02, -a03], [-a10, 2, -a12, -a13], [-a20, -a21, 2, -a23], [-a30, -a31, -a32, 2]] 4 11 = 8 - (2 * (a01 * a10 + a03 * a30 + a13 * a31) + (a01 * a13 * a30 + a03 * a31 * a10)) := by
  have hb : bits 4 11 = [0, 1, 3] := rfl
  unfold minor
  rw [hb]
  simp only [sub, List.map_cons, List.map_nil, List.length_cons, List.length_nil]
  simp [det, sum, sgn, without, cut, en]
  grind
theorem minor_13 (a01 a02 a03 a10 a12 a13 a20 a21 a23 a30 a31 a32 : Int) :
    minor [[2, -a01, -a02, -a03], [-a10, 2, -a12, -a13], [-a20, -a21, 2, -a23], [-a30, -a31, -a32, 2]] 4 13 = 8 - (2 * (a02 * a20 + a03 * a30 + a23 * a32) + (a02 * a23 * a30 + a03 * a32 * a20)) := by
  have hb : bits 4 13 = [0, 2, 3] := rfl
  unfold minor
  rw [hb]
  simp only [sub, List.map_cons, List.map_nil, List.length_cons, List.length_nil]
  simp [det, sum, sgn, without, cut, en]
  grind
theorem minor_14 (a01 a02 a03 a10 a12 a13 a20 a21 a23 a30 a31 a32 : Int) :
    minor [[2, -a01, -a02, -a03], [-a10, 2, -a12, -a13], [-a20, -a21, 2, -a23], [-a30, -a31, -a32, 2]] 4 14 = 8 - (2 * (a12 * a21 + a13 * a31 + a23 * a32) + (a12 * a23 * a31 + a13 * a32 * a21)) := by
  have hb : bits 4 14 = [1, 2, 3] := rfl
  unfold minor
  rw [hb]
  simp only [sub, List.map_cons, List.map_nil, List.length_cons, List.length_nil]
  simp [det, sum, sgn, without, cut, en]
  grind
theorem minor_15 (a01 a02 a03 a10 a12 a13 a20 a21 a23 a30 a31 a32 : Int) :
    minor [[2, -a01, -a02, -a03], [-a10, 2, -a12, -a13], [-a20, -a21, 2, -a23], [-a30, -a31, -a32, 2]] 4 15 = 16 + (a01 * a10 * (a23 * a32) + a02 * a20 * (a13 * a31) + a03 * a30 * (a12 * a21)) - (4 * (a01 * a10 + a02 * a20 + a03 * a30 + a12 * a21 + a13 * a31 + a23 * a32) +
    2 * (a01 * a13 * a30 + a03 * a31 * a10 + (a02 * a23 * a30 + a03 * a32 * a20) + (a12 * a23 * a31 + a13 * a32 * a21) + (a01 * a12 * a20 + a02 * a21 * a10)) +
    (a01 * a12 * a23 * a30 + a01 * a13 * a32 * a20 + a02 * a21 * a13 * a30 + a02 * a23 * a31 * a10 + a03 * a31 * a12 * a20 + a03 * a32 * a21 * a10)) := by
  have hb : bits 4 15 = [0, 1, 2, 3] := rfl
  unfold minor
  rw [hb]
  simp only [sub, List.map_cons, List.map_nil, List.length_cons, List.length_nil]
  simp [det, sum, sgn, without, cut, en]
  grind

theorem fast_of {c : List (List Int)} (hs : Sqr c 4) (he : Ent 4 (en c)) (hp : posUp c 4 15 = true) : fast4 c = true := by
  obtain ⟨r0, r1, r2, r3, rfl⟩ := list4 hs.len
  obtain ⟨x00, x01, x02, x03, rfl⟩ := list4 (hs.row r0 (by simp))
  obtain ⟨x10, x11, x12, x13, rfl⟩ := list4 (hs.row r1 (by simp))
  obtain ⟨x20, x21, x22, x23, rfl⟩ := list4 (hs.row r2 (by simp))
  obtain ⟨x30, x31, x32, x33, rfl⟩ := list4 (hs.row r3 (by simp))
  have d0 : x00 = 2 := he.diag 0 (by omega)
  have d1 : x11 = 2 := he.diag 1 (by omega)
  have d2 : x22 = 2 := he.diag 2 (by omega)
  have d3 : x33 = 2 := he.diag 3 (by omega)
  subst d0; subst d1; subst d2; subst d3
  obtain ⟨a01, rfl⟩ := neg_nat (x := x01) (he.off 0 1 (by omega) (by omega) (by omega))
  obtain ⟨a02, rfl⟩ := neg_nat (x := x02) (he.off 0 2 (by omega) (by omega) (by omega))
  obtain ⟨a03, rfl⟩ := neg_nat (x := x03) (he.off 0 3 (by omega) (by omega) (by omega))
  obtain ⟨a10, rfl⟩ := neg_nat (x := x10) (he.off 1 0 (by omega) (by omega) (by omega))
  obtain ⟨a12, rfl⟩ := neg_nat (x := x12) (he.off 1 2 (by omega) (by omega) (by omega))
  obtain ⟨a13, rfl⟩ := neg_nat (x := x13) (he.off 1 3 (by omega) (by omega) (by omega))
  obtain ⟨a20, rfl⟩ := neg_nat (x := x20) (he.off 2 0 (by omega) (by omega) (by omega))
  obtain ⟨a21, rfl⟩ := neg_nat (x := x21) (he.off 2 1 (by omega) (by omega) (by omega))
  obtain ⟨a23, rfl⟩ := neg_nat (x := x23) (he.off 2 3 (by omega) (by omega) (by omega))
  obtain ⟨a30, rfl⟩ := neg_nat (x := x30) (he.off 3 0 (by omega) (by omega) (by omega))
  obtain ⟨a31, rfl⟩ := neg_nat (x := x31) (he.off 3 1 (by omega) (by omega) (by omega))
  obtain ⟨a32, rfl⟩ := neg_nat (x := x32) (he.off 3 2 (by omega) (by omega) (by omega))
  rw [posUp_iff] at hp
  have h1 := hp 11 (by omega) (by omega)
  have h2 := hp 13 (by omega) (by omega)
  have h3 := hp 14 (by omega) (by omega)
  have h4 := hp 15 (by omega) (by omega)
  rw [minor_11] at h1
  rw [minor_13] at h2
  rw [minor_14] at h3
  rw [minor_15] at h4
  unfold fast4 fast
  simp only [Int.neg_neg, Int.toNat_natCast, Bool.and_eq_true, decide_eq_true_eq]
  refine ⟨?_, ?_, ?_, ?_⟩
  · have h : (2 * ((a01 : Int) * a10 + a03 * a30 + a13 * a31) + (a01 * a13 * a30 + a03 * a31 * a10)) < 8 := by omega
    exact_mod_cast h
  · have h : (2 * ((a02 : Int) * a20 + a03 * a30 + a23 * a32) + (a02 * a23 * a30 + a03 * a32 * a20)) < 8 := by omega
    exact_mod_cast h
  · have h : (2 * ((a12 : Int) * a21 + a13 * a31 + a23 * a32) + (a12 * a23 * a31 + a13 * a32 * a21)) < 8 := by omega
    exact_mod_cast h
  · have h := Int.lt_of_sub_pos h4
    exact_mod_cast h

theorem classify : ∀ {n : Nat} {c : List (List Int)}, n ≤ 4 → Sqr c n → Ent n (en c) → posUp c n (2 ^ n - 1) = true → c ∈ mats n
  | 0, c, _, hs, _, _ => by
    have := List.eq_nil_of_length_eq_zero hs.len
    subst this; simp [mats]
  | n + 1, c, hn, hs, he, hp => by
    rw [posUp_iff] at hp
    have hm : tab n (en c) ∈ mats n := by
      refine classify (by omega) (tab_sqr _ _) ⟨fun i hi => ?_, fun i j hi hj => ?_, fun i j hi hj => ?_⟩ ?_
      · rw [en_tab hi hi]; exact he.diag i (by omega)
      · rw [en_tab hi hj]; exact he.off i j (by omega) (by omega)
      · rw [en_tab hi hj, en_tab hj hi]; exact he.zero i j (by omega) (by omega)
      · rw [posUp_iff]
        intro k hk hk2
        have hpow : 2 ^ n ≥ 1 := Nat.one_le_two_pow
        rw [← minor_up (by omega)]
        exact hp k hk (by rw [Nat.pow_succ]; omega)
    let ps : List (Int × Int) := (List.range n).map fun i => (en c i n, en c n i)
    have hps : ps ∈ allOpts n := by
      refine mem_allOpts (by simp [ps]) fun o ho => ?_
      obtain ⟨i, hi, rfl⟩ := List.mem_map.1 ho
      have hi := List.mem_range.1 hi
      refine pair_opts (he.off i n (by omega) (by omega) (by omega)) (he.off n i (by omega) (by omega) (by omega)) (he.zero i n (by omega) (by omega)) ?_
      rw [← minor_two (by omega) hi (he.diag i (by omega)) (he.diag n (by omega))]
      have h1 : 2 ^ i ≤ 2 ^ (n - 1) := Nat.pow_le_pow_right (by omega) (by omega)
      have h2 : 2 ^ n = 2 * 2 ^ (n - 1) := by rw [← Nat.pow_succ']; congr 1; omega
      have h3 : 1 ≤ 2 ^ (n - 1) := Nat.one_le_two_pow
      have h4 : 1 ≤ 2 ^ i := Nat.one_le_two_pow
      generalize 2 ^ i = p at *
      refine hp _ (by omega) (by rw [Nat.pow_succ]; omega)
    have hc : extL (tab n (en c)) ps = c := by
      have hd := he.diag n (by omega)
      refine Eq.trans ?_ (tab_en hs)
      simp only [extL, tab, ps, List.range_succ, List.map_append, List.map_map, List.map_cons, List.map_nil, Function.comp_def]
      rw [List.zipWith_map, List.zipWith_self, hd]
    simp only [mats, List.mem_flatMap, List.mem_filter, List.mem_map]
    refine ⟨_, hm, ⟨ps, hps, hc⟩, ?_⟩
    by_cases h3 : n = 3
    · subst h3
      exact fast_of hs he (posUp_iff.2 hp)
    · unfold okM
      split
      · omega
      · exact posUp_iff.2 hp
end Go.Proofs.Yteglcjembimegaa.Fin
