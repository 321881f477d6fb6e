/- Whether a weight is below another one: both sides. Condition: sizes up to 2^24. -/
import Derived.Test.YteglcjembimegaaCoordI
namespace Go.Proofs.Yteglcjembimegaa
open Go.RowKit
set_option maxRecDepth 20000

def dfL (b a : List Int) : List Int := List.zipWith (fun y x => y - x) b a
theorem dfL_step {b a : List Int} {k : Nat} {y x : Int} (hy : b[k]? = some y) (hx : a[k]? = some x) : List.zipWith (fun y x => y - x) (b.take (k + 1)) (a.take (k + 1)) = List.zipWith (fun y x => y - x) (b.take k) (a.take k) ++ [y - x] := by
  rw [take_step hy, take_step hx, List.zipWith_append]
  · rfl
  · have h1 : k < b.length := (List.getElem?_eq_some_iff.1 hy).1
    have h2 : k < a.length := (List.getElem?_eq_some_iff.1 hx).1
    simp; omega
/-- All multiples are whole and not below zero. -/
def allW (c : List (List Int)) (v : List Int) : Nat → Bool
  | 0 => true
  | k + 1 => allW c v k && (decide (0 ≤ coord c v k) && decide ((coord c v k).tmod (Fin.det c.length c) = 0))
theorem allW_iff {c : List (List Int)} {v : List Int} : ∀ {n : Nat}, allW c v n = true ↔ ∀ k, k < n → 0 ≤ coord c v k ∧ (coord c v k).tmod (Fin.det c.length c) = 0
  | 0 => by simp [allW]
  | n + 1 => by
    simp only [allW, Bool.and_eq_true, decide_eq_true_eq]
    rw [allW_iff (n := n)]
    constructor
    · rintro ⟨h1, h2⟩ k hk
      rcases Nat.lt_or_ge k n with h | h
      · exact h1 k h
      · have : k = n := by omega
        subst this; exact h2
    · exact fun h => ⟨fun k hk => h k (by omega), h n (by omega)⟩
def wbB (c : List (List Int)) (a b : List Int) : Bool := isW c a && (isW c b && (finB c && allW c (dfL b a) c.length))
theorem bits_all : ∀ n, n < 5 → Fin.bits n (2 ^ n - 1) = List.range n := by decide
theorem det_pos {c : List (List Int)} (h : FinP c) : 0 < Fin.det c.length c := by
  have hc := h.cart
  have h1 := Fin.posUp_iff.1 h.pos (2 ^ c.length - 1) (by
    have : 2 ^ 1 ≤ 2 ^ c.length := Nat.pow_le_pow_right (by omega) hc.pos
    omega) (Nat.le_refl _)
  unfold Fin.minor at h1
  rw [bits_all _ (by have := hc.le; omega)] at h1
  have e : Fin.sub c (List.range c.length) = c := Fin.tab_en ⟨rfl, hc.row⟩
  rw [e] at h1
  simpa using h1
theorem dfL_small {c : List (List Int)} {a b : List Int} (ha : isW c a = true) (hb : isW c b = true) : (dfL b a).length = c.length ∧ ∀ x ∈ dfL b a, x.natAbs ≤ 2000 := by
  obtain ⟨_, h1, h2⟩ := isW_len ha
  obtain ⟨_, h3, h4⟩ := isW_len hb
  refine ⟨by simp [dfL, h1, h3], fun x hx => ?_⟩
  obtain ⟨k, hk, rfl⟩ := List.getElem_of_mem hx
  have ka : k < a.length := by simp [dfL] at hk; omega
  have kb : k < b.length := by simp [dfL] at hk; omega
  have e : (dfL b a)[k] = b[k] - a[k] := List.getElem_zipWith
  have e1 := h2 _ (List.getElem_mem ka)
  have e2 := h4 _ (List.getElem_mem kb)
  omega

/-- What difference gives of use. -/
def DiffP (q : Bool) (w : World) (e : Ending) (w' : World) : Prop := ∃ r, e = .returned (.tuple #[r, .bool q]) ∧ Below w.heap.size w w'

theorem dom_iff : ∀ {l : List Int}, dom l = true ↔ ∀ x ∈ l, 0 ≤ x
  | [] => by simp [dom]
  | x :: l => by
    unfold dom
    by_cases h : x < 0
    · simp [h]; intro h2; omega
    · simp [h, dom_iff (l := l)]; omega
theorem mem_quos {c : List (List Int)} {v : List Int} {d : Int} {n : Nat} {x : Int} : x ∈ quos c v d n ↔ ∃ k, k < n ∧ x = (coord c v k).tdiv d := by
  unfold quos
  constructor
  · intro h
    obtain ⟨y, hy, rfl⟩ := List.mem_map.1 h
    obtain ⟨k, hk, rfl⟩ := List.getElem_of_mem hy
    rw [coords_len] at hk
    refine ⟨k, hk, ?_⟩
    have := coords_at c v n k hk
    rw [List.getElem?_eq_getElem (by rw [coords_len]; exact hk)] at this
    injection this with this
    rw [this]
  · rintro ⟨k, hk, rfl⟩
    exact List.mem_map.2 ⟨_, List.mem_of_getElem? (coords_at c v n k hk), rfl⟩
theorem tdiv_nonneg {x d : Int} (hd : 0 < d) (h : x.tmod d = 0) : 0 ≤ x.tdiv d ↔ 0 ≤ x := by
  have e := Int.mul_tdiv_add_tmod x d
  rw [h, Int.add_zero] at e
  constructor
  · intro h2
    rw [← e]
    exact Int.mul_nonneg (Int.le_of_lt hd) h2
  · intro h2
    by_cases h3 : x.tdiv d < 0
    · have := Int.mul_neg_of_pos_of_neg hd h3
      omega
    · omega
theorem asroot_yes {c : List (List Int)} {v : List Int} (hd : 0 < Fin.det c.length c) (h : ∀ k, k < c.length → (coord c v k).tmod (Fin.det c.length c) = 0) : dom (quos c v (Fin.det c.length c) c.length) = allW c v c.length := by
  rw [Bool.eq_iff_iff, dom_iff, allW_iff]
  constructor
  · intro h2 k hk
    exact ⟨(tdiv_nonneg hd (h k hk)).1 (h2 _ (mem_quos.2 ⟨k, hk, rfl⟩)), h k hk⟩
  · intro h2 x hx
    obtain ⟨k, hk, rfl⟩ := mem_quos.1 hx
    exact (tdiv_nonneg hd (h k hk)).2 (h2 k hk).1
theorem asroot_no {c : List (List Int)} {v : List Int} (h : ∃ k, k < c.length ∧ (coord c v k).tmod (Fin.det c.length c) ≠ 0) : allW c v c.length = false := by
  cases e : allW c v c.length
  · rfl
  · obtain ⟨k, hk, hn⟩ := h
    exact absurd (allW_iff.1 e k hk).2 hn
theorem allW_no {c : List (List Int)} {v : List Int} {k : Nat} (hk : k < c.length) (h : coord c v k < 0 ∨ (coord c v k).tmod (Fin.det c.length c) ≠ 0) : allW c v c.length = false := by
  cases e : allW c v c.length
  · rfl
  · have := allW_iff.1 e k hk
    rcases h with h | h
    · omega
    · exact absurd this.2 h

set_option maxHeartbeats 2000000 in
theorem differenceImpl {S S' S'' : Nat → Prop} {u z v : Value} {c : List (List Int)} {b a : List Int} {w : World} (h : RII S w u c) (h' : RI S' w z b) (h'' : RI S'' w v a) (hF : FinP c) (hl : total c ≤ 16777216) (ha : isW c a = true) (hb : isW c b = true) :
    Calls Try.prog 53 #[u, z, v] w (DiffP (allW c (dfL b a) c.length) w) := by
  have HF := Lib.hid hF
  have hn4 := hF.cart.le
  have HA := Lib.hid (isW_len ha)
  have HB := Lib.hid (isW_len hb)
  have HDS := Lib.hid (dfL_small ha hb)
  obtain ⟨au, cu, rfl⟩ := h.form
  obtain ⟨az, cz, rfl⟩ := h'.form
  obtain ⟨av, cv, rfl⟩ := h''.form
  rw [HB.out.2.1] at h' ⊢
  rw [HA.out.2.1] at h'' ⊢
  clear hF ha hb
  obtain ⟨D, hD⟩ : ∃ D : Nat → List Int, ∀ k, D k = List.zipWith (fun y x => y - x) (b.take k) (a.take k) := ⟨_, fun _ => rfl⟩
  have HD0 : Hid (D 0 = []) := Lib.hid (by rw [hD]; simp)
  have HDn : Hid (D c.length = dfL b a) := Lib.hid (by rw [hD, List.take_of_length_le (by rw [HB.out.2.1]; exact Nat.le_refl _), List.take_of_length_le (by rw [HA.out.2.1]; exact Nat.le_refl _)]; rfl)
  have HDS2 : Hid (∀ k y x, b[k]? = some y → a[k]? = some x → D (k + 1) = D k ++ [y - x]) := Lib.hid (fun k y x hy hx => by rw [hD, hD]; exact dfL_step hy hx)
  have HDL : Hid (∀ k, (D k).length ≤ k) := Lib.hid (fun k => by rw [hD]; simp; omega)
  clear hD
  have HAY : Hid ((∀ k, k < c.length → (coord c (dfL b a) k).tmod (Fin.det c.length c) = 0) → dom (quos c (dfL b a) (Fin.det c.length c) c.length) = allW c (dfL b a) c.length) := Lib.hid (asroot_yes (det_pos HF.out))
  have HAN : Hid ((∃ k, k < c.length ∧ (coord c (dfL b a) k).tmod (Fin.det c.length c) ≠ 0) → allW c (dfL b a) c.length = false) := Lib.hid asroot_no
  generalize allW c (dfL b a) c.length = res at *
  generalize hn : c.length = n at *
  have HN := Lib.hid hn
  clear hn
  go_enter Try.func53, Try.ntmps53
  go_wp2_with fail
  obtain ⟨w1, hw1⟩ : ∃ w1, w1 = w.alloc (.cells #[] 3) := ⟨_, rfl⟩
  obtain ⟨f1, b1⟩ := fresh_of (Below.refl _ w) hw1
  rw [← hw1]
  clear hw1
  rw [← HD0.out] at f1
  go_loopw [8, 15] (fun qq j wr => ∃ (k : Nat) (q : Value), q = qq ∧ k ≤ n ∧ j = .int .i64 k ∧ FI (New w wr) wr q (D k) ∧ Below w.heap.size w wr) (fun _ j _ => n - (intOf j).toNat)
  case atStart => exact ⟨0, _, rfl, Nat.zero_le _, rfl, f1, b1⟩
  case round =>
    obtain ⟨k, q, rfl, hk, rfl, hf, hb⟩ := hrel
    have hdl := HDL.out k
    by_cases hlt : k < n
    · obtain ⟨b1, o1, y, rfl, hc0, hy⟩ := h'.at hlt
      obtain ⟨b2, o2, x, rfl, hcx0, hx⟩ := h''.at hlt
      have l1 := World.block_lt_of_cell? w _ hc0
      have l2 := World.block_lt_of_cell? w _ hcx0
      have hc := (hb.cell l1).trans hc0
      have hcx := (hb.cell l2).trans hcx0
      have hF := Lib.hid (fun (k : Nat) hk => (hf.2 k hk).1)
      have i1 : (k : Int) < (n : Int) := by omega
      have HST := Lib.hid (HDS2.out k y x hy.out hx.out)
      have hbx := HA.out.2.2 x (List.mem_of_getElem? hx.out)
      have hby := HB.out.2.2 y (List.mem_of_getElem? hy.out)
      have j1 : IntKind.i64.wrap (y - x) = y - x := IntWalk.i64_in _ (by omega)
      generalize D k = Dk at *
      clear hc0 hcx0
      have bbd : Below wr.heap.size wr (wr.alloc (.cells #[.int .i64 (y - x)] 3)).drew := ((Below.refl _ _).alloc (Nat.le_refl _) _).drew
      have hcn : (wr.alloc (.cells #[.int .i64 (y - x)] 3)).drew.cell? ⟨wr.heap.size, 0, none⟩ = some (.int .i64 (y - x)) := by go_simp
      have hfn := hf.grow bbd
      have hbn := Keeps.step hb bbd
      have hln : Dk.length + 1 ≤ 67108864 := by omega
      go_wp2_with fail
      go_region_held3 (fun w' => w'.cell? ⟨b1, o1 + k, none⟩ = some (.int .i64 y) ∧ w'.cell? ⟨b2, o2 + k, none⟩ = some (.int .i64 x)) (first | go_keep | (go_split_ands; exact ⟨cell_grown hgrow (by assumption) l1 hF.out, cell_grown hgrow (by assumption) l2 hF.out⟩)) ((refine step_app1 (W := w) (by rfl) _ _ (by rfl) (by rfl) hfn hbn (by rfl) hcn hln ?_; intro v' w3 f3 b5 hgrow))
      clear j1
      go_wp2_with fail
      go_roundw
      case rel => exact ⟨k + 1, _, rfl, by omega, by go_num, by rw [HST.out]; exact f3, b5⟩
      case measure => simp [intOf]; omega
    · have hkn : k = n := by omega
      have i1 : ¬ (k : Int) < (n : Int) := by omega
      rw [hkn, HDn.out] at hf
      clear hkn
      have hu := h.below hb
      go_wp2_with fail
      refine (asRootImpl (l := dfL b a) (c := c) hu hf.reads HF.out.cart hl (by rw [HDS.out.1, HN.out]) HDS.out.2 (det_pos HF.out)).mono ?_
      rintro e w4 (⟨r4, rfl, f4, hall, b4⟩ | ⟨rfl, hex, b4⟩)
      · rw [HN.out] at hall f4
        have e0 := Lib.hid (HAY.out hall)
        clear hall
        have b04 := Keeps.step hb b4
        have HQL := Lib.hid (quos_len c (dfL b a) (Fin.det n c) n)
        generalize quos c (dfL b a) (Fin.det n c) n = Q at *
        go_wp2_with fail
        refine (isDominantImpl f4.reads (by rw [HQL.out]; omega)).mono ?_
        rintro e w5 ⟨rfl, rfl⟩
        rw [e0.out]
        go_wp2_with fail
        go_ret2
        exact ⟨_, rfl, b04⟩
      · rw [HN.out] at hex
        have e0 := Lib.hid (HAN.out hex)
        clear hex
        have b04 := Keeps.step hb b4
        go_wp2_with fail
        go_ret2
        rw [e0.out]
        exact ⟨_, rfl, b04⟩

set_option maxHeartbeats 1000000 in
theorem isWeightBelowImpl {S S' S'' : Nat → Prop} {u v z : Value} {c : List (List Int)} {a b : List Int} {w : World} (h : RII S w u c) (h' : RI S' w v a) (h'' : RI S'' w z b) (hl : total c ≤ 16777216) (hl' : a.length ≤ 16777216) (hl'' : b.length ≤ 16777216) :
    Calls Try.prog 17 #[u, v, z] w fun e w' => e = .returned (.bool (wbB c a b)) ∧ Below w.heap.size w w' := by
  have HD : Hid (wbB c a b = (isW c a && (isW c b && (finB c && allW c (dfL b a) c.length)))) := Lib.hid rfl
  have HP : Hid (finB c = true → FinP c) := Lib.hid finB_p
  generalize wbB c a b = res at *
  go_enter Try.func17, Try.ntmps17
  go_wp2_with fail
  refine (isWeightImpl h h' hl hl').mono ?_
  rintro e w1 ⟨rfl, hw1⟩
  have b1 := below_quiet hw1
  clear hw1
  cases hA : isW c a
  · have e0 : Hid (res = false) := Lib.hid (by rw [HD.out, hA]; rfl)
    go_wp2_with fail
    go_ret
    exact ⟨ret_bool e0.out.symm, b1⟩
  · have HA := Lib.hid hA
    clear hA
    go_wp2_with fail
    refine (isWeightImpl (h.below b1) (h''.below b1) hl hl'').mono ?_
    rintro e w2 ⟨rfl, hw2⟩
    have b02 := Keeps.step b1 (below_quiet hw2)
    clear hw2
    cases hB : isW c b
    · have e0 : Hid (res = false) := Lib.hid (by rw [HD.out, HA.out, hB]; rfl)
      go_wp2_with fail
      go_ret
      exact ⟨ret_bool e0.out.symm, b02⟩
    · have HB := Lib.hid hB
      clear hB
      go_wp2_with fail
      refine (isFiniteImpl (h.below b02) hl).mono ?_
      rintro e w3 ⟨rfl, b3⟩
      have b03 := Keeps.step b02 b3
      cases hF : finB c
      · have e0 : Hid (res = false) := Lib.hid (by rw [HD.out, HA.out, HB.out, hF]; rfl)
        go_wp2_with fail
        go_ret
        exact ⟨ret_bool e0.out.symm, b03⟩
      · have e0 : Hid (res = allW c (dfL b a) c.length) := Lib.hid (by rw [HD.out, HA.out, HB.out, hF]; rfl)
        have HF := Lib.hid (HP.out hF)
        clear hF
        go_wp2_with fail
        refine (differenceImpl (h.below b03) (h''.below b03) (h'.below b03) HF.out hl HA.out HB.out).mono ?_
        rintro e w4 ⟨r4, rfl, b4⟩
        generalize allW c (dfL b a) c.length = q at *
        go_wp2_with fail
        go_ret
        exact ⟨ret_bool e0.out.symm, Keeps.step b03 b4⟩

end Go.Proofs.Yteglcjembimegaa
