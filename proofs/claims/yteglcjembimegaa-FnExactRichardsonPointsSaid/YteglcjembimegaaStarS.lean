/- The product that never shortens by the reference; whether a word covers all. Condition: sizes up to 2^24. -/
import Derived.Test.YteglcjembimegaaStar
namespace Go.Proofs.Yteglcjembimegaa
open Go.RowKit
set_option maxRecDepth 20000

set_option maxHeartbeats 1000000 in
theorem concatSpec {S S' : Nat → Prop} {u v : Value} {l l' : List Int} {w : World} (h : RI S w u l) (h' : RI S' w v l') (hl : l.length ≤ 16777216) (hl' : l'.length ≤ 16777216) :
    Calls Try.prog 101 #[u, v] w fun e w' => ∃ r, e = .returned r ∧ FI (New w w') w' r (l ++ l') ∧ Below w.heap.size w w' := by
  obtain ⟨a, cap, rfl⟩ := h.form
  obtain ⟨a', cap', rfl⟩ := h'.form
  obtain ⟨f1, b1⟩ := fresh_of (w := w) (Below.refl _ w) rfl
  go_enter Try.func101, Try.ntmps101
  go_wp2_with (at_builtin; go_must (refine wpList_app (W := w) rfl _ _ rfl rfl f1 b1 rfl (h.below b1) ?_ ?_))
  · first | omega | (simp; omega) | (simp; done)
  · intro v2 w2 f2 b2 _
    clear f1 b1
    go_wp2_with (at_builtin; go_must (refine wpList_app (W := w) rfl _ _ rfl rfl f2 b2 rfl (h'.below b2) ?_ ?_))
    · first | omega | (simp; omega) | (simp; done)
    · intro v3 w3 f3 b3 _
      go_wp2_with fail
      go_ret
      exact ⟨_, rfl, f3, b3⟩

theorem starL_gt {c : List (List Int)} (_ : CartanP c) {x : List Int} {i : Nat} (_ : Lets c.length x) (_ : i < c.length) (_ : x.length ≤ 28) (h : x.length < (normL c (x ++ [(i : Int)])).length) : starL c x i = normL c (x ++ [(i : Int)]) := starL_no (by omega)
theorem starL_ngt {c : List (List Int)} (hc : CartanP c) {x : List Int} {i : Nat} (hx : Lets c.length x) (hi : i < c.length) (hl : x.length ≤ 28) (h : ¬ x.length < (normL c (x ++ [(i : Int)])).length) : starL c x i = x := starL_yes (by have := (norm_snoc hc hx hi hl).2; omega)

set_option maxHeartbeats 1000000 in
theorem starSpec {S S' : Nat → Prop} {u z v : Value} {c : List (List Int)} {x0 l : List Int} {w W : World} (h : RII S w u c) (hz : FI (New W w) w z x0) (h' : RI S' w v l) (hW : Below W.heap.size W w) (hc : CartanP c) (hl : total c ≤ 16777216) (hx0 : x0 = []) (hll : l.length ≤ 15) (hle : Lets c.length l) :
    Calls Try.prog 132 #[u, z, v] w fun e w' => ∃ r, e = .returned r ∧ FI (New W w') w' r (starW c [] l) ∧ Below W.heap.size W w' := by
  obtain ⟨a', cap', rfl⟩ := h'.form
  have HC := Lib.hid hc
  have HLE := Lib.hid hle
  have HR0 : Hid (starW c x0 (l.drop 0) = starW c [] l) := Lib.hid (by rw [hx0]; simp)
  have HRN : Hid (∀ x, starW c x (l.drop l.length) = x) := Lib.hid (fun x => by rw [List.drop_length]; rfl)
  have HX0 : Hid (Lets c.length x0) := Lib.hid (fun y hy => by rw [hx0] at hy; simp at hy)
  have hx0l : x0.length ≤ 0 := by rw [hx0]; exact Nat.le_refl _
  clear hc hle hx0
  generalize hm : l.length = m at *
  have HM := Lib.hid hm
  clear hm
  go_enter Try.func132, Try.ntmps132
  go_wp2_with fail
  go_loopw [1, 7] (fun yy j wr => ∃ (k : Nat) (y : Value) (x : List Int), y = yy ∧ k ≤ m ∧ j = .int .i64 k ∧ FI (New W wr) wr y x ∧ x.length ≤ k ∧ Hid (Lets c.length x) ∧ Hid (starW c x (l.drop k) = starW c [] l) ∧ Below w.heap.size w wr ∧ Below W.heap.size W wr) (fun _ j _ => m - (intOf j).toNat)
  case atStart => exact ⟨0, _, x0, rfl, Nat.zero_le _, rfl, hz, hx0l, HX0, HR0, Below.refl _ _, hW⟩
  case round =>
    obtain ⟨k, y, x, rfl, hk, rfl, hf, hxl, HL, HK, hb, hbW⟩ := hrel
    by_cases hlt : k < m
    · obtain ⟨b, o, q, e9, hcy, hy⟩ := (h'.below hb).at hlt
      subst e9
      obtain ⟨i, rfl, hi⟩ := lets_at HLE.out hy.out
      have HSN := Lib.hid (lets_snoc HL.out hi)
      have HOK := Lib.hid (starL_ok HC.out HL.out hi (by omega))
      have HGT := Lib.hid (starL_gt HC.out HL.out hi (by omega))
      have HNG := Lib.hid (starL_ngt HC.out HL.out hi (by omega))
      have HK2 : Hid (starW c (starL c x i) (l.drop (k + 1)) = starW c [] l) := Lib.hid ((starW_drop hy.out).symm.trans HK.out)
      generalize starL c x i = sx at *
      have i1 : (k : Int) < (m : Int) := by omega
      obtain ⟨ay, cy, rfl⟩ := hf.form
      have bb : Below wr.heap.size wr (wr.alloc (.cells #[.int .i64 i] 3)) := (Below.refl _ _).alloc (Nat.le_refl _) _
      go_wp2_with fail
      refine (concatSpec (hf.below bb).reads (RI.one wr i) (by omega) (by simp)).mono ?_
      rintro e w2 ⟨r2, rfl, f2, b2⟩
      have b12 := Keeps.step bb b2
      have b02 := Keeps.step hb b12
      go_wp2_with fail
      refine (normalSpec (h.below b02) f2.reads HC.out HSN.out hl (by simp; omega)).mono ?_
      rintro e w3 ⟨r3, rfl, f3, b3⟩
      obtain ⟨a3, c3, rfl⟩ := f3.form
      have b13 := Keeps.step b12 b3
      have b03 := Keeps.step hb b13
      have bW3 : Below W.heap.size W w3 := hbW.trans (b13.mono hbW.size)
      by_cases hgt : x.length < (normL c (x ++ [(i : Int)])).length
      · have e0 := Lib.hid (HGT.out hgt)
        have i2 : (x.length : Int) < ((normL c (x ++ [(i : Int)])).length : Int) := by omega
        have f3' : FI (New W w3) w3 (.slice a3 (normL c (x ++ [(i : Int)])).length c3) sx := by
          rw [e0.out]; exact f3.mono (fun b hb' => ⟨by have := hbW.size; have := b12.size; have := hb'.1; omega, hb'.2⟩)
        clear hgt
        generalize (normL c (x ++ [(i : Int)])).length = p at *
        go_wp2_with fail
        go_roundw
        case rel => exact ⟨k + 1, _, sx, rfl, by omega, by go_num, f3', by have := HOK.out.2; omega, Lib.hid HOK.out.1, HK2, b03, bW3⟩
        case measure => simp [intOf]; omega
      · have e0 := Lib.hid (HNG.out hgt)
        have i2 : ¬ (x.length : Int) < ((normL c (x ++ [(i : Int)])).length : Int) := by omega
        have hf2 : FI (New W w3) w3 (.slice ay x.length cy) sx := by rw [e0.out]; exact hf.grow b13
        clear hgt
        generalize (normL c (x ++ [(i : Int)])).length = p at *
        go_wp2_with fail
        go_roundw
        case rel => exact ⟨k + 1, _, sx, rfl, by omega, by go_num, hf2, by have := HOK.out.2; omega, Lib.hid HOK.out.1, HK2, b03, bW3⟩
        case measure => simp [intOf]; omega
    · have hkm : k = m := by omega
      have e0 : Hid (x = starW c [] l) := Lib.hid (by have := HK.out; rw [hkm, HRN.out] at this; exact this)
      have i1 : ¬ (k : Int) < (m : Int) := by omega
      clear hkm
      go_wp2_with fail
      go_ret
      exact ⟨_, rfl, by rw [← e0.out]; exact hf, hbW⟩

set_option maxHeartbeats 1000000 in
theorem starWordSpec {S S' : Nat → Prop} {u v : Value} {c : List (List Int)} {l : List Int} {w : World} (h : RII S w u c) (h' : RI S' w v l) (hl : total c ≤ 16777216) (hl' : l.length ≤ 16777216) :
    Calls Try.prog 88 #[u, v] w fun e w' => ∃ r, e = .returned (.tuple #[r, .bool (isWd c l)]) ∧ FI (New w w') w' r (if isWd c l then starW c [] l else []) ∧ Below w.heap.size w w' := by
  have HP : Hid (isWd c l = true → CartanP c ∧ l.length ≤ 15 ∧ Lets c.length l) := Lib.hid (fun h => by obtain ⟨h1, h2, h3⟩ := isWd_parts h; exact ⟨isC_iff.1 h1, h2, h3⟩)
  generalize hq : isWd c l = qq at *
  have HQE := Lib.hid hq
  clear hq
  go_enter Try.func88, Try.ntmps88
  go_wp2_with fail
  refine (isWordSpec h h' hl hl').mono ?_
  rintro e w1 ⟨rfl, hw1⟩
  have b1 := below_quiet hw1
  clear hw1
  obtain ⟨f1, b2⟩ := fresh_of (w := w1) b1 rfl
  rw [HQE.out]
  cases qq
  · go_wp2_with fail
    go_ret2
    exact ⟨_, rfl, f1, b2⟩
  · have HQ := Lib.hid (HP.out rfl)
    clear HP
    go_wp2_with fail
    refine (starSpec (W := w) (h.below b2) f1 (h'.below b2) b2 HQ.out.1 hl rfl HQ.out.2.1 HQ.out.2.2).mono ?_
    rintro e w3 ⟨r3, rfl, f3, b3⟩
    go_wp2_with fail
    go_ret2
    exact ⟨_, rfl, f3, b3⟩

theorem rep_step (k : Nat) : List.replicate (k + 1) (-1 : Int) = List.replicate k (-1) ++ [-1] := by simp [List.replicate_succ']

set_option maxHeartbeats 1000000 in
theorem longestSpec {S : Nat → Prop} {u : Value} {c : List (List Int)} {w : World} (h : RII S w u c) (hl : total c ≤ 16777216) :
    Calls Try.prog 89 #[u] w fun e w' => ∃ r, e = .returned (.tuple #[r, .bool (finB c)]) ∧ FI (New w w') w' r (if finB c then longL c else []) ∧ Below w.heap.size w w' := by
  have HP : Hid (finB c = true → FinP c) := Lib.hid finB_p
  obtain ⟨a, cap, rfl⟩ := h.form
  generalize hq : finB c = qq at *
  have HQE := Lib.hid hq
  clear hq
  go_enter Try.func89, Try.ntmps89
  go_wp2_with fail
  refine (isFiniteSpec h hl).mono ?_
  rintro e w1 ⟨rfl, b1⟩
  rw [HQE.out]
  cases qq
  · obtain ⟨f1, b2⟩ := fresh_of (w := w1) b1 rfl
    go_wp2_with fail
    go_ret2
    exact ⟨_, rfl, f1, b2⟩
  · have HQ := Lib.hid (HP.out rfl)
    have HC := Lib.hid HQ.out.cart
    have hn4 := HQ.out.cart.le
    have HIM := Lib.hid HQ.out.long
    have HLL : Hid (nf c 30 (List.replicate c.length (-1)) = longL c) := Lib.hid rfl
    clear HP
    generalize hn : c.length = n at *
    have HN := Lib.hid hn
    clear hn
    go_wp2_with fail
    obtain ⟨w2, hw2⟩ : ∃ w2, w2 = w1.alloc (.cells #[] 3) := ⟨_, rfl⟩
    obtain ⟨f2, b2⟩ := fresh_of b1 hw2
    rw [← hw2]
    clear hw2
    have f2' : FI (New w w2) w2 (.slice (some ⟨w1.heap.size, 0, none⟩) 0 0) (List.replicate 0 (-1)) := f2
    go_loopw [4, 5] (fun zz j wr => ∃ (k : Nat) (z : Value), z = zz ∧ k ≤ n ∧ j = .int .i64 k ∧ FI (New w wr) wr z (List.replicate k (-1)) ∧ Below w.heap.size w wr) (fun _ j _ => n - (intOf j).toNat)
    case atStart => exact ⟨0, _, rfl, Nat.zero_le _, rfl, f2', b2⟩
    case round =>
      obtain ⟨k, z, rfl, hk, rfl, hf, hb⟩ := hrel
      have HAL : Hid ((List.replicate k (-1 : Int)).length = k) := Lib.hid (by simp)
      have HST := Lib.hid (rep_step k)
      by_cases hlt : k < n
      · have i1 : (k : Int) < (n : Int) := by omega
        generalize List.replicate k (-1 : Int) = A at *
        have bb : Below wr.heap.size wr (wr.alloc (.cells #[.int .i64 (-1)] 3)) := (Below.refl _ _).alloc (Nat.le_refl _) _
        go_wp2_with (at_builtin; go_must (refine wpList_app (W := w) rfl _ _ rfl rfl (hf.grow bb) (Keeps.step hb bb) rfl (RI.one _ (-1)) ?_ ?_))
        · have := HAL.out; simp; omega
        · intro v7 w7 f7 b7 _
          go_wp2_with fail
          go_roundw
          case rel => exact ⟨k + 1, _, rfl, by omega, by go_num, by rw [HST.out]; exact f7, b7⟩
          case measure => simp [intOf]; omega
      · have hkn : k = n := by omega
        have i1 : ¬ (k : Int) < (n : Int) := by omega
        rw [hkn] at hf
        clear hkn
        have hu := h.below hb
        go_wp2_with fail
        refine (formSpec hu hf.reads HC.out HIM.out.1 (by have := HIM.out.2; omega)).mono ?_
        rintro e w4 ⟨r4, rfl, f4, b4⟩
        rw [HLL.out] at f4
        go_wp2_with fail
        go_ret2
        exact ⟨_, rfl, f4.mono (fun b hb' => ⟨Nat.le_trans hb.size hb'.1, hb'.2⟩), Keeps.step hb b4⟩

set_option maxHeartbeats 1000000 in
theorem longestImpl {S : Nat → Prop} {u : Value} {c : List (List Int)} {w : World} (h : RII S w u c) (hF : FinP c) :
    Calls Try.prog 93 #[u] w fun e w' => ∃ r, e = .returned r ∧ FI (New w w') w' r (longL c) ∧ Below w.heap.size w w' := by
  have HC := Lib.hid hF.cart
  have hn4 := hF.cart.le
  have HIM := Lib.hid hF.long
  have HLL : Hid (nf c 30 (List.replicate c.length (-1)) = longL c) := Lib.hid rfl
  have h0 := h.old
  obtain ⟨a, cap, rfl⟩ := h.form
  clear hF
  generalize hn : c.length = n at *
  have HN := Lib.hid hn
  clear hn
  have HM0 : Hid ((List.replicate n (1 : Int)).take 0 = [] ∧ ∀ k, ((List.replicate n (1 : Int)).take k).map (fun _ => (-1 : Int)) ++ (List.replicate n (1 : Int)).drop k = List.replicate (min k n) (-1) ++ List.replicate (n - k) 1) := Lib.hid ⟨by simp, fun k => by simp⟩
  go_enter Try.func93, Try.ntmps93
  go_wp2_with fail
  refine (onesImpl n (by omega)).mono ?_
  rintro e w2 ⟨r2, rfl, f2, b2⟩
  obtain ⟨a2, c2, e2⟩ := f2.form
  have e3 : r2 = .slice a2 n c2 := by rw [e2]; simp
  subst e3
  clear e2
  have f3 : FI (New w w2) w2 (.slice a2 n c2) (((List.replicate n (1 : Int)).take 0).map (fun _ => (-1 : Int)) ++ (List.replicate n (1 : Int)).drop 0) := by simpa using f2
  clear f2
  have HRL : Hid ((List.replicate n (1 : Int)).length = n) := Lib.hid (by simp)
  have HEND : Hid (((List.replicate n (1 : Int)).take n).map (fun _ => (-1 : Int)) ++ (List.replicate n (1 : Int)).drop n = List.replicate n (-1)) := Lib.hid (by simp)
  clear HM0
  generalize List.replicate n (1 : Int) = R at *
  go_wp2_with fail
  go_loopw [10] (fun j wr => ∃ (k : Nat), k ≤ n ∧ j = .int .i64 k ∧ FI (New w w2) wr (.slice a2 n c2) ((R.take k).map (fun _ => (-1 : Int)) ++ R.drop k) ∧ Only (New w w2) w2 wr) (fun j _ => n - (intOf j).toNat)
  case atStart => exact ⟨0, Nat.zero_le _, rfl, f3, Only.refl _ _⟩
  case round =>
    obtain ⟨k, hk, rfl, hf, ho⟩ := hrel
    by_cases hlt : k < n
    · obtain ⟨x, hx⟩ : ∃ x, R[k]? = some x := ⟨_, List.getElem?_eq_getElem (by have := HRL.out; omega)⟩
      obtain ⟨g, rfl, hg, _⟩ := hf.head (by omega)
      have hlk : ((R.take k).map (fun _ => (-1 : Int)) ++ R.drop k).length = n := by rw [map_len]; exact HRL.out
      have hcx := hf.cell (map_at hx) hlt
      have hfr := hf.froz hlk k
      have hst := hf.put hlk k (-1)
      have hms : ((R.take k).map (fun _ => (-1 : Int)) ++ R.drop k).set k (-1) = (R.take (k + 1)).map (fun _ => (-1 : Int)) ++ R.drop (k + 1) := map_step (f := fun _ => (-1 : Int)) hx
      rw [hms] at hst
      have HST := Lib.hid hst
      clear hst hms hx
      have i1 : (k : Int) < (n : Int) := by omega
      go_wp2_with fail
      go_roundw
      case rel => exact ⟨k + 1, by omega, by go_num, HST.out, Only.setCell ho hg _⟩
      case measure => simp [intOf]; omega
    · have hkn : k = n := by omega
      have i1 : ¬ (k : Int) < (n : Int) := by omega
      rw [hkn, HEND.out] at hf
      clear hkn
      have hb : Below w.heap.size w wr := b2.trans (ho.below (fun b hb => hb.1))
      go_wp2_with fail
      refine (normalImplG (h.below hb) hf.reads HC.out (down_im HC.out) ⟨HIM.out.1, by have := HIM.out.2; omega⟩).mono ?_
      rintro e w4 ⟨r4, rfl, f4, b4⟩
      rw [HLL.out] at f4
      go_wp2_with fail
      go_ret
      exact ⟨_, rfl, f4.mono (fun b hb' => ⟨Nat.le_trans hb.size hb'.1, hb'.2⟩), Keeps.step hb b4⟩
end Go.Proofs.Yteglcjembimegaa
