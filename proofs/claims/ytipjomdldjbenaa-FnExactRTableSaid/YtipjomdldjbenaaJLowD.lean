/- A word without one letter; the covers of an element, by the reference. Condition: sizes up to 2^24. -/
import Derived.Test.YtipjomdldjbenaaJLowP
import Derived.Test.YtipjomdldjbenaaJPutE
import Derived.Test.YtipjomdldjbenaaJRpolS
namespace Go.Proofs.Ytipjomdldjbenaa
open Go.RowKit
set_option maxRecDepth 20000

def delTo (l : List Int) (k i : Nat) : List Int := (l.take i).eraseIdx k
theorem delTo_len (l : List Int) (k i : Nat) : (delTo l k i).length ≤ l.length := by
  have := (List.eraseIdx_sublist (l.take i) k).length_le
  unfold delTo
  rw [List.length_take] at this
  omega
theorem delTo_other {l : List Int} {k i : Nat} {x : Int} (h : l[i]? = some x) (hne : i ≠ k) : delTo l k (i + 1) = delTo l k i ++ [x] := by
  have hi := (List.getElem?_eq_some_iff.1 h).1
  unfold delTo
  rw [take_step h]
  rcases Nat.lt_or_ge k i with hk | hk
  · rw [List.eraseIdx_append_of_lt_length (by rw [List.length_take]; omega)]
  · rw [List.eraseIdx_of_length_le (by simp; omega), List.eraseIdx_of_length_le (by simp; omega)]
theorem delTo_same {l : List Int} {k i : Nat} {x : Int} (h : l[i]? = some x) (he : i = k) : delTo l k (i + 1) = delTo l k i := by
  subst he
  have hi := (List.getElem?_eq_some_iff.1 h).1
  unfold delTo
  have hlen : (l.take i).length = i := by rw [List.length_take]; omega
  rw [take_step h, List.eraseIdx_append_of_length_le (by omega), hlen, Nat.sub_self]
  show l.take i ++ [] = _
  rw [List.append_nil, List.eraseIdx_of_length_le (by omega)]

set_option maxHeartbeats 4000000 in
theorem deleteAtSpec {S : Nat → Prop} {w : World} {v : Value} {l : List Int} (h : RI S w v l) (q : Nat) (hl : l.length ≤ 1048576) :
    Calls Try.prog 45 #[v, .int .i64 q] w fun e w' => ∃ r, e = .returned r ∧ FI (New w w') w' r (l.eraseIdx q) ∧ Below w.heap.size w w' := by
  have mixed : Try.prog.follows .mixedOrders = true := by kernel_rfl
  obtain ⟨w1, hw1⟩ : ∃ w1, w1 = w.alloc (.cells #[] 3) := ⟨_, rfl⟩
  have fe := fresh_of (Below.refl _ w) hw1
  have hs1 : HS w w1 [aI (.slice (some ⟨w.heap.size, 0, none⟩) 0 0) (delTo l q 0)] := by
    have := HSx.addI (HS.nil (Below.refl _ w)) fe.2 fe.1
    have e : delTo l q 0 = [] := by simp [delTo]
    rw [e]; exact this
  have HW1 := Lib.hid hw1
  have HST := Lib.hid (fun (i : Nat) (x : Int) (hx : l[i]? = some x) => delTo_other (k := q) hx)
  have HSS := Lib.hid (fun (i : Nat) (x : Int) (hx : l[i]? = some x) => delTo_same (k := q) hx)
  have HLN := Lib.hid (delTo_len l q)
  have HE : Hid (delTo l q l.length = l.eraseIdx q) := Lib.hid (by unfold delTo; rw [List.take_of_length_le (Nat.le_refl _)])
  have h0 := h
  obtain ⟨a, cap, rfl⟩ := h.form
  generalize hn : l.length = n at *
  clear hw1 hn fe
  go_enter Try.func45, Try.ntmps45
  go_wp2_with fail
  rw [← HW1.out]
  go_loopw [5, 6] (fun oo kk wr => ∃ (k : Nat) (vo : Value), vo = oo ∧ k ≤ n ∧ kk = .int .i64 k ∧ HS w wr [aI vo (delTo l q k)]) (fun _ kk _ => n - (intOf kk).toNat)
  case atStart => exact ⟨0, _, rfl, Nat.zero_le _, rfl, hs1⟩
  case round =>
    clear hs1
    obtain ⟨k, vo, rfl, hk, rfl, hs⟩ := hrel
    by_cases hkn : k < n
    · have i1 : (k : Int) < (n : Int) := by omega
      have i2 : (0 : Int) ≤ (k : Int) := by omega
      obtain ⟨b4, o4, x, rfl, hcx, hx⟩ := RI.at (h0.below hs.bl) hkn
      by_cases hkq : k = q
      · have HS2 : Hid (delTo l q k = delTo l q (k + 1)) := Lib.hid (HSS.out k x hx.out hkq).symm
        have i3 : ((k : Int) != (q : Int)) = false := by simp [hkq]
        rw [HS2.out] at hs
        clear hkq hx
        go_wp2_with fail
        go_roundw
        case rel => exact ⟨k + 1, _, rfl, by omega, by go_num, hs⟩
        case measure => simp [intOf]; omega
      · have HS2 : Hid (delTo l q (k + 1) = delTo l q k ++ [x]) := Lib.hid (HST.out k x hx.out hkq)
        have i3 : ((k : Int) != (q : Int)) = true := by simp; omega
        obtain ⟨w5, hw5⟩ : ∃ w5, w5 = wr.alloc (.cells #[.int .i64 x] 3) := ⟨_, rfl⟩
        have hs5 : HS w w5 [aI vo (delTo l q k)] := by rw [hw5]; exact HSx.alloc hs _
        have hc5 : w5.cell? ⟨wr.heap.size, 0, none⟩ = some (.int .i64 x) := by rw [hw5]; go_simp
        have HW5 := Lib.hid hw5
        have HL5 : Hid ((delTo l q k).length + 1 ≤ 67108864) := Lib.hid (by have := HLN.out k; omega)
        clear hw5 hs hkq hx
        go_wp2_with (at_builtin; go_must (rw [← HW5.out]; refine wpList_hsI rfl _ _ rfl rfl hs5 0 rfl rfl hc5 HL5.out ?_))
        intro v6 w6 hs6
        have hs6 : HS w w6 [aI v6 (delTo l q (k + 1))] := by rw [HS2.out]; exact hs6
        clear hs5
        go_wp2_with fail
        go_roundw
        case rel => exact ⟨k + 1, _, rfl, by omega, by go_num, hs6⟩
        case measure => simp [intOf]; omega
    · have i1 : ¬ (k : Int) < (n : Int) := by omega
      have e : k = n := by omega
      rw [e, HE.out] at hs
      clear e
      go_wp2_with fail
      go_ret
      exact ⟨_, rfl, hs.I 0 rfl, hs.bl⟩

def brL (c : List (List Int)) (l : List Int) : List (List Int) := if isWd c l then covL c (normL c l) else []
def covTo (c : List (List Int)) (x : List Int) (k : Nat) : List (List Int) := (List.range k).foldl (covF c x) []
theorem covTo_step (c : List (List Int)) (x : List Int) (k : Nat) : covTo c x (k + 1) = covF c x (covTo c x k) k := by unfold covTo; rw [List.range_succ, List.foldl_append]; rfl
theorem covTo_mem {c : List (List Int)} (hc : CartanP c) {x : List Int} (hx : Lets c.length x) (lx : x.length ≤ 24) {k : Nat} (_hk : k ≤ x.length) : ∀ y ∈ covTo c x k, y.length ≤ 24 := fun y hy => by
  obtain ⟨m, _, _, rfl⟩ := (mem_covF k).1 hy
  have hs := List.eraseIdx_sublist x m
  have := hs.length_le
  have := normL_le hc (lets_subL hx hs) (by omega)
  omega
theorem covTo_len (c : List (List Int)) (x : List Int) (k : Nat) : (covTo c x k).length ≤ k := covF_len k

set_option maxHeartbeats 8000000 in
theorem coversSpec {S S' : Nat → Prop} {u v : Value} {c : List (List Int)} {l : List Int} {w : World} (h : RII S w u c) (h' : RI S' w v l) (hl : total c ≤ 16777216) (hl' : l.length ≤ 16777216) :
    Calls Try.prog 26 #[u, v] w fun e w' => ∃ r, e = .returned r ∧ FII (New w w') w' r (brL c l) ∧ Below w.heap.size w w' := by
  have mixed : Try.prog.follows .mixedOrders = true := by kernel_rfl
  obtain ⟨w1, hw1⟩ : ∃ w1, w1 = w.alloc (.cells #[] 23) := ⟨_, rfl⟩
  have hs1 := HSx.addF (HS.nil (Below.refl _ w)) (FII.empty_of (Below.refl _ w) hw1).2 (FII.empty_of (Below.refl _ w) hw1).1
  have hs1 : HS w w1 [aF (.slice (some ⟨w.heap.size, 0, none⟩) 0 0) []] := hs1
  have hnf := normalFormSpec (h.below hs1.bl) (h'.below hs1.bl) hl hl'
  have HW1 := Lib.hid hw1
  clear hw1
  cases hwd : isWd c l with
  | false =>
    have HB : Hid (brL c l = []) := Lib.hid (by unfold brL; rw [hwd]; rfl)
    have hn0 : nform c l = [] := by unfold nform; rw [hwd]; rfl
    rw [hwd, hn0] at hnf
    clear hwd hn0
    go_enter Try.func26, Try.ntmps26
    go_wp2_with fail
    rw [← HW1.out]
    refine hnf.mono ?_
    rintro e w2 ⟨r2, rfl, f2, b2⟩
    have hs2 := HSx.below hs1 b2
    obtain ⟨a2, c2, rfl⟩ := f2.form
    simp only [List.length_nil]
    clear hs1 hnf f2 b2
    go_wp2_with fail
    go_loopw [5, 8] (fun oo kk wr => oo = .slice (some ⟨w.heap.size, 0, none⟩) 0 0 ∧ kk = .int .i64 0 ∧ wr = w2) (fun _ _ _ => 0)
    case atStart => exact ⟨rfl, rfl, rfl⟩
    case round =>
      obtain ⟨rfl, rfl, rfl⟩ := hrel
      go_wp2_with fail
      go_ret
      exact ⟨_, rfl, by rw [HB.out]; exact HS.F hs2 0 rfl, hs2.bl⟩
  | true =>
    obtain ⟨hisc, hlen15, hlets⟩ := isWd_parts hwd
    have hc : CartanP c := isC_iff.1 hisc
    have hX : nform c l = normL c l := by unfold nform; rw [hwd]; rfl
    have HB : Hid (brL c l = covTo c (normL c l) (normL c l).length) := Lib.hid (by unfold brL; rw [hwd]; rfl)
    have hxl := normL_lets hc hlets (by omega)
    have hxn := normL_le hc hlets (by omega)
    rw [hwd, hX] at hnf
    generalize normL c l = X at *
    have HSTP := Lib.hid (covTo_step c X)
    have HCM := Lib.hid (fun (k : Nat) (hk : k ≤ X.length) => covTo_mem hc hxl (by omega) hk)
    have HCL := Lib.hid (covTo_len c X)
    have HNS := Lib.hid (fun (wv : World) (S9 : Nat → Prop) (vv : Value) (k : Nat) (hb : Below w.heap.size w wv) (hv : RI S9 wv vv (X.eraseIdx k)) => normalSpec (h.below hb) hv hc (lets_subL hxl (List.eraseIdx_sublist X k)) hl (by have := (List.eraseIdx_sublist X k).length_le; omega))
    have HYL : Hid (∀ k, (normL c (X.eraseIdx k)).length ≤ 30) := Lib.hid (fun k => by
      have hs := List.eraseIdx_sublist X k
      have := hs.length_le
      have := normL_le hc (lets_subL hxl hs) (by omega)
      omega)
    have hX30 : X.length ≤ 15 := by omega
    have HC0 : Hid (covTo c X 0 = []) := Lib.hid rfl
    clear hwd hX hisc hlets hxl hlen15 hxn hc h h'
    go_enter Try.func26, Try.ntmps26
    go_wp2_with fail
    rw [← HW1.out]
    refine hnf.mono ?_
    rintro e w2 ⟨r2, rfl, f2, b2⟩
    have hs2 := HSx.addI hs1 b2 f2
    obtain ⟨a2, c2, rfl⟩ := f2.form
    generalize hm : X.length = m at *
    have HM := Lib.hid hm
    have hs2 : HS w w2 [aF (.slice (some ⟨w.heap.size, 0, none⟩) 0 0) (covTo c X 0), aI (.slice a2 m c2) X] := by rw [HC0.out]; exact hs2
    clear hs1 hnf f2 b2 hm
    go_wp2_with fail
    go_loopw [5, 8] (fun oo kk wr => ∃ (k : Nat) (vo : Value), vo = oo ∧ k ≤ m ∧ kk = .int .i64 k ∧ HS w wr [aF vo (covTo c X k), aI (.slice a2 m c2) X]) (fun _ kk _ => m - (intOf kk).toNat)
    case atStart => exact ⟨0, _, rfl, Nat.zero_le _, rfl, hs2⟩
    case round =>
      clear hs2
      obtain ⟨k, vo, rfl, hk, rfl, hs⟩ := hrel
      by_cases hkm : k < m
      · have i1 : (k : Int) < (m : Int) := by omega
        have i2 : (0 : Int) ≤ (k : Int) := by omega
        have hdel := deleteAtSpec (HS.I hs 1 rfl).reads k (by rw [HM.out]; omega)
        go_wp2_with fail
        refine hdel.mono ?_
        rintro e w3 ⟨r3, rfl, f3, b3⟩
        have hs3 := HSx.addI hs b3 f3
        have hs3 : HS w w3 [aF vo (covTo c X k), aI (.slice a2 m c2) X, aI r3 (X.eraseIdx k)] := hs3
        have hns := HNS.out w3 _ r3 k hs3.bl f3.reads
        clear hdel f3 b3 hs
        go_wp2_with fail
        refine hns.mono ?_
        rintro e w4 ⟨r4, rfl, f4, b4⟩
        have hs4 := HSx.addI hs3 b4 f4
        have hs4 : HS w w4 [aF vo (covTo c X k), aI (.slice a2 m c2) X, aI r3 (X.eraseIdx k), aI r4 (normL c (X.eraseIdx k))] := hs4
        obtain ⟨a4, c4, rfl⟩ := f4.form
        have hyl := HYL.out k
        have hst := HSTP.out k
        unfold covF at hst
        generalize hy : (normL c (X.eraseIdx k)).length = ny at *
        have HY := Lib.hid hy
        clear hns f4 b4 hs3 hy
        rw [HM.out] at hst
        by_cases hc : ny + 1 = m
        · rw [if_pos hc] at hst
          have HST := Lib.hid hst
          have i3 : ((ny : Int) == (m : Int) - 1) = true := by simp; omega
          have i4 : (m : Int) - 1 = (ny : Int) := by omega
          have hr5 := (HS.I hs4 3 rfl).reads
          obtain ⟨F, hF, hFn, HBK⟩ := hs4.lend 0 rfl
          have hcall := putESpec hF hFn hr5 (fun z hz => by have := HCM.out k (by omega) z hz; omega) (by have := HCL.out k; omega) (by rw [HY.out]; omega)
          have HPC : Hid (PutEC F (normL c (X.eraseIdx k)) (covTo c X k) w4 = fun e w' => ∃ r, e = .returned r ∧ HSx F w4 w' [aF r (putE (normL c (X.eraseIdx k)) (covTo c X k))]) := Lib.hid rfl
          rw [HPC.out] at hcall
          clear hst hc hr5 hF
          go_wp2_with fail
          refine hcall.mono ?_
          rintro e w6 ⟨r6, rfl, h6⟩
          rw [← HST.out] at h6
          have hs7 := HSx.pick (HBK.out w6 _ h6) [0, 1] (by decide)
          have hs7 : HS w w6 [aF r6 (covTo c X (k + 1)), aI (.slice a2 m c2) X] := hs7
          clear hcall h6 hs4
          go_wp2_with fail
          go_roundw
          case rel => exact ⟨k + 1, _, rfl, by omega, by go_num, hs7⟩
          case measure => simp [intOf]; omega
        · rw [if_neg hc] at hst
          have i3 : ((ny : Int) == (m : Int) - 1) = false := by simp; omega
          have hs7 := HSx.pick hs4 [0, 1] (by decide)
          have hs7 : HS w w4 [aF vo (covTo c X (k + 1)), aI (.slice a2 m c2) X] := by rw [hst]; exact hs7
          clear hst hc hs4
          go_wp2_with fail
          go_roundw
          case rel => exact ⟨k + 1, _, rfl, by omega, by go_num, hs7⟩
          case measure => simp [intOf]; omega
      · have i1 : ¬ (k : Int) < (m : Int) := by omega
        have e : k = m := by omega
        rw [e] at hs
        clear e
        go_wp2_with fail
        go_ret
        exact ⟨_, rfl, by rw [HB.out]; exact HS.F hs 0 rfl, hs.bl⟩
end Go.Proofs.Ytipjomdldjbenaa
