/- A word without one letter; the covers of an element, by the reference. Condition: sizes up to 2^24. The elements below a word, by the reference. Condition: sizes up to 2^24. The elements below a word, by the program. Condition: sizes up to 2^24. -/
import Derived.Test.YtipjomdldjbenaaGreatJGLowP
import Derived.Test.YtipjomdldjbenaaGreatJPutE
import Derived.Test.YtipjomdldjbenaaGreatJGRp2
import Derived.Test.YtipjomdldjbenaaGreatJWsV
import Derived.Test.YtipjomdldjbenaaGreatJGStr
import Derived.Test.YtipjomdldjbenaaGreatJSrtE
import Derived.Test.YtipjomdldjbenaaGreatJGStar
import Derived.Test.YtipjomdldjbenaaGreatJHT
/-! A word without one letter; the covers of an element, by the reference. Condition: sizes up to 2^24. -/
namespace Go.Proofs.YtipjomdldjbenaaGreat
open Go.RowKit
set_option maxRecDepth 20000

def delTo (l : List Int) (k i : Nat) : List Int := (l.take i).eraseIdx k
theorem delTo_len (l : List Int) (k i : Nat) : (delTo l k i).length ≤ l.length := by
  have := (List.eraseIdx_sublist (l.take i) k).length_le
  unfold delTo
  rw [List.length_take] at this
  omega
theorem delTo_other {l : List Int} {k i : Nat} {x : Int} (h : l[i]? = some x) (hne : i ≠ k) : delTo l k (i + 1) = delTo l k i ++ [x] := by
  have hi := (List.getElem?_eq_some_iff.1 h).1
  unfold delTo
  rw [take_step h]
  rcases Nat.lt_or_ge k i with hk | hk
  · rw [List.eraseIdx_append_of_lt_length (by rw [List.length_take]; omega)]
  · rw [List.eraseIdx_of_length_le (by simp; omega), List.eraseIdx_of_length_le (by simp; omega)]
theorem delTo_same {l : List Int} {k i : Nat} {x : Int} (h : l[i]? = some x) (he : i = k) : delTo l k (i + 1) = delTo l k i := by
  subst he
  have hi := (List.getElem?_eq_some_iff.1 h).1
  unfold delTo
  have hlen : (l.take i).length = i := by rw [List.length_take]; omega
  rw [take_step h, List.eraseIdx_append_of_length_le (by omega), hlen, Nat.sub_self]
  show l.take i ++ [] = _
  rw [List.append_nil, List.eraseIdx_of_length_le (by omega)]

set_option maxHeartbeats 4000000 in
theorem deleteAtSpec {S : Nat → Prop} {w : World} {v : Value} {l : List Int} (h : RI S w v l) (q : Nat) (hl : l.length ≤ 1048576) :
    Calls Tryz.prog 61 #[v, .int .i64 q] w fun e w' => ∃ r, e = .returned r ∧ FI (New w w') w' r (l.eraseIdx q) ∧ Below w.heap.size w w' := by
  have mixed : Tryz.prog.follows .mixedOrders = true := by kernel_rfl
  obtain ⟨w1, hw1⟩ : ∃ w1, w1 = w.alloc (.cells #[] 3) := ⟨_, rfl⟩
  have fe := fresh_of (Below.refl _ w) hw1
  have hs1 : HS w w1 [aI (.slice (some ⟨w.heap.size, 0, none⟩) 0 0) (delTo l q 0)] := by
    have := HSx.addI (HS.nil (Below.refl _ w)) fe.2 fe.1
    have e : delTo l q 0 = [] := by simp [delTo]
    rw [e]; exact this
  have HW1 := Lib.hid hw1
  have HST := Lib.hid (fun (i : Nat) (x : Int) (hx : l[i]? = some x) => delTo_other (k := q) hx)
  have HSS := Lib.hid (fun (i : Nat) (x : Int) (hx : l[i]? = some x) => delTo_same (k := q) hx)
  have HLN := Lib.hid (delTo_len l q)
  have HE : Hid (delTo l q l.length = l.eraseIdx q) := Lib.hid (by unfold delTo; rw [List.take_of_length_le (Nat.le_refl _)])
  have h0 := h
  obtain ⟨a, cap, rfl⟩ := h.form
  generalize hn : l.length = n at *
  clear hw1 hn fe
  go_enter Tryz.func61, Tryz.ntmps61
  go_wp2_with fail
  rw [← HW1.out]
  go_loopw [5, 6] (fun oo kk wr => ∃ (k : Nat) (vo : Value), vo = oo ∧ k ≤ n ∧ kk = .int .i64 k ∧ HS w wr [aI vo (delTo l q k)]) (fun _ kk _ => n - (intOf kk).toNat)
  case atStart => exact ⟨0, _, rfl, Nat.zero_le _, rfl, hs1⟩
  case round =>
    clear hs1
    obtain ⟨k, vo, rfl, hk, rfl, hs⟩ := hrel
    by_cases hkn : k < n
    · have i1 : (k : Int) < (n : Int) := by omega
      have i2 : (0 : Int) ≤ (k : Int) := by omega
      obtain ⟨b4, o4, x, rfl, hcx, hx⟩ := RI.at (h0.below hs.bl) hkn
      by_cases hkq : k = q
      · have HS2 : Hid (delTo l q k = delTo l q (k + 1)) := Lib.hid (HSS.out k x hx.out hkq).symm
        have i3 : ((k : Int) != (q : Int)) = false := by simp [hkq]
        rw [HS2.out] at hs
        clear hkq hx
        go_wp2_with fail
        go_roundw
        case rel => exact ⟨k + 1, _, rfl, by omega, by go_num, hs⟩
        case measure => simp [intOf]; omega
      · have HS2 : Hid (delTo l q (k + 1) = delTo l q k ++ [x]) := Lib.hid (HST.out k x hx.out hkq)
        have i3 : ((k : Int) != (q : Int)) = true := by simp; omega
        obtain ⟨w5, hw5⟩ : ∃ w5, w5 = wr.alloc (.cells #[.int .i64 x] 3) := ⟨_, rfl⟩
        have hs5 : HS w w5 [aI vo (delTo l q k)] := by rw [hw5]; exact HSx.alloc hs _
        have hc5 : w5.cell? ⟨wr.heap.size, 0, none⟩ = some (.int .i64 x) := by rw [hw5]; go_simp
        have HW5 := Lib.hid hw5
        have HL5 : Hid ((delTo l q k).length + 1 ≤ 67108864) := Lib.hid (by have := HLN.out k; omega)
        clear hw5 hs hkq hx
        go_wp2_with (at_builtin; go_must (rw [← HW5.out]; refine wpList_hsI rfl _ _ rfl rfl hs5 0 rfl rfl hc5 HL5.out ?_))
        intro v6 w6 hs6
        have hs6 : HS w w6 [aI v6 (delTo l q (k + 1))] := by rw [HS2.out]; exact hs6
        clear hs5
        go_wp2_with fail
        go_roundw
        case rel => exact ⟨k + 1, _, rfl, by omega, by go_num, hs6⟩
        case measure => simp [intOf]; omega
    · have i1 : ¬ (k : Int) < (n : Int) := by omega
      have e : k = n := by omega
      rw [e, HE.out] at hs
      clear e
      go_wp2_with fail
      go_ret
      exact ⟨_, rfl, hs.I 0 rfl, hs.bl⟩

def brL (c : List (List Int)) (l : List Int) : List (List Int) := if isWd c l then covL c (normL c l) else []
def covTo (c : List (List Int)) (x : List Int) (k : Nat) : List (List Int) := (List.range k).foldl (covF c x) []
theorem covTo_step (c : List (List Int)) (x : List Int) (k : Nat) : covTo c x (k + 1) = covF c x (covTo c x k) k := by unfold covTo; rw [List.range_succ, List.foldl_append]; rfl
theorem covTo_mem {c : List (List Int)} (hc : CartanP c) {x : List Int} (hx : Lets c.length x) (lx : x.length ≤ 24) {k : Nat} (_hk : k ≤ x.length) : ∀ y ∈ covTo c x k, y.length ≤ 24 := fun y hy => by
  obtain ⟨m, _, _, rfl⟩ := (mem_covF k).1 hy
  have hs := List.eraseIdx_sublist x m
  have := hs.length_le
  have := normL_le hc (lets_subL hx hs) (by omega)
  omega
theorem covTo_len (c : List (List Int)) (x : List Int) (k : Nat) : (covTo c x k).length ≤ k := covF_len k

set_option maxHeartbeats 8000000 in
theorem coversSpec {S S' : Nat → Prop} {u v : Value} {c : List (List Int)} {l : List Int} {w : World} (h : RII S w u c) (h' : RI S' w v l) (hl : total c ≤ 16777216) (hl' : l.length ≤ 16777216) :
    Calls Tryz.prog 32 #[u, v] w fun e w' => ∃ r, e = .returned r ∧ FII (New w w') w' r (brL c l) ∧ Below w.heap.size w w' := by
  have mixed : Tryz.prog.follows .mixedOrders = true := by kernel_rfl
  obtain ⟨w1, hw1⟩ : ∃ w1, w1 = w.alloc (.cells #[] 23) := ⟨_, rfl⟩
  have hs1 := HSx.addF (HS.nil (Below.refl _ w)) (FII.empty_of (Below.refl _ w) hw1).2 (FII.empty_of (Below.refl _ w) hw1).1
  have hs1 : HS w w1 [aF (.slice (some ⟨w.heap.size, 0, none⟩) 0 0) []] := hs1
  have hnf := normalFormSpec (h.below hs1.bl) (h'.below hs1.bl) hl hl'
  have HW1 := Lib.hid hw1
  clear hw1
  cases hwd : isWd c l with
  | false =>
    have HB : Hid (brL c l = []) := Lib.hid (by unfold brL; rw [hwd]; rfl)
    have hn0 : nform c l = [] := by unfold nform; rw [hwd]; rfl
    rw [hwd, hn0] at hnf
    clear hwd hn0
    go_enter Tryz.func32, Tryz.ntmps32
    go_wp2_with fail
    rw [← HW1.out]
    refine hnf.mono ?_
    rintro e w2 ⟨r2, rfl, f2, b2⟩
    have hs2 := HSx.below hs1 b2
    obtain ⟨a2, c2, rfl⟩ := f2.form
    simp only [List.length_nil]
    clear hs1 hnf f2 b2
    go_wp2_with fail
    go_loopw [5, 8] (fun oo kk wr => oo = .slice (some ⟨w.heap.size, 0, none⟩) 0 0 ∧ kk = .int .i64 0 ∧ wr = w2) (fun _ _ _ => 0)
    case atStart => exact ⟨rfl, rfl, rfl⟩
    case round =>
      obtain ⟨rfl, rfl, rfl⟩ := hrel
      go_wp2_with fail
      go_ret
      exact ⟨_, rfl, by rw [HB.out]; exact HS.F hs2 0 rfl, hs2.bl⟩
  | true =>
    obtain ⟨hisc, hlen15, hlets⟩ := isWd_parts hwd
    have hc : CartanP c := isC_iff.1 hisc
    have hX : nform c l = normL c l := by unfold nform; rw [hwd]; rfl
    have HB : Hid (brL c l = covTo c (normL c l) (normL c l).length) := Lib.hid (by unfold brL; rw [hwd]; rfl)
    have hxl := normL_lets hc hlets (by omega)
    have hxn := normL_le hc hlets (by omega)
    rw [hwd, hX] at hnf
    generalize normL c l = X at *
    have HSTP := Lib.hid (covTo_step c X)
    have HCM := Lib.hid (fun (k : Nat) (hk : k ≤ X.length) => covTo_mem hc hxl (by omega) hk)
    have HCL := Lib.hid (covTo_len c X)
    have HNS := Lib.hid (fun (wv : World) (S9 : Nat → Prop) (vv : Value) (k : Nat) (hb : Below w.heap.size w wv) (hv : RI S9 wv vv (X.eraseIdx k)) => normalSpec (h.below hb) hv hc (lets_subL hxl (List.eraseIdx_sublist X k)) hl (by have := (List.eraseIdx_sublist X k).length_le; omega))
    have HYL : Hid (∀ k, (normL c (X.eraseIdx k)).length ≤ 30) := Lib.hid (fun k => by
      have hs := List.eraseIdx_sublist X k
      have := hs.length_le
      have := normL_le hc (lets_subL hxl hs) (by omega)
      omega)
    have hX30 : X.length ≤ 15 := by omega
    have HC0 : Hid (covTo c X 0 = []) := Lib.hid rfl
    clear hwd hX hisc hlets hxl hlen15 hxn hc h h'
    go_enter Tryz.func32, Tryz.ntmps32
    go_wp2_with fail
    rw [← HW1.out]
    refine hnf.mono ?_
    rintro e w2 ⟨r2, rfl, f2, b2⟩
    have hs2 := HSx.addI hs1 b2 f2
    obtain ⟨a2, c2, rfl⟩ := f2.form
    generalize hm : X.length = m at *
    have HM := Lib.hid hm
    have hs2 : HS w w2 [aF (.slice (some ⟨w.heap.size, 0, none⟩) 0 0) (covTo c X 0), aI (.slice a2 m c2) X] := by rw [HC0.out]; exact hs2
    clear hs1 hnf f2 b2 hm
    go_wp2_with fail
    go_loopw [5, 8] (fun oo kk wr => ∃ (k : Nat) (vo : Value), vo = oo ∧ k ≤ m ∧ kk = .int .i64 k ∧ HS w wr [aF vo (covTo c X k), aI (.slice a2 m c2) X]) (fun _ kk _ => m - (intOf kk).toNat)
    case atStart => exact ⟨0, _, rfl, Nat.zero_le _, rfl, hs2⟩
    case round =>
      clear hs2
      obtain ⟨k, vo, rfl, hk, rfl, hs⟩ := hrel
      by_cases hkm : k < m
      · have i1 : (k : Int) < (m : Int) := by omega
        have i2 : (0 : Int) ≤ (k : Int) := by omega
        have hdel := deleteAtSpec (HS.I hs 1 rfl).reads k (by rw [HM.out]; omega)
        go_wp2_with fail
        refine hdel.mono ?_
        rintro e w3 ⟨r3, rfl, f3, b3⟩
        have hs3 := HSx.addI hs b3 f3
        have hs3 : HS w w3 [aF vo (covTo c X k), aI (.slice a2 m c2) X, aI r3 (X.eraseIdx k)] := hs3
        have hns := HNS.out w3 _ r3 k hs3.bl f3.reads
        clear hdel f3 b3 hs
        go_wp2_with fail
        refine hns.mono ?_
        rintro e w4 ⟨r4, rfl, f4, b4⟩
        have hs4 := HSx.addI hs3 b4 f4
        have hs4 : HS w w4 [aF vo (covTo c X k), aI (.slice a2 m c2) X, aI r3 (X.eraseIdx k), aI r4 (normL c (X.eraseIdx k))] := hs4
        obtain ⟨a4, c4, rfl⟩ := f4.form
        have hyl := HYL.out k
        have hst := HSTP.out k
        unfold covF at hst
        generalize hy : (normL c (X.eraseIdx k)).length = ny at *
        have HY := Lib.hid hy
        clear hns f4 b4 hs3 hy
        rw [HM.out] at hst
        by_cases hc : ny + 1 = m
        · rw [if_pos hc] at hst
          have HST := Lib.hid hst
          have i3 : ((ny : Int) == (m : Int) - 1) = true := by simp; omega
          have i4 : (m : Int) - 1 = (ny : Int) := by omega
          have hr5 := (HS.I hs4 3 rfl).reads
          obtain ⟨F, hF, hFn, HBK⟩ := hs4.lend 0 rfl
          have hcall := putESpec hF hFn hr5 (fun z hz => by have := HCM.out k (by omega) z hz; omega) (by have := HCL.out k; omega) (by rw [HY.out]; omega)
          have HPC : Hid (PutEC F (normL c (X.eraseIdx k)) (covTo c X k) w4 = fun e w' => ∃ r, e = .returned r ∧ HSx F w4 w' [aF r (putE (normL c (X.eraseIdx k)) (covTo c X k))]) := Lib.hid rfl
          rw [HPC.out] at hcall
          clear hst hc hr5 hF
          go_wp2_with fail
          refine hcall.mono ?_
          rintro e w6 ⟨r6, rfl, h6⟩
          rw [← HST.out] at h6
          have hs7 := HSx.pick (HBK.out w6 _ h6) [0, 1] (by decide)
          have hs7 : HS w w6 [aF r6 (covTo c X (k + 1)), aI (.slice a2 m c2) X] := hs7
          clear hcall h6 hs4
          go_wp2_with fail
          go_roundw
          case rel => exact ⟨k + 1, _, rfl, by omega, by go_num, hs7⟩
          case measure => simp [intOf]; omega
        · rw [if_neg hc] at hst
          have i3 : ((ny : Int) == (m : Int) - 1) = false := by simp; omega
          have hs7 := HSx.pick hs4 [0, 1] (by decide)
          have hs7 : HS w w4 [aF vo (covTo c X (k + 1)), aI (.slice a2 m c2) X] := by rw [hst]; exact hs7
          clear hst hc hs4
          go_wp2_with fail
          go_roundw
          case rel => exact ⟨k + 1, _, rfl, by omega, by go_num, hs7⟩
          case measure => simp [intOf]; omega
      · have i1 : ¬ (k : Int) < (m : Int) := by omega
        have e : k = m := by omega
        rw [e] at hs
        clear e
        go_wp2_with fail
        go_ret
        exact ⟨_, rfl, by rw [HB.out]; exact HS.F hs 0 rfl, hs.bl⟩
end Go.Proofs.YtipjomdldjbenaaGreat

/-! The elements below a word, by the reference. Condition: sizes up to 2^24. -/
namespace Go.Proofs.YtipjomdldjbenaaGreat
open Go.RowKit
set_option maxRecDepth 20000

def lwQ (c : List (List Int)) (l : List Int) : Option (List (List Int)) := if isWd c l then lowS c (normL c l) else none
def lwOk (c : List (List Int)) (l : List Int) : Bool := (lwQ c l).isSome
def lwR (c : List (List Int)) (l : List Int) : List (List Int) := putsE ((lwQ c l).getD [])
theorem loBfs_at {c : List (List Int)} {f k : Nat} {q : List (List Int)} {x : List Int} (h : q[k]? = some x) : loBfs c (f + 1) k q = (match loRow (covL c x) q with | none => none | some q' => loBfs c f (k + 1) q') := by
  show (match q[k]? with | none => some q | some x => _) = _
  rw [h]; rfl
theorem loBfs_end {c : List (List Int)} {f k : Nat} {q : List (List Int)} (h : q.length ≤ k) : loBfs c f k q = some q := by
  cases f with
  | zero => rfl
  | succ f => show (match q[k]? with | none => some q | some x => _) = _; rw [List.getElem?_eq_none h]
theorem HSx.bothR {A : Nat → Prop} {w0 w : World} {Ps : List Thing} {Z Y : Zl} (h : HSx A w0 w Ps) (i j : Nat) (hij : i ≠ j) (hi : Ps[i]? = some (aRr Z)) (hj : Ps[j]? = some (aRr Y)) : HSx A w0 w ((Ps.set i (aRr (Z ++ Y))).set j aTrue) :=
  h.join i j hij hi hj (st_Rr _) fun F G hF hG _ x hx => by
    rcases List.mem_append.1 hx with hx | hx
    · exact RI.mono (hF x hx) (fun b hb => .inl hb)
    · exact RI.mono (hG x hx) (fun b hb => .inr hb)
theorem HSx.readP {A : Nat → Prop} {w0 w : World} {Ps : List Thing} {v : Value} {Z P : Zl} (h : HSx A w0 w Ps) (i j : Nat) (hij : i ≠ j) (hi : Ps[i]? = some (aV 23 v (Z.map Prod.fst))) (hj : Ps[j]? = some (aRr P)) (hsub : ∀ z ∈ Z, z ∈ P) : RII Any w v (Z.map Prod.snd) := by
  have h1 := h.imp j hj (st_Rr Z) (fun F hF x hx => hF x (hsub x hx))
  exact h1.readRr i j (by rw [List.getElem?_set_ne (Ne.symm hij)]; exact hi) (by rw [List.getElem?_set_self (List.getElem?_eq_some_iff.1 hj).1])
/-- Words that the search meets. -/
def Nf15 (c : List (List Int)) (x : List Int) : Prop := Nf c x ∧ x.length ≤ 15
theorem cov15 {c : List (List Int)} (hc : CartanP c) {x : List Int} (h : Nf15 c x) : ∀ y ∈ covL c x, Nf15 c y := fun y hy => by
  obtain ⟨k, h1, h2, rfl⟩ := mem_covL.1 hy
  have hs := List.eraseIdx_sublist x k
  have := hs.length_le
  have hl := h.2
  exact ⟨(norm_is hc (lets_subL h.1.lets hs) (by omega)).1, by omega⟩
theorem covL_len (c : List (List Int)) (x : List Int) : (covL c x).length ≤ x.length := covF_len x.length
theorem wd15 {c : List (List Int)} (hc : isC c = true) {x : List Int} (h : Nf15 c x) : isWd c x = true := by
  unfold isWd
  simp only [Bool.and_eq_true, decide_eq_true_eq]
  refine ⟨⟨hc, h.2⟩, allB_iff.2 fun y hy => ?_⟩
  have := h.1.lets y hy
  unfold ptB inR
  simp
  omega
theorem br15 {c : List (List Int)} (hc : isC c = true) {x : List Int} (h : Nf15 c x) : brL c x = covL c x := by
  unfold brL
  rw [wd15 hc h, if_pos rfl, h.1.nf]

set_option maxHeartbeats 16000000 in
theorem lowerSpec {S S' : Nat → Prop} {u v : Value} {c : List (List Int)} {l : List Int} {w : World} (h : RII S w u c) (h' : RI S' w v l) (hl : total c ≤ 16777216) (hl' : l.length ≤ 16777216) :
    Calls Tryz.prog 17 #[u, v] w fun e w' => ∃ r, e = .returned (.tuple #[r, .bool (lwOk c l)]) ∧ FII (New w w') w' r (lwR c l) ∧ Below w.heap.size w w' := by
  have mixed : Tryz.prog.follows .mixedOrders = true := by kernel_rfl
  have hnf := normalFormSpec h h' hl hl'
  cases hwd : isWd c l with
  | false =>
    have HO : Hid (lwOk c l = false) := Lib.hid (by unfold lwOk lwQ; rw [hwd]; rfl)
    have HR : Hid (lwR c l = []) := Lib.hid (by unfold lwR lwQ; rw [hwd]; rfl)
    rw [hwd] at hnf
    clear hwd
    go_enter Tryz.func17, Tryz.ntmps17
    go_wp2_with fail
    refine hnf.mono ?_
    rintro e w1 ⟨r1, rfl, _, b1⟩
    have hf := FII.empty_of b1 (w1 := w1.alloc (.cells #[] 23)) rfl
    clear hnf
    go_wp2_with fail
    go_ret2
    exact ⟨_, by rw [HO.out]; rfl, by rw [HR.out]; exact hf.1, hf.2⟩
  | true =>
    obtain ⟨hisc, hlen15, hlets⟩ := isWd_parts hwd
    have hc : CartanP c := isC_iff.1 hisc
    have hX : nform c l = normL c l := by unfold nform; rw [hwd]; rfl
    have h15 : Nf15 c (normL c l) := ⟨(norm_is hc hlets (by omega)).1, by have := normL_le hc hlets (by omega); omega⟩
    have HOK : Hid (lwOk c l = (lowS c (normL c l)).isSome) := Lib.hid (by unfold lwOk lwQ; rw [hwd]; rfl)
    have HRR : Hid (lwR c l = putsE ((lowS c (normL c l)).getD [])) := Lib.hid (by unfold lwR lwQ; rw [hwd]; rfl)
    have HQ0 : Hid (∃ f, 201 ≤ f + 0 ∧ loBfs c f 0 [normL c l] = lowS c (normL c l)) := Lib.hid ⟨201, by omega, rfl⟩
    have HCV := Lib.hid (fun (wv : World) (S9 : Nat → Prop) (vv : Value) (x : List Int) (hb : Below w.heap.size w wv) (hx : RI S9 wv vv x) (h5 : Nf15 c x) => (br15 hisc h5 ▸ coversSpec (h.below hb) hx hl (by have := h5.2; omega) : Calls Tryz.prog 32 #[u, vv] wv fun e w' => ∃ r, e = .returned r ∧ FII (New wv w') w' r (covL c x) ∧ Below wv.heap.size wv w'))
    have HC15 := Lib.hid (fun (x : List Int) (hx : Nf15 c x) => cov15 hc hx)
    rw [hwd, hX] at hnf
    generalize lowS c (normL c l) = R at *
    generalize normL c l = X at *
    clear hwd hX hisc hc hlets hlen15 h h' hl hl'
    go_enter Tryz.func17, Tryz.ntmps17
    go_wp2_with fail
    refine hnf.mono ?_
    rintro e w1 ⟨r1, rfl, f1, b1⟩
    obtain ⟨a1, c1, rfl⟩ := f1.form
    have hs1 := HSx.addI (HS.nil (Below.refl _ w)) b1 f1
    have hs2 := HSx.newV1 hs1 (.slice a1 X.length c1) rfl
    have hs3 := (HSx.add hs2 (Below.refl _ _) (st_Rs []) (F := NoB) ⟨fun x hx => by simp at hx, List.Pairwise.nil⟩ (fun b hb => hb.elim)).moreS 2 0 (by decide) rfl rfl (Z' := [(.slice a1 X.length c1, X)]) (List.Perm.refl _)
    have hs4 := (HSx.sToR hs3 2 rfl).pick [1, 2] (by decide)
    have hs4 : HS w (w1.alloc (.cells #[.slice a1 X.length c1] 23)) [aV 23 (.slice (some ⟨w1.heap.size, 0, none⟩) 1 1) (([(.slice a1 X.length c1, X)] : Zl).map Prod.fst), aRr [(.slice a1 X.length c1, X)]] := hs4
    have HS0 : Hid (∀ z ∈ ([(.slice a1 X.length c1, X)] : Zl), z ∈ ([(.slice a1 X.length c1, X)] : Zl)) := Lib.hid (fun z hz => hz)
    have HT0 : Hid (∀ z ∈ ([(.slice a1 X.length c1, X)] : Zl), Nf15 c z.2) := Lib.hid (fun z hz => by simp at hz; subst hz; exact h15)
    clear hnf f1 b1 hs1 hs2 hs3 h15
    go_wp2_with fail
    go_loopw [8, 9] (fun qq kk wr => ∃ (k : Nat) (vq : Value) (Z P : Zl), vq = qq ∧ k ≤ Z.length ∧ kk = .int .i64 k ∧ HS w wr [aV 23 vq (Z.map Prod.fst), aRr P] ∧ Hid (∀ z ∈ Z, z ∈ P) ∧ Hid (∀ z ∈ Z, Nf15 c z.2) ∧ Z.length ≤ 200 ∧ Hid (∃ f, 201 ≤ f + k ∧ loBfs c f k (Z.map Prod.snd) = R)) (fun _ kk _ => 201 - (intOf kk).toNat)
    case atStart => exact ⟨0, _, _, _, rfl, by simp, rfl, hs4, HS0, HT0, by simp, HQ0⟩
    case round =>
      clear hs4 HS0 HT0 HQ0
      obtain ⟨k, vq, Z, P, rfl, hk, rfl, hs, HSB, HTT, hz200, HQ⟩ := hrel
      have hlz : (Z.map Prod.fst).length = Z.length := by simp
      obtain ⟨⟨aq, cq, rfl⟩, hhq⟩ := hs.formV 0 rfl
      rw [hlz] at hs hhq ⊢
      generalize hmz : Z.length = mz at *
      have HMZ := Lib.hid hmz
      clear hlz
      by_cases hkm : k < mz
      · have i1 : (k : Int) < (mz : Int) := by omega
        have i2 : (0 : Int) ≤ (k : Int) := by omega
        obtain ⟨z, hz⟩ : ∃ z, Z[k]? = some z := ⟨Z[k]'(by omega), List.getElem?_eq_getElem _⟩
        obtain ⟨gq, rfl⟩ : ∃ g, aq = some ⟨g, 0, none⟩ := by
          obtain ⟨g, c9, e⟩ := hhq (by omega)
          simp only [Value.slice.injEq] at e
          exact ⟨g, e.1⟩
        have hcz := (hs.cellV 0 rfl (j := k) (r := z.1) (by simp [hz])).1
        have hrz := hs.rowR 1 rfl (HSB.out z (List.mem_of_getElem? hz))
        have h5z := HTT.out z (List.mem_of_getElem? hz)
        have hcall := HCV.out wr _ z.1 z.2 hs.bl hrz h5z
        obtain ⟨f0, hf0, hbf⟩ := HQ.out
        obtain ⟨f, rfl⟩ : ∃ f, f0 = f + 1 := ⟨f0 - 1, by omega⟩
        have hbf : (match loRow (covL c z.2) (Z.map Prod.snd) with | none => none | some q' => loBfs c f (k + 1) q') = R := by
          rw [← loBfs_at (f := f) (k := k) (q := Z.map Prod.snd) (x := z.2) (by rw [List.getElem?_map, hz]; rfl)]; exact hbf
        have HBF := Lib.hid hbf
        have hcl := covL_len c z.2
        have hcl2 := h5z.2
        have HCC : Hid (∀ y ∈ covL c z.2, Nf15 c y) := Lib.hid (HC15.out z.2 h5z)
        obtain ⟨rz, lz⟩ := z
        have hcl : (covL c lz).length ≤ lz.length := hcl
        have hcl2 : lz.length ≤ 15 := hcl2
        have hcz : wr.cell? ⟨gq, k, none⟩ = some rz := hcz
        obtain ⟨az, cz, rfl⟩ := (show RI _ wr rz lz from hrz).form
        clear hz hrz h5z hbf hhq
        go_wp2_with fail
        refine hcall.mono ?_
        rintro e w5 ⟨r5, rfl, f5, b5⟩
        obtain ⟨Y, hY, hs5⟩ := (HSx.addF hs b5 f5).openF 2 rfl
        have hs6 := (HSx.bothR (HSx.sToR hs5 3 rfl) 1 3 (by decide) rfl rfl).pick [0, 1, 2] (by decide)
        have hs6 : HS w w5 [aV 23 (.slice (some ⟨gq, 0, none⟩) mz cq) (Z.map Prod.fst), aRr (P ++ Y), aV 23 r5 (Y.map Prod.fst)] := hs6
        have hly : (Y.map Prod.fst).length = Y.length := by simp
        obtain ⟨⟨ay, cy, rfl⟩, hhy⟩ := hs6.formV 2 rfl
        rw [hly] at hs6 hhy ⊢
        have HYC := Lib.hid hY
        have hyl : Y.length = (covL c lz).length := by rw [← hY]; simp
        have HSB2 : Hid (∀ z ∈ Z, z ∈ P ++ Y) := Lib.hid (fun z hz => List.mem_append_left _ (HSB.out z hz))
        have HR0 : Hid (loRow ((covL c lz).drop 0) (Z.map Prod.snd) = loRow (covL c lz) (Z.map Prod.snd)) := Lib.hid rfl
        generalize hrw : loRow (covL c lz) (Z.map Prod.snd) = RW at *
        generalize hmy : Y.length = my at *
        have HMY := Lib.hid hmy
        have HPY : Hid (∀ y ∈ Y, y ∈ P ++ Y) := Lib.hid (fun y hy => List.mem_append_right _ hy)
        generalize P ++ Y = PY at *
        have HZL0 : Hid (mz ≤ Z.length) := Lib.hid (by omega)
        have hmy15 : my ≤ 15 := by omega
        clear hcall f5 b5 hs5 hs hrw hmy hly hY hcz HSB hyl hcl hcl2
        go_wp2_with fail
        go_loopw [8, 11] (fun qq ii wr => ∃ (i : Nat) (vq : Value) (Z : Zl), vq = qq ∧ i ≤ my ∧ ii = .int .i64 i ∧ HS w wr [aV 23 vq (Z.map Prod.fst), aRr PY, aV 23 (.slice ay my cy) (Y.map Prod.fst)] ∧ Hid (∀ z ∈ Z, z ∈ PY) ∧ Hid (∀ z ∈ Z, Nf15 c z.2) ∧ Z.length ≤ 200 ∧ Hid (mz ≤ Z.length) ∧ Hid (loRow ((covL c lz).drop i) (Z.map Prod.snd) = RW)) (fun _ ii _ => my - (intOf ii).toNat)
        case atStart => exact ⟨0, _, Z, rfl, Nat.zero_le _, rfl, hs6, HSB2, HTT, by rw [HMZ.out]; exact hz200, HZL0, HR0⟩
        case round =>
          clear hs6 HSB2 HR0 HTT HZL0 HMZ HQ
          clear hmz
          obtain ⟨i, vq, Z, rfl, hi, rfl, hs, HSB, HTT, hz200, HZL, HRW⟩ := hrel
          by_cases him : i < my
          · have i3 : (i : Int) < (my : Int) := by omega
            have i4 : (0 : Int) ≤ (i : Int) := by omega
            obtain ⟨y, hy⟩ : ∃ y, Y[i]? = some y := ⟨Y[i]'(by rw [HMY.out]; exact him), List.getElem?_eq_getElem _⟩
            have hcyi : (covL c lz)[i]? = some y.2 := by rw [← HYC.out, List.getElem?_map, hy]; rfl
            obtain ⟨gy, rfl⟩ : ∃ g, ay = some ⟨g, 0, none⟩ := by
              obtain ⟨g, c9, e⟩ := hhy (by omega)
              simp only [Value.slice.injEq] at e
              exact ⟨g, e.1⟩
            have hcyc := (hs.cellV 2 rfl (j := i) (r := y.1) (by simp [hy])).1
            have hry := hs.rowR 1 rfl (HPY.out y (List.mem_of_getElem? hy))
            have h5y := HCC.out y.2 (List.mem_of_getElem? hcyi)
            have HPy := Lib.hid (HPY.out y (List.mem_of_getElem? hy))
            have hread := hs.readP 0 1 (by decide) rfl rfl HSB.out
            have hin := inSpec hread hry (fun x hx => by obtain ⟨z, hz, rfl⟩ := List.mem_map.1 hx; have := (HTT.out z hz).2; omega) (by simp; omega) (by have := h5y.2; omega)
            have hst := HRW.out
            rw [drop_step hcyi] at hst
            unfold loRow at hst
            have H5Y := Lib.hid h5y
            have HYI := Lib.hid hy
            obtain ⟨ry, ly⟩ := y
            have hcyc : wr.cell? ⟨gy, i, none⟩ = some ry := hcyc
            have hin : Calls Tryz.prog 33 #[vq, ry] wr fun e w' => e = .returned (.bool (inV (Z.map Prod.snd) ly)) ∧ ∃ m, w' = wr.drewN m := hin
            have hst : (if ly ∈ Z.map Prod.snd then loRow ((covL c lz).drop (i + 1)) (Z.map Prod.snd) else if 200 ≤ (Z.map Prod.snd).length then none else loRow ((covL c lz).drop (i + 1)) (Z.map Prod.snd ++ [ly])) = RW := hst
            obtain ⟨ary, cry, rfl⟩ := (show RI _ wr ry ly from hry).form
            have hlz : (Z.map Prod.fst).length = Z.length := by simp
            obtain ⟨⟨aq2, cq2, rfl⟩, _⟩ := hs.formV 0 rfl
            rw [hlz] at hs hin ⊢
            clear hy hcyi hry h5y hread hlz
            by_cases hmem : ly ∈ Z.map Prod.snd
            · rw [if_pos hmem] at hst
              have HST := Lib.hid hst
              have e1 : inV (Z.map Prod.snd) ly = true := by unfold inV; exact decide_eq_true hmem
              rw [e1] at hin
              clear hmem hst e1
              go_wp2_with fail
              refine hin.mono ?_
              rintro e w7 ⟨rfl, m7, rfl⟩
              have hs7 := HSx.drewN hs m7
              clear hs hin
              go_wp2_with fail
              go_roundw
              case rel => exact ⟨i + 1, _, Z, rfl, by omega, by go_num, hs7, HSB, HTT, hz200, HZL, HST⟩
              case measure => simp [intOf]; omega
            · rw [if_neg hmem] at hst
              have e1 : inV (Z.map Prod.snd) ly = false := by unfold inV; exact decide_eq_false hmem
              rw [e1] at hin
              clear hmem e1
              by_cases hbig : 200 ≤ Z.length
              · rw [if_pos (by simpa using hbig)] at hst
                have i5 : (200 : Int) ≤ (Z.length : Int) := by omega
                have HRN : Hid (R = none) := Lib.hid (by rw [← HBF.out, ← hst])
                clear hst
                go_wp2_with fail
                refine hin.mono ?_
                rintro e w7 ⟨rfl, m7, rfl⟩
                have hs7 := HSx.drewN hs m7
                generalize wr.drewN m7 = w7 at *
                have hf := FII.empty_of hs7.bl (w1 := w7.alloc (.cells #[] 23)) rfl
                clear hs hin hs7
                go_wp2_with fail
                go_ret2
                exact ⟨_, by rw [HOK.out, HRN.out]; rfl, by rw [HRR.out, HRN.out]; exact hf.1, hf.2⟩
              · rw [if_neg (by simpa using hbig)] at hst
                have i5 : ¬ (200 : Int) ≤ (Z.length : Int) := by omega
                have HST : Hid (loRow ((covL c lz).drop (i + 1)) ((Z ++ [(Value.slice ary ly.length cry, ly)]).map Prod.snd) = RW) := Lib.hid (by rw [← hst, List.map_append]; rfl)
                clear hst
                go_wp2_with fail
                refine hin.mono ?_
                rintro e w7 ⟨rfl, m7, rfl⟩
                have hs7 := HSx.drewN hs m7
                generalize wr.drewN m7 = w7 at *
                have hs7 : HS w w7 [aV 23 (.slice aq2 Z.length cq2) (Z.map Prod.fst), aRr PY, aV 23 (.slice (some ⟨gy, 0, none⟩) my cy) (Y.map Prod.fst)] := hs7
                have hc7 := (hs7.cellV 2 rfl (j := i) (r := .slice ary ly.length cry) (by simp [HYI.out])).1
                obtain ⟨w8, hw8⟩ : ∃ w8, w8 = w7.alloc (.cells #[.slice ary ly.length cry] 23) := ⟨_, rfl⟩
                have hs8 : HS w w8 [aV 23 (.slice aq2 Z.length cq2) (Z.map Prod.fst), aRr PY, aV 23 (.slice (some ⟨gy, 0, none⟩) my cy) (Y.map Prod.fst)] := by rw [hw8]; exact HSx.alloc hs7 _
                have hc8 : w8.cell? ⟨w7.heap.size, 0, none⟩ = some (.slice ary ly.length cry) := by rw [hw8]; go_simp
                have HW8 := Lib.hid hw8
                have HNV := Lib.hid (HS.newV hs8 0 rfl)
                have hone : (Value.slice ary ly.length cry).oneCell' = true := rfl
                have HLN : Hid ((Z.map Prod.fst).length + 1 ≤ 67108864) := Lib.hid (by simp; omega)
                have HSB3 : Hid (∀ z ∈ Z ++ [(Value.slice ary ly.length cry, ly)], z ∈ PY) := Lib.hid (fun z hz => by
                  rcases List.mem_append.1 hz with hz | hz
                  · exact HSB.out z hz
                  · rw [List.mem_singleton] at hz; subst hz; exact HPy.out)
                have HTT3 : Hid (∀ z ∈ Z ++ [(Value.slice ary ly.length cry, ly)], Nf15 c z.2) := Lib.hid (fun z hz => by
                  rcases List.mem_append.1 hz with hz | hz
                  · exact HTT.out z hz
                  · rw [List.mem_singleton] at hz; subst hz; exact H5Y.out)
                have HZL3 : Hid (mz ≤ (Z ++ [(Value.slice ary ly.length cry, ly)]).length) := Lib.hid (by have := HZL.out; simp; omega)
                have hz3 : (Z ++ [(Value.slice ary ly.length cry, ly)]).length ≤ 200 := by simp; omega
                clear hw8 hs hin hs7
                go_wp2_with (at_builtin; go_must (rw [← HW8.out]; refine wpList_hsRow rfl _ _ rfl rfl hs8 0 rfl HNV.out rfl hc8 hone HLN.out ?_))
                intro v9 w9 hs9 _
                have hs9 : HS w w9 [aV 23 v9 ((Z ++ [(Value.slice ary ly.length cry, ly)]).map Prod.fst), aRr PY, aV 23 (.slice (some ⟨gy, 0, none⟩) my cy) (Y.map Prod.fst)] := by
                  have e : (Z ++ [(Value.slice ary ly.length cry, ly)]).map Prod.fst = Z.map Prod.fst ++ [Value.slice ary ly.length cry] := by simp
                  rw [e]; exact hs9
                clear hs8
                generalize Z ++ [(Value.slice ary ly.length cry, ly)] = Z3 at *
                go_wp2_with fail
                go_roundw
                case rel => exact ⟨i + 1, _, Z3, rfl, by omega, by go_num, hs9, HSB3, HTT3, hz3, HZL3, HST⟩
                case measure => simp [intOf]; omega
          · have i3 : ¬ (i : Int) < (my : Int) := by omega
            have hst := HRW.out
            rw [List.drop_eq_nil_of_le (by have := HMY.out; have := congrArg List.length HYC.out; simp at this; omega)] at hst
            have hbf := HBF.out
            rw [← hst] at hbf
            have HQ2 : Hid (∃ f, 201 ≤ f + (k + 1) ∧ loBfs c f (k + 1) (Z.map Prod.snd) = R) := Lib.hid ⟨f, by omega, hbf⟩
            have hs9 : HS w wr [aV 23 vq (Z.map Prod.fst), aRr PY] := HSx.pick hs [0, 1] (by decide)
            have hkz : k + 1 ≤ Z.length := by have := HZL.out; omega
            clear hs hst hbf
            go_wp2_with fail
            go_roundw
            case rel => exact ⟨k + 1, _, Z, PY, rfl, hkz, by go_num, hs9, HSB, HTT, hz200, HQ2⟩
            case measure => simp [intOf]; omega
      · have i1 : ¬ (k : Int) < (mz : Int) := by omega
        obtain ⟨f0, _, hbf⟩ := HQ.out
        rw [loBfs_end (by simp; omega)] at hbf
        have HRS : Hid (R = some (Z.map Prod.snd)) := Lib.hid hbf.symm
        obtain ⟨w5, hw5⟩ : ∃ w5, w5 = wr.alloc (.cells #[] 23) := ⟨_, rfl⟩
        have hs5 := HSx.addF hs (FII.empty_of (Below.refl _ wr) hw5).2 (FII.empty_of (Below.refl _ wr) hw5).1
        have hs5 : HS w w5 [aV 23 (.slice aq mz cq) (Z.map Prod.fst), aRr P, aF (.slice (some ⟨wr.heap.size, 0, none⟩) 0 0) (putsE ((Z.map Prod.snd).take 0))] := hs5
        have HW5 := Lib.hid hw5
        clear hbf hs hw5 HQ
        go_wp2_with fail
        rw [← HW5.out]
        go_loopw [12, 13] (fun oo jj wr => ∃ (j : Nat) (vo : Value), vo = oo ∧ j ≤ mz ∧ jj = .int .i64 j ∧ HS w wr [aV 23 (.slice aq mz cq) (Z.map Prod.fst), aRr P, aF vo (putsE ((Z.map Prod.snd).take j))]) (fun _ jj _ => mz - (intOf jj).toNat)
        case atStart => exact ⟨0, _, rfl, Nat.zero_le _, rfl, hs5⟩
        case round =>
          clear hs5
          obtain ⟨j, vo, rfl, hj, rfl, hs⟩ := hrel
          by_cases hjm : j < mz
          · have j1 : (j : Int) < (mz : Int) := by omega
            have j2 : (0 : Int) ≤ (j : Int) := by omega
            obtain ⟨z, hz⟩ : ∃ z, Z[j]? = some z := ⟨Z[j]'(by omega), List.getElem?_eq_getElem _⟩
            obtain ⟨gq, rfl⟩ : ∃ g, aq = some ⟨g, 0, none⟩ := by
              obtain ⟨g, c9, e⟩ := hhq (by omega)
              simp only [Value.slice.injEq] at e
              exact ⟨g, e.1⟩
            have hcz := (hs.cellV 0 rfl (j := j) (r := z.1) (by simp [hz])).1
            have hrz := hs.rowR 1 rfl (HSB.out z (List.mem_of_getElem? hz))
            have h5z := HTT.out z (List.mem_of_getElem? hz)
            have hst : putsE ((Z.map Prod.snd).take (j + 1)) = putE z.2 (putsE ((Z.map Prod.snd).take j)) := by
              rw [take_step (x := z.2) (by rw [List.getElem?_map, hz]; rfl)]
              unfold putsE
              rw [List.foldl_append]; rfl
            have HST := Lib.hid hst
            have hmemS := (putsE_ok ((Z.map Prod.snd).take j)).2
            have hlnS : (putsE ((Z.map Prod.snd).take j)).length ≤ 1048576 := by
              have := nd_le (putsE_ok ((Z.map Prod.snd).take j)).1.nodup (m := (Z.map Prod.snd).take j) (fun x hx => (hmemS x).1 hx)
              simp at this; omega
            have hleS : ∀ x ∈ putsE ((Z.map Prod.snd).take j), x.length ≤ 16777216 := fun x hx => by
              have := List.mem_of_mem_take ((hmemS x).1 hx)
              obtain ⟨z9, hz9, rfl⟩ := List.mem_map.1 this
              have := (HTT.out z9 hz9).2; omega
            obtain ⟨F, hF, hFn, HBK⟩ := hs.lend 2 rfl
            have hcall := putESpec hF hFn hrz hleS hlnS (by have := h5z.2; omega)
            have HPC : Hid (PutEC F z.2 (putsE ((Z.map Prod.snd).take j)) wr = fun e w' => ∃ r, e = .returned r ∧ HSx F wr w' [aF r (putE z.2 (putsE ((Z.map Prod.snd).take j)))]) := Lib.hid rfl
            rw [HPC.out] at hcall
            clear hrz h5z hst hmemS hlnS hleS hF hz
            go_wp2_with fail
            refine hcall.mono ?_
            rintro e w6 ⟨r6, rfl, h6⟩
            rw [← HST.out] at h6
            have hs7 := HBK.out w6 _ h6
            have hs7 : HS w w6 [aV 23 (.slice (some ⟨gq, 0, none⟩) mz cq) (Z.map Prod.fst), aRr P, aF r6 (putsE ((Z.map Prod.snd).take (j + 1)))] := hs7
            clear hcall h6 hs
            go_wp2_with fail
            go_roundw
            case rel => exact ⟨j + 1, _, rfl, by omega, by go_num, hs7⟩
            case measure => simp [intOf]; omega
          · have j1 : ¬ (j : Int) < (mz : Int) := by omega
            have e : (Z.map Prod.snd).take j = Z.map Prod.snd := List.take_of_length_le (by simp; omega)
            rw [e] at hs
            clear e
            go_wp2_with fail
            go_ret2
            exact ⟨_, by rw [HOK.out, HRS.out]; rfl, by rw [HRR.out, HRS.out]; exact HS.F hs 2 rfl, hs.bl⟩
end Go.Proofs.YtipjomdldjbenaaGreat

/-! The elements below a word, by the program. Condition: sizes up to 2^24. -/
namespace Go.Proofs.YtipjomdldjbenaaGreat
open Go.RowKit
set_option maxRecDepth 20000

section
variable {w : World} {ops : Array Oper} {rest : List Oper} {o : Oper} {a : Act} {Q : Exit → Act → World → Prop}
/-- What lay in the old slice's cells lies there still. -/
theorem run_append_keeps {P : Program} (w : World) (base : Nat) (t ty e : TypeId) (i : TypeInfo) (z : Value) (bytes : Nat) (ht : P.underlying t = some (.slice e)) (hi : P.info? e = some i) (hz : i.zero = some z)
    (hsize : i.size = 1) (hby : i.bytes = bytes) (_hzs : z.cells.size = 1)
    {g n cap : Nat} {xs : List Value} (hown : w.ownsRow base e 1 (.slice (some ⟨g, 0, none⟩) n cap) n xs)
    (a : Addr) (m c : Nat) (news : List Value) (hl : news.length = m * 1) (hnews : ∀ j u, news[j]? = some u → w.cell? (a.add j) = some u) (h1 : ∀ u ∈ news, u.oneCell' = true)
    (h63 : n + m ≤ maxLen) (hbytes : (n + m) * bytes ≤ 140737488355328) {v' : Value} {w' : World}
    (hrun : (Builtin.append_ #[t, t] ty #[.slice (some ⟨g, 0, none⟩) n cap, .slice (some a) m c]).run P w = .ok v' w') (h2 : w'.ownsRow base e 1 v' (n + m) (xs ++ news)) : ∀ (j : Nat) u, xs[j]? = some u → w'.cell? ⟨g, j, none⟩ = some u := by
  subst hby
  have hsmall : n + m ≤ 9223372036854775807 := by simp only [maxLen] at h63; omega
  intro j u hj
  have hjl := (List.getElem?_eq_some_iff.1 hj).1
  have hxl : xs.length = n := by rw [hown.1]; omega
  have hold : w.cell? ⟨g, j, none⟩ = some u := by rw [hown.cellAt j (by omega)]; exact hj
  rcases hown.2 with ⟨hv, _⟩ | ⟨g', cap', cur, hv, hbg, hg, hnc, hcm, hcs, htake⟩
  · cases hv
  · simp only [Value.slice.injEq, Option.some.injEq, Addr.mk.injEq, and_true, true_and] at hv
    obtain ⟨rfl, rfl⟩ := hv
    by_cases hroom : n + m ≤ cap
    · have hfit : n * i.size + news.length ≤ cur.size := by rw [hl, hcs, hsize, ← Nat.add_mul]; exact Nat.mul_le_mul_right _ hroom
      have hr := run_append_room (P := P) w t ty e i ht hi g n cap cur hg a m c news (by rw [hl, hsize]) hnews h1 hroom hfit
      rw [hr] at hrun
      injection hrun with e1 e2
      subst e1
      rw [h2.cellAt j (by omega), List.getElem?_append_left hjl]
      exact hj
    · have holds : ∀ j u, xs[j]? = some u → w.cell? ((⟨g, 0, none⟩ : Addr).add j) = some u := hown.cells (g := g) rfl
      have hr := run_append_grow (P := P) w t ty e i z ht hi hz ⟨g, 0, none⟩ n cap xs (by rw [hown.1, hsize]) holds a m c news (by rw [hl, hsize]) hnews (by omega) (by omega) (growslice_fits (by omega) hbytes)
      rw [hr] at hrun
      injection hrun with e1 e2
      subst e2
      exact (((Below.refl w.heap.size w).drew.alloc (Nat.le_refl _) _).cell (p := ⟨g, j, none⟩) (World.block_lt_of_cell? w _ hold)).trans hold
def KeptV (w' : World) (v : Value) (vs : List Value) : Prop := ∀ g n cap, v = .slice (some ⟨g, 0, none⟩) n cap → ∀ (j : Nat) u, vs[j]? = some u → w'.cell? ⟨g, j, none⟩ = some u
theorem wp_hsRowK {A : Nat → Prop} {W : World} {K : Act → World → Prop} {Ps : List Thing} (s x : Operand)
    (ho : o.op = .call { callee := .builtin .append, args := #[s, x], argTypes := #[22, 22] })
    {v : Value} {vs : List Value} {r : Value} (hs : a.eval s = v) (h : HSx A W w Ps) (i : Nat) (hi : Ps[i]? = some (aV 23 v vs)) (hnew : ∀ b, v.ownBlock = some b → W.heap.size ≤ b)
    {H : Nat} (hx : a.eval x = .slice (some ⟨H, 0, none⟩) 1 1) (hc : w.cell? ⟨H, 0, none⟩ = some r) (h1 : r.oneCell' = true) (hlen : vs.length + 1 ≤ 67108864)
    (k : ∀ v' w', HSx A W w' (Ps.set i (aV 23 v' (vs ++ [r]))) → (∀ b, v'.ownBlock = some b → W.heap.size ≤ b) → w.grownBy w' v.ownBlock → KeptV w' v vs → K (a.put o.dst v') w') : o.wp Tryz.prog a w K Q := by
  obtain ⟨F0, hf, _⟩ := HSx.get h i hi
  obtain ⟨i0, hi0, hz0, hz1, hz2⟩ := info_parts infoInts
  have hnews : ∀ (j : Nat) u, ([r] : List Value)[j]? = some u → w.cell? ((⟨H, 0, none⟩ : Addr).add j) = some u := by
    intro j u hj
    match j, hj with
    | 0, hj => simp at hj; subst hj; simpa [Addr.add] using hc
  have ho1 : ∀ u ∈ ([r] : List Value), u.oneCell' = true := by intro u hu; simp at hu; subst hu; exact h1
  have hb2 : (vs.length + 1) * 24 ≤ 140737488355328 := by omega
  obtain ⟨v', w', hr, h2, h3, _⟩ := run_append_own (P := Tryz.prog) w 0 22 o.type 23 i0 _ 1 24 Tryz.underlying22 hi0 hz0 hz1 hz2 rfl (by decide) v vs.length vs hf.1 ⟨H, 0, none⟩ 1 1 [r] rfl hnews ho1 (by unfold maxLen; omega) hb2 (Nat.zero_le _)
  have h4 := run_append_where (P := Tryz.prog) w 0 22 o.type 23 i0 _ 1 24 Tryz.underlying22 hi0 hz0 hz1 hz2 rfl (by decide) v vs.length vs hf.1 ⟨H, 0, none⟩ 1 1 [r] rfl hnews ho1 (by unfold maxLen; omega) hb2 hr
  have h5 : ∀ g n cap, v = .slice (some ⟨g, 0, none⟩) n cap → ∀ (j : Nat) u, vs[j]? = some u → w'.cell? ⟨g, j, none⟩ = some u := fun g n cap hv => by
    subst hv
    have hn := own_len hf.1
    subst hn
    exact run_append_keeps (P := Tryz.prog) w 0 22 o.type 23 i0 _ 24 Tryz.underlying22 hi0 hz0 hz1 hz2 rfl hf.1 ⟨H, 0, none⟩ 1 1 [r] rfl hnews ho1 (by unfold maxLen; omega) hb2 hr h2
  unfold Oper.wp execOp
  simp only [ho, resolve, invoke, builtin, Sem.run_bind, Sem.run_pure, Result.andThen_ok, List.map_toArray, List.map_cons, List.map_nil, hs, hx, hr]
  refine (k v' w' (h.upd i hi (st_V _ _ _) (below_grownO h.bl h3 hnew) h3.size fun F hF _ => ⟨fun b => v'.ownBlock = some b, ⟨?_, fun b hb => hb⟩, fun b hb => ?_, fun b hl hb => h3.block b hl (fun e => hb (hF.2 b e.symm))⟩) (fun b hb => ?_) h3 h5)
  · rw [List.length_append]; exact h2
  · rcases h4 b hb with e | e
    · exact .inl (hF.2 b e)
    · exact .inr ⟨e, (h2.lt b hb).2⟩
  · rcases h4 b hb with e | e
    · exact hnew b e
    · exact Nat.le_trans h.bl.size e
theorem wpList_hsRowK {A : Nat → Prop} {W : World} {Ps : List Thing} (hgd : o.guard = none) (s x : Operand)
    (ho : o.op = .call { callee := .builtin .append, args := #[s, x], argTypes := #[22, 22] })
    {v : Value} {vs : List Value} {r : Value} (hs : a.eval s = v) (h : HSx A W w Ps) (i : Nat) (hi : Ps[i]? = some (aV 23 v vs)) (hnew : ∀ b, v.ownBlock = some b → W.heap.size ≤ b)
    {H : Nat} (hx : a.eval x = .slice (some ⟨H, 0, none⟩) 1 1) (hc : w.cell? ⟨H, 0, none⟩ = some r) (h1 : r.oneCell' = true) (hlen : vs.length + 1 ≤ 67108864)
    (k : ∀ v' w', HSx A W w' (Ps.set i (aV 23 v' (vs ++ [r]))) → (∀ b, v'.ownBlock = some b → W.heap.size ≤ b) → w.grownBy w' v.ownBlock → KeptV w' v vs → wpList Tryz.prog ops Q rest (a.put o.dst v') w') : wpList Tryz.prog ops Q (o :: rest) a w :=
  wpList_plain hgd fun _ hK => wp_hsRowK s x ho hs h i hi hnew hx hc h1 hlen fun v' w' h2 h3 h4 h5 => hK _ _ (k v' w' h2 h3 h4 h5)
theorem step_hsRowK {A : Nat → Prop} {W : World} {K : Act → World → Prop} {E : Prop} {Ps : List Thing} (hgd : o.guard = none) (s x : Operand)
    (ho : o.op = .call { callee := .builtin .append, args := #[s, x], argTypes := #[22, 22] })
    {v : Value} {vs : List Value} {r : Value} (hs : a.eval s = v) (h : HSx A W w Ps) (i : Nat) (hi : Ps[i]? = some (aV 23 v vs)) (hnew : ∀ b, v.ownBlock = some b → W.heap.size ≤ b)
    {H : Nat} (hx : a.eval x = .slice (some ⟨H, 0, none⟩) 1 1) (hc : w.cell? ⟨H, 0, none⟩ = some r) (h1 : r.oneCell' = true) (hlen : vs.length + 1 ≤ 67108864)
    (k : ∀ v' w', HSx A W w' (Ps.set i (aV 23 v' (vs ++ [r]))) → (∀ b, v'.ownBlock = some b → W.heap.size ≤ b) → w.grownBy w' v.ownBlock → KeptV w' v vs → K (a.put o.dst v') w') : if Region.wanted o (yielded ops a.tmps) = true then Oper.wp Tryz.prog o a w K Q else E := by
  have hw : Region.wanted o (yielded ops a.tmps) = true := by simp [Region.wanted, hgd]
  rw [if_pos hw]
  exact wp_hsRowK s x ho hs h i hi hnew hx hc h1 hlen k
end
/-- What lies in a block's first cells. -/
def Snap (w : World) (g : Nat) (rs : List Value) : Prop := ∀ (j : Nat) u, rs[j]? = some u → w.cell? ⟨g, j, none⟩ = some u
theorem Snap.below {w w' : World} {g : Nat} {rs : List Value} (h : Snap w g rs) (hb : Below w.heap.size w w') : Snap w' g rs := fun j u hj => (hb.cell (p := ⟨g, j, none⟩) (World.block_lt_of_cell? w _ (h j u hj))).trans (h j u hj)
theorem Snap.grown {w w' : World} {g : Nat} {rs : List Value} {b : Option Nat} (h : Snap w g rs) (hg : w.grownBy w' b) (hne : ∀ (j : Nat) u, rs[j]? = some u → b ≠ some g) : Snap w' g rs := fun j u hj => by
  have h1 := h j u hj
  have hlt := World.block_lt_of_cell? w _ h1
  have e := hg.block g hlt (fun e => hne j u hj e.symm)
  unfold World.cell? at h1 ⊢
  simp only at h1 ⊢
  rw [e]; exact h1

theorem HSx.capV {A : Nat → Prop} {w0 w : World} {Ps : List Thing} {e : TypeId} {a : Option Addr} {n cap : Nat} {vs : List Value} (h : HSx A w0 w Ps) (i : Nat) (hi : Ps[i]? = some (aV e (.slice a n cap) vs)) : n ≤ cap := by
  obtain ⟨F, hF, _⟩ := HSx.get h i hi
  have hn := own_len hF.1
  rcases hF.1.2 with ⟨hv, _⟩ | ⟨g, cap', cur, hv, _, _, hnc, _⟩
  · simp only [Value.slice.injEq] at hv; omega
  · simp only [Value.slice.injEq] at hv; omega
/-- The map of the words met. -/
def inQ (q : List (List Int)) : List Int → Value := fun x => .bool (decide (x ∈ q))
theorem inQ_put (q : List (List Int)) (y : List Int) : putM (inQ q) y (.bool true) = inQ (q ++ [y]) := by
  funext x
  unfold putM inQ
  by_cases h : x = y
  · subst h; simp
  · rw [if_neg h]; simp [h]
theorem inQ_one : putM (fun _ => Value.bool false) [] (.bool true) = inQ [[]] := by
  funext x
  unfold putM inQ
  by_cases h : x = []
  · subst h; simp
  · rw [if_neg h]; simp [h]
theorem okW_lets {n : Nat} {x : List Int} (h : Lets n x) (h4 : n ≤ 4) : OkW x := fun y hy => by have := h y hy; omega
theorem liF_not {c : List (List Int)} {i : Int} {out : List (List Int)} {x : List Int} (h : normL c (x ++ [i]) ∈ out) : liF c i out x = out := by unfold liF; rw [if_pos h]
theorem liF_new {c : List (List Int)} {i : Int} {out : List (List Int)} {x : List Int} (h : normL c (x ++ [i]) ∉ out) : liF c i out x = out ++ [normL c (x ++ [i])] := by unfold liF; rw [if_neg h]
theorem zeroBoolRun (w : World) : (zeroValue 4).run Tryz.prog w = .ok (.bool false) w := by kernel_rfl
theorem sorted_puts_E {q q' : List (List Int)} (hp : q'.Perm q) (hs : q'.Pairwise (fun a b => ¬ cmpW b a < 0)) (hn : q.Nodup) {r : List (List Int)} (hr : ∀ x, x ∈ r ↔ x ∈ q) : q' = putsE r := by
  refine srtE_ext ?_ (putsE_ok r).1 (fun x => by rw [hp.mem_iff, (putsE_ok r).2, hr])
  have hn' : q'.Nodup := (hp.nodup_iff).2 hn
  refine (List.Pairwise.and hn' hs).imp fun {a b} ⟨h1, h2⟩ => ?_
  rcases cw_total h1 with h3 | h3
  · exact h3
  · exact absurd h3 h2

set_option maxHeartbeats 16000000 in
theorem lowerImpl {S S' : Nat → Prop} {u v : Value} {c : List (List Int)} {l : List Int} {w : World} (h : RII S w u c) (h' : RI S' w v l) (hl : total c ≤ 16777216) (hl' : l.length ≤ 16777216) :
    Calls Tryz.prog 24 #[u, v] w fun e w' => ∃ r, e = .returned (.tuple #[r, .bool (lwOk c l)]) ∧ FII (New w w') w' r (lwR c l) ∧ Below w.heap.size w w' := by
  have mixed : Tryz.prog.follows .mixedOrders = true := by kernel_rfl
  have hw0 := isWordImpl h h' hl hl'
  cases hwd : isWd c l with
  | false =>
    have HO : Hid (lwOk c l = false) := Lib.hid (by unfold lwOk lwQ; rw [hwd]; rfl)
    have HR : Hid (lwR c l = []) := Lib.hid (by unfold lwR lwQ; rw [hwd]; rfl)
    rw [hwd] at hw0
    clear hwd
    go_enter Tryz.func24, Tryz.ntmps24
    go_wp2_with fail
    refine hw0.mono ?_
    rintro e w1 ⟨rfl, m1, rfl⟩
    have hb1 : Below w.heap.size w (w.drewN m1) := below_drewN (Below.refl _ w) m1
    generalize w.drewN m1 = w1 at *
    have hf := FII.empty_of hb1 (w1 := w1.alloc (.cells #[] 23)) rfl
    clear hw0
    go_wp2_with fail
    go_ret2
    exact ⟨_, by rw [HO.out]; rfl, by rw [HR.out]; exact hf.1, hf.2⟩
  | true =>
    obtain ⟨hisc, hlen15, hlets⟩ := isWd_parts hwd
    have hc : CartanP c := isC_iff.1 hisc
    have h15 : Nf15 c (normL c l) := ⟨(norm_is hc hlets (by omega)).1, by have := normL_le hc hlets (by omega); omega⟩
    have hsame := low_same hc h15.1
    have hIok := lowI_ok hc h15.1
    have hSok := lowS_ok hc h15.1
    have HOK : Hid (lwOk c l = (lowI c (normL c l)).isSome) := Lib.hid (by unfold lwOk lwQ; rw [hwd]; exact hsame.1)
    have HRN : Hid (lowI c (normL c l) = none → lwR c l = []) := Lib.hid (fun e => by
      have h1 := hsame.1
      rw [e] at h1
      unfold lwR lwQ
      rw [hwd]
      cases h2 : lowS c (normL c l) with
      | none => rw [if_pos rfl]; rfl
      | some q => rw [h2] at h1; cases h1)
    have HRS : Hid (∀ o o' : List (List Int), lowI c (normL c l) = some o → o'.Perm o → o'.Pairwise (fun a b => ¬ cmpW b a < 0) → o' = lwR c l) := Lib.hid (fun o o' e hp hs => by
      have h1 := hsame.1
      rw [e] at h1 hIok
      unfold lwR lwQ
      rw [hwd, if_pos rfl]
      cases h2 : lowS c (normL c l) with
      | none => rw [h2] at h1; cases h1
      | some q => exact sorted_puts_E hp hs hIok.1 (fun x => hsame.2 q o h2 e x))
    have hred := Lib.hid (fun (wv : World) (hb : Below w.heap.size w wv) => reducedImpl (h.below hb) (h'.below hb) hc hlets (by omega))
    have HRD := Lib.hid (fun (wv : World) (S9 : Nat → Prop) (vv : Value) (x : List Int) (hb : Below w.heap.size w wv) (hx : RI S9 wv vv x) (hle : Lets c.length x) (hxl : x.length ≤ 30) => reducedImpl (h.below hb) hx hc hle hxl)
    have HQ0 : Hid (liBfs c ((normL c l).drop 0) [[]] = lowI c (normL c l)) := Lib.hid rfl
    have HXL : Hid (∀ x ∈ normL c l, 0 ≤ x ∧ x < c.length) := Lib.hid h15.1.lets
    have HNF := Lib.hid (fun (x : List Int) (hle : Lets c.length x) (hx : x.length ≤ 24) => (norm_is hc hle hx).1)
    have HNL := Lib.hid (fun (x : List Int) (hle : Lets c.length x) (hx : x.length ≤ 24) => normL_le hc hle (show x.length ≤ 30 by omega))
    have HNN : Hid (Nf c []) := Lib.hid (nf_nil hc)
    have h4 := hc.le
    have hx15 := h15.2
    rw [hwd] at hw0
    generalize lowI c (normL c l) = R at *
    generalize normL c l = X at *
    clear hwd hisc hlets hlen15 h h' hl hl' hsame hIok hSok h15 hc
    go_enter Tryz.func24, Tryz.ntmps24
    go_wp2_with fail
    refine hw0.mono ?_
    rintro e w1 ⟨rfl, m1, rfl⟩
    have hb1 : Below w.heap.size w (w.drewN m1) := below_drewN (Below.refl _ w) m1
    generalize w.drewN m1 = w1 at *
    obtain ⟨w2, hw2⟩ : ∃ w2, w2 = w1.alloc (.cells #[] 3) := ⟨_, rfl⟩
    have fe := fresh_of (Below.refl _ w1) hw2
    have hs2 := HSx.addI (HS.nil hb1) fe.2 fe.1
    obtain ⟨w3, hw3⟩ : ∃ w3, w3 = w2.alloc (.cells #[.slice (some ⟨w1.heap.size, 0, none⟩) 0 0] 23) := ⟨_, rfl⟩
    have hs3 := HSx.newV1 hs2 (.slice (some ⟨w1.heap.size, 0, none⟩) 0 0) hw3
    have hs4 := (HSx.add hs3 (Below.refl _ _) (st_Rs []) (F := NoB) ⟨fun x hx => by simp at hx, List.Pairwise.nil⟩ (fun b hb => hb.elim)).moreS 2 0 (by decide) rfl rfl (Z' := [(.slice (some ⟨w1.heap.size, 0, none⟩) 0 0, [])]) (List.Perm.refl _)
    have hs4 := hs4.pick [1, 2] (by decide)
    obtain ⟨w4, hw4⟩ : ∃ w4, w4 = w3.alloc (.map #[] 0) := ⟨_, rfl⟩
    have hs5 := HSx.newMap hs4 (.bool false) hw4
    have hz2 : w2.heap.size = w1.heap.size + 1 := by rw [hw2]; simp
    have hz3 : w3.heap.size = w1.heap.size + 1 + 1 := by rw [hw3, ← hz2]; simp
    have hmb : w.heap.size ≤ w1.heap.size + 1 + 1 := by have := hb1.size; omega
    rw [hz2, hz3] at hs5
    have hs5 : HS w w4 [aV 23 (.slice (some ⟨w1.heap.size + 1, 0, none⟩) 1 1) (([(.slice (some ⟨w1.heap.size, 0, none⟩) 0 0, [])] : Zl).map Prod.fst), aRs [(.slice (some ⟨w1.heap.size, 0, none⟩) 0 0, [])], aM (.bool false) (w1.heap.size + 1 + 1) 0 (fun _ => .bool false)] := hs5
    have HW := Lib.hid (show w4 = ((w1.alloc (.cells #[] 3)).alloc (.cells #[.slice (some ⟨w1.heap.size, 0, none⟩) 0 0] 23)).alloc (.map #[] 0) by rw [hw4, hw3, hw2])
    have hok0 : OkW ([] : List Int) := fun x hx => by simp at hx
    clear hw0 hw2 hw3 hw4 fe hs2 hs3 hs4 hb1 hz2 hz3
    go_wp2_with fail
    rw [run_makeMap, ← HW.out]
    go_wp2_with (refine wpList_mapIns rfl _ _ _ rfl rfl hs5 2 rfl hmb (by omega) Tryz.underlying60 hok0 (by simp) rfl rfl ?_)
    intro w5 hs6
    rw [inQ_one] at hs6
    have hs6 : HS w w5 [aV 23 (.slice (some ⟨w1.heap.size + 1, 0, none⟩) 1 1) (([(.slice (some ⟨w1.heap.size, 0, none⟩) 0 0, [])] : Zl).map Prod.fst), aRs [(.slice (some ⟨w1.heap.size, 0, none⟩) 0 0, [])], aM (.bool false) (w1.heap.size + 1 + 1) 1 (inQ (([(.slice (some ⟨w1.heap.size, 0, none⟩) 0 0, [])] : Zl).map Prod.snd))] := hs6
    have HT0 : Hid (∀ z ∈ ([(.slice (some ⟨w1.heap.size, 0, none⟩) 0 0, [])] : Zl), Nf c z.2 ∧ z.2.length ≤ 0) := Lib.hid (fun z hz => by rw [List.mem_singleton] at hz; subst hz; exact ⟨HNN.out, by simp⟩)
    have hrd := hred.out w5 hs6.bl
    generalize w1.heap.size + 1 + 1 = mb at *
    generalize w1.heap.size + 1 = g1 at *
    clear hs5 hred HW HNN
    go_wp2_with fail
    refine hrd.mono ?_
    rintro e w6 ⟨r6, rfl, f6, b6⟩
    have hs7 := HSx.addI hs6 b6 f6
    have hs7 : HS w w6 [aV 23 (.slice (some ⟨g1, 0, none⟩) 1 1) (([(.slice (some ⟨w1.heap.size, 0, none⟩) 0 0, [])] : Zl).map Prod.fst), aRs [(.slice (some ⟨w1.heap.size, 0, none⟩) 0 0, [])], aM (.bool false) mb 1 (inQ (([(.slice (some ⟨w1.heap.size, 0, none⟩) 0 0, [])] : Zl).map Prod.snd)), aI r6 X] := hs7
    obtain ⟨ax, cx, rfl⟩ := f6.form
    generalize hm : X.length = m at *
    have HM := Lib.hid hm
    clear hrd hs6 f6 b6 hm
    go_wp2_with fail
    go_loopw [6, 27] (fun oo ii wr => ∃ (i : Nat) (vo : Value) (Z : Zl), vo = oo ∧ i ≤ m ∧ ii = .int .i64 i ∧ HS w wr [aV 23 vo (Z.map Prod.fst), aRs Z, aM (.bool false) mb Z.length (inQ (Z.map Prod.snd)), aI (.slice ax m cx) X] ∧ Hid (∀ z ∈ Z, Nf c z.2 ∧ z.2.length ≤ i) ∧ (1 ≤ Z.length ∧ Z.length ≤ 200) ∧ Hid (liBfs c (X.drop i) (Z.map Prod.snd) = R)) (fun _ ii _ => m - (intOf ii).toNat)
    case atStart => exact ⟨0, _, _, rfl, Nat.zero_le _, rfl, hs7, HT0, ⟨by simp, by simp⟩, HQ0⟩
    case round =>
      clear hs7 HT0 HQ0
      obtain ⟨i, vo, Z, rfl, hi, rfl, hs, HT, ⟨hz1, hz200⟩, HQ⟩ := hrel
      have hlz : (Z.map Prod.fst).length = Z.length := by simp
      obtain ⟨⟨av, cv, rfl⟩, hhv⟩ := hs.formV 0 rfl
      rw [hlz] at hs hhv ⊢
      generalize hz0 : Z.length = z0 at *
      have HZ0 := Lib.hid hz0
      clear hlz
      by_cases him : i < m
      · have i1 : (i : Int) < (m : Int) := by omega
        have i2 : (0 : Int) ≤ (i : Int) := by omega
        obtain ⟨bx, ox, a, rfl, hca, hxa⟩ := RI.at (HS.I hs 3 rfl).reads him
        have hq := HQ.out
        rw [drop_step hxa.out] at hq
        unfold liBfs at hq
        have HQ2 := Lib.hid hq
        have ha := HXL.out a (List.mem_of_getElem? hxa.out)
        have hlet : ∀ z ∈ Z, Lets c.length (z.2 ++ [a]) := fun z hz => lets_app' (HT.out z hz).1.lets (fun y hy => by rw [List.mem_singleton] at hy; subst hy; exact ha)
        have HLET := Lib.hid hlet
        obtain ⟨g0, rfl⟩ : ∃ g, av = some ⟨g, 0, none⟩ := by
          obtain ⟨g, c9, e⟩ := hhv (by omega)
          simp only [Value.slice.injEq] at e
          exact ⟨g, e.1⟩
        have icap : z0 ≤ cv := hs.capV 0 rfl
        have i0 : ¬ z0 = 0 := by omega
        have HSN : Hid (Snap wr g0 (Z.map Prod.fst)) := Lib.hid (fun j r hr => (hs.cellV 0 rfl (j := j) hr).1)
        have HPRE : Hid (∃ T, Z = Z ++ T) := Lib.hid ⟨[], by simp⟩
        have HT1 : Hid (∀ z ∈ Z, Nf c z.2 ∧ z.2.length ≤ i + 1) := Lib.hid (fun z hz => ⟨(HT.out z hz).1, by have := (HT.out z hz).2; omega⟩)
        have HF0 : Hid (((Z.map Prod.snd).drop 0).foldl (liF c a) (Z.map Prod.snd) = (Z.map Prod.snd).foldl (liF c a) (Z.map Prod.snd)) := Lib.hid rfl
        have hzk : Z.length ≤ z0 + 0 := by omega
        have hs' : HS w wr [aV 23 (.slice (some ⟨g0, 0, none⟩) z0 cv) (Z.map Prod.fst), aRs Z, aM (.bool false) mb Z.length (inQ (Z.map Prod.snd)), aI (.slice (some ⟨bx, ox, none⟩) m cx) X] := by rw [HZ0.out]; exact hs
        generalize hRO : (Z.map Prod.snd).foldl (liF c a) (Z.map Prod.snd) = RO at *
        have i3 : (0 : Int) ≤ (z0 : Int) := by omega
        clear hq hxa hs hlet hRO hhv hz0
        go_wp2_with fail
        go_loopw [6, 38] (fun oo kk wr => ∃ (k : Nat) (vo : Value) (Y : Zl), vo = oo ∧ k ≤ z0 ∧ kk = .int .i64 k ∧ HS w wr [aV 23 vo (Y.map Prod.fst), aRs Y, aM (.bool false) mb Y.length (inQ (Y.map Prod.snd)), aI (.slice (some ⟨bx, ox, none⟩) m cx) X] ∧ Hid (Snap wr g0 (Z.map Prod.fst)) ∧ Hid (∃ T, Y = Z ++ T) ∧ Hid (∀ z ∈ Y, Nf c z.2 ∧ z.2.length ≤ i + 1) ∧ Y.length ≤ z0 + k ∧ Hid (((Z.map Prod.snd).drop k).foldl (liF c a) (Y.map Prod.snd) = RO)) (fun _ kk _ => z0 - (intOf kk).toNat)
        case atStart => exact ⟨0, _, Z, rfl, Nat.zero_le _, rfl, hs', HSN, HPRE, HT1, hzk, HF0⟩
        case round =>
          clear hs' HSN HPRE HT1 hzk HF0 hca
          obtain ⟨k, vo, Y, rfl, hk, rfl, hs, HSN, HPRE, HT1, hyk, HF⟩ := hrel
          have hly : (Y.map Prod.fst).length = Y.length := by simp
          obtain ⟨⟨ay, cy, rfl⟩, hhy⟩ := hs.formV 0 rfl
          rw [hly] at hs hhy ⊢
          generalize hmy : Y.length = my at *
          have HMY := Lib.hid hmy
          clear hly
          by_cases hkz : k < z0
          · have k1 : (k : Int) < (z0 : Int) := by omega
            have k2 : (0 : Int) ≤ (k : Int) := by omega
            obtain ⟨z, hz⟩ : ∃ z, Z[k]? = some z := ⟨Z[k]'(by rw [HZ0.out]; exact hkz), List.getElem?_eq_getElem _⟩
            have hzm := List.mem_of_getElem? hz
            have hzY : z ∈ Y := by obtain ⟨T, hT⟩ := HPRE.out; rw [hT]; exact List.mem_append_left _ hzm
            have hcz := HSN.out k z.1 (by simp [hz])
            have hrz := hs.rowS 1 rfl hzY
            have hzt := HT.out z hzm
            have hf := HF.out
            rw [drop_step (x := z.2) (by rw [List.getElem?_map, hz]; rfl), List.foldl_cons] at hf
            have HLZ := Lib.hid (HLET.out z hzm)
            obtain ⟨rz, lz⟩ := z
            have hcz : wr.cell? ⟨g0, k, none⟩ = some rz := hcz
            have hrz : RI _ wr rz lz := hrz
            have hzt : Nf c lz ∧ lz.length ≤ i := hzt
            have hf : ((Z.map Prod.snd).drop (k + 1)).foldl (liF c a) (liF c a (Y.map Prod.snd) lz) = RO := hf
            have HLZ : Hid (Lets c.length (lz ++ [a])) := HLZ
            have hcl := cloneInts hrz (by have := hzt.2; omega)
            obtain ⟨az, cz, rfl⟩ := hrz.form
            have HFF := Lib.hid hf
            have HZT := Lib.hid hzt
            have hlz16 : lz.length ≤ 16 := by have := hzt.2; omega
            clear hz hzm hzY hrz hzt hf
            go_wp2_with fail
            refine hcl.mono ?_
            rintro e w7 ⟨r7, rfl, f7, b7⟩
            have hb8 : Below wr.heap.size wr (w7.alloc (.cells #[.int .i64 a] 3)) := b7.alloc b7.size _
            obtain ⟨w8, hw8⟩ : ∃ w8, w8 = w7.alloc (.cells #[.int .i64 a] 3) := ⟨_, rfl⟩
            have hf8 : FI (New wr w8) w8 r7 lz := by rw [hw8]; exact f7.grow ((Below.refl _ w7).alloc (Nat.le_refl _) _)
            rw [← hw8] at hb8
            have hc8 : w8.cell? ⟨w7.heap.size, 0, none⟩ = some (.int .i64 a) := by rw [hw8]; go_simp
            have HW8 := Lib.hid hw8
            have HLN : Hid (lz.length + 1 ≤ 67108864) := Lib.hid (by omega)
            clear hcl f7 b7 hw8 hcz
            go_wp2_with (at_builtin; go_must (rw [← HW8.out]; refine wpList_appW (W := wr) rfl _ _ rfl rfl hf8 hb8 rfl hc8 HLN.out ?_))
            intro v9 w9 f9 b9 _ _
            have hs9 := HSx.addI hs b9 f9
            have HSN9 := Lib.hid (HSN.out.below b9)
            have hs9 : HS w w9 [aV 23 (.slice ay my cy) (Y.map Prod.fst), aRs Y, aM (.bool false) mb my (inQ (Y.map Prod.snd)), aI (.slice (some ⟨bx, ox, none⟩) m cx) X, aI v9 (lz ++ [a])] := hs9
            have hrd := HRD.out w9 _ v9 (lz ++ [a]) hs9.bl f9.reads HLZ.out (by simp; omega)
            clear hf8 hb8 hc8 f9 b9 HSN hs
            go_wp2_with fail
            refine hrd.mono ?_
            rintro e w10 ⟨r10, rfl, f10, b10⟩
            have hs10 := HSx.addI hs9 b10 f10
            have HSN10 := Lib.hid (HSN9.out.below b10)
            have hs10 : HS w w10 [aV 23 (.slice ay my cy) (Y.map Prod.fst), aRs Y, aM (.bool false) mb my (inQ (Y.map Prod.snd)), aI (.slice (some ⟨bx, ox, none⟩) m cx) X, aI r10 (normL c (lz ++ [a]))] := HSx.pick hs10 [0, 1, 2, 3, 5] (by decide)
            have hyn := HNF.out (lz ++ [a]) HLZ.out (by simp; omega)
            have hyl := HNL.out (lz ++ [a]) HLZ.out (by simp; omega)
            have HYT : Hid (Nf c (normL c (lz ++ [a])) ∧ (normL c (lz ++ [a])).length ≤ i + 1) := Lib.hid ⟨hyn, by have := HZT.out.2; simp at hyl; omega⟩
            have hok : OkW (normL c (lz ++ [a])) := okW_lets hyn.lets h4
            have hyl20 : (normL c (lz ++ [a])).length ≤ 17 := by simp at hyl; omega
            have hfw := formatWordImpl f10.reads hok.inL (by omega)
            obtain ⟨a10, c10, rfl⟩ := f10.form
            have HFF2 : Hid (((Z.map Prod.snd).drop (k + 1)).foldl (liF c a) (if normL c (lz ++ [a]) ∈ Y.map Prod.snd then Y.map Prod.snd else Y.map Prod.snd ++ [normL c (lz ++ [a])]) = RO) := HFF
            have HYT := HYT
            generalize hny : (normL c (lz ++ [a])).length = ny at *
            have HNY := Lib.hid hny
            clear hrd hs9 HSN9 hyn hyl f10 b10 HFF hny
            go_wp2_with fail
            refine hfw.mono ?_
            rintro e w11 ⟨rfl, b11⟩
            have hs11 := HSx.below hs10 b11
            have HSN11 := Lib.hid (HSN10.out.below b11)
            have hone10 : (Value.slice a10 ny c10).oneCell' = true := rfl
            clear hs10 HSN10 hfw b11
            generalize normL c (lz ++ [a]) = y at *
            have hlk : (Go.Instr.lookup 60 (.map (some mb)) (.string (bs (fmtWd y))) false).run Tryz.prog w11 = .ok (.bool (decide (y ∈ Y.map Prod.snd))) w11 := HSx.mapRun hs11 2 rfl Tryz.underlying60 zeroBoolRun hok (by rw [HNY.out]; omega)
            by_cases hmem : y ∈ Y.map Prod.snd
            · rw [decide_eq_true hmem] at hlk
              have HF2 : Hid (((Z.map Prod.snd).drop (k + 1)).foldl (liF c a) (Y.map Prod.snd) = RO) := Lib.hid (by have := HFF2.out; rw [if_pos hmem] at this; exact this)
              have hs12 : HS w w11 [aV 23 (.slice ay my cy) (Y.map Prod.fst), aRs Y, aM (.bool false) mb Y.length (inQ (Y.map Prod.snd)), aI (.slice (some ⟨bx, ox, none⟩) m cx) X] := by rw [HMY.out]; exact HSx.pick hs11 [0, 1, 2, 3] (by decide)
              clear hmem hs11
              go_wp2_with fail
              go_roundw
              case rel => exact ⟨k + 1, _, Y, rfl, by omega, by go_num, hs12, HSN11, HPRE, HT1, by rw [HMY.out]; omega, HF2⟩
              case measure => simp [intOf]; omega
            · rw [decide_eq_false hmem] at hlk
              have HF2 : Hid (((Z.map Prod.snd).drop (k + 1)).foldl (liF c a) ((Y ++ [(Value.slice a10 ny c10, y)]).map Prod.snd) = RO) := Lib.hid (by have := HFF2.out; rw [if_neg hmem] at this; rw [List.map_append]; exact this)
              have HT2 : Hid (∀ z ∈ Y ++ [(Value.slice a10 ny c10, y)], Nf c z.2 ∧ z.2.length ≤ i + 1) := Lib.hid (fun z hz => by
                rcases List.mem_append.1 hz with hz | hz
                · exact HT1.out z hz
                · rw [List.mem_singleton] at hz; subst hz; exact ⟨HYT.out.1, by show y.length ≤ i + 1; rw [HNY.out]; exact HYT.out.2⟩)
              have hs11' : HS w w11 [aV 23 (.slice ay my cy) (Y.map Prod.fst), aRs Y, aM (.bool false) mb my (inQ (Y.map Prod.snd)), aI (.slice (some ⟨bx, ox, none⟩) m cx) X, aI (.slice a10 ny c10) y] := hs11
              have HNE : Hid (∀ (j : Nat) r, (Z.map Prod.fst)[j]? = some r → some mb ≠ some g0) := Lib.hid (fun j r hr e => (HSx.mapOff hs11' 2 rfl (HSN11.out j r hr)) (by simpa using e.symm))
              have HPR2 : Hid (∃ T, Y ++ [(Value.slice a10 ny c10, y)] = Z ++ T) := Lib.hid (by obtain ⟨T, hT⟩ := HPRE.out; exact ⟨T ++ [(Value.slice a10 ny c10, y)], by rw [hT, List.append_assoc]⟩)
              have HPF : Hid (∀ (j : Nat) r, (Z.map Prod.fst)[j]? = some r → (Y.map Prod.fst)[j]? = some r) := Lib.hid (fun j r hr => by
                obtain ⟨T, hT⟩ := HPRE.out
                rw [hT, List.map_append, List.getElem?_append_left (List.getElem?_eq_some_iff.1 hr).1]; exact hr)
              have HYB : Hid (y.length ≤ 1048576) := Lib.hid (by rw [HNY.out]; omega)
              have hmy9 : my < 67108864 := by omega
              clear hmem hs11
              go_wp2_with (refine wpList_mapPutG rfl _ _ _ rfl rfl hs11' 2 rfl hmb hmy9 Tryz.underlying60 hok HYB.out rfl rfl ?_)
              intro w12 hs12 hg12
              have HSN12 := Lib.hid (HSN11.out.grown hg12 HNE.out)
              rw [inQ_put] at hs12
              obtain ⟨w13, hw13⟩ : ∃ w13, w13 = w12.alloc (.cells #[.slice a10 ny c10] 23) := ⟨_, rfl⟩
              have hs13 : HS w w13 [aV 23 (.slice ay my cy) (Y.map Prod.fst), aRs Y, aM (.bool false) mb (my + 1) (inQ (Y.map Prod.snd ++ [y])), aI (.slice (some ⟨bx, ox, none⟩) m cx) X, aI (.slice a10 ny c10) y] := by rw [hw13]; exact HSx.alloc hs12 _
              have HSN13 : Hid (Snap w13 g0 (Z.map Prod.fst)) := Lib.hid (by rw [hw13]; exact HSN12.out.below ((Below.refl _ _).alloc (Nat.le_refl _) _))
              have hc13 : w13.cell? ⟨w12.heap.size, 0, none⟩ = some (.slice a10 ny c10) := by rw [hw13]; go_simp
              have HW13 := Lib.hid hw13
              have HNV := Lib.hid (HS.newV hs13 0 rfl)
              have HLN2 : Hid ((Y.map Prod.fst).length + 1 ≤ 67108864) := Lib.hid (by rw [List.length_map, HMY.out]; omega)
              clear hs12 hs11' hg12 hw13 hlk
              go_wp2_with (at_builtin; go_must (rw [← HW13.out]; refine wpList_hsRowK rfl _ _ rfl rfl hs13 0 rfl HNV.out rfl hc13 hone10 HLN2.out ?_))
              intro v14 w14 hs14 _ hg14 hkeep
              have HSN14 : Hid (Snap w14 g0 (Z.map Prod.fst)) := Lib.hid (fun j r hr => by
                by_cases hb : (Value.slice ay my cy).ownBlock = some g0
                · have hrow : ay = some ⟨g0, 0, none⟩ := by
                    obtain ⟨F, hF, _⟩ := HSx.get hs13 0 rfl
                    rcases hF.1.2 with ⟨hv, _⟩ | ⟨g, cap, cur, hv, _⟩
                    · rw [hv] at hb; cases hb
                    · rw [hv] at hb
                      simp only [Value.slice.injEq] at hv
                      simp only [Value.ownBlock, Option.some.injEq] at hb
                      rw [hv.1, hb]
                  exact hkeep g0 my cy (by rw [hrow]) j r (HPF.out j r hr)
                · exact HSN13.out.grown hg14 (fun _ _ _ => hb) j r hr)
              have hs15 := (HSx.moreS hs14 1 4 (by decide) rfl rfl (Z' := Y ++ [(.slice a10 ny c10, y)]) (List.perm_append_singleton _ _)).pick [0, 1, 2, 3] (by decide)
              have hs15 : HS w w14 [aV 23 v14 ((Y ++ [(Value.slice a10 ny c10, y)]).map Prod.fst), aRs (Y ++ [(Value.slice a10 ny c10, y)]), aM (.bool false) mb (Y ++ [(Value.slice a10 ny c10, y)]).length (inQ ((Y ++ [(Value.slice a10 ny c10, y)]).map Prod.snd)), aI (.slice (some ⟨bx, ox, none⟩) m cx) X] := by
                have e1 : (Y ++ [(Value.slice a10 ny c10, y)]).map Prod.fst = Y.map Prod.fst ++ [Value.slice a10 ny c10] := by simp
                have e2 : (Y ++ [(Value.slice a10 ny c10, y)]).map Prod.snd = Y.map Prod.snd ++ [y] := by simp
                have e3 : (Y ++ [(Value.slice a10 ny c10, y)]).length = my + 1 := by rw [List.length_append, HMY.out]; rfl
                rw [e1, e2, e3]; exact hs15
              have hyk2 : (Y ++ [(Value.slice a10 ny c10, y)]).length ≤ z0 + (k + 1) := by rw [List.length_append, HMY.out]; simp; omega
              clear hs13 hs14 hkeep hg14
              go_wp2_with fail
              go_roundw
              case rel => exact ⟨k + 1, _, _, rfl, by omega, by go_num, hs15, HSN14, HPR2, HT2, hyk2, HF2⟩
              case measure => simp [intOf]; omega
          · have k1 : ¬ (k : Int) < (z0 : Int) := by omega
            have hf := HF.out
            rw [List.drop_eq_nil_of_le (by rw [List.length_map, HZ0.out]; omega)] at hf
            have hf : Y.map Prod.snd = RO := hf
            have hrl : RO.length = my := by rw [← hf, List.length_map, HMY.out]
            have hq := HQ2.out
            rw [hrl] at hq
            by_cases hbig : 200 < my
            · rw [if_pos hbig] at hq
              have i5 : (200 : Int) < (my : Int) := by omega
              have HRN2 := Lib.hid (HRN.out hq.symm)
              have HR0 : Hid (R = none) := Lib.hid hq.symm
              have hfe := FII.empty_of hs.bl (w1 := wr.alloc (.cells #[] 23)) rfl
              clear hf hrl hq hs
              go_wp2_with fail
              go_ret2
              exact ⟨_, by rw [HOK.out, HR0.out]; rfl, by rw [HRN2.out]; exact hfe.1, hfe.2⟩
            · rw [if_neg hbig] at hq
              have i5 : ¬ (200 : Int) < (my : Int) := by omega
              have HQ3 : Hid (liBfs c (X.drop (i + 1)) (Y.map Prod.snd) = R) := Lib.hid (by rw [hf]; exact hq)
              have hy1 : 1 ≤ Y.length ∧ Y.length ≤ 200 := by
                obtain ⟨T, hT⟩ := HPRE.out
                have h1 := congrArg List.length hT
                rw [List.length_append, HZ0.out, HMY.out] at h1
                rw [HMY.out]; omega
              have hs9 : HS w wr [aV 23 (.slice ay my cy) (Y.map Prod.fst), aRs Y, aM (.bool false) mb Y.length (inQ (Y.map Prod.snd)), aI (.slice (some ⟨bx, ox, none⟩) m cx) X] := by rw [HMY.out]; exact hs
              clear hf hrl hq hs
              go_wp2_with fail
              go_roundw
              case rel => exact ⟨i + 1, _, Y, rfl, by omega, by go_num, hs9, HT1, hy1, HQ3⟩
              case measure => simp [intOf]; omega
      · have i1 : ¬ (i : Int) < (m : Int) := by omega
        have hq := HQ.out
        rw [List.drop_eq_nil_of_le (by rw [HM.out]; omega)] at hq
        have hq : some (Z.map Prod.snd) = R := hq
        have HRZ : Hid (R = some (Z.map Prod.snd)) := Lib.hid hq.symm
        have hi15 : i ≤ 15 := by omega
        have hsrt := HSx.sortWords (HSx.pick hs [0, 1] (by decide)) (Z := Z) (v := .slice av z0 cv) (n := 15) 0 1 (by decide) rfl rfl (HS.newV hs 0 rfl) (fun z hz => by have := (HT.out z hz).2; omega) (by omega) (by rw [HZ0.out]; omega)
        clear hq hs
        go_wp2_with fail
        refine hsrt.mono ?_
        rintro e w6 ⟨rfl, Z', hp, hsr, hs6⟩
        have HSR := Lib.hid hsr
        have HPP := Lib.hid hp
        clear hsr hp hsrt
        have hs7 : HS w w6 [aF (.slice av z0 cv) (Z'.map Prod.snd)] := ((HSx.shutF (HSx.pick hs6 [0, 1] (by decide)) (Z := Z') (v := .slice av z0 cv) 0 1 (by decide) rfl rfl).pick [0] (by decide))
        have HFIN : Hid (Z'.map Prod.snd = lwR c l) := Lib.hid (HRS.out _ _ HRZ.out (HPP.out.map _) (HSR.out.imp (fun h => by omega)))
        rw [HFIN.out] at hs7
        clear hs6
        go_wp2_with fail
        go_ret2
        exact ⟨_, by rw [HOK.out, HRZ.out]; rfl, HS.F hs7 0 rfl, hs7.bl⟩
end Go.Proofs.YtipjomdldjbenaaGreat
