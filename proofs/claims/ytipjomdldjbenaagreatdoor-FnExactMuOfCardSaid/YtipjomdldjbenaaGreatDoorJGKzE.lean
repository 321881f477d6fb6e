/- The row of polynomials of an element, by the program, out of the table's contracts. Condition: sizes up to 2^24. The sum of the polynomials below an element, shifted by lengths: by the program, out of the row's contract. Condition: sizes up to 2^24. The coefficient of the greatest power of a pair's polynomial, by the program, out of the table's contracts. Condition: sizes up to 2^24. Whether an element's polynomial is 1, by the program, out of the polynomial's contract. Condition: sizes up to 2^24. What the program says of the polynomials of a small group, out of its table; how long these lists are. Condition: sizes up to 2^24. -/
import Derived.Test.YtipjomdldjbenaaGreatDoorJGKzD
import Derived.Test.YtipjomdldjbenaaGreatDoorJGKzB
import Derived.Test.YtipjomdldjbenaaGreatDoorJGKzC
import Derived.Test.YtipjomdldjbenaaGreatDoorJKzN
import Derived.Test.YtipjomdldjbenaaGreatDoorJGOp
/-! The row of polynomials of an element, by the program, out of the table's contracts. Condition: sizes up to 2^24. -/
namespace Go.Proofs.YtipjomdldjbenaaGreatDoor
open Go.RowKit
set_option maxRecDepth 20000

set_option maxHeartbeats 4000000 in
theorem klRowImplOf {S S2 : Nat → Prop} {x z : Value} {c : List (List Int)} {v : List Int} {w : World} (h : RII S w x c) (h2 : RI S2 w z v) (hl : total c ≤ 16777216) (hl2 : v.length ≤ 16777216)
    (hnew : Calls Tryz.prog 59 #[x] w (NewK c w))
    (hpair : okK c = true → isWd c v = true → ∀ (wv : World) (g : Nat), Below w.heap.size w wv → KzA wv g c → Calls Tryz.prog 61 #[.pointer (some ⟨g, 0, none⟩), x, z, z] wv fun e w' => e = .returned (.tuple #[.int .i64 (ixN c v), .int .i64 (ixN c v)]) ∧ Below wv.heap.size wv w') :
    Calls Tryz.prog 30 #[x, z] w fun e w' => ∃ r, e = .returned (.tuple #[r, .bool (klOk c v)]) ∧ FII (New w w') w' r (klR c v) ∧ Below w.heap.size w w' := by
  have mixed : Tryz.prog.follows .mixedOrders = true := by kernel_rfl
  have HW2 := Lib.hid (fun (wv : World) (hb : Below w.heap.size w wv) => isWordImpl (h.below hb) (h2.below hb) hl hl2)
  have HNK : Hid (NewK c w = fun e w' => ∃ p, e = .returned (.tuple #[p, .bool (okK c)]) ∧ (okK c = true → ∃ g, p = .pointer (some ⟨g, 0, none⟩) ∧ KzA w' g c) ∧ Below w.heap.size w w') := Lib.hid rfl
  rw [HNK.out] at hnew
  obtain ⟨aa, ca, rfl⟩ := h.form
  obtain ⟨az, cz, rfl⟩ := h2.form
  clear h h2
  cases hk : okK c with
  | false =>
    have HO : Hid (klOk c v = false) := Lib.hid (by unfold klOk; rw [hk]; rfl)
    have HR : Hid (klR c v = []) := Lib.hid (by unfold klR; rw [HO.out]; rfl)
    rw [hk] at hnew
    clear hk hpair
    go_enter Tryz.func30, Tryz.ntmps30
    go_wp2_with fail
    refine hnew.mono ?_
    rintro e w1 ⟨p, rfl, _, b1⟩
    have hf := FII.empty_of b1 (w1 := w1.alloc (.cells #[] 28)) rfl
    clear hnew
    go_wp2_with fail
    go_ret2
    exact ⟨_, by rw [HO.out]; rfl, by rw [HR.out]; exact hf.1, hf.2⟩
  | true =>
    rw [hk] at hnew
    cases hv : isWd c v with
    | false =>
      have HO : Hid (klOk c v = false) := Lib.hid (by unfold klOk; rw [hk, hv]; rfl)
      have HR : Hid (klR c v = []) := Lib.hid (by unfold klR; rw [HO.out]; rfl)
      rw [hv] at HW2
      clear hk hv hpair
      go_enter Tryz.func30, Tryz.ntmps30
      go_wp2_with fail
      refine hnew.mono ?_
      rintro e w1 ⟨p, rfl, _, b1⟩
      have hw1 := HW2.out w1 b1
      clear hnew
      go_wp2_with fail
      refine hw1.mono ?_
      rintro e w2 ⟨rfl, m2, rfl⟩
      have hb2 := below_drewN b1 m2
      generalize w1.drewN m2 = w2 at *
      have hf := FII.empty_of hb2 (w1 := w2.alloc (.cells #[] 28)) rfl
      clear hw1
      go_wp2_with fail
      go_ret2
      exact ⟨_, by rw [HO.out]; rfl, by rw [HR.out]; exact hf.1, hf.2⟩
    | true =>
      have HO : Hid (klOk c v = true) := Lib.hid (by unfold klOk; rw [hk, hv]; rfl)
      have HR : Hid (klR c v = (List.range (elL c).length).map (lookR (klT c) (ixN c v))) := Lib.hid (by unfold klR; rw [HO.out, if_pos rfl])
      have K0 := KlOk.of hk
      obtain ⟨_, hv15, hlv⟩ := isWd_parts hv
      have hqv := (K0.word hlv (by omega)).2.1
      have HPR := Lib.hid (hpair hk hv)
      have HPL : Hid (∀ u, (lookR (klT c) (ixN c v) u).length ≤ 25) := Lib.hid (fun u => by
        have h3 : (lookR (klT c) (ixN c v) u).length ≤ lenE (elL c) (ixN c v) + 1 := (K0.rows _ (Nat.le_refl _)).len (ixN c v) u
        have h4 := K0.tab.deep (ixN c v)
        omega)
      have hN24 := K0.few
      rw [hv] at HW2
      have HKA := Lib.hid (fun (wv : World) (g : Nat) (k : KzA wv g c) => k)
      generalize ixN c v = qv at *
      generalize klR c v = res at *
      clear hk hv hpair K0 hlv hv15
      go_enter Tryz.func30, Tryz.ntmps30
      go_wp2_with fail
      refine hnew.mono ?_
      rintro e w1 ⟨p, rfl, hg, b1⟩
      obtain ⟨g, rfl, KA⟩ := hg trivial
      have hw1 := HW2.out w1 b1
      clear hnew hg
      go_wp2_with fail
      refine hw1.mono ?_
      rintro e w2 ⟨rfl, m2, rfl⟩
      have hb2 := below_drewN b1 m2
      have KA2 := KA.below (below_drewN (Below.refl _ w1) m2)
      generalize w1.drewN m2 = w2 at *
      have hpr := HPR.out w2 g hb2 KA2
      clear hw1 b1 KA HPR
      go_wp2_with fail
      refine hpr.mono ?_
      rintro e w4 ⟨rfl, b4⟩
      have hb4 := Keeps.step hb2 b4
      have KA4 := KA2.below b4
      obtain ⟨bE, oE, cE, bT, oT, cT, mb, bP, oP, cP, K4, _⟩ := KA4
      have HK := Lib.hid (fun (wv : World) (hb : Below w4.heap.size w4 wv) => K4.below hb)
      obtain ⟨w5, hw5⟩ : ∃ w5, w5 = w4.alloc (.cells #[] 28) := ⟨_, rfl⟩
      have hs5 := (freshRows (HS.nil (Below.refl _ w4)) hw5).add (Below.refl _ _) (st_Rs []) (F := NoB) ⟨fun x hx => by simp at hx, List.Pairwise.nil⟩ (fun b hb => hb.elim)
      have hs5 : HS w4 w5 [aV 28 (.slice (some ⟨w4.heap.size, 0, none⟩) 0 0) (([] : Zl).map Prod.fst), aRs []] := hs5
      have hc5 := (HK.out w5 hs5.bl).c0
      rw [hw5] at hc5
      have HW5 := Lib.hid hw5
      have HZ0 : Hid (([] : Zl).map Prod.snd = (List.range 0).map (lookR (klT c) qv)) := Lib.hid rfl
      generalize (elL c).length = N at *
      obtain ⟨P, hP⟩ : ∃ P, lookR (klT c) qv = P := ⟨_, rfl⟩
      have HPP := Lib.hid (fun u => congrFun hP u)
      rw [hP] at HR HPL HZ0
      clear hP
      clear hpr hb2 KA2 b4 hw5 HKA
      go_wp2_with fail
      rw [← HW5.out]
      clear hc5
      go_loopw [10, 40] (fun oo uu wr => ∃ (u : Nat) (vo : Value) (Z : Zl), vo = oo ∧ u ≤ N ∧ uu = .int .i64 u ∧ HS w4 wr [aV 28 vo (Z.map Prod.fst), aRs Z] ∧ Hid (Z.map Prod.snd = (List.range u).map P)) (fun _ uu _ => N - (intOf uu).toNat)
      case atStart => exact ⟨0, _, [], rfl, Nat.zero_le _, rfl, hs5, HZ0⟩
      case round =>
        clear hs5 HZ0
        obtain ⟨u, vo, Z, rfl, hu, rfl, hs, HMZ⟩ := hrel
        by_cases huN : u < N
        · have i1 : (u : Int) < (N : Int) := by omega
          have i2 : (0 : Int) ≤ (u : Int) := by omega
          have i3 : (qv : Int) < (N : Int) := by omega
          have Kr := HK.out wr hs.bl
          have hc3 := Kr.c3
          obtain ⟨bu, ou, cu, hp1, hrow⟩ := Kr.p u huN
          obtain ⟨a5, c5, hp2, hp3⟩ := hrow qv hqv
          replace hp2 : wr.cell? ⟨bu, ou + qv, none⟩ = some (.slice a5 (P u).length c5) := by rw [← HPP.out u]; exact hp2
          replace hp3 : RI Any wr (.slice a5 (P u).length c5) (P u) := by rw [← HPP.out u]; exact hp3
          have hpl := HPL.out u
          have hcl := cloneInts hp3 (by omega)
          have HMS : Hid ((List.range (u + 1)).map P = (List.range u).map P ++ [P u]) := Lib.hid (by rw [List.range_succ, List.map_append]; rfl)
          have HLN : Hid ((Z.map Prod.fst).length + 1 ≤ 67108864) := Lib.hid (by have := congrArg List.length HMZ.out; simp at this; simp; omega)
          generalize P u = q at *
          clear Kr hrow hp3
          go_wp2_with fail
          refine hcl.mono ?_
          rintro e w6 ⟨r6, rfl, f6, b6⟩
          have hs6 := HSx.addI hs b6 f6
          obtain ⟨a6, c6, rfl⟩ := f6.form
          have HMZ2 : Hid ((Z ++ [(Value.slice a6 q.length c6, q)]).map Prod.snd = (List.range (u + 1)).map P) := Lib.hid (by rw [List.map_append, HMZ.out, HMS.out]; rfl)
          generalize hqn : q.length = qn at *
          obtain ⟨w7, hw7⟩ : ∃ w7, w7 = w6.alloc (.cells #[.slice a6 qn c6] 28) := ⟨_, rfl⟩
          have hs7 : HS w4 w7 [aV 28 vo (Z.map Prod.fst), aRs Z, aI (.slice a6 qn c6) q] := by rw [hw7]; exact HSx.alloc hs6 _
          have hc7 : w7.cell? ⟨w6.heap.size, 0, none⟩ = some (.slice a6 qn c6) := by rw [hw7]; go_simp
          have HW7 := Lib.hid hw7
          have HNV := Lib.hid (HS.newV hs7 0 rfl)
          clear hs hs6 hw7 f6 b6 hcl hqn hc3 hp1 hp2
          go_wp2_with (at_builtin; go_must (rw [← HW7.out]; refine wpList_hsRow rfl _ _ rfl rfl hs7 0 rfl HNV.out rfl hc7 rfl HLN.out ?_))
          intro v8 w8 hs8 _
          have hs9 := (HSx.moreS hs8 1 2 (by decide) rfl rfl (Z' := Z ++ [(.slice a6 qn c6, q)]) (List.perm_append_singleton _ _)).pick [0, 1] (by decide)
          have hs9 : HS w4 w8 [aV 28 v8 ((Z ++ [(Value.slice a6 qn c6, q)]).map Prod.fst), aRs (Z ++ [(Value.slice a6 qn c6, q)])] := by
            have e : (Z ++ [(Value.slice a6 qn c6, q)]).map Prod.fst = Z.map Prod.fst ++ [Value.slice a6 qn c6] := by simp
            rw [e]; exact hs9
          generalize Z ++ [(Value.slice a6 qn c6, q)] = Z2 at *
          clear hs7 hs8 hc7
          go_wp2_with fail
          go_roundw
          case rel => exact ⟨u + 1, v8, Z2, rfl, by omega, by go_num, hs9, HMZ2⟩
          case measure => simp [intOf]; omega
        · have i1 : ¬ (u : Int) < (N : Int) := by omega
          have hue : u = N := by omega
          have hs7 : HS w4 wr [aF vo (Z.map Prod.snd)] := ((HSx.shutF hs (Z := Z) (v := vo) 0 1 (by decide) rfl rfl).pick [0] (by decide))
          rw [HMZ.out, hue, ← HR.out] at hs7
          clear hs hue
          go_wp2_with fail
          go_ret2
          exact ⟨_, by rw [HO.out]; rfl, (HS.F hs7 0 rfl).mono (fun b hb => ⟨Nat.le_trans hb4.size hb.1, hb.2⟩), Keeps.step hb4 hs7.bl⟩
end Go.Proofs.YtipjomdldjbenaaGreatDoor

/-! The sum of the polynomials below an element, shifted by lengths: by the program, out of the row's contract. Condition: sizes up to 2^24. -/
namespace Go.Proofs.YtipjomdldjbenaaGreatDoor
open Go.RowKit
set_option maxRecDepth 20000

set_option maxHeartbeats 4000000 in
theorem bettiImplOf {S S' : Nat → Prop} {x z : Value} {c : List (List Int)} {v : List Int} {w : World} (h : RII S w x c) (h2 : RI S' w z v) (hl : total c ≤ 16777216) (_hl2 : v.length ≤ 16777216) (hm : HasM w)
    (hrow : Calls Tryz.prog 30 #[x, z] w fun e w' => ∃ r, e = .returned (.tuple #[r, .bool (klOk c v)]) ∧ FII (New w w') w' r (klR c v) ∧ Below w.heap.size w w') :
    Calls Tryz.prog 33 #[x, z] w fun e w' => ∃ r, e = .returned r ∧ FI (New w w') w' r (beV c v) ∧ Below w.heap.size w w' := by
  have mixed : Tryz.prog.follows .mixedOrders = true := by kernel_rfl
  have HRD := Lib.hid (fun (wv : World) (hb : Below w.heap.size w wv) => elementsImpl (h.below hb) (hm.below hb) hl)
  obtain ⟨aa, ca, rfl⟩ := h.form
  obtain ⟨az, cz, rfl⟩ := h2.form
  cases hok : klOk c v with
  | false =>
    have HR : Hid (beV c v = []) := Lib.hid (by unfold beV; rw [hok]; rfl)
    rw [hok] at hrow
    clear hok h h2
    go_enter Tryz.func33, Tryz.ntmps33
    go_wp2_with fail
    refine hrow.mono ?_
    rintro e w1 ⟨r1, rfl, f1, b1⟩
    obtain ⟨hf, hb⟩ := fresh_of (w := w1) b1 rfl
    clear hrow f1
    go_wp2_with fail
    go_ret
    exact ⟨_, rfl, by rw [HR.out]; exact hf, hb⟩
  | true =>
    obtain ⟨hk, _, K, _⟩ := klOk_parts hok
    have HR : Hid (beV c v = (List.range (elL c).length).foldl (beF c v) []) := Lib.hid (by unfold beV; rw [hok, if_pos rfl])
    have hke : elR c = elL c := by unfold elR; rw [(okK_fin hk).2.2.2.2]; rfl
    have HKL : Hid (∀ u, u < (elL c).length → (klR c v)[u]? = some (lookR (klT c) (ixN c v) u)) := Lib.hid (fun u hu => by unfold klR; rw [hok, if_pos rfl, List.getElem?_map, List.getElem?_range hu]; rfl)
    have HKN : Hid ((klR c v).length = (elL c).length) := Lib.hid (by unfold klR; rw [hok, if_pos rfl]; simp)
    have HEL : Hid (∀ u, u < (elL c).length → ∃ y, (elL c)[u]? = some y ∧ y.length = lenE (elL c) u) := Lib.hid (fun u hu => by obtain ⟨y, h1, _, h3, _⟩ := K.at hu; exact ⟨y, h1, h3.symm⟩)
    have HBF := Lib.hid (fun (p : List Int) (u : Nat) (hp : p.length ≤ 60) => beF_ok (v := v) K (u := u) hp)
    have HDP := Lib.hid K.tab.deep
    have HPL : Hid (∀ u, (lookR (klT c) (ixN c v) u).length ≤ 25) := Lib.hid (fun u => by
      have h3 : (lookR (klT c) (ixN c v) u).length ≤ lenE (elL c) (ixN c v) + 1 := (K.rows _ (Nat.le_refl _)).len (ixN c v) u
      have h4 := K.tab.deep (ixN c v)
      omega)
    have HPI : Hid (∀ u, InI (lookR (klT c) (ixN c v) u)) := Lib.hid (fun u => (K.rows _ (Nat.le_refl _)).ini (ixN c v) u)
    have HFE : Hid (∀ p u, beF c v p u = addP p (shiftP (lookR (klT c) (ixN c v) u) (lenE (elL c) u))) := Lib.hid (fun _ _ => rfl)
    have HST := Lib.hid (fun (i : Nat) => range_fold_step (beF c v) [] i)
    have hN24 := K.few
    have hpos := K.pos
    rw [hok] at hrow
    rw [(okK_fin hk).2.2.2.2, hke] at HRD
    generalize beV c v = res at *
    generalize beF c v = F at *
    generalize klR c v = RR at *
    generalize lookR (klT c) (ixN c v) = P at *
    generalize elL c = E at *
    clear hok h h2 K hk hke
    generalize hN : E.length = N at *
    have HN := Lib.hid hN
    clear hN
    go_enter Tryz.func33, Tryz.ntmps33
    go_wp2_with fail
    refine hrow.mono ?_
    rintro e w1 ⟨r1, rfl, f1, b1⟩
    have hrd := HRD.out w1 b1
    clear hrow HRD
    go_wp2_with fail
    refine hrd.mono ?_
    rintro e w2 ⟨r2, rfl, f2, b2⟩
    have hb2 := Keeps.step b1 b2
    have f12 := (FII.any f1).below b2
    obtain ⟨bE, oE, cE, rfl⟩ := RL.head f2.any (by rw [HN.out]; exact hpos)
    obtain ⟨bR, oR, cR, rfl⟩ := RL.head f12 (by rw [HKN.out]; exact hpos)
    have HRR := Lib.hid (fun (wv : World) (hb : Below w2.heap.size w2 wv) => f12.below hb)
    have HEE := Lib.hid (fun (wv : World) (hb : Below w2.heap.size w2 wv) => f2.any.below hb)
    rw [HN.out, HKN.out]
    obtain ⟨w3, hw3⟩ : ∃ w3, w3 = w2.alloc (.cells #[] 3) := ⟨_, rfl⟩
    have hs3 := freshNone (HS.nil (Below.refl _ w2)) hw3
    have hs3 : HS w2 w3 [aI (.slice (some ⟨w2.heap.size, 0, none⟩) 0 0) ((List.range 0).foldl F [])] := hs3
    have HW3 := Lib.hid hw3
    have HOK0 : Hid (InI ((List.range 0).foldl F []) ∧ ((List.range 0).foldl F []).length ≤ 60) := Lib.hid ⟨nil_in, by simp⟩
    clear hrd f1 f2 f12 b1 b2 hw3
    go_wp2_with fail
    rw [← HW3.out]
    go_loopw [9, 29] (fun pp uu wr => ∃ (u : Nat) (vp : Value), vp = pp ∧ u ≤ N ∧ uu = .int .i64 u ∧ HS w2 wr [aI vp ((List.range u).foldl F [])] ∧ Hid (InI ((List.range u).foldl F []) ∧ ((List.range u).foldl F []).length ≤ 60)) (fun _ uu _ => N - (intOf uu).toNat)
    case atStart => exact ⟨0, _, rfl, Nat.zero_le _, rfl, hs3, HOK0⟩
    case round =>
      clear hs3 HOK0
      obtain ⟨u, vp, rfl, hu, rfl, hs, HOK⟩ := hrel
      by_cases huN : u < N
      · have i1 : (u : Int) < (N : Int) := by omega
        have i2 : (0 : Int) ≤ (u : Int) := by omega
        have HS1 := Lib.hid (HST.out u)
        have HOK2 := Lib.hid (HBF.out _ u HOK.out.2)
        rw [← HS1.out] at HOK2
        have HQ : Hid ((List.range (u + 1)).foldl F [] = addP ((List.range u).foldl F []) (shiftP (P u) (lenE E u))) := Lib.hid (by rw [HS1.out, HFE.out])
        clear HS1
        generalize (List.range u).foldl F [] = Q at *
        obtain ⟨a1, c1, hq1, hp1⟩ := RII.get (HRR.out wr hs.bl) (HKL.out u huN)
        obtain ⟨a2, c2, he1⟩ := RII.cellLen (HEE.out wr hs.bl) (HEL.out u huN)
        have hpl := HPL.out u
        have hdu := HDP.out u
        have HPU := Lib.hid (HPI.out u)
        generalize lenE E u = lu at *
        generalize P u = p at *
        have hsh := shiftNImpl hp1 lu (by omega) (by omega)
        have HPLL := Lib.hid hpl
        clear hp1
        go_wp2_with fail
        refine hsh.mono ?_
        rintro e w4 ⟨r4, rfl, f4, b4⟩
        have hsd := hs
        have had := addImpl (FI.reads (HS.I (HSx.below hsd b4) 0 rfl)) f4.reads HOK.out.1 (by have := HOK.out.2; omega) (by have := shP_len p lu; have := HPLL.out; omega)
        clear hsh
        go_wp2_with fail
        refine had.mono ?_
        rintro e w5 ⟨r5, rfl, f5, b5⟩
        have hs5 := HSx.addI (HSx.below hsd b4) b5 f5
        rw [← HQ.out] at hs5
        have hs5 : HS w2 w5 [aI r5 ((List.range (u + 1)).foldl F [])] := HSx.pick hs5 [1] (by decide)
        clear had hq1 he1 f4 f5 b4 b5 hsd hs
        go_wp2_with fail
        go_roundw
        case rel => exact ⟨u + 1, r5, rfl, by omega, by go_num, hs5, HOK2⟩
        case measure => simp [intOf]; omega
      · have i1 : ¬ (u : Int) < (N : Int) := by omega
        have hue : u = N := by omega
        rw [hue, ← HR.out] at hs
        have hfi := (HS.I hs 0 rfl).mono (S' := New w wr) (fun b hb => ⟨Nat.le_trans hb2.size hb.1, hb.2⟩)
        have hbl := Keeps.step hb2 hs.bl
        clear hue hs
        go_wp2_with fail
        go_ret
        exact ⟨_, rfl, hfi, hbl⟩
end Go.Proofs.YtipjomdldjbenaaGreatDoor

/-! The coefficient of the greatest power of a pair's polynomial, by the program, out of the table's contracts. Condition: sizes up to 2^24. -/
namespace Go.Proofs.YtipjomdldjbenaaGreatDoor
open Go.RowKit
set_option maxRecDepth 20000

set_option maxHeartbeats 4000000 in
theorem muOfImplOf {S S1 S2 : Nat → Prop} {x y z : Value} {c : List (List Int)} {u v : List Int} {w : World} (h : RII S w x c) (h1 : RI S1 w y u) (h2 : RI S2 w z v) (hl : total c ≤ 16777216) (hl1 : u.length ≤ 16777216) (hl2 : v.length ≤ 16777216)
    (hnew : Calls Tryz.prog 59 #[x] w (NewK c w))
    (hpair : okK c = true → isWd c u = true → isWd c v = true → ∀ (wv : World) (g : Nat), Below w.heap.size w wv → KzA wv g c → Calls Tryz.prog 61 #[.pointer (some ⟨g, 0, none⟩), x, y, z] wv fun e w' => e = .returned (.tuple #[.int .i64 (ixN c u), .int .i64 (ixN c v)]) ∧ Below wv.heap.size wv w') :
    Calls Tryz.prog 23 #[x, y, z] w fun e w' => e = .returned (.tuple #[.int .i64 (moV c u v), .bool (kpOk c u v)]) ∧ Below w.heap.size w w' := by
  have mixed : Tryz.prog.follows .mixedOrders = true := by kernel_rfl
  have HW1 := Lib.hid (fun (wv : World) (hb : Below w.heap.size w wv) => isWordImpl (h.below hb) (h1.below hb) hl hl1)
  have HW2 := Lib.hid (fun (wv : World) (hb : Below w.heap.size w wv) => isWordImpl (h.below hb) (h2.below hb) hl hl2)
  have HNK : Hid (NewK c w = fun e w' => ∃ p, e = .returned (.tuple #[p, .bool (okK c)]) ∧ (okK c = true → ∃ g, p = .pointer (some ⟨g, 0, none⟩) ∧ KzA w' g c) ∧ Below w.heap.size w w') := Lib.hid rfl
  rw [HNK.out] at hnew
  obtain ⟨aa, ca, rfl⟩ := h.form
  obtain ⟨ay, cy, rfl⟩ := h1.form
  obtain ⟨az, cz, rfl⟩ := h2.form
  clear h h1 h2
  cases hk : okK c with
  | false =>
    have HO : Hid (kpOk c u v = false) := Lib.hid (by unfold kpOk klOk; rw [hk]; rfl)
    have HR : Hid (moV c u v = 0) := Lib.hid (by unfold moV; rw [HO.out]; rfl)
    rw [hk] at hnew
    clear hk hpair
    go_enter Tryz.func23, Tryz.ntmps23
    go_wp2_with fail
    refine hnew.mono ?_
    rintro e w1 ⟨p, rfl, _, b1⟩
    clear hnew
    go_wp2_with fail
    go_ret2
    exact ⟨by rw [HO.out, HR.out]; rfl, b1⟩
  | true =>
    rw [hk] at hnew
    cases hu : isWd c u with
    | false =>
      have HO : Hid (kpOk c u v = false) := Lib.hid (by unfold kpOk; rw [hu]; cases klOk c v <;> rfl)
      have HR : Hid (moV c u v = 0) := Lib.hid (by unfold moV; rw [HO.out]; rfl)
      rw [hu] at HW1
      clear hk hu hpair
      go_enter Tryz.func23, Tryz.ntmps23
      go_wp2_with fail
      refine hnew.mono ?_
      rintro e w1 ⟨p, rfl, _, b1⟩
      have hw1 := HW1.out w1 b1
      clear hnew
      go_wp2_with fail
      refine hw1.mono ?_
      rintro e w2 ⟨rfl, m2, rfl⟩
      have hb2 := below_drewN b1 m2
      generalize w1.drewN m2 = w2 at *
      clear hw1
      go_wp2_with fail
      go_ret2
      exact ⟨by rw [HO.out, HR.out]; rfl, hb2⟩
    | true =>
      cases hv : isWd c v with
      | false =>
        have HO : Hid (kpOk c u v = false) := Lib.hid (by unfold kpOk klOk; rw [hk, hv]; rfl)
        have HR : Hid (moV c u v = 0) := Lib.hid (by unfold moV; rw [HO.out]; rfl)
        rw [hu] at HW1
        rw [hv] at HW2
        clear hk hu hv hpair
        go_enter Tryz.func23, Tryz.ntmps23
        go_wp2_with fail
        refine hnew.mono ?_
        rintro e w1 ⟨p, rfl, _, b1⟩
        have hw1 := HW1.out w1 b1
        clear hnew
        go_wp2_with fail
        refine hw1.mono ?_
        rintro e w2 ⟨rfl, m2, rfl⟩
        have hb2 := below_drewN b1 m2
        generalize w1.drewN m2 = w2 at *
        have hw2 := HW2.out w2 hb2
        clear hw1 b1
        go_wp2_with fail
        refine hw2.mono ?_
        rintro e w3 ⟨rfl, m3, rfl⟩
        have hb3 := below_drewN hb2 m3
        generalize w2.drewN m3 = w3 at *
        clear hw2
        go_wp2_with fail
        go_ret2
        exact ⟨by rw [HO.out, HR.out]; rfl, hb3⟩
      | true =>
        have HO : Hid (kpOk c u v = true) := Lib.hid (by unfold kpOk klOk; rw [hk, hu, hv]; rfl)
        have K0 := KlOk.of hk
        obtain ⟨_, hu15, hlu⟩ := isWd_parts hu
        obtain ⟨_, hv15, hlv⟩ := isWd_parts hv
        have hqu := (K0.word hlu (by omega)).2.1
        have hqv := (K0.word hlv (by omega)).2.1
        have HPR := Lib.hid (hpair hk hu hv)
        have HR : Hid (moV c u v = muI (lookR (klT c) (ixN c v) (ixN c u)) ((lenE (elL c) (ixN c v) : Int) - lenE (elL c) (ixN c u))) := Lib.hid (by
          unfold moV kpP
          rw [HO.out, if_pos rfl, if_pos rfl, mu_same, K0.len hlu (by omega), K0.len hlv (by omega)])
        have hkl := kp_len c u v
        have hkl : (lookR (klT c) (ixN c v) (ixN c u)).length ≤ 25 := by unfold kpP at hkl; rw [HO.out, if_pos rfl] at hkl; exact hkl
        have HDP := Lib.hid K0.tab.deep
        rw [hu] at HW1
        rw [hv] at HW2
        generalize ixN c u = qu at *
        generalize ixN c v = qv at *
        generalize moV c u v = res at *
        clear hk hu hv hpair K0 hlu hlv hu15 hv15
        go_enter Tryz.func23, Tryz.ntmps23
        go_wp2_with fail
        refine hnew.mono ?_
        rintro e w1 ⟨p, rfl, hg, b1⟩
        obtain ⟨g, rfl, KA⟩ := hg trivial
        have hw1 := HW1.out w1 b1
        clear hnew hg
        go_wp2_with fail
        refine hw1.mono ?_
        rintro e w2 ⟨rfl, m2, rfl⟩
        have hb2 := below_drewN b1 m2
        have KA2 := KA.below (below_drewN (Below.refl _ w1) m2)
        generalize w1.drewN m2 = w2 at *
        have hw2 := HW2.out w2 hb2
        clear hw1 b1 KA
        go_wp2_with fail
        refine hw2.mono ?_
        rintro e w3 ⟨rfl, m3, rfl⟩
        have hb3 := below_drewN hb2 m3
        have KA3 := KA2.below (below_drewN (Below.refl _ w2) m3)
        generalize w2.drewN m3 = w3 at *
        have hpr := HPR.out w3 g hb3 KA3
        clear hw2 hb2 KA2 HPR
        go_wp2_with fail
        refine hpr.mono ?_
        rintro e w4 ⟨rfl, b4⟩
        have hb4 := Keeps.step hb3 b4
        obtain ⟨bE, oE, cE, bT, oT, cT, mb, bP, oP, cP, K4, _⟩ := KA3.below b4
        have hmu := muImpl K4 (z := qu) (v := qv) hqu hqv HDP.out (by show (lookR (klT c) qv qu).length ≤ _; omega)
        have hmu : Calls Tryz.prog 62 #[.pointer (some ⟨g, 0, none⟩), .int .i64 qu, .int .i64 qv] w4 fun e w' => e = .returned (.int .i64 (muI (lookR (klT c) qv qu) ((lenE (elL c) qv : Int) - lenE (elL c) qu))) ∧ Below w4.heap.size w4 w' := hmu
        rw [← HR.out] at hmu
        clear hpr hb3 KA3 b4 K4
        go_wp2_with fail
        refine hmu.mono ?_
        rintro e w5 ⟨rfl, b5⟩
        clear hmu
        go_wp2_with fail
        go_ret2
        exact ⟨by rw [HO.out]; rfl, Keeps.step hb4 b5⟩
end Go.Proofs.YtipjomdldjbenaaGreatDoor

/-! Whether an element's polynomial is 1, by the program, out of the polynomial's contract. Condition: sizes up to 2^24. -/
namespace Go.Proofs.YtipjomdldjbenaaGreatDoor
open Go.RowKit
set_option maxRecDepth 20000

set_option maxHeartbeats 2000000 in
theorem smoothImplOf {S S' : Nat → Prop} {x z : Value} {c : List (List Int)} {v : List Int} {w : World} (h : RII S w x c) (h2 : RI S' w z v) (_hl : total c ≤ 16777216) (_hl2 : v.length ≤ 16777216)
    (hkp : Calls Tryz.prog 25 #[x, .slice none 0 0, z] w fun e w' => ∃ r, e = .returned (.tuple #[r, .bool (kpOk c [] v)]) ∧ FI (New w w') w' r (kpP c [] v) ∧ Below w.heap.size w w') :
    Calls Tryz.prog 20 #[x, z] w fun e w' => e = .returned (.bool (isRs c v)) ∧ Below w.heap.size w w' := by
  have mixed : Tryz.prog.follows .mixedOrders = true := by kernel_rfl
  have HRS : Hid (isRs c v = (kpOk c [] v && eqL (kpP c [] v) [1])) := Lib.hid rfl
  have hkl := kp_len c [] v
  obtain ⟨aa, ca, rfl⟩ := h.form
  obtain ⟨az, cz, rfl⟩ := h2.form
  generalize kpP c [] v = P at *
  generalize isRs c v = R at *
  clear h h2
  cases hok : kpOk c [] v with
  | false =>
    have HR : Hid (R = false) := Lib.hid (by rw [HRS.out, hok]; rfl)
    rw [hok] at hkp
    clear hok HRS
    go_enter Tryz.func20, Tryz.ntmps20
    go_wp2_with fail
    refine hkp.mono ?_
    rintro e w2 ⟨r2, rfl, f2, b2⟩
    have hb2 := b2
    clear hkp f2
    go_wp2_with fail
    go_ret
    exact ⟨ret_bool HR.out.symm, hb2⟩
  | true =>
    have HR : Hid (R = eqL P [1]) := Lib.hid (by rw [HRS.out, hok]; rfl)
    rw [hok] at hkp
    clear hok HRS
    go_enter Tryz.func20, Tryz.ntmps20
    go_wp2_with fail
    refine hkp.mono ?_
    rintro e w2 ⟨r2, rfl, f2, b2⟩
    have hb2 := b2
    obtain ⟨w3, hw3⟩ : ∃ w3, w3 = w2.alloc (.cells #[.int .i64 1] 3) := ⟨_, rfl⟩
    have b3 : Below w2.heap.size w2 w3 := by rw [hw3]; exact (Below.refl _ _).alloc (Nat.le_refl _) _
    have hon : RI Any w3 (.slice (some ⟨w2.heap.size, 0, none⟩) 1 1) [1] := by rw [hw3]; exact RI.one w2 1
    have heq := slicesEqual (f2.reads.below b3) hon (by omega) (by simp)
    have hb3 := Keeps.step hb2 b3
    have HW3 := Lib.hid hw3
    generalize eqL P [1] = R1 at *
    clear hkp f2 hon b3 hw3 hb2
    go_wp2_with fail
    rw [← HW3.out]
    refine heq.mono ?_
    rintro e w4 ⟨rfl, m4, rfl⟩
    have hb4 := below_drewN hb3 m4
    clear heq
    go_wp2_with fail
    go_ret
    exact ⟨ret_bool HR.out.symm, hb4⟩
end Go.Proofs.YtipjomdldjbenaaGreatDoor

/-! What the program says of the polynomials of a small group, out of its table; how long these lists are. Condition: sizes up to 2^24. -/
namespace Go.Proofs.YtipjomdldjbenaaGreatDoor
open Go.RowKit
set_option maxRecDepth 20000

theorem total_leK {A B : Nat} : ∀ {L : List (List Int)}, L.length ≤ A → (∀ x ∈ L, x.length ≤ B) → total L ≤ A * (B + 1) := by
  intro L hA hB
  have h1 : (L.map List.length).sum ≤ L.length * B := by
    clear hA
    induction L with
    | nil => simp
    | cons x L ih =>
      have := ih (fun y hy => hB y (List.mem_cons_of_mem _ hy))
      have := hB x (List.mem_cons_self ..)
      simp only [List.map_cons, List.sum_cons, List.length_cons, Nat.add_mul, Nat.one_mul]
      omega
  have h2 : L.length * B ≤ A * B := Nat.mul_le_mul_right _ hA
  unfold total
  rw [Nat.mul_add, Nat.mul_one]
  omega
theorem klR_total (c : List (List Int)) (v : List Int) : total (klR c v) ≤ 624 := by
  unfold klR
  split
  · rename_i h
    obtain ⟨_, _, K, _⟩ := klOk_parts h
    refine Nat.le_trans (total_leK (A := 24) (B := 25) (by rw [List.length_map, List.length_range]; exact K.few) (fun x hx => ?_)) (by omega)
    obtain ⟨u, _, rfl⟩ := List.mem_map.1 hx
    have h1 : (lookR (klT c) (ixN c v) u).length ≤ lenE (elL c) (ixN c v) + 1 := (K.rows _ (Nat.le_refl _)).len (ixN c v) u
    have h2 := K.tab.deep (ixN c v)
    omega
  · simp [total]
theorem foldl_short {f : List Int → Nat → List Int} {B : Nat} (hf : ∀ p u, p.length ≤ B → (f p u).length ≤ B) : ∀ (l : List Nat) (p : List Int), p.length ≤ B → (l.foldl f p).length ≤ B
  | [], _, h => h
  | u :: l, p, h => foldl_short hf l (f p u) (hf p u h)
theorem be_len (c : List (List Int)) (v : List Int) : (beV c v).length ≤ 60 := by
  unfold beV
  split
  · rename_i h
    obtain ⟨_, _, K, _⟩ := klOk_parts h
    exact foldl_short (fun p u hp => (beF_ok K hp).2) _ _ (by simp)
  · simp
section
variable {S S1 S2 : Nat → Prop} {x y z : Value} {c : List (List Int)} {u v : List Int} {w : World}
theorem klPolyImpl (h : RII S w x c) (h1 : RI S1 w y u) (h2 : RI S2 w z v) (hl : total c ≤ 16777216) (hl1 : u.length ≤ 16777216) (hl2 : v.length ≤ 16777216) (hm : HasM w) :
    Calls Tryz.prog 25 #[x, y, z] w fun e w' => ∃ r, e = .returned (.tuple #[r, .bool (kpOk c u v)]) ∧ FI (New w w') w' r (kpP c u v) ∧ Below w.heap.size w w' :=
  klPolyImplOf h h1 h2 hl hl1 hl2 (newKzImpl h hm hl) (fun hk hu hv _ _ hb KA => pairImpl (h.below hb) (h1.below hb) (h2.below hb) hk hu hv KA)
theorem muOfImpl (h : RII S w x c) (h1 : RI S1 w y u) (h2 : RI S2 w z v) (hl : total c ≤ 16777216) (hl1 : u.length ≤ 16777216) (hl2 : v.length ≤ 16777216) (hm : HasM w) :
    Calls Tryz.prog 23 #[x, y, z] w fun e w' => e = .returned (.tuple #[.int .i64 (moV c u v), .bool (kpOk c u v)]) ∧ Below w.heap.size w w' :=
  muOfImplOf h h1 h2 hl hl1 hl2 (newKzImpl h hm hl) (fun hk hu hv _ _ hb KA => pairImpl (h.below hb) (h1.below hb) (h2.below hb) hk hu hv KA)
theorem smoothImpl (h : RII S w x c) (h2 : RI S2 w z v) (hl : total c ≤ 16777216) (hl2 : v.length ≤ 16777216) (hm : HasM w) :
    Calls Tryz.prog 20 #[x, z] w fun e w' => e = .returned (.bool (isRs c v)) ∧ Below w.heap.size w w' :=
  smoothImplOf h h2 hl hl2 (klPolyImpl h (RL.nil _ _ (by unfold maxLen; omega) : RI Any w (.slice none 0 0) []) h2 hl (by simp) hl2 hm)
theorem klRowImpl (h : RII S w x c) (h2 : RI S2 w z v) (hl : total c ≤ 16777216) (hl2 : v.length ≤ 16777216) (hm : HasM w) :
    Calls Tryz.prog 30 #[x, z] w fun e w' => ∃ r, e = .returned (.tuple #[r, .bool (klOk c v)]) ∧ FII (New w w') w' r (klR c v) ∧ Below w.heap.size w w' :=
  klRowImplOf h h2 hl hl2 (newKzImpl h hm hl) (fun hk hv _ _ hb KA => pairImpl (h.below hb) (h2.below hb) (h2.below hb) hk hv hv KA)
theorem bettiImpl (h : RII S w x c) (h2 : RI S2 w z v) (hl : total c ≤ 16777216) (hl2 : v.length ≤ 16777216) (hm : HasM w) :
    Calls Tryz.prog 33 #[x, z] w fun e w' => ∃ r, e = .returned r ∧ FI (New w w') w' r (beV c v) ∧ Below w.heap.size w w' :=
  bettiImplOf h h2 hl hl2 hm (klRowImpl h h2 hl hl2 hm)
end
end Go.Proofs.YtipjomdldjbenaaGreatDoor
