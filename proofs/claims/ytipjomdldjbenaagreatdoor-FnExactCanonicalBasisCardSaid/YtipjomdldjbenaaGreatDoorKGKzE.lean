/- The row of polynomials of an element, by the program, out of the table's contracts. Condition: sizes up to 2^24. What the program says of the polynomials of a small group, out of its table; how long these lists are. Condition: sizes up to 2^24. -/
import Derived.Test.YtipjomdldjbenaaGreatDoorKGKzD
import Derived.Test.YtipjomdldjbenaaGreatDoorKKzN
import Derived.Test.YtipjomdldjbenaaGreatDoorKGOp
import Derived.Test.YtipjomdldjbenaaGreatDoorKGKzB
import Derived.Test.YtipjomdldjbenaaGreatDoorKGKzC
import Derived.Test.YtipjomdldjbenaaGreatDoorKGStar
import Derived.Test.YtipjomdldjbenaaGreatDoorKGNrm
import Derived.Test.YtipjomdldjbenaaGreatDoorKGCart
/-! The row of polynomials of an element, by the program, out of the table's contracts. Condition: sizes up to 2^24. -/
namespace Go.Proofs.YtipjomdldjbenaaGreatDoor
open Go.RowKit
set_option maxRecDepth 20000

set_option maxHeartbeats 4000000 in
theorem klRowImplOf {S S2 : Nat → Prop} {x z : Value} {c : List (List Int)} {v : List Int} {w : World} (h : RII S w x c) (h2 : RI S2 w z v) (hl : total c ≤ 16777216) (hl2 : v.length ≤ 16777216)
    (hnew : Calls Tryz.prog 59 #[x] w (NewK c w))
    (hpair : okK c = true → isWd c v = true → ∀ (wv : World) (g : Nat), Below w.heap.size w wv → KzA wv g c → Calls Tryz.prog 61 #[.pointer (some ⟨g, 0, none⟩), x, z, z] wv fun e w' => e = .returned (.tuple #[.int .i64 (ixN c v), .int .i64 (ixN c v)]) ∧ Below wv.heap.size wv w') :
    Calls Tryz.prog 30 #[x, z] w fun e w' => ∃ r, e = .returned (.tuple #[r, .bool (klOk c v)]) ∧ FII (New w w') w' r (klR c v) ∧ Below w.heap.size w w' := by
  have mixed : Tryz.prog.follows .mixedOrders = true := by kernel_rfl
  have HW2 := Lib.hid (fun (wv : World) (hb : Below w.heap.size w wv) => isWordImpl (h.below hb) (h2.below hb) hl hl2)
  have HNK : Hid (NewK c w = fun e w' => ∃ p, e = .returned (.tuple #[p, .bool (okK c)]) ∧ (okK c = true → ∃ g, p = .pointer (some ⟨g, 0, none⟩) ∧ KzA w' g c) ∧ Below w.heap.size w w') := Lib.hid rfl
  rw [HNK.out] at hnew
  obtain ⟨aa, ca, rfl⟩ := h.form
  obtain ⟨az, cz, rfl⟩ := h2.form
  clear h h2
  cases hk : okK c with
  | false =>
    have HO : Hid (klOk c v = false) := Lib.hid (by unfold klOk; rw [hk]; rfl)
    have HR : Hid (klR c v = []) := Lib.hid (by unfold klR; rw [HO.out]; rfl)
    rw [hk] at hnew
    clear hk hpair
    go_enter Tryz.func30, Tryz.ntmps30
    go_wp2_with fail
    refine hnew.mono ?_
    rintro e w1 ⟨p, rfl, _, b1⟩
    have hf := FII.empty_of b1 (w1 := w1.alloc (.cells #[] 28)) rfl
    clear hnew
    go_wp2_with fail
    go_ret2
    exact ⟨_, by rw [HO.out]; rfl, by rw [HR.out]; exact hf.1, hf.2⟩
  | true =>
    rw [hk] at hnew
    cases hv : isWd c v with
    | false =>
      have HO : Hid (klOk c v = false) := Lib.hid (by unfold klOk; rw [hk, hv]; rfl)
      have HR : Hid (klR c v = []) := Lib.hid (by unfold klR; rw [HO.out]; rfl)
      rw [hv] at HW2
      clear hk hv hpair
      go_enter Tryz.func30, Tryz.ntmps30
      go_wp2_with fail
      refine hnew.mono ?_
      rintro e w1 ⟨p, rfl, _, b1⟩
      have hw1 := HW2.out w1 b1
      clear hnew
      go_wp2_with fail
      refine hw1.mono ?_
      rintro e w2 ⟨rfl, m2, rfl⟩
      have hb2 := below_drewN b1 m2
      generalize w1.drewN m2 = w2 at *
      have hf := FII.empty_of hb2 (w1 := w2.alloc (.cells #[] 28)) rfl
      clear hw1
      go_wp2_with fail
      go_ret2
      exact ⟨_, by rw [HO.out]; rfl, by rw [HR.out]; exact hf.1, hf.2⟩
    | true =>
      have HO : Hid (klOk c v = true) := Lib.hid (by unfold klOk; rw [hk, hv]; rfl)
      have HR : Hid (klR c v = (List.range (elL c).length).map (lookR (klT c) (ixN c v))) := Lib.hid (by unfold klR; rw [HO.out, if_pos rfl])
      have K0 := KlOk.of hk
      obtain ⟨_, hv15, hlv⟩ := isWd_parts hv
      have hqv := (K0.word hlv (by omega)).2.1
      have HPR := Lib.hid (hpair hk hv)
      have HPL : Hid (∀ u, (lookR (klT c) (ixN c v) u).length ≤ 25) := Lib.hid (fun u => by
        have h3 : (lookR (klT c) (ixN c v) u).length ≤ lenE (elL c) (ixN c v) + 1 := (K0.rows _ (Nat.le_refl _)).len (ixN c v) u
        have h4 := K0.tab.deep (ixN c v)
        omega)
      have hN24 := K0.few
      rw [hv] at HW2
      have HKA := Lib.hid (fun (wv : World) (g : Nat) (k : KzA wv g c) => k)
      generalize ixN c v = qv at *
      generalize klR c v = res at *
      clear hk hv hpair K0 hlv hv15
      go_enter Tryz.func30, Tryz.ntmps30
      go_wp2_with fail
      refine hnew.mono ?_
      rintro e w1 ⟨p, rfl, hg, b1⟩
      obtain ⟨g, rfl, KA⟩ := hg trivial
      have hw1 := HW2.out w1 b1
      clear hnew hg
      go_wp2_with fail
      refine hw1.mono ?_
      rintro e w2 ⟨rfl, m2, rfl⟩
      have hb2 := below_drewN b1 m2
      have KA2 := KA.below (below_drewN (Below.refl _ w1) m2)
      generalize w1.drewN m2 = w2 at *
      have hpr := HPR.out w2 g hb2 KA2
      clear hw1 b1 KA HPR
      go_wp2_with fail
      refine hpr.mono ?_
      rintro e w4 ⟨rfl, b4⟩
      have hb4 := Keeps.step hb2 b4
      have KA4 := KA2.below b4
      obtain ⟨bE, oE, cE, bT, oT, cT, mb, bP, oP, cP, K4, _⟩ := KA4
      have HK := Lib.hid (fun (wv : World) (hb : Below w4.heap.size w4 wv) => K4.below hb)
      obtain ⟨w5, hw5⟩ : ∃ w5, w5 = w4.alloc (.cells #[] 28) := ⟨_, rfl⟩
      have hs5 := (freshRows (HS.nil (Below.refl _ w4)) hw5).add (Below.refl _ _) (st_Rs []) (F := NoB) ⟨fun x hx => by simp at hx, List.Pairwise.nil⟩ (fun b hb => hb.elim)
      have hs5 : HS w4 w5 [aV 28 (.slice (some ⟨w4.heap.size, 0, none⟩) 0 0) (([] : Zl).map Prod.fst), aRs []] := hs5
      have hc5 := (HK.out w5 hs5.bl).c0
      rw [hw5] at hc5
      have HW5 := Lib.hid hw5
      have HZ0 : Hid (([] : Zl).map Prod.snd = (List.range 0).map (lookR (klT c) qv)) := Lib.hid rfl
      generalize (elL c).length = N at *
      obtain ⟨P, hP⟩ : ∃ P, lookR (klT c) qv = P := ⟨_, rfl⟩
      have HPP := Lib.hid (fun u => congrFun hP u)
      rw [hP] at HR HPL HZ0
      clear hP
      clear hpr hb2 KA2 b4 hw5 HKA
      go_wp2_with fail
      rw [← HW5.out]
      clear hc5
      go_loopw [10, 40] (fun oo uu wr => ∃ (u : Nat) (vo : Value) (Z : Zl), vo = oo ∧ u ≤ N ∧ uu = .int .i64 u ∧ HS w4 wr [aV 28 vo (Z.map Prod.fst), aRs Z] ∧ Hid (Z.map Prod.snd = (List.range u).map P)) (fun _ uu _ => N - (intOf uu).toNat)
      case atStart => exact ⟨0, _, [], rfl, Nat.zero_le _, rfl, hs5, HZ0⟩
      case round =>
        clear hs5 HZ0
        obtain ⟨u, vo, Z, rfl, hu, rfl, hs, HMZ⟩ := hrel
        by_cases huN : u < N
        · have i1 : (u : Int) < (N : Int) := by omega
          have i2 : (0 : Int) ≤ (u : Int) := by omega
          have i3 : (qv : Int) < (N : Int) := by omega
          have Kr := HK.out wr hs.bl
          have hc3 := Kr.c3
          obtain ⟨bu, ou, cu, hp1, hrow⟩ := Kr.p u huN
          obtain ⟨a5, c5, hp2, hp3⟩ := hrow qv hqv
          replace hp2 : wr.cell? ⟨bu, ou + qv, none⟩ = some (.slice a5 (P u).length c5) := by rw [← HPP.out u]; exact hp2
          replace hp3 : RI Any wr (.slice a5 (P u).length c5) (P u) := by rw [← HPP.out u]; exact hp3
          have hpl := HPL.out u
          have hcl := cloneInts hp3 (by omega)
          have HMS : Hid ((List.range (u + 1)).map P = (List.range u).map P ++ [P u]) := Lib.hid (by rw [List.range_succ, List.map_append]; rfl)
          have HLN : Hid ((Z.map Prod.fst).length + 1 ≤ 67108864) := Lib.hid (by have := congrArg List.length HMZ.out; simp at this; simp; omega)
          generalize P u = q at *
          clear Kr hrow hp3
          go_wp2_with fail
          refine hcl.mono ?_
          rintro e w6 ⟨r6, rfl, f6, b6⟩
          have hs6 := HSx.addI hs b6 f6
          obtain ⟨a6, c6, rfl⟩ := f6.form
          have HMZ2 : Hid ((Z ++ [(Value.slice a6 q.length c6, q)]).map Prod.snd = (List.range (u + 1)).map P) := Lib.hid (by rw [List.map_append, HMZ.out, HMS.out]; rfl)
          generalize hqn : q.length = qn at *
          obtain ⟨w7, hw7⟩ : ∃ w7, w7 = w6.alloc (.cells #[.slice a6 qn c6] 28) := ⟨_, rfl⟩
          have hs7 : HS w4 w7 [aV 28 vo (Z.map Prod.fst), aRs Z, aI (.slice a6 qn c6) q] := by rw [hw7]; exact HSx.alloc hs6 _
          have hc7 : w7.cell? ⟨w6.heap.size, 0, none⟩ = some (.slice a6 qn c6) := by rw [hw7]; go_simp
          have HW7 := Lib.hid hw7
          have HNV := Lib.hid (HS.newV hs7 0 rfl)
          clear hs hs6 hw7 f6 b6 hcl hqn hc3 hp1 hp2
          go_wp2_with (at_builtin; go_must (rw [← HW7.out]; refine wpList_hsRow rfl _ _ rfl rfl hs7 0 rfl HNV.out rfl hc7 rfl HLN.out ?_))
          intro v8 w8 hs8 _
          have hs9 := (HSx.moreS hs8 1 2 (by decide) rfl rfl (Z' := Z ++ [(.slice a6 qn c6, q)]) (List.perm_append_singleton _ _)).pick [0, 1] (by decide)
          have hs9 : HS w4 w8 [aV 28 v8 ((Z ++ [(Value.slice a6 qn c6, q)]).map Prod.fst), aRs (Z ++ [(Value.slice a6 qn c6, q)])] := by
            have e : (Z ++ [(Value.slice a6 qn c6, q)]).map Prod.fst = Z.map Prod.fst ++ [Value.slice a6 qn c6] := by simp
            rw [e]; exact hs9
          generalize Z ++ [(Value.slice a6 qn c6, q)] = Z2 at *
          clear hs7 hs8 hc7
          go_wp2_with fail
          go_roundw
          case rel => exact ⟨u + 1, v8, Z2, rfl, by omega, by go_num, hs9, HMZ2⟩
          case measure => simp [intOf]; omega
        · have i1 : ¬ (u : Int) < (N : Int) := by omega
          have hue : u = N := by omega
          have hs7 : HS w4 wr [aF vo (Z.map Prod.snd)] := ((HSx.shutF hs (Z := Z) (v := vo) 0 1 (by decide) rfl rfl).pick [0] (by decide))
          rw [HMZ.out, hue, ← HR.out] at hs7
          clear hs hue
          go_wp2_with fail
          go_ret2
          exact ⟨_, by rw [HO.out]; rfl, (HS.F hs7 0 rfl).mono (fun b hb => ⟨Nat.le_trans hb4.size hb.1, hb.2⟩), Keeps.step hb4 hs7.bl⟩
end Go.Proofs.YtipjomdldjbenaaGreatDoor

/-! What the program says of the polynomials of a small group, out of its table; how long these lists are. Condition: sizes up to 2^24. -/
namespace Go.Proofs.YtipjomdldjbenaaGreatDoor
open Go.RowKit
set_option maxRecDepth 20000

theorem total_leK {A B : Nat} : ∀ {L : List (List Int)}, L.length ≤ A → (∀ x ∈ L, x.length ≤ B) → total L ≤ A * (B + 1) := by
  intro L hA hB
  have h1 : (L.map List.length).sum ≤ L.length * B := by
    clear hA
    induction L with
    | nil => simp
    | cons x L ih =>
      have := ih (fun y hy => hB y (List.mem_cons_of_mem _ hy))
      have := hB x (List.mem_cons_self ..)
      simp only [List.map_cons, List.sum_cons, List.length_cons, Nat.add_mul, Nat.one_mul]
      omega
  have h2 : L.length * B ≤ A * B := Nat.mul_le_mul_right _ hA
  unfold total
  rw [Nat.mul_add, Nat.mul_one]
  omega
section
variable {S S1 S2 : Nat → Prop} {x y z : Value} {c : List (List Int)} {u v : List Int} {w : World}
theorem klRowImpl (h : RII S w x c) (h2 : RI S2 w z v) (hl : total c ≤ 16777216) (hl2 : v.length ≤ 16777216) (hm : HasM w) :
    Calls Tryz.prog 30 #[x, z] w fun e w' => ∃ r, e = .returned (.tuple #[r, .bool (klOk c v)]) ∧ FII (New w w') w' r (klR c v) ∧ Below w.heap.size w w' :=
  klRowImplOf h h2 hl hl2 (newKzImpl h hm hl) (fun hk hv _ _ hb KA => pairImpl (h.below hb) (h2.below hb) (h2.below hb) hk hv hv KA)
end
end Go.Proofs.YtipjomdldjbenaaGreatDoor
