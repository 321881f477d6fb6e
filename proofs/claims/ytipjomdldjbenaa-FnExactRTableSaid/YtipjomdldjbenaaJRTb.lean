/- The R-polynomials of all elements below a word, by the reference. Condition: sizes up to 2^24. -/
import Derived.Test.YtipjomdldjbenaaJLowS
import Derived.Test.YtipjomdldjbenaaJRpolF
namespace Go.Proofs.Ytipjomdldjbenaa
open Go.RowKit
set_option maxRecDepth 20000

def rtOk (c : List (List Int)) (l : List Int) : Bool := lwOk c l && decide ((normL c l).length ≤ 10)
def rtR (c : List (List Int)) (l : List Int) : List (List Int) := if rtOk c l then (lwR c l).map (fun x => rp c x l) else []
theorem lwOk_wd {c : List (List Int)} {l : List Int} (h : lwOk c l = true) : isWd c l = true := by
  unfold lwOk lwQ at h
  cases e : isWd c l with
  | true => rfl
  | false => rw [e] at h; cases h
theorem lwR_mem {c : List (List Int)} {l : List Int} (h : lwOk c l = true) : (lwR c l).length ≤ 200 ∧ ∀ x ∈ lwR c l, Nf15 c x := by
  have hw := lwOk_wd h
  obtain ⟨h1, h2, h3⟩ := isWd_parts hw
  have hc := isC_iff.1 h1
  have hn := (norm_is hc h3 (by omega)).1
  have h15 := normL_le hc h3 (by omega)
  have hs := lowS_ok hc hn
  unfold lwOk lwQ at h
  rw [hw, if_pos rfl] at h
  unfold lwR lwQ
  rw [hw, if_pos rfl]
  cases e : lowS c (normL c l) with
  | none => rw [e] at h; cases h
  | some q =>
    rw [e] at hs
    obtain ⟨a1, a2, a3⟩ := hs
    have hm := (putsE_ok q).2
    refine ⟨?_, fun x hx => ?_⟩
    · have := nd_le (putsE_ok q).1.nodup (m := q) (fun x hx => (hm x).1 hx)
      exact Nat.le_trans this a2
    · have hb := (a3 x).1 ((hm x).1 hx)
      exact ⟨hb.nf, by have := hb.le hc hn.lets hn.le; omega⟩

set_option maxHeartbeats 8000000 in
theorem rtableSpec {S S' : Nat → Prop} {u v : Value} {c : List (List Int)} {l : List Int} {w : World} (h : RII S w u c) (h' : RI S' w v l) (hl : total c ≤ 16777216) (hl' : l.length ≤ 16777216) :
    Calls Try.prog 5 #[u, v] w fun e w' => ∃ r, e = .returned (.tuple #[r, .bool (rtOk c l)]) ∧ FII (New w w') w' r (rtR c l) ∧ Below w.heap.size w w' := by
  have mixed : Try.prog.follows .mixedOrders = true := by kernel_rfl
  obtain ⟨w1, hw1⟩ : ∃ w1, w1 = w.alloc (.cells #[] 23) := ⟨_, rfl⟩
  have hs1 := freshRows (HS.nil (Below.refl _ w)) hw1
  have hs1 := hs1.add (Below.refl _ _) (st_Rs []) (F := NoB) ⟨fun x hx => by simp at hx, List.Pairwise.nil⟩ (fun b hb => hb.elim)
  have hs1 : HS w w1 [aV 23 (.slice (some ⟨w.heap.size, 0, none⟩) 0 0) (([] : Zl).map Prod.fst), aRs []] := hs1
  have HW1 := Lib.hid hw1
  have hlow := lowerSpec (h.below hs1.bl) (h'.below hs1.bl) hl hl'
  clear hw1
  cases hok : lwOk c l with
  | false =>
    have HO : Hid (rtOk c l = false) := Lib.hid (by unfold rtOk; rw [hok]; rfl)
    have HR : Hid (rtR c l = []) := Lib.hid (by unfold rtR; rw [HO.out]; rfl)
    rw [hok] at hlow
    clear hok
    go_enter Try.func5, Try.ntmps5
    go_wp2_with fail
    rw [← HW1.out]
    refine hlow.mono ?_
    rintro e w2 ⟨r2, rfl, _, b2⟩
    have hs2 := HSx.below hs1 b2
    have hs3 : HS w w2 [aF (.slice (some ⟨w.heap.size, 0, none⟩) 0 0) []] := ((HSx.shutF hs2 (Z := []) (v := .slice (some ⟨w.heap.size, 0, none⟩) 0 0) 0 1 (by decide) rfl rfl).pick [0] (by decide))
    clear hlow hs1 hs2 b2
    go_wp2_with fail
    go_ret2
    exact ⟨_, by rw [HO.out]; rfl, by rw [HR.out]; exact HS.F hs3 0 rfl, hs3.bl⟩
  | true =>
    have hwd := lwOk_wd hok
    obtain ⟨h200, h15⟩ := lwR_mem hok
    have hLN := Lib.hid (fun (wv : World) (hb : Below w.heap.size w wv) => lengthOfSpec (h.below hb) (h'.below hb) hwd hl hl')
    rw [hok] at hlow
    by_cases hten : (normL c l).length ≤ 10
    · have HO : Hid (rtOk c l = true) := Lib.hid (by unfold rtOk; rw [hok, decide_eq_true hten]; rfl)
      have HR : Hid (rtR c l = (lwR c l).map (fun x => rp c x l)) := Lib.hid (by unfold rtR; rw [HO.out, if_pos rfl])
      have i10 : ¬ (10 : Int) < ((normL c l).length : Int) := by omega
      have HRP := Lib.hid (fun (wv : World) (S9 : Nat → Prop) (vv : Value) (x : List Int) (hb : Below w.heap.size w wv) (hx : RI S9 wv vv x) (hxl : x.length ≤ 16777216) => rpolynomialSpec (h.below hb) hx (h'.below hb) hl hxl hl')
      have HXL := Lib.hid (fun x (hx : x ∈ lwR c l) => (h15 x hx).2)
      have HM0 : Hid (([] : Zl).map Prod.snd = ((lwR c l).take 0).map (fun x => rp c x l)) := Lib.hid rfl
      clear hok hwd h15 hten h h'
      go_enter Try.func5, Try.ntmps5
      go_wp2_with fail
      rw [← HW1.out]
      refine hlow.mono ?_
      rintro e w2 ⟨r2, rfl, f2, b2⟩
      have hs2 := HSx.addF hs1 b2 f2
      obtain ⟨a2, c2, rfl⟩ := f2.read.form
      have hln := hLN.out w2 hs2.bl
      clear hlow hs1 b2 f2
      go_wp2_with fail
      refine hln.mono ?_
      rintro e w3 ⟨rfl, b3⟩
      have hs3 := HSx.below hs2 b3
      have hs3 : HS w w3 [aV 23 (.slice (some ⟨w.heap.size, 0, none⟩) 0 0) (([] : Zl).map Prod.fst), aRs [], aF (.slice a2 (lwR c l).length c2) (lwR c l)] := hs3
      generalize (normL c l).length = nn at *
      generalize hm : (lwR c l).length = m at *
      have HM := Lib.hid hm
      generalize lwR c l = L at *
      clear hln hs2 b3 hm hLN
      go_wp2_with fail
      go_loopw [6, 9] (fun oo kk wr => ∃ (k : Nat) (vo : Value) (Z : Zl), vo = oo ∧ k ≤ m ∧ kk = .int .i64 k ∧ HS w wr [aV 23 vo (Z.map Prod.fst), aRs Z, aF (.slice a2 m c2) L] ∧ Hid (Z.map Prod.snd = (L.take k).map (fun x => rp c x l))) (fun _ kk _ => m - (intOf kk).toNat)
      case atStart => exact ⟨0, _, [], rfl, Nat.zero_le _, rfl, hs3, HM0⟩
      case round =>
        clear hs3 HM0
        obtain ⟨k, vo, Z, rfl, hk, rfl, hs, HMZ⟩ := hrel
        by_cases hkm : k < m
        · have i1 : (k : Int) < (m : Int) := by omega
          have i2 : (0 : Int) ≤ (k : Int) := by omega
          obtain ⟨b3, o3, r3, x, rfl, hc3, hr3, hx⟩ := RII.at (HS.F hs 2 rfl).read hkm
          have hxl := HXL.out x (List.mem_of_getElem? hx.out)
          have hcall := HRP.out wr _ r3 x hs.bl hr3 (by omega)
          have HXX := Lib.hid hx.out
          have HZL : Hid ((Z.map Prod.fst).length + 1 ≤ 67108864) := Lib.hid (by have := congrArg List.length HMZ.out; simp at this; simp; omega)
          obtain ⟨a3, c3, rfl⟩ := hr3.form
          clear hr3 hx hxl
          go_wp2_with fail
          refine hcall.mono ?_
          rintro e w4 ⟨r4, rfl, f4, b4⟩
          obtain ⟨a4, c4, rfl⟩ := f4.form
          have hone : (Value.slice a4 (rp c x l).length c4).oneCell' = true := rfl
          have hs4 := HSx.addI hs b4 f4
          obtain ⟨w5, hw5⟩ : ∃ w5, w5 = w4.alloc (.cells #[.slice a4 (rp c x l).length c4] 23) := ⟨_, rfl⟩
          have hs5 : HS w w5 [aV 23 vo (Z.map Prod.fst), aRs Z, aF (.slice (some ⟨b3, o3, none⟩) m c2) L, aI (.slice a4 (rp c x l).length c4) (rp c x l)] := by rw [hw5]; exact HSx.alloc hs4 _
          have hc5 : w5.cell? ⟨w4.heap.size, 0, none⟩ = some (.slice a4 (rp c x l).length c4) := by rw [hw5]; go_simp
          have HW5 := Lib.hid hw5
          have HNV := Lib.hid (HS.newV hs5 0 rfl)
          have HM2 : Hid ((Z ++ [(Value.slice a4 (rp c x l).length c4, rp c x l)]).map Prod.snd = (L.take (k + 1)).map (fun x => rp c x l)) := Lib.hid (by rw [List.map_append, HMZ.out, take_step HXX.out, List.map_append]; rfl)
          clear hcall hs hs4 hw5 b4 f4 hc3
          generalize hrl : (rp c x l).length = nr at *
          generalize rp c x l = R at *
          clear hrl
          go_wp2_with (at_builtin; go_must (rw [← HW5.out]; refine wpList_hsRow rfl _ _ rfl rfl hs5 0 rfl HNV.out rfl hc5 hone HZL.out ?_))
          intro v6 w6 hs6 _
          have hs7 := (HSx.moreS hs6 1 3 (by decide) rfl rfl (Z' := Z ++ [(.slice a4 nr c4, R)]) (List.perm_append_singleton _ _)).pick [0, 1, 2] (by decide)
          have hs7 : HS w w6 [aV 23 v6 ((Z ++ [(Value.slice a4 nr c4, R)]).map Prod.fst), aRs (Z ++ [(Value.slice a4 nr c4, R)]), aF (.slice (some ⟨b3, o3, none⟩) m c2) L] := by
            have e : (Z ++ [(Value.slice a4 nr c4, R)]).map Prod.fst = Z.map Prod.fst ++ [Value.slice a4 nr c4] := by simp
            rw [e]; exact hs7
          clear hs5 hs6
          go_wp2_with fail
          go_roundw
          case rel => exact ⟨k + 1, _, _, rfl, by omega, by go_num, hs7, HM2⟩
          case measure => simp [intOf]; omega
        · have i1 : ¬ (k : Int) < (m : Int) := by omega
          have e : L.take k = L := List.take_of_length_le (by rw [HM.out]; omega)
          have hs7 : HS w wr [aF vo (Z.map Prod.snd)] := ((HSx.shutF hs (Z := Z) (v := vo) 0 1 (by decide) rfl rfl).pick [0] (by decide))
          rw [HMZ.out, e, ← HR.out] at hs7
          clear hs e
          go_wp2_with fail
          go_ret2
          exact ⟨_, by rw [HO.out]; rfl, HS.F hs7 0 rfl, hs7.bl⟩
    · have HO : Hid (rtOk c l = false) := Lib.hid (by unfold rtOk; rw [hok, decide_eq_false hten]; rfl)
      have HR : Hid (rtR c l = []) := Lib.hid (by unfold rtR; rw [HO.out]; rfl)
      have i10 : (10 : Int) < ((normL c l).length : Int) := by omega
      clear hok hwd h15 hten h200
      go_enter Try.func5, Try.ntmps5
      go_wp2_with fail
      rw [← HW1.out]
      refine hlow.mono ?_
      rintro e w2 ⟨r2, rfl, _, b2⟩
      have hs2 := HSx.below hs1 b2
      have hln := hLN.out w2 hs2.bl
      clear hlow hs1 b2
      go_wp2_with fail
      refine hln.mono ?_
      rintro e w3 ⟨rfl, b3⟩
      have hs3 := HSx.below hs2 b3
      have hs4 : HS w w3 [aF (.slice (some ⟨w.heap.size, 0, none⟩) 0 0) []] := ((HSx.shutF hs3 (Z := []) (v := .slice (some ⟨w.heap.size, 0, none⟩) 0 0) 0 1 (by decide) rfl rfl).pick [0] (by decide))
      generalize (normL c l).length = nn at *
      clear hln hs2 hs3 b3
      go_wp2_with fail
      go_ret2
      exact ⟨_, by rw [HO.out]; rfl, by rw [HR.out]; exact HS.F hs4 0 rfl, hs4.bl⟩
end Go.Proofs.Ytipjomdldjbenaa
