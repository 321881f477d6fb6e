/- The elements below a word, by the reference. Condition: sizes up to 2^24. -/
import Derived.Test.YtipjomdldjbenaaJLowD
import Derived.Test.YtipjomdldjbenaaJWsV
namespace Go.Proofs.Ytipjomdldjbenaa
open Go.RowKit
set_option maxRecDepth 20000

def lwQ (c : List (List Int)) (l : List Int) : Option (List (List Int)) := if isWd c l then lowS c (normL c l) else none
def lwOk (c : List (List Int)) (l : List Int) : Bool := (lwQ c l).isSome
def lwR (c : List (List Int)) (l : List Int) : List (List Int) := putsE ((lwQ c l).getD [])
theorem loBfs_at {c : List (List Int)} {f k : Nat} {q : List (List Int)} {x : List Int} (h : q[k]? = some x) : loBfs c (f + 1) k q = (match loRow (covL c x) q with | none => none | some q' => loBfs c f (k + 1) q') := by
  show (match q[k]? with | none => some q | some x => _) = _
  rw [h]; rfl
theorem loBfs_end {c : List (List Int)} {f k : Nat} {q : List (List Int)} (h : q.length ≤ k) : loBfs c f k q = some q := by
  cases f with
  | zero => rfl
  | succ f => show (match q[k]? with | none => some q | some x => _) = _; rw [List.getElem?_eq_none h]
theorem HSx.bothR {A : Nat → Prop} {w0 w : World} {Ps : List Thing} {Z Y : Zl} (h : HSx A w0 w Ps) (i j : Nat) (hij : i ≠ j) (hi : Ps[i]? = some (aRr Z)) (hj : Ps[j]? = some (aRr Y)) : HSx A w0 w ((Ps.set i (aRr (Z ++ Y))).set j aTrue) :=
  h.join i j hij hi hj (st_Rr _) fun F G hF hG _ x hx => by
    rcases List.mem_append.1 hx with hx | hx
    · exact RI.mono (hF x hx) (fun b hb => .inl hb)
    · exact RI.mono (hG x hx) (fun b hb => .inr hb)
theorem HSx.readP {A : Nat → Prop} {w0 w : World} {Ps : List Thing} {v : Value} {Z P : Zl} (h : HSx A w0 w Ps) (i j : Nat) (hij : i ≠ j) (hi : Ps[i]? = some (aV 23 v (Z.map Prod.fst))) (hj : Ps[j]? = some (aRr P)) (hsub : ∀ z ∈ Z, z ∈ P) : RII Any w v (Z.map Prod.snd) := by
  have h1 := h.imp j hj (st_Rr Z) (fun F hF x hx => hF x (hsub x hx))
  exact h1.readRr i j (by rw [List.getElem?_set_ne (Ne.symm hij)]; exact hi) (by rw [List.getElem?_set_self (List.getElem?_eq_some_iff.1 hj).1])
/-- Words that the search meets. -/
def Nf15 (c : List (List Int)) (x : List Int) : Prop := Nf c x ∧ x.length ≤ 15
theorem cov15 {c : List (List Int)} (hc : CartanP c) {x : List Int} (h : Nf15 c x) : ∀ y ∈ covL c x, Nf15 c y := fun y hy => by
  obtain ⟨k, h1, h2, rfl⟩ := mem_covL.1 hy
  have hs := List.eraseIdx_sublist x k
  have := hs.length_le
  have hl := h.2
  exact ⟨(norm_is hc (lets_subL h.1.lets hs) (by omega)).1, by omega⟩
theorem covL_len (c : List (List Int)) (x : List Int) : (covL c x).length ≤ x.length := covF_len x.length
theorem wd15 {c : List (List Int)} (hc : isC c = true) {x : List Int} (h : Nf15 c x) : isWd c x = true := by
  unfold isWd
  simp only [Bool.and_eq_true, decide_eq_true_eq]
  refine ⟨⟨hc, h.2⟩, allB_iff.2 fun y hy => ?_⟩
  have := h.1.lets y hy
  unfold ptB inR
  simp
  omega
theorem br15 {c : List (List Int)} (hc : isC c = true) {x : List Int} (h : Nf15 c x) : brL c x = covL c x := by
  unfold brL
  rw [wd15 hc h, if_pos rfl, h.1.nf]

set_option maxHeartbeats 16000000 in
theorem lowerSpec {S S' : Nat → Prop} {u v : Value} {c : List (List Int)} {l : List Int} {w : World} (h : RII S w u c) (h' : RI S' w v l) (hl : total c ≤ 16777216) (hl' : l.length ≤ 16777216) :
    Calls Try.prog 15 #[u, v] w fun e w' => ∃ r, e = .returned (.tuple #[r, .bool (lwOk c l)]) ∧ FII (New w w') w' r (lwR c l) ∧ Below w.heap.size w w' := by
  have mixed : Try.prog.follows .mixedOrders = true := by kernel_rfl
  have hnf := normalFormSpec h h' hl hl'
  cases hwd : isWd c l with
  | false =>
    have HO : Hid (lwOk c l = false) := Lib.hid (by unfold lwOk lwQ; rw [hwd]; rfl)
    have HR : Hid (lwR c l = []) := Lib.hid (by unfold lwR lwQ; rw [hwd]; rfl)
    rw [hwd] at hnf
    clear hwd
    go_enter Try.func15, Try.ntmps15
    go_wp2_with fail
    refine hnf.mono ?_
    rintro e w1 ⟨r1, rfl, _, b1⟩
    have hf := FII.empty_of b1 (w1 := w1.alloc (.cells #[] 23)) rfl
    clear hnf
    go_wp2_with fail
    go_ret2
    exact ⟨_, by rw [HO.out]; rfl, by rw [HR.out]; exact hf.1, hf.2⟩
  | true =>
    obtain ⟨hisc, hlen15, hlets⟩ := isWd_parts hwd
    have hc : CartanP c := isC_iff.1 hisc
    have hX : nform c l = normL c l := by unfold nform; rw [hwd]; rfl
    have h15 : Nf15 c (normL c l) := ⟨(norm_is hc hlets (by omega)).1, by have := normL_le hc hlets (by omega); omega⟩
    have HOK : Hid (lwOk c l = (lowS c (normL c l)).isSome) := Lib.hid (by unfold lwOk lwQ; rw [hwd]; rfl)
    have HRR : Hid (lwR c l = putsE ((lowS c (normL c l)).getD [])) := Lib.hid (by unfold lwR lwQ; rw [hwd]; rfl)
    have HQ0 : Hid (∃ f, 201 ≤ f + 0 ∧ loBfs c f 0 [normL c l] = lowS c (normL c l)) := Lib.hid ⟨201, by omega, rfl⟩
    have HCV := Lib.hid (fun (wv : World) (S9 : Nat → Prop) (vv : Value) (x : List Int) (hb : Below w.heap.size w wv) (hx : RI S9 wv vv x) (h5 : Nf15 c x) => (br15 hisc h5 ▸ coversSpec (h.below hb) hx hl (by have := h5.2; omega) : Calls Try.prog 26 #[u, vv] wv fun e w' => ∃ r, e = .returned r ∧ FII (New wv w') w' r (covL c x) ∧ Below wv.heap.size wv w'))
    have HC15 := Lib.hid (fun (x : List Int) (hx : Nf15 c x) => cov15 hc hx)
    rw [hwd, hX] at hnf
    generalize lowS c (normL c l) = R at *
    generalize normL c l = X at *
    clear hwd hX hisc hc hlets hlen15 h h' hl hl'
    go_enter Try.func15, Try.ntmps15
    go_wp2_with fail
    refine hnf.mono ?_
    rintro e w1 ⟨r1, rfl, f1, b1⟩
    obtain ⟨a1, c1, rfl⟩ := f1.form
    have hs1 := HSx.addI (HS.nil (Below.refl _ w)) b1 f1
    have hs2 := HSx.newV1 hs1 (.slice a1 X.length c1) rfl
    have hs3 := (HSx.add hs2 (Below.refl _ _) (st_Rs []) (F := NoB) ⟨fun x hx => by simp at hx, List.Pairwise.nil⟩ (fun b hb => hb.elim)).moreS 2 0 (by decide) rfl rfl (Z' := [(.slice a1 X.length c1, X)]) (List.Perm.refl _)
    have hs4 := (HSx.sToR hs3 2 rfl).pick [1, 2] (by decide)
    have hs4 : HS w (w1.alloc (.cells #[.slice a1 X.length c1] 23)) [aV 23 (.slice (some ⟨w1.heap.size, 0, none⟩) 1 1) (([(.slice a1 X.length c1, X)] : Zl).map Prod.fst), aRr [(.slice a1 X.length c1, X)]] := hs4
    have HS0 : Hid (∀ z ∈ ([(.slice a1 X.length c1, X)] : Zl), z ∈ ([(.slice a1 X.length c1, X)] : Zl)) := Lib.hid (fun z hz => hz)
    have HT0 : Hid (∀ z ∈ ([(.slice a1 X.length c1, X)] : Zl), Nf15 c z.2) := Lib.hid (fun z hz => by simp at hz; subst hz; exact h15)
    clear hnf f1 b1 hs1 hs2 hs3 h15
    go_wp2_with fail
    go_loopw [8, 9] (fun qq kk wr => ∃ (k : Nat) (vq : Value) (Z P : Zl), vq = qq ∧ k ≤ Z.length ∧ kk = .int .i64 k ∧ HS w wr [aV 23 vq (Z.map Prod.fst), aRr P] ∧ Hid (∀ z ∈ Z, z ∈ P) ∧ Hid (∀ z ∈ Z, Nf15 c z.2) ∧ Z.length ≤ 200 ∧ Hid (∃ f, 201 ≤ f + k ∧ loBfs c f k (Z.map Prod.snd) = R)) (fun _ kk _ => 201 - (intOf kk).toNat)
    case atStart => exact ⟨0, _, _, _, rfl, by simp, rfl, hs4, HS0, HT0, by simp, HQ0⟩
    case round =>
      clear hs4 HS0 HT0 HQ0
      obtain ⟨k, vq, Z, P, rfl, hk, rfl, hs, HSB, HTT, hz200, HQ⟩ := hrel
      have hlz : (Z.map Prod.fst).length = Z.length := by simp
      obtain ⟨⟨aq, cq, rfl⟩, hhq⟩ := hs.formV 0 rfl
      rw [hlz] at hs hhq ⊢
      generalize hmz : Z.length = mz at *
      have HMZ := Lib.hid hmz
      clear hlz
      by_cases hkm : k < mz
      · have i1 : (k : Int) < (mz : Int) := by omega
        have i2 : (0 : Int) ≤ (k : Int) := by omega
        obtain ⟨z, hz⟩ : ∃ z, Z[k]? = some z := ⟨Z[k]'(by omega), List.getElem?_eq_getElem _⟩
        obtain ⟨gq, rfl⟩ : ∃ g, aq = some ⟨g, 0, none⟩ := by
          obtain ⟨g, c9, e⟩ := hhq (by omega)
          simp only [Value.slice.injEq] at e
          exact ⟨g, e.1⟩
        have hcz := (hs.cellV 0 rfl (j := k) (r := z.1) (by simp [hz])).1
        have hrz := hs.rowR 1 rfl (HSB.out z (List.mem_of_getElem? hz))
        have h5z := HTT.out z (List.mem_of_getElem? hz)
        have hcall := HCV.out wr _ z.1 z.2 hs.bl hrz h5z
        obtain ⟨f0, hf0, hbf⟩ := HQ.out
        obtain ⟨f, rfl⟩ : ∃ f, f0 = f + 1 := ⟨f0 - 1, by omega⟩
        have hbf : (match loRow (covL c z.2) (Z.map Prod.snd) with | none => none | some q' => loBfs c f (k + 1) q') = R := by
          rw [← loBfs_at (f := f) (k := k) (q := Z.map Prod.snd) (x := z.2) (by rw [List.getElem?_map, hz]; rfl)]; exact hbf
        have HBF := Lib.hid hbf
        have hcl := covL_len c z.2
        have hcl2 := h5z.2
        have HCC : Hid (∀ y ∈ covL c z.2, Nf15 c y) := Lib.hid (HC15.out z.2 h5z)
        obtain ⟨rz, lz⟩ := z
        have hcl : (covL c lz).length ≤ lz.length := hcl
        have hcl2 : lz.length ≤ 15 := hcl2
        have hcz : wr.cell? ⟨gq, k, none⟩ = some rz := hcz
        obtain ⟨az, cz, rfl⟩ := (show RI _ wr rz lz from hrz).form
        clear hz hrz h5z hbf hhq
        go_wp2_with fail
        refine hcall.mono ?_
        rintro e w5 ⟨r5, rfl, f5, b5⟩
        obtain ⟨Y, hY, hs5⟩ := (HSx.addF hs b5 f5).openF 2 rfl
        have hs6 := (HSx.bothR (HSx.sToR hs5 3 rfl) 1 3 (by decide) rfl rfl).pick [0, 1, 2] (by decide)
        have hs6 : HS w w5 [aV 23 (.slice (some ⟨gq, 0, none⟩) mz cq) (Z.map Prod.fst), aRr (P ++ Y), aV 23 r5 (Y.map Prod.fst)] := hs6
        have hly : (Y.map Prod.fst).length = Y.length := by simp
        obtain ⟨⟨ay, cy, rfl⟩, hhy⟩ := hs6.formV 2 rfl
        rw [hly] at hs6 hhy ⊢
        have HYC := Lib.hid hY
        have hyl : Y.length = (covL c lz).length := by rw [← hY]; simp
        have HSB2 : Hid (∀ z ∈ Z, z ∈ P ++ Y) := Lib.hid (fun z hz => List.mem_append_left _ (HSB.out z hz))
        have HR0 : Hid (loRow ((covL c lz).drop 0) (Z.map Prod.snd) = loRow (covL c lz) (Z.map Prod.snd)) := Lib.hid rfl
        generalize hrw : loRow (covL c lz) (Z.map Prod.snd) = RW at *
        generalize hmy : Y.length = my at *
        have HMY := Lib.hid hmy
        have HPY : Hid (∀ y ∈ Y, y ∈ P ++ Y) := Lib.hid (fun y hy => List.mem_append_right _ hy)
        generalize P ++ Y = PY at *
        have HZL0 : Hid (mz ≤ Z.length) := Lib.hid (by omega)
        have hmy15 : my ≤ 15 := by omega
        clear hcall f5 b5 hs5 hs hrw hmy hly hY hcz HSB hyl hcl hcl2
        go_wp2_with fail
        go_loopw [8, 11] (fun qq ii wr => ∃ (i : Nat) (vq : Value) (Z : Zl), vq = qq ∧ i ≤ my ∧ ii = .int .i64 i ∧ HS w wr [aV 23 vq (Z.map Prod.fst), aRr PY, aV 23 (.slice ay my cy) (Y.map Prod.fst)] ∧ Hid (∀ z ∈ Z, z ∈ PY) ∧ Hid (∀ z ∈ Z, Nf15 c z.2) ∧ Z.length ≤ 200 ∧ Hid (mz ≤ Z.length) ∧ Hid (loRow ((covL c lz).drop i) (Z.map Prod.snd) = RW)) (fun _ ii _ => my - (intOf ii).toNat)
        case atStart => exact ⟨0, _, Z, rfl, Nat.zero_le _, rfl, hs6, HSB2, HTT, by rw [HMZ.out]; exact hz200, HZL0, HR0⟩
        case round =>
          clear hs6 HSB2 HR0 HTT HZL0 HMZ HQ
          clear hmz
          obtain ⟨i, vq, Z, rfl, hi, rfl, hs, HSB, HTT, hz200, HZL, HRW⟩ := hrel
          by_cases him : i < my
          · have i3 : (i : Int) < (my : Int) := by omega
            have i4 : (0 : Int) ≤ (i : Int) := by omega
            obtain ⟨y, hy⟩ : ∃ y, Y[i]? = some y := ⟨Y[i]'(by rw [HMY.out]; exact him), List.getElem?_eq_getElem _⟩
            have hcyi : (covL c lz)[i]? = some y.2 := by rw [← HYC.out, List.getElem?_map, hy]; rfl
            obtain ⟨gy, rfl⟩ : ∃ g, ay = some ⟨g, 0, none⟩ := by
              obtain ⟨g, c9, e⟩ := hhy (by omega)
              simp only [Value.slice.injEq] at e
              exact ⟨g, e.1⟩
            have hcyc := (hs.cellV 2 rfl (j := i) (r := y.1) (by simp [hy])).1
            have hry := hs.rowR 1 rfl (HPY.out y (List.mem_of_getElem? hy))
            have h5y := HCC.out y.2 (List.mem_of_getElem? hcyi)
            have HPy := Lib.hid (HPY.out y (List.mem_of_getElem? hy))
            have hread := hs.readP 0 1 (by decide) rfl rfl HSB.out
            have hin := inSpec hread hry (fun x hx => by obtain ⟨z, hz, rfl⟩ := List.mem_map.1 hx; have := (HTT.out z hz).2; omega) (by simp; omega) (by have := h5y.2; omega)
            have hst := HRW.out
            rw [drop_step hcyi] at hst
            unfold loRow at hst
            have H5Y := Lib.hid h5y
            have HYI := Lib.hid hy
            obtain ⟨ry, ly⟩ := y
            have hcyc : wr.cell? ⟨gy, i, none⟩ = some ry := hcyc
            have hin : Calls Try.prog 27 #[vq, ry] wr fun e w' => e = .returned (.bool (inV (Z.map Prod.snd) ly)) ∧ ∃ m, w' = wr.drewN m := hin
            have hst : (if ly ∈ Z.map Prod.snd then loRow ((covL c lz).drop (i + 1)) (Z.map Prod.snd) else if 200 ≤ (Z.map Prod.snd).length then none else loRow ((covL c lz).drop (i + 1)) (Z.map Prod.snd ++ [ly])) = RW := hst
            obtain ⟨ary, cry, rfl⟩ := (show RI _ wr ry ly from hry).form
            have hlz : (Z.map Prod.fst).length = Z.length := by simp
            obtain ⟨⟨aq2, cq2, rfl⟩, _⟩ := hs.formV 0 rfl
            rw [hlz] at hs hin ⊢
            clear hy hcyi hry h5y hread hlz
            by_cases hmem : ly ∈ Z.map Prod.snd
            · rw [if_pos hmem] at hst
              have HST := Lib.hid hst
              have e1 : inV (Z.map Prod.snd) ly = true := by unfold inV; exact decide_eq_true hmem
              rw [e1] at hin
              clear hmem hst e1
              go_wp2_with fail
              refine hin.mono ?_
              rintro e w7 ⟨rfl, m7, rfl⟩
              have hs7 := HSx.drewN hs m7
              clear hs hin
              go_wp2_with fail
              go_roundw
              case rel => exact ⟨i + 1, _, Z, rfl, by omega, by go_num, hs7, HSB, HTT, hz200, HZL, HST⟩
              case measure => simp [intOf]; omega
            · rw [if_neg hmem] at hst
              have e1 : inV (Z.map Prod.snd) ly = false := by unfold inV; exact decide_eq_false hmem
              rw [e1] at hin
              clear hmem e1
              by_cases hbig : 200 ≤ Z.length
              · rw [if_pos (by simpa using hbig)] at hst
                have i5 : (200 : Int) ≤ (Z.length : Int) := by omega
                have HRN : Hid (R = none) := Lib.hid (by rw [← HBF.out, ← hst])
                clear hst
                go_wp2_with fail
                refine hin.mono ?_
                rintro e w7 ⟨rfl, m7, rfl⟩
                have hs7 := HSx.drewN hs m7
                generalize wr.drewN m7 = w7 at *
                have hf := FII.empty_of hs7.bl (w1 := w7.alloc (.cells #[] 23)) rfl
                clear hs hin hs7
                go_wp2_with fail
                go_ret2
                exact ⟨_, by rw [HOK.out, HRN.out]; rfl, by rw [HRR.out, HRN.out]; exact hf.1, hf.2⟩
              · rw [if_neg (by simpa using hbig)] at hst
                have i5 : ¬ (200 : Int) ≤ (Z.length : Int) := by omega
                have HST : Hid (loRow ((covL c lz).drop (i + 1)) ((Z ++ [(Value.slice ary ly.length cry, ly)]).map Prod.snd) = RW) := Lib.hid (by rw [← hst, List.map_append]; rfl)
                clear hst
                go_wp2_with fail
                refine hin.mono ?_
                rintro e w7 ⟨rfl, m7, rfl⟩
                have hs7 := HSx.drewN hs m7
                generalize wr.drewN m7 = w7 at *
                have hs7 : HS w w7 [aV 23 (.slice aq2 Z.length cq2) (Z.map Prod.fst), aRr PY, aV 23 (.slice (some ⟨gy, 0, none⟩) my cy) (Y.map Prod.fst)] := hs7
                have hc7 := (hs7.cellV 2 rfl (j := i) (r := .slice ary ly.length cry) (by simp [HYI.out])).1
                obtain ⟨w8, hw8⟩ : ∃ w8, w8 = w7.alloc (.cells #[.slice ary ly.length cry] 23) := ⟨_, rfl⟩
                have hs8 : HS w w8 [aV 23 (.slice aq2 Z.length cq2) (Z.map Prod.fst), aRr PY, aV 23 (.slice (some ⟨gy, 0, none⟩) my cy) (Y.map Prod.fst)] := by rw [hw8]; exact HSx.alloc hs7 _
                have hc8 : w8.cell? ⟨w7.heap.size, 0, none⟩ = some (.slice ary ly.length cry) := by rw [hw8]; go_simp
                have HW8 := Lib.hid hw8
                have HNV := Lib.hid (HS.newV hs8 0 rfl)
                have hone : (Value.slice ary ly.length cry).oneCell' = true := rfl
                have HLN : Hid ((Z.map Prod.fst).length + 1 ≤ 67108864) := Lib.hid (by simp; omega)
                have HSB3 : Hid (∀ z ∈ Z ++ [(Value.slice ary ly.length cry, ly)], z ∈ PY) := Lib.hid (fun z hz => by
                  rcases List.mem_append.1 hz with hz | hz
                  · exact HSB.out z hz
                  · rw [List.mem_singleton] at hz; subst hz; exact HPy.out)
                have HTT3 : Hid (∀ z ∈ Z ++ [(Value.slice ary ly.length cry, ly)], Nf15 c z.2) := Lib.hid (fun z hz => by
                  rcases List.mem_append.1 hz with hz | hz
                  · exact HTT.out z hz
                  · rw [List.mem_singleton] at hz; subst hz; exact H5Y.out)
                have HZL3 : Hid (mz ≤ (Z ++ [(Value.slice ary ly.length cry, ly)]).length) := Lib.hid (by have := HZL.out; simp; omega)
                have hz3 : (Z ++ [(Value.slice ary ly.length cry, ly)]).length ≤ 200 := by simp; omega
                clear hw8 hs hin hs7
                go_wp2_with (at_builtin; go_must (rw [← HW8.out]; refine wpList_hsRow rfl _ _ rfl rfl hs8 0 rfl HNV.out rfl hc8 hone HLN.out ?_))
                intro v9 w9 hs9 _
                have hs9 : HS w w9 [aV 23 v9 ((Z ++ [(Value.slice ary ly.length cry, ly)]).map Prod.fst), aRr PY, aV 23 (.slice (some ⟨gy, 0, none⟩) my cy) (Y.map Prod.fst)] := by
                  have e : (Z ++ [(Value.slice ary ly.length cry, ly)]).map Prod.fst = Z.map Prod.fst ++ [Value.slice ary ly.length cry] := by simp
                  rw [e]; exact hs9
                clear hs8
                generalize Z ++ [(Value.slice ary ly.length cry, ly)] = Z3 at *
                go_wp2_with fail
                go_roundw
                case rel => exact ⟨i + 1, _, Z3, rfl, by omega, by go_num, hs9, HSB3, HTT3, hz3, HZL3, HST⟩
                case measure => simp [intOf]; omega
          · have i3 : ¬ (i : Int) < (my : Int) := by omega
            have hst := HRW.out
            rw [List.drop_eq_nil_of_le (by have := HMY.out; have := congrArg List.length HYC.out; simp at this; omega)] at hst
            have hbf := HBF.out
            rw [← hst] at hbf
            have HQ2 : Hid (∃ f, 201 ≤ f + (k + 1) ∧ loBfs c f (k + 1) (Z.map Prod.snd) = R) := Lib.hid ⟨f, by omega, hbf⟩
            have hs9 : HS w wr [aV 23 vq (Z.map Prod.fst), aRr PY] := HSx.pick hs [0, 1] (by decide)
            have hkz : k + 1 ≤ Z.length := by have := HZL.out; omega
            clear hs hst hbf
            go_wp2_with fail
            go_roundw
            case rel => exact ⟨k + 1, _, Z, PY, rfl, hkz, by go_num, hs9, HSB, HTT, hz200, HQ2⟩
            case measure => simp [intOf]; omega
      · have i1 : ¬ (k : Int) < (mz : Int) := by omega
        obtain ⟨f0, _, hbf⟩ := HQ.out
        rw [loBfs_end (by simp; omega)] at hbf
        have HRS : Hid (R = some (Z.map Prod.snd)) := Lib.hid hbf.symm
        obtain ⟨w5, hw5⟩ : ∃ w5, w5 = wr.alloc (.cells #[] 23) := ⟨_, rfl⟩
        have hs5 := HSx.addF hs (FII.empty_of (Below.refl _ wr) hw5).2 (FII.empty_of (Below.refl _ wr) hw5).1
        have hs5 : HS w w5 [aV 23 (.slice aq mz cq) (Z.map Prod.fst), aRr P, aF (.slice (some ⟨wr.heap.size, 0, none⟩) 0 0) (putsE ((Z.map Prod.snd).take 0))] := hs5
        have HW5 := Lib.hid hw5
        clear hbf hs hw5 HQ
        go_wp2_with fail
        rw [← HW5.out]
        go_loopw [12, 13] (fun oo jj wr => ∃ (j : Nat) (vo : Value), vo = oo ∧ j ≤ mz ∧ jj = .int .i64 j ∧ HS w wr [aV 23 (.slice aq mz cq) (Z.map Prod.fst), aRr P, aF vo (putsE ((Z.map Prod.snd).take j))]) (fun _ jj _ => mz - (intOf jj).toNat)
        case atStart => exact ⟨0, _, rfl, Nat.zero_le _, rfl, hs5⟩
        case round =>
          clear hs5
          obtain ⟨j, vo, rfl, hj, rfl, hs⟩ := hrel
          by_cases hjm : j < mz
          · have j1 : (j : Int) < (mz : Int) := by omega
            have j2 : (0 : Int) ≤ (j : Int) := by omega
            obtain ⟨z, hz⟩ : ∃ z, Z[j]? = some z := ⟨Z[j]'(by omega), List.getElem?_eq_getElem _⟩
            obtain ⟨gq, rfl⟩ : ∃ g, aq = some ⟨g, 0, none⟩ := by
              obtain ⟨g, c9, e⟩ := hhq (by omega)
              simp only [Value.slice.injEq] at e
              exact ⟨g, e.1⟩
            have hcz := (hs.cellV 0 rfl (j := j) (r := z.1) (by simp [hz])).1
            have hrz := hs.rowR 1 rfl (HSB.out z (List.mem_of_getElem? hz))
            have h5z := HTT.out z (List.mem_of_getElem? hz)
            have hst : putsE ((Z.map Prod.snd).take (j + 1)) = putE z.2 (putsE ((Z.map Prod.snd).take j)) := by
              rw [take_step (x := z.2) (by rw [List.getElem?_map, hz]; rfl)]
              unfold putsE
              rw [List.foldl_append]; rfl
            have HST := Lib.hid hst
            have hmemS := (putsE_ok ((Z.map Prod.snd).take j)).2
            have hlnS : (putsE ((Z.map Prod.snd).take j)).length ≤ 1048576 := by
              have := nd_le (putsE_ok ((Z.map Prod.snd).take j)).1.nodup (m := (Z.map Prod.snd).take j) (fun x hx => (hmemS x).1 hx)
              simp at this; omega
            have hleS : ∀ x ∈ putsE ((Z.map Prod.snd).take j), x.length ≤ 16777216 := fun x hx => by
              have := List.mem_of_mem_take ((hmemS x).1 hx)
              obtain ⟨z9, hz9, rfl⟩ := List.mem_map.1 this
              have := (HTT.out z9 hz9).2; omega
            obtain ⟨F, hF, hFn, HBK⟩ := hs.lend 2 rfl
            have hcall := putESpec hF hFn hrz hleS hlnS (by have := h5z.2; omega)
            have HPC : Hid (PutEC F z.2 (putsE ((Z.map Prod.snd).take j)) wr = fun e w' => ∃ r, e = .returned r ∧ HSx F wr w' [aF r (putE z.2 (putsE ((Z.map Prod.snd).take j)))]) := Lib.hid rfl
            rw [HPC.out] at hcall
            clear hrz h5z hst hmemS hlnS hleS hF hz
            go_wp2_with fail
            refine hcall.mono ?_
            rintro e w6 ⟨r6, rfl, h6⟩
            rw [← HST.out] at h6
            have hs7 := HBK.out w6 _ h6
            have hs7 : HS w w6 [aV 23 (.slice (some ⟨gq, 0, none⟩) mz cq) (Z.map Prod.fst), aRr P, aF r6 (putsE ((Z.map Prod.snd).take (j + 1)))] := hs7
            clear hcall h6 hs
            go_wp2_with fail
            go_roundw
            case rel => exact ⟨j + 1, _, rfl, by omega, by go_num, hs7⟩
            case measure => simp [intOf]; omega
          · have j1 : ¬ (j : Int) < (mz : Int) := by omega
            have e : (Z.map Prod.snd).take j = Z.map Prod.snd := List.take_of_length_le (by simp; omega)
            rw [e] at hs
            clear e
            go_wp2_with fail
            go_ret2
            exact ⟨_, by rw [HOK.out, HRS.out]; rfl, by rw [HRR.out, HRS.out]; exact HS.F hs 2 rfl, hs.bl⟩
end Go.Proofs.Ytipjomdldjbenaa
