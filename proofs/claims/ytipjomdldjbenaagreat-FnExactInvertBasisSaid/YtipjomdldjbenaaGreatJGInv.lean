/- The terms of the inverse of a basis element, as lists. Condition: none. InvertBasis of the reference. Condition: sizes up to 2^24. InvertBasis of the program. Condition: sizes up to 2^24. -/
import Derived.Test.YtipjomdldjbenaaGreatJGRt
import Derived.Test.YtipjomdldjbenaaGreatJGAdd
import Derived.Test.YtipjomdldjbenaaGreatJGHecke
/-! The terms of the inverse of a basis element, as lists. Condition: none. -/
namespace Go.Proofs.YtipjomdldjbenaaGreat
open Go.RowKit
set_option maxRecDepth 20000

theorem trd_rI (c : List (List Int)) : ∀ (v mu : List Int), Trd (rI c mu v)
  | [], mu => by
    rw [rI_nil]
    split
    · exact .inr (by simp [num])
    · exact .inl rfl
  | i :: v, mu => by
    unfold rI
    split
    · exact trd_rI c v _
    · exact trd_addP _ _
theorem rp_ok (c : List (List Int)) (u v : List Int) : (rp c u v).length ≤ 11 ∧ Trd (rp c u v) ∧ InI (rp c u v) := by
  refine ⟨rp_le c u v, ?_⟩
  unfold rp
  split
  · exact ⟨trd_rI c _ _, rI_in c _ _⟩
  · exact ⟨.inl rfl, fun x hx => by simp at hx⟩
/-- The polynomial with its sign. -/
def ibP (c : List (List Int)) (l x : List Int) : List Int := if (normL c l).length % 2 = x.length % 2 then rp c x l else subP [] (rp c x l)
theorem ibP_ok (c : List (List Int)) (l x : List Int) : (ibP c l x).length ≤ 11 ∧ Trd (ibP c l x) ∧ InI (ibP c l x) := by
  have h := rp_ok c x l
  unfold ibP
  split
  · exact h
  · have := subP_le [] (rp c x l)
    exact ⟨by simp at this; omega, trd_addP _ _, subP_in _ _⟩
def ibT (c : List (List Int)) (l : List Int) (L : List (List Int)) : List Trm := L.map fun x => (x, ibP c l x)
def ibB (c : List (List Int)) (l : List Int) : Bool := rtOk c l && isHk c (puts (ibT c l (lwR c l)))
def ibR (c : List (List Int)) (l : List Int) : List Trm := if rtOk c l then gd c (puts (ibT c l (lwR c l))) else []
theorem ibT_ok {c : List (List Int)} {l : List Int} {L : List (List Int)} (h : ∀ x ∈ L, Nf15 c x) : ∀ t ∈ ibT c l L, t.1.length ≤ 15 ∧ t.2.length ≤ 11 ∧ Trd t.2 ∧ InI t.2 := fun t ht => by
  obtain ⟨x, hx, rfl⟩ := List.mem_map.1 ht
  exact ⟨(h x hx).2, ibP_ok c l x⟩
theorem ibT_step {c : List (List Int)} {l : List Int} {L : List (List Int)} {k : Nat} {x : List Int} (h : L[k]? = some x) : (ibT c l L)[k]? = some (x, ibP c l x) ∧ ibT c l (L.take (k + 1)) = ibT c l (L.take k) ++ [(x, ibP c l x)] := by
  unfold ibT
  exact ⟨by rw [List.getElem?_map, h]; rfl, by rw [take_step h, List.map_append]; rfl⟩
theorem ibT_take (c : List (List Int)) (l : List Int) (L : List (List Int)) (k : Nat) : (ibT c l L).take k = ibT c l (L.take k) := by
  unfold ibT; rw [List.map_take]
theorem ibR_total (c : List (List Int)) (l : List Int) : totalT (ibR c l) ≤ 4680 := by
  unfold ibR
  split
  · unfold gd
    split
    · rename_i h
      have := (isHk_parts h).total
      omega
    · simp [totalT, flatT]
  · simp [totalT, flatT]
theorem lwR_le {c : List (List Int)} {l : List Int} (h : lwOk c l = true) : ∀ x ∈ lwR c l, x.length ≤ (normL c l).length := by
  have hw := lwOk_wd h
  obtain ⟨h1, h2, h3⟩ := isWd_parts hw
  have hc := isC_iff.1 h1
  have hn := (norm_is hc h3 (by omega)).1
  have hs := lowS_ok hc hn
  unfold lwOk lwQ at h
  rw [hw, if_pos rfl] at h
  unfold lwR lwQ
  rw [hw, if_pos rfl]
  cases e : lowS c (normL c l) with
  | none => rw [e] at h; cases h
  | some q =>
    rw [e] at hs
    obtain ⟨a1, a2, a3⟩ := hs
    have hm := (putsE_ok q).2
    exact fun x hx => ((a3 x).1 ((hm x).1 hx)).le hc hn.lets hn.le
/-- The word and its normal form have lengths of one parity. -/
theorem norm_par {c : List (List Int)} {l : List Int} (hw : isWd c l = true) : l.length % 2 = (normL c l).length % 2 := by
  obtain ⟨h1, h2, h3⟩ := isWd_parts hw
  have hc := isC_iff.1 h1
  have him := image_im hc h3 (show l.length ≤ 30 by omega)
  have := Im.parity hc (nf_im hc him (by omega)) him
  have e : nf c 30 (image c l) = normL c l := rfl
  rw [e] at this
  omega
theorem RI.nil0 (w : World) : RI Any w (.slice none 0 0) [] := (FI.empty w w).any

set_option maxHeartbeats 1000000 in
theorem lengthOfSpecN {S S' : Nat → Prop} {u v : Value} {c : List (List Int)} {l : List Int} {w : World} (h : RII S w u c) (h' : RI S' w v l) (hw : isWd c l = false) (hl : total c ≤ 16777216) (hl' : l.length ≤ 16777216) :
    Calls Tryz.prog 18 #[u, v] w fun e w' => e = .returned (.int .i64 (-1)) ∧ Below w.heap.size w w' := by
  have HW := Lib.hid hw
  clear hw
  go_enter Tryz.func18, Tryz.ntmps18
  go_wp2_with fail
  refine (normalFormSpec h h' hl hl').mono ?_
  rintro e w1 ⟨r1, rfl, f1, b1⟩
  rw [HW.out]
  obtain ⟨a1, c1, rfl⟩ := f1.reads.form
  go_wp2_with fail
  go_ret
  exact ⟨rfl, b1⟩

/-- The sign of a word. -/
def sgn (n : Nat) : Int := if n % 2 = 0 then 1 else -1
set_option maxHeartbeats 1000000 in
theorem signImpl {S : Nat → Prop} {v : Value} {l : List Int} {w : World} (h : RI S w v l) (hl : l.length ≤ 16777216) :
    Calls Tryz.prog 25 #[v] w fun e w' => e = .returned (.int .i64 (sgn l.length)) ∧ ∃ m, w' = w.drewN m := by
  obtain ⟨a, cap, rfl⟩ := h.form
  generalize l.length = n at *
  have hmod : (n : Int) % 2 = ((n % 2 : Nat) : Int) := by omega
  go_enter Tryz.func25, Tryz.ntmps25
  by_cases h2 : n % 2 = 0
  · have e0 : sgn n = 1 := by unfold sgn; rw [if_pos h2]
    have i1 : ((n : Int) % 2 == 0) = true := by rw [hmod, h2]; rfl
    rw [e0]
    clear hmod h2 e0
    go_wp2_with fail
    go_ret
    exact ⟨rfl, dr0⟩
  · have e0 : sgn n = -1 := by unfold sgn; rw [if_neg h2]
    have i1 : ((n : Int) % 2 == 0) = false := by rw [hmod, show n % 2 = 1 by omega]; rfl
    rw [e0]
    clear hmod h2 e0
    go_wp2_with fail
    go_ret
    exact ⟨rfl, dr0⟩
end Go.Proofs.YtipjomdldjbenaaGreat

/-! InvertBasis of the reference. Condition: sizes up to 2^24. -/
namespace Go.Proofs.YtipjomdldjbenaaGreat
open Go.RowKit
set_option maxRecDepth 20000

set_option maxHeartbeats 8000000 in
theorem invSpec {S S' : Nat → Prop} {u v : Value} {c : List (List Int)} {l : List Int} {w : World} (h : RII S w u c) (h' : RI S' w v l) (hl : total c ≤ 16777216) (hl' : l.length ≤ 16777216) :
    Calls Tryz.prog 5 #[u, v] w fun e w' => ∃ r, e = .returned (.tuple #[r, .bool (ibB c l)]) ∧ FT (New w w') w' r (ibR c l) ∧ Below w.heap.size w w' := by
  have mixed : Tryz.prog.follows .mixedOrders = true := by kernel_rfl
  obtain ⟨w1, hw1⟩ : ∃ w1, w1 = w.alloc (.cells #[] 46) := ⟨_, rfl⟩
  have f1 : FT (New w w1) w1 (.slice (some ⟨w.heap.size, 0, none⟩) 0 0) [] := by rw [hw1]; exact FT.none0 (Below.refl _ w)
  have b1 : Below w.heap.size w w1 := by rw [hw1]; exact (Below.refl _ w).alloc (Nat.le_refl _) _
  have HW1 := Lib.hid hw1
  have hlow := lowerSpec (h.below b1) (h'.below b1) hl hl'
  clear hw1
  cases hok : lwOk c l with
  | false =>
    have HO : Hid (ibB c l = false) := Lib.hid (by unfold ibB rtOk; rw [hok]; rfl)
    have HR : Hid (ibR c l = []) := Lib.hid (by unfold ibR rtOk; rw [hok]; rfl)
    rw [hok] at hlow
    have HLN : Hid (∀ w2, Below w.heap.size w w2 → ∃ q : Int, Calls Tryz.prog 18 #[u, v] w2 fun e w' => e = .returned (.int .i64 q) ∧ Below w2.heap.size w2 w') := Lib.hid (fun w2 hb => by
      cases hwd : isWd c l
      · exact ⟨_, lengthOfSpecN (h.below hb) (h'.below hb) hwd hl hl'⟩
      · exact ⟨_, lengthOfSpec (h.below hb) (h'.below hb) hwd hl hl'⟩)
    clear hok
    go_enter Tryz.func5, Tryz.ntmps5
    go_wp2_with fail
    rw [← HW1.out]
    refine hlow.mono ?_
    rintro e w2 ⟨r2, rfl, _, b2⟩
    have hb2 := Keeps.step b1 b2
    have hf2 := FC.grow f1 b2
    obtain ⟨q, hq⟩ := HLN.out w2 hb2
    clear hlow HLN
    go_wp2_with fail
    refine hq.mono ?_
    rintro e w3 ⟨rfl, b3⟩
    have hb3 := Keeps.step hb2 b3
    have hf3 := FC.grow hf2 b3
    clear hq
    go_wp2_with fail
    go_ret2
    exact ⟨_, by rw [HO.out]; rfl, by rw [HR.out]; exact hf3, hb3⟩
  | true =>
    have hwd := lwOk_wd hok
    obtain ⟨h200, h15⟩ := lwR_mem hok
    have hlen := lwR_le hok
    have hLN := Lib.hid (fun (wv : World) (hb : Below w.heap.size w wv) => lengthOfSpec (h.below hb) (h'.below hb) hwd hl hl')
    rw [hok] at hlow
    by_cases hten : (normL c l).length ≤ 10
    · have hrt : rtOk c l = true := by unfold rtOk; rw [hok, decide_eq_true hten]; rfl
      have HO : Hid (ibB c l = isHk c (puts (ibT c l (lwR c l)))) := Lib.hid (by unfold ibB; rw [hrt]; rfl)
      have HR : Hid (ibR c l = gd c (puts (ibT c l (lwR c l)))) := Lib.hid (by unfold ibR; rw [hrt]; rfl)
      have i10 : ¬ (10 : Int) < ((normL c l).length : Int) := by omega
      have HRP := Lib.hid (fun (wv : World) (S9 : Nat → Prop) (vv : Value) (x : List Int) (hb : Below w.heap.size w wv) (hx : RI S9 wv vv x) (hxl : x.length ≤ 16777216) => rpolynomialSpec (h.below hb) hx (h'.below hb) hl hxl hl')
      have HXL := Lib.hid (fun x (hx : x ∈ lwR c l) => (⟨(h15 x hx).2, hlen x hx⟩ : x.length ≤ 15 ∧ x.length ≤ (normL c l).length))
      have hTok := ibT_ok (l := l) h15
      have HP := Lib.hid (addP_of (D := ibT c l (lwR c l)) (by unfold ibT; rw [List.length_map]; omega) (fun t ht => by
        have h1 := hTok t ht
        exact ⟨by omega, by omega, h1.2.2⟩))
      have HTOT : Hid (totalT (puts (ibT c l (lwR c l))) ≤ 16777216) := Lib.hid (by
        have h2 := (puts_small (L := ibT c l (lwR c l)) (n := 200) (by unfold ibT; rw [List.length_map]; omega) (fun t ht => by have := hTok t ht; exact ⟨by omega, by omega⟩)).2.2
        omega)
      have HST := Lib.hid (fun (k : Nat) (x : List Int) (hx : (lwR c l)[k]? = some x) => (ibT_step (c := c) (l := l) hx).1)
      have H0 : Hid (puts ((ibT c l (lwR c l)).take 0) = []) := Lib.hid rfl
      have HE : Hid ((ibT c l (lwR c l)).take (lwR c l).length = ibT c l (lwR c l)) := Lib.hid (List.take_of_length_le (by unfold ibT; rw [List.length_map]; exact Nat.le_refl _))
      have HPB := Lib.hid (fun x => rp_ok c x l)
      have HIB : Hid (∀ x, ibP c l x = if (normL c l).length % 2 = x.length % 2 then rp c x l else subP [] (rp c x l)) := Lib.hid (fun x => rfl)
      clear hok hwd h15 hten h' hTok hlen hrt
      generalize ibT c l (lwR c l) = D at *
      go_enter Tryz.func5, Tryz.ntmps5
      go_wp2_with fail
      rw [← HW1.out]
      refine hlow.mono ?_
      rintro e w2 ⟨r2, rfl, f2, b2⟩
      have hb2 := Keeps.step b1 b2
      have hf2 := FC.grow f1 b2
      have hln := hLN.out w2 hb2
      have hr2 := f2.read
      obtain ⟨a2, c2, rfl⟩ := hr2.form
      clear hlow f2 b2 hLN
      go_wp2_with fail
      refine hln.mono ?_
      rintro e w3 ⟨rfl, b3⟩
      have hb3 := Keeps.step hb2 b3
      have hf3 := FC.grow hf2 b3
      have hr3 := RII.any (hr2.below b3)
      generalize (normL c l).length = nn at *
      generalize hm : (lwR c l).length = m at *
      have HM := Lib.hid hm
      generalize lwR c l = L at *
      rw [← H0.out] at hf3
      clear hln hr2 hf2 b3 hm b1 f1 hb2
      go_wp2_with fail
      go_loopw [6, 10] (fun oo kk wr => ∃ (k : Nat) (vo : Value), vo = oo ∧ k ≤ m ∧ kk = .int .i64 k ∧ FT (New w wr) wr vo (puts (D.take k)) ∧ RII Any wr (.slice a2 m c2) L ∧ Below w.heap.size w wr) (fun _ kk _ => m - (intOf kk).toNat)
      case atStart => exact ⟨0, _, rfl, Nat.zero_le _, rfl, hf3, hr3, hb3⟩
      case round =>
        clear hf3 hr3 hb3
        obtain ⟨k, vo, rfl, hk, rfl, hf, hr, hb⟩ := hrel
        by_cases hkm : k < m
        · have i1 : (k : Int) < (m : Int) := by omega
          have i2 : (0 : Int) ≤ (k : Int) := by omega
          have hr0 := hr
          obtain ⟨b3, o3, r3, x, rfl, hc3, hr3, hx⟩ := RII.at hr hkm
          have hxl := HXL.out x (List.mem_of_getElem? hx.out)
          have hcall := HRP.out wr _ r3 x hb hr3 (by omega)
          have hD := HST.out k x hx.out
          have HS2 := Lib.hid (HP.out.step k _ hD)
          obtain ⟨hx1, hx2, hx3⟩ := HP.out.elt k _ hD
          have hL2 := HP.out.len k
          have hL0 : (puts (D.take k)).length ≤ 1048576 := by omega
          obtain ⟨az2, cz2, e2, _⟩ := FC.form hf
          subst e2
          obtain ⟨a3, c3, rfl⟩ := hr3.form
          have lb3 : b3 < wr.heap.size := World.block_lt_of_cell? _ _ hc3
          clear hx hD
          have hxn : x.length ≤ nn := hxl.2
          obtain ⟨d, hd⟩ : ∃ d, nn = x.length + d := ⟨nn - x.length, by omega⟩
          have hw1 : ∀ y : Nat, y = x.length → ((nn : Int) - (y : Int)).tmod 2 = ((d % 2 : Nat) : Int) := fun y hy => by rw [hy, show (nn : Int) - (x.length : Int) = (d : Int) by omega]; exact (Int.ofNat_tmod d 2).symm
          generalize hxn2 : x.length = xn at *
          by_cases hpar : d % 2 = 0
          · have i3 : (((nn : Int) - (xn : Int)).tmod 2 == 1) = false := by rw [hw1 xn rfl, hpar]; rfl
            have HI2 : Hid (ibP c l x = rp c x l) := Lib.hid (by rw [HIB.out x, if_pos (by omega)])
            clear hpar hd hxl hxn hw1
            go_wp2_with fail
            refine hcall.mono ?_
            rintro e w4 ⟨r4, rfl, f4, b4⟩
            obtain ⟨ay, cy, rfl⟩ := f4.reads.form
            have hc4 := (b4.cell (p := ⟨b3, o3 + k, none⟩) lb3).trans hc3
            have hput := putSpec (hf.read.below b4) (hr3.below b4) f4.reads hL0 hL2.2 (by omega) (by have := (HPB.out x).1; omega) (HPB.out x).2.2
            rw [HI2.out] at HS2
            rw [HS2.out] at hput
            have hb4 := Keeps.step hb b4
            have hr4 := RII.below hr0 b4
            clear hcall hc3 f4 hr0 hr hf hL2 hr3 b4 HS2 hx2 hx3
            generalize (rp c x l).length = ny at *
            go_wp2_with fail
            refine hput.mono ?_
            rintro e w5 ⟨r5, rfl, f5, b5⟩
            have hf6 : FT (New w w5) w5 r5 (puts (D.take (k + 1))) := f5.mono (fun b hb' => ⟨Nat.le_trans hb4.size hb'.1, hb'.2⟩)
            have hb6 := Keeps.step hb4 b5
            have hr6 := RII.below hr4 b5
            clear hput f5 hr4 hb4
            go_wp2_with fail
            go_roundw
            case rel => exact ⟨k + 1, _, rfl, by omega, by go_num, hf6, hr6, hb6⟩
            case measure => simp [intOf]; omega
          · have i3 : (((nn : Int) - (xn : Int)).tmod 2 == 1) = true := by rw [hw1 xn rfl, show d % 2 = 1 by omega]; rfl
            have HI2 : Hid (ibP c l x = subP [] (rp c x l)) := Lib.hid (by rw [HIB.out x, if_neg (by omega)])
            clear hpar hd hxl hxn hw1
            go_wp2_with fail
            refine hcall.mono ?_
            rintro e w4 ⟨r4, rfl, f4, b4⟩
            obtain ⟨ay, cy, rfl⟩ := f4.reads.form
            have hc4 := (b4.cell (p := ⟨b3, o3 + k, none⟩) lb3).trans hc3
            have hb4 := Keeps.step hb b4
            have hr4 := RII.below hr0 b4
            have hr34 := hr3.below b4
            have hf4 := hf.read.below b4
            have f4r := f4.reads.any
            have HNL := HPB.out x
            have lb4 : b3 < w4.heap.size := Nat.lt_of_lt_of_le lb3 b4.size
            clear hcall hc3 hr0 hr hf hr3 b4 f4
            generalize hny : (rp c x l).length = ny at *
            go_wp2_with fail
            obtain ⟨w5, hw5⟩ : ∃ w5, w5 = w4.alloc (.cells #[] 3) := ⟨_, rfl⟩
            have b5 : Below w4.heap.size w4 w5 := by rw [hw5]; exact (Below.refl _ _).alloc (Nat.le_refl _) _
            have hn5 : RI Any w5 (.slice (some ⟨w4.heap.size, 0, none⟩) 0 0) [] := by rw [hw5]; exact (fresh_of (Below.refl _ w4) rfl).1.any
            have hsub := subSpec hn5 (f4r.below b5) (fun x hx => by simp at hx) (by simp) (by omega)
            have hc5 := (b5.cell (p := ⟨b3, o3 + k, none⟩) lb4).trans hc4
            have lb5 : b3 < w5.heap.size := Nat.lt_of_lt_of_le lb4 b5.size
            have HW5 := Lib.hid hw5
            have hb5 := Keeps.step hb4 b5
            have hr5 := RII.below hr4 b5
            have hr35 := hr34.below b5
            have hf5 := hf4.below b5
            clear hw5 hn5 f4r hc4 lb4 hb4 hr4 hr34 hf4 b5
            rw [← HW5.out]
            go_wp2_with fail
            refine hsub.mono ?_
            rintro e w6 ⟨r6, rfl, f6, b6⟩
            obtain ⟨az, cz, rfl⟩ := f6.reads.form
            have hc6 := (b6.cell (p := ⟨b3, o3 + k, none⟩) lb5).trans hc5
            have hput := putSpec (hf5.below b6) (hr35.below b6) f6.reads hL0 hL2.2 (by omega) (by have := subP_le [] (rp c x l); simp at this; omega) (subP_in _ _)
            rw [HI2.out] at HS2
            rw [HS2.out] at hput
            have hb6 := Keeps.step hb5 b6
            have hr6 := RII.below hr5 b6
            clear hsub hc5 f6 hr5 hr35 hf5 hb5 b6 HS2 hx2 hx3 hL2
            generalize (subP [] (rp c x l)).length = nz at *
            go_wp2_with fail
            refine hput.mono ?_
            rintro e w7 ⟨r7, rfl, f7, b7⟩
            have hf8 : FT (New w w7) w7 r7 (puts (D.take (k + 1))) := f7.mono (fun b hb' => ⟨Nat.le_trans hb6.size hb'.1, hb'.2⟩)
            have hb8 := Keeps.step hb6 b7
            have hr8 := RII.below hr6 b7
            clear hput f7 hr6 hb6
            go_wp2_with fail
            go_roundw
            case rel => exact ⟨k + 1, _, rfl, by omega, by go_num, hf8, hr8, hb8⟩
            case measure => simp [intOf]; omega
        · have i1 : ¬ (k : Int) < (m : Int) := by omega
          have hkm2 : k = m := by omega
          rw [hkm2, HE.out] at hf
          clear hkm2
          have hg := goodSpec (h.below hb) hf hb hl HTOT.out
          go_wp2_with fail
          refine hg.mono ?_
          rintro e w9 ⟨a9, c9, rfl, f9, b9⟩
          go_wp2_with fail
          go_ret2
          rw [HO.out, HR.out]
          exact ⟨_, rfl, f9, b9⟩
    · have HO : Hid (ibB c l = false) := Lib.hid (by unfold ibB rtOk; rw [hok, decide_eq_false hten]; rfl)
      have HR : Hid (ibR c l = []) := Lib.hid (by unfold ibR rtOk; rw [hok, decide_eq_false hten]; rfl)
      have i10 : (10 : Int) < ((normL c l).length : Int) := by omega
      clear hok hwd h15 hten h200 hlen
      go_enter Tryz.func5, Tryz.ntmps5
      go_wp2_with fail
      rw [← HW1.out]
      refine hlow.mono ?_
      rintro e w2 ⟨r2, rfl, _, b2⟩
      have hb2 := Keeps.step b1 b2
      have hf2 := FC.grow f1 b2
      have hln := hLN.out w2 hb2
      clear hlow
      go_wp2_with fail
      refine hln.mono ?_
      rintro e w3 ⟨rfl, b3⟩
      have hb3 := Keeps.step hb2 b3
      have hf3 := FC.grow hf2 b3
      generalize (normL c l).length = nn at *
      clear hln
      go_wp2_with fail
      go_ret2
      exact ⟨_, by rw [HO.out]; rfl, by rw [HR.out]; exact hf3, hb3⟩
end Go.Proofs.YtipjomdldjbenaaGreat

/-! InvertBasis of the program. Condition: sizes up to 2^24. -/
namespace Go.Proofs.YtipjomdldjbenaaGreat
open Go.RowKit
set_option maxRecDepth 20000

set_option maxHeartbeats 8000000 in
theorem invImpl {S S' : Nat → Prop} {u v : Value} {c : List (List Int)} {l : List Int} {w : World} (h : RII S w u c) (h' : RI S' w v l) (hl : total c ≤ 16777216) (hl' : l.length ≤ 16777216) :
    Calls Tryz.prog 8 #[u, v] w fun e w' => ∃ r, e = .returned (.tuple #[r, .bool (ibB c l)]) ∧ FT (New w w') w' r (ibR c l) ∧ Below w.heap.size w w' := by
  have mixed : Tryz.prog.follows .mixedOrders = true := by kernel_rfl
  have htab := rtableImpl h h' hl hl'
  cases hrt : rtOk c l with
  | false =>
    have HO : Hid (ibB c l = false) := Lib.hid (by unfold ibB; rw [hrt]; rfl)
    have HR : Hid (ibR c l = []) := Lib.hid (by unfold ibR; rw [hrt]; rfl)
    rw [hrt] at htab
    clear hrt
    go_enter Tryz.func8, Tryz.ntmps8
    go_wp2_with fail
    refine htab.mono ?_
    rintro e w1 ⟨r1, rfl, _, b1⟩
    clear htab
    go_wp2_with fail
    go_ret2
    exact ⟨_, by rw [HO.out]; rfl, by rw [HR.out]; exact FT.none0 b1, b1.alloc b1.size _⟩
  | true =>
    have hok : lwOk c l = true := by unfold rtOk at hrt; rw [Bool.and_eq_true] at hrt; exact hrt.1
    have HO : Hid (ibB c l = isHk c (puts (ibT c l (lwR c l)))) := Lib.hid (by unfold ibB; rw [hrt]; rfl)
    have HR : Hid (ibR c l = gd c (puts (ibT c l (lwR c l)))) := Lib.hid (by unfold ibR; rw [hrt]; rfl)
    have HTB : Hid (rtR c l = (lwR c l).map (fun x => rp c x l)) := Lib.hid (by unfold rtR; rw [hrt, if_pos rfl])
    have hwd := lwOk_wd hok
    obtain ⟨h200, h15⟩ := lwR_mem hok
    have hpar0 := norm_par hwd
    have hlow := fun (wv : World) (hb : Below w.heap.size w wv) => lowerImpl (h.below hb) (h'.below hb) hl hl'
    rw [hok] at hlow
    rw [hrt] at htab
    have HXL := Lib.hid (fun x (hx : x ∈ lwR c l) => (h15 x hx).2)
    have hTok := ibT_ok (l := l) h15
    have HALL := Lib.hid (show ∀ t ∈ ibT c l (lwR c l), t.1.length ≤ 1048576 ∧ t.2.length ≤ 1048576 ∧ Trd t.2 ∧ InI t.2 from fun t ht => by
      have h1 := hTok t ht
      exact ⟨by omega, by omega, h1.2.2⟩)
    have HTOT : Hid (totalT (puts (ibT c l (lwR c l))) ≤ 16777216) := Lib.hid (by
      have h2 := (puts_small (L := ibT c l (lwR c l)) (n := 200) (by unfold ibT; rw [List.length_map]; omega) (fun t ht => by have := hTok t ht; exact ⟨by omega, by omega⟩)).2.2
      omega)
    have HST := Lib.hid (fun (k : Nat) (x : List Int) (hx : (lwR c l)[k]? = some x) => (ibT_step (c := c) (l := l) hx).2)
    have HPB := Lib.hid (fun x => rp_ok c x l)
    have HIB : Hid (∀ x, ibP c l x = if l.length % 2 = x.length % 2 then rp c x l else subP [] (rp c x l)) := Lib.hid (fun x => by rw [hpar0]; rfl)
    have H0 : Hid (ibT c l ((lwR c l).take 0) = []) := Lib.hid rfl
    have HLT : Hid (∀ k, (ibT c l ((lwR c l).take k)).length ≤ 200) := Lib.hid (fun k => by unfold ibT; rw [List.length_map, List.length_take]; omega)
    have HTL : Hid ((rtR c l).length = (lwR c l).length) := Lib.hid (by rw [HTB.out, List.length_map])
    have HTX : Hid (∀ (k : Nat) (x y : List Int), (lwR c l)[k]? = some x → (rtR c l)[k]? = some y → y = rp c x l) := Lib.hid (fun k x y hx hy => by
      rw [HTB.out, List.getElem?_map, hx] at hy
      exact (Option.some.inj hy).symm)
    clear hok hwd h15 hTok hpar0 hrt HTB
    go_enter Tryz.func8, Tryz.ntmps8
    go_wp2_with fail
    refine htab.mono ?_
    rintro e w1 ⟨r1, rfl, f1, b1⟩
    have hlo := hlow w1 b1
    have ht1 := f1.read.any
    obtain ⟨a1, c1, rfl⟩ := ht1.form
    clear htab f1 hlow
    go_wp2_with fail
    refine hlo.mono ?_
    rintro e w2 ⟨r2, rfl, f2, b2⟩
    have hb2 := Keeps.step b1 b2
    have hr2 := f2.read.any
    have ht2 := ht1.below b2
    obtain ⟨a2, c2, rfl⟩ := hr2.form
    generalize hm : (lwR c l).length = m at *
    have HM := Lib.hid hm
    have htl := HTL.out
    rw [htl] at ht2
    generalize rtR c l = R at *
    generalize lwR c l = L at *
    clear hlo ht1 b1 b2 f2 hm
    go_wp2_with fail
    clear htl
    have f3 := OT.fresh (Below.refl _ w2)
    have b3 : Below w2.heap.size w2 (w2.alloc (.cells #[] 46)) := (Below.refl _ w2).alloc (Nat.le_refl _) _
    generalize w2.alloc (.cells #[] 46) = w3 at *
    rw [← H0.out] at f3
    go_loopw [10, 32] (fun oo kk wr => ∃ (k : Nat) (vo : Value), vo = oo ∧ k ≤ m ∧ kk = .int .i64 k ∧ OT w2 wr vo (ibT c l (L.take k)) ∧ Below w2.heap.size w2 wr) (fun _ kk _ => m - (intOf kk).toNat)
    case atStart => exact ⟨0, _, rfl, Nat.zero_le _, rfl, f3, b3⟩
    case round =>
      clear f3 b3
      obtain ⟨k, vo, rfl, hk, rfl, hf, hb⟩ := hrel
      by_cases hkm : k < m
      · have i1 : (k : Int) < (m : Int) := by omega
        have i2 : (0 : Int) ≤ (k : Int) := by omega
        obtain ⟨bx, ox, rx, x, rfl, hcx, hrx, hx⟩ := RII.at (hr2.below hb) hkm
        obtain ⟨by', oy, ry, y, rfl, hcy, hry, hy⟩ := RII.at (ht2.below hb) hkm
        have hyx := HTX.out k x y hx.out hy.out
        subst hyx
        have hxl := HXL.out x (List.mem_of_getElem? hx.out)
        have hST := HST.out k x hx.out
        have hLT := HLT.out k
        obtain ⟨a3, c3, rfl⟩ := hrx.form
        obtain ⟨a4, c4, rfl⟩ := hry.form
        obtain ⟨ao, co, rfl⟩ := hf.form
        have hr0 := h'.below (Keeps.step hb2 hb)
        have hsx := fun (w9 : World) (hq : Below wr.heap.size wr w9) => signImpl (hrx.below hq) (by omega)
        have hsl := fun (w9 : World) (hq : Below wr.heap.size wr w9) => signImpl (hr0.below hq) hl'
        generalize hxn : x.length = xn at *
        generalize hln : l.length = ln at *
        by_cases hpar : ln % 2 = xn % 2
        · have i3 : (sgn xn != sgn ln) = false := by unfold sgn; rw [hpar]; simp
          have HI2 : Hid (ibP c l x = rp c x l) := Lib.hid (by rw [HIB.out x, if_pos (by omega)])
          clear hpar
          go_wp2_with fail
          refine (hsx wr (Below.refl _ _)).mono ?_
          rintro e w4 ⟨rfl, m4⟩
          have b4 := below_quiet m4
          clear m4
          go_wp2_with fail
          refine (hsl w4 b4).mono ?_
          rintro e w5 ⟨rfl, m5⟩
          have b5 := Keeps.step b4 (below_quiet m5)
          have hb5 := Keeps.step hb b5
          have hf5 := hf.below b5
          have hrx5 := hrx.below b5
          have hry5 := hry.below b5
          clear m5 b4 hsx hsl hf hrx hry hcx hcy hr0 b5
          have R1 : RT Any (w5.alloc (.cells #[.slice a3 xn c3, .slice a4 (rp c x l).length c4] 46)) (.slice (some ⟨w5.heap.size, 0, none⟩) 1 1) [(x, ibP c l x)] := RT.one rfl hrx5 (by rw [HI2.out]; exact hry5)
          have hlen : (ibT c l (L.take k)).length + [(x, ibP c l x)].length ≤ 33554432 := by simp; omega
          have hf6 := hf5.below ((Below.refl _ w5).alloc (Nat.le_refl _) (.cells #[.slice a3 xn c3, .slice a4 (rp c x l).length c4] 46))
          have hb6 := hb5.alloc hb5.size (.cells #[.slice a3 xn c3, .slice a4 (rp c x l).length c4] 46)
          obtain ⟨w6, hw6⟩ : ∃ w6, w6 = w5.alloc (.cells #[.slice a3 xn c3, .slice a4 (rp c x l).length c4] 46) := ⟨_, rfl⟩
          rw [← hw6] at R1 hf6 hb6
          have HW6 := Lib.hid hw6
          clear hw6
          go_wp2_with (at_builtin; go_must (rw [← HW6.out]; refine wpList_appO rfl _ _ rfl rfl hf6 hb6 rfl R1 hlen ?_))
          intro v7 w7 f7 b7 g7
          rw [← hST] at f7
          clear R1 hf6 hb6 g7
          go_wp2_with fail
          go_roundw
          case rel => exact ⟨k + 1, _, rfl, by omega, by go_num, f7, b7⟩
          case measure => simp [intOf]; omega
        · have i3 : (sgn xn != sgn ln) = true := by
            unfold sgn
            by_cases h0 : xn % 2 = 0
            · rw [if_pos h0, if_neg (by omega)]; rfl
            · rw [if_neg h0, if_pos (by omega)]; rfl
          have HI2 : Hid (ibP c l x = subP [] (rp c x l)) := Lib.hid (by rw [HIB.out x, if_neg (by omega)])
          clear hpar
          go_wp2_with fail
          refine (hsx wr (Below.refl _ _)).mono ?_
          rintro e w4 ⟨rfl, m4⟩
          have b4 := below_quiet m4
          clear m4
          go_wp2_with fail
          refine (hsl w4 b4).mono ?_
          rintro e w5 ⟨rfl, m5⟩
          have b5 := Keeps.step b4 (below_quiet m5)
          have hb5 := Keeps.step hb b5
          have hf5 := hf.below b5
          have hrx5 := hrx.below b5
          have hry5 := hry.below b5
          clear m5 b4 hsx hsl hf hrx hry hcx hcy hr0 b5
          have hsub := subImpl (RI.nil0 w5) hry5 (fun x hx => by simp at hx) (by simp) (by have := (HPB.out x).1; omega)
          go_wp2_with fail
          refine hsub.mono ?_
          rintro e w8 ⟨r8, rfl, f8, b8⟩
          obtain ⟨a8, c8, rfl⟩ := f8.reads.form
          have hb8 := Keeps.step hb5 b8
          clear hsub
          have R1 : RT Any (w8.alloc (.cells #[.slice a3 xn c3, .slice a8 (subP [] (rp c x l)).length c8] 46)) (.slice (some ⟨w8.heap.size, 0, none⟩) 1 1) [(x, ibP c l x)] := RT.one rfl (hrx5.below b8) (by rw [HI2.out]; exact f8.reads.any)
          have hlen : (ibT c l (L.take k)).length + [(x, ibP c l x)].length ≤ 33554432 := by simp; omega
          have hf6 := (hf5.below b8).below ((Below.refl _ w8).alloc (Nat.le_refl _) (.cells #[.slice a3 xn c3, .slice a8 (subP [] (rp c x l)).length c8] 46))
          have hb6 := hb8.alloc hb8.size (.cells #[.slice a3 xn c3, .slice a8 (subP [] (rp c x l)).length c8] 46)
          obtain ⟨w6, hw6⟩ : ∃ w6, w6 = w8.alloc (.cells #[.slice a3 xn c3, .slice a8 (subP [] (rp c x l)).length c8] 46) := ⟨_, rfl⟩
          rw [← hw6] at R1 hf6 hb6
          have HW6 := Lib.hid hw6
          clear hw6
          go_wp2_with (at_builtin; go_must (rw [← HW6.out]; refine wpList_appO rfl _ _ rfl rfl hf6 hb6 rfl R1 hlen ?_))
          intro v7 w7 f7 b7 g7
          rw [← hST] at f7
          clear R1 hf6 hb6 g7
          go_wp2_with fail
          go_roundw
          case rel => exact ⟨k + 1, _, rfl, by omega, by go_num, f7, b7⟩
          case measure => simp [intOf]; omega
      · have i1 : ¬ (k : Int) < (m : Int) := by omega
        have hkm2 : k = m := by omega
        rw [hkm2, List.take_of_length_le (by rw [HM.out]; exact Nat.le_refl _)] at hf
        clear hkm2
        have hcol := collectedImpl hf.read (by unfold ibT; rw [List.length_map, HM.out]; omega) HALL.out
        go_wp2_with fail
        refine hcol.mono ?_
        rintro e w9 ⟨r9, rfl, f9, b9⟩
        have hb9 := Keeps.step (Keeps.step hb2 hb) b9
        have hf9 := f9.mono (S' := New w w9) (fun b hb' => ⟨Nat.le_trans (Keeps.step hb2 hb).size hb'.1, hb'.2⟩)
        have hg := checkedImpl (h.below hb9) hf9 hb9 hl HTOT.out
        clear hcol f9 b9
        go_wp2_with fail
        refine hg.mono ?_
        rintro e w10 ⟨a10, c10, rfl, f10, b10⟩
        go_wp2_with fail
        go_ret2
        rw [HO.out, HR.out]
        exact ⟨_, rfl, f10, b10⟩
end Go.Proofs.YtipjomdldjbenaaGreat
