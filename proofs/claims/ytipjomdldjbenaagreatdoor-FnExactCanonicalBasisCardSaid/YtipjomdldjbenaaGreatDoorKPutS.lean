/- Adding a term, by the reference. Condition: sizes up to 2^20. -/
import Derived.Test.YtipjomdldjbenaaGreatDoorKGColl
import Derived.Test.YtipjomdldjbenaaGreatDoorKGBas
import Derived.Test.YtipjomdldjbenaaGreatDoorKGPoly
namespace Go.Proofs.YtipjomdldjbenaaGreatDoor
open Go.RowKit
set_option maxRecDepth 20000

theorem app_ready {W w2 w3 : World} {z p q : Value} {acc : List Trm} {x y : List Int} (hW : Below W.heap.size W w2) (hf : FT (New W w2) w2 z acc) (b3 : Below w2.heap.size w2 w3) (f5 : FI (New w2 w3) w3 p x) (f6 : FI (New w2 w3) w3 q y) :
    FT (Bt W.heap.size w2.heap.size) (w3.alloc (.cells #[p, q] 73)) z acc ∧ FI (Bt w2.heap.size (w3.alloc (.cells #[p, q] 73)).heap.size) (w3.alloc (.cells #[p, q] 73)) p x ∧
    FI (Bt w2.heap.size (w3.alloc (.cells #[p, q] 73)).heap.size) (w3.alloc (.cells #[p, q] 73)) q y ∧
    Below W.heap.size W (w3.alloc (.cells #[p, q] 73)) ∧ w2.heap.size ≤ (w3.alloc (.cells #[p, q] 73)).heap.size ∧
    (w3.alloc (.cells #[p, q] 73)).cell? ⟨w3.heap.size, 0, none⟩ = some p ∧ (w3.alloc (.cells #[p, q] 73)).cell? ⟨w3.heap.size, 1, none⟩ = some q := by
  have b4 : Below w3.heap.size w3 (w3.alloc (.cells #[p, q] 73)) := (Below.refl _ w3).alloc (Nat.le_refl _) _
  have b24 := Keeps.step b3 b4
  exact ⟨hf.below b24, f5.grow b4, f6.grow b4, Keeps.step hW b24, b24.size, by go_simp, by go_simp⟩

theorem own_ne {w w2 : World} {z : Value} {acc : List Trm} {b : Nat} (hf : FT (New w w2) w2 z acc) (hb : b < w.heap.size) : some b ≠ z.ownBlock := fun e => by
  obtain ⟨_, _, _, hS, _⟩ := hf
  have := (hS b e.symm).1
  omega
theorem one1_nil {w p : List Int} (h : p.length = 0) : one1 w p = [] := by unfold one1; rw [if_pos (List.eq_nil_of_length_eq_zero h)]
theorem one1_cons {w p : List Int} (h : p.length ≠ 0) : one1 w p = [(w, p)] := by unfold one1; rw [if_neg (fun e => h (by rw [e]; rfl))]

set_option maxHeartbeats 4000000 in
theorem putSpec {S S' S'' : Nat → Prop} {v u z : Value} {L : List Trm} {wd p : List Int} {w : World} (h : RT S w v L) (hu : RI S' w u wd) (hz : RI S'' w z p)
    (hl : L.length ≤ 1048576) (hi : ∀ t ∈ L, t.1.length ≤ 1048576 ∧ t.2.length ≤ 1048576 ∧ InI t.2) (hwd : wd.length ≤ 1048576) (hp : p.length ≤ 1048576) (hpi : InI p) :
    Calls Tryz.prog 78 #[v, u, z] w fun e w' => ∃ r, e = .returned r ∧ FT (New w w') w' r (endP wd p (putF wd p L)) ∧ Below w.heap.size w w' := by
  obtain ⟨a, cap, rfl⟩ := h.form
  obtain ⟨au, cu, rfl⟩ := hu.form
  obtain ⟨az, cz, rfl⟩ := hz.form
  have HI := Lib.hid hi
  have HPI := Lib.hid hpi
  have HST := Lib.hid (fun (k : Nat) (t : Trm) (ht : L[k]? = some t) => putF_step (w := wd) (p := p) ht)
  have HLE := Lib.hid (putF_le wd p L)
  have HN : Hid (putF wd p (L.take L.length) = putF wd p L) := Lib.hid (by rw [List.take_of_length_le (Nat.le_refl _)])
  have H0 : Hid (putF wd p (L.take 0) = ([], false)) := Lib.hid rfl
  have HAL := Lib.hid (fun x : List Int => addP_le x p)
  generalize hm : L.length = m at *
  have HM := Lib.hid hm
  clear hm hi hpi
  generalize hnu : wd.length = nu at *
  generalize hnz : p.length = nz at *
  have HNU := Lib.hid hnu
  have HNZ := Lib.hid hnz
  clear hnu hnz
  go_enter Tryz.func78, Tryz.ntmps78
  go_wp2_with fail
  have f1 : FT (New w (w.alloc (.cells #[] 73))) (w.alloc (.cells #[] 73)) (.slice (some ⟨w.heap.size, 0, none⟩) 0 0) [] := FC.of_row (w := w) (World.ownsRow_lit (base := w.heap.size) (e := 73) (size := 2) w #[] 0 (Nat.le_refl _) (by unfold maxLen; omega) rfl) (Nat.le_refl _) rfl (fun j r x hr _ => by simp at hr)
  have b1 : Below w.heap.size w (w.alloc (.cells #[] 73)) := (Below.refl _ w).alloc (Nat.le_refl _) _
  generalize w.alloc (.cells #[] 73) = w1 at *
  go_loopw [7, 8, 9] (fun zz pl j wr => ∃ (k : Nat) (zv : Value) (acc : List Trm) (bb : Bool), zv = zz ∧ k ≤ m ∧ j = .int .i64 k ∧ pl = .bool bb ∧ FT (New w wr) wr zv acc ∧ Hid (putF wd p (L.take k) = (acc, bb)) ∧ Below w.heap.size w wr) (fun _ _ j _ => m - (intOf j).toNat)
  case atStart => exact ⟨0, _, [], false, rfl, Nat.zero_le _, rfl, rfl, f1, H0, b1⟩
  case round =>
    obtain ⟨k, zv, acc, bb, rfl, hk, rfl, rfl, hf, HA, hb⟩ := hrel
    by_cases h1 : k < m
    · obtain ⟨b, o, r, r', x, e8, hc, hc', ⟨hr, hr'⟩, hx⟩ := h.at h1
      subst e8
      obtain ⟨ax, cx, rfl⟩ := hr.form
      obtain ⟨ay, cy, rfl⟩ := hr'.form
      have i1 : (k : Int) < (m : Int) := by omega
      have lb0 : b < w.heap.size := World.block_lt_of_cell? w _ hc
      have hc0 := hc
      have hc0' := hc'
      have hr0 := hr
      have hr0' := hr'
      have hc := (hb.cell (p := ⟨b, o + k * 2, none⟩) lb0).trans hc
      have hc' := (hb.cell (p := ⟨b, o + k * 2 + 1, none⟩) lb0).trans hc'
      have hr := hr.below hb
      have hr' := hr'.below hb
      obtain ⟨hx1, hx2, hx3⟩ := HI.out x (List.mem_of_getElem? hx.out)
      have hst := HST.out k x hx.out
      rw [HA.out] at hst
      have hac : acc.length + 2 ≤ 33554432 := by
        have := HLE.out k
        rw [HA.out] at this
        simp at this
        omega
      have HAC := Lib.hid hac
      clear hac
      unfold stepP at hst
      have hub := hu.below hb
      have hzb := hz.below hb
      have HX3 := Lib.hid hx3
      have HXL : Hid ((addP x.2 p).length ≤ 2097152) := Lib.hid (by have := HAL.out x.2; omega)
      clear hx3
      generalize hcm : cmpW wd x.1 = cm at *
      have HCM := Lib.hid hcm
      clear hcm
      have hcmp := fun wr' (hbb : Below wr.heap.size wr wr') => compareWordsSpec (hub.below hbb) (hr.below hbb) (by rw [HNU.out]; omega) (by omega)
      by_cases c0 : cm = 0
      · rw [if_pos c0] at hst
        have j2 : (cm == 0) = true := by simp [c0]
        have j1 : ¬ cm < 0 := by omega
        clear c0
        go_wp2_with fail
        refine (hcmp _ (Below.refl _ wr)).mono ?_
        rintro e w2 ⟨rfl, n2, e2⟩
        have bd : Below wr.heap.size wr w2 := by rw [e2]; exact below_drewN (Below.refl _ wr) n2
        clear e2 hcmp
        rw [HCM.out]
        have hf2 := hf.grow bd
        have hb2 := Keeps.step hb bd
        clear hf hc hc' hr hr'
        have kc := (hb2.cell (p := ⟨b, o + k * 2 + 1, none⟩) lb0).trans hc0'
        go_wp2_with fail
        refine (addSpec (hr0'.below hb2) (hz.below hb2) HX3.out HPI.out (by omega) (by have := HNZ.out; omega)).mono ?_
        rintro e w4 ⟨rq, rfl, fq, bq⟩
        obtain ⟨aq, cq, rfl⟩ := fq.form
        have hxl := HXL.out
        have hf4 := hf2.grow bq
        have hb4 := Keeps.step hb2 bq
        generalize hnq : (addP x.2 p).length = nq at *
        by_cases hq : nq = 0
        · have HST2 := Lib.hid hst
          rw [one1_nil (by rw [hnq, hq]), List.append_nil] at HST2
          have i5 : ¬ (0 : Int) < (nq : Int) := by omega
          clear hst hnq hq
          go_wp2_with fail
          go_wp2_with fail
          go_roundw
          case rel => exact ⟨k + 1, _, _, _, rfl, by omega, by go_num, rfl, hf4, HST2, hb4⟩
          case measure => simp [intOf]; omega
        · have HST2 := Lib.hid hst
          rw [one1_cons (by rw [hnq]; exact hq)] at HST2
          have i5 : (0 : Int) < (nq : Int) := by omega
          have HNQ := Lib.hid hnq
          clear hst hnq hq
          go_wp2_with fail
          refine (termSpec (hu.below hb4) fq.reads (by have := HNU.out; omega) (by rw [HNQ.out]; omega)).mono ?_
          rintro e w31 ⟨p1, q1, rfl, f51, f61, hd1, b31⟩
          obtain ⟨pa1, pc1, e51⟩ := f51.form
          obtain ⟨qa1, qc1, e61⟩ := f61.form
          skip
          subst e51 e61
          have R1 := Lib.hid (app_ready hb4 hf4 b31 f51 f61)
          go_wp2_with (at_builtin; go_must (refine wpList_appT (W := w) rfl _ _ rfl rfl R1.out.1 hb4.size R1.out.2.2.2.2.1 R1.out.2.2.2.1 rfl R1.out.2.2.2.2.2.1 R1.out.2.2.2.2.2.2 R1.out.2.1 R1.out.2.2.1 hd1 (by have := HAC.out; simp; omega) ?_))
          intro v91 w91 f91 b91 g91
          go_wp2_with fail
          go_roundw
          case rel => exact ⟨k + 1, _, _, _, rfl, by omega, by go_num, rfl, f91, HST2, b91⟩
          case measure => simp [intOf]; omega
      · rw [if_neg c0] at hst
        have j2 : (cm == 0) = false := by simp [c0]
        by_cases c1 : cm < 0
        · cases bb with
          | false =>
            rw [if_pos ⟨c1, rfl⟩] at hst
            by_cases hq : nz = 0
            · have HST2 := Lib.hid hst
              rw [one1_nil (by rw [HNZ.out, hq]), List.append_nil] at HST2
              have i5 : ¬ (0 : Int) < (nz : Int) := by omega
              clear hst hq c0
              go_wp2_with fail
              refine (hcmp _ (Below.refl _ wr)).mono ?_
              rintro e w2 ⟨rfl, n2, e2⟩
              have bd : Below wr.heap.size wr w2 := by rw [e2]; exact below_drewN (Below.refl _ wr) n2
              clear e2 hcmp
              rw [HCM.out]
              have hf2 := hf.grow bd
              have hb2 := Keeps.step hb bd
              clear hf hc hc' hr hr'
              go_wp2_with fail
              have hlb1 : b < _ := Nat.lt_of_lt_of_le lb0 hb2.size
              have k01 := (hb2.cell (p := ⟨b, o + k * 2, none⟩) lb0).trans hc0
              have k11 := (hb2.cell (p := ⟨b, o + k * 2 + 1, none⟩) lb0).trans hc0'
              have h1x1 := hr0.below hb2
              have h2x1 := hr0'.below hb2
              have hne1 := own_ne hf2 lb0
              have hfd1 := hf2.grow ((Below.refl _ _).drew)
              have hbd1 := hb2.drew
              go_region_held3 (fun w' => w'.cell? ⟨b, o + k * 2, none⟩ = some (.slice ax x.1.length cx) ∧ w'.cell? ⟨b, o + k * 2 + 1, none⟩ = some (.slice ay x.2.length cy)) (first | go_keep | exact ⟨(b31.cell (p := ⟨b, o + k * 2, none⟩) hlb1).trans k01, (b31.cell (p := ⟨b, o + k * 2 + 1, none⟩) hlb1).trans k11⟩ | exact ⟨g91.cell (cell_alloc ((b31.cell (p := ⟨b, o + k * 2, none⟩) hlb1).trans k01) _) hne1, g91.cell (cell_alloc ((b31.cell (p := ⟨b, o + k * 2 + 1, none⟩) hlb1).trans k11) _) hne1⟩) (first
                | (go_at_call 112; refine (termSpec h1x1.drew h2x1.drew (by omega) (by omega)).mono ?_; rintro e w31 ⟨p1, q1, rfl, f51, f61, hd1, b31⟩; obtain ⟨pa1, pc1, rfl⟩ := f51.form; obtain ⟨qa1, qc1, rfl⟩ := f61.form; have R1 := Lib.hid (app_ready hbd1 hfd1 b31 f51 f61))
                | (refine step_appT (W := w) (by rfl) _ _ (by rfl) (by rfl) R1.out.1 hbd1.size R1.out.2.2.2.2.1 R1.out.2.2.2.1 (by rfl) R1.out.2.2.2.2.2.1 R1.out.2.2.2.2.2.2 R1.out.2.1 R1.out.2.2.1 hd1 (by have := HAC.out; simp; omega) ?_; intro v91 w91 f91 b91 g91))
              go_wp2_with fail
              go_roundw
              case rel => exact ⟨k + 1, _, _, _, rfl, by omega, by go_num, rfl, f91, HST2, b91⟩
              case measure => simp [intOf]; omega
            · have HST2 := Lib.hid hst
              rw [one1_cons (by rw [HNZ.out]; exact hq)] at HST2
              have i5 : (0 : Int) < (nz : Int) := by omega
              clear hst hq c0
              go_wp2_with fail
              refine (hcmp _ (Below.refl _ wr)).mono ?_
              rintro e w2 ⟨rfl, n2, e2⟩
              have bd : Below wr.heap.size wr w2 := by rw [e2]; exact below_drewN (Below.refl _ wr) n2
              clear e2 hcmp
              rw [HCM.out]
              have hf2 := hf.grow bd
              have hb2 := Keeps.step hb bd
              clear hf hc hc' hr hr'
              go_wp2_with fail
              refine (termSpec (hu.below hb2) (hz.below hb2) (by have := HNU.out; omega) (by have := HNZ.out; omega)).mono ?_
              rintro e w31 ⟨p1, q1, rfl, f51, f61, hd1, b31⟩
              obtain ⟨pa1, pc1, e51⟩ := f51.form
              obtain ⟨qa1, qc1, e61⟩ := f61.form
              skip
              subst e51 e61
              have R1 := Lib.hid (app_ready hb2 hf2 b31 f51 f61)
              go_wp2_with (at_builtin; go_must (refine wpList_appT (W := w) rfl _ _ rfl rfl R1.out.1 hb2.size R1.out.2.2.2.2.1 R1.out.2.2.2.1 rfl R1.out.2.2.2.2.2.1 R1.out.2.2.2.2.2.2 R1.out.2.1 R1.out.2.2.1 hd1 (by have := HAC.out; simp; omega) ?_))
              intro v91 w91 f91 b91 g91
              go_wp2_with fail
              have hlb2 : b < _ := Nat.lt_of_lt_of_le lb0 b91.size
              have k02 := (b91.cell (p := ⟨b, o + k * 2, none⟩) lb0).trans hc0
              have k12 := (b91.cell (p := ⟨b, o + k * 2 + 1, none⟩) lb0).trans hc0'
              have h1x2 := hr0.below b91
              have h2x2 := hr0'.below b91
              have hne2 := own_ne f91 lb0
              have hfd2 := f91.grow ((Below.refl _ _).drew)
              have hbd2 := b91.drew
              go_region_held3 (fun w' => w'.cell? ⟨b, o + k * 2, none⟩ = some (.slice ax x.1.length cx) ∧ w'.cell? ⟨b, o + k * 2 + 1, none⟩ = some (.slice ay x.2.length cy)) (first | go_keep | exact ⟨(b32.cell (p := ⟨b, o + k * 2, none⟩) hlb2).trans k02, (b32.cell (p := ⟨b, o + k * 2 + 1, none⟩) hlb2).trans k12⟩ | exact ⟨g92.cell (cell_alloc ((b32.cell (p := ⟨b, o + k * 2, none⟩) hlb2).trans k02) _) hne2, g92.cell (cell_alloc ((b32.cell (p := ⟨b, o + k * 2 + 1, none⟩) hlb2).trans k12) _) hne2⟩) (first
                | (go_at_call 112; refine (termSpec h1x2.drew h2x2.drew (by omega) (by omega)).mono ?_; rintro e w32 ⟨p2, q2, rfl, f52, f62, hd2, b32⟩; obtain ⟨pa2, pc2, rfl⟩ := f52.form; obtain ⟨qa2, qc2, rfl⟩ := f62.form; have R2 := Lib.hid (app_ready hbd2 hfd2 b32 f52 f62))
                | (refine step_appT (W := w) (by rfl) _ _ (by rfl) (by rfl) R2.out.1 hbd2.size R2.out.2.2.2.2.1 R2.out.2.2.2.1 (by rfl) R2.out.2.2.2.2.2.1 R2.out.2.2.2.2.2.2 R2.out.2.1 R2.out.2.2.1 hd2 (by have := HAC.out; simp; omega) ?_; intro v92 w92 f92 b92 g92))
              go_wp2_with fail
              go_roundw
              case rel => exact ⟨k + 1, _, _, _, rfl, by omega, by go_num, rfl, f92, HST2, b92⟩
              case measure => simp [intOf]; omega
          | true =>
            rw [if_neg (by simp)] at hst
            have HST2 := Lib.hid hst
            clear hst c0
            go_wp2_with fail
            refine (hcmp _ (Below.refl _ wr)).mono ?_
            rintro e w2 ⟨rfl, n2, e2⟩
            have bd : Below wr.heap.size wr w2 := by rw [e2]; exact below_drewN (Below.refl _ wr) n2
            clear e2 hcmp
            rw [HCM.out]
            have hf2 := hf.grow bd
            have hb2 := Keeps.step hb bd
            clear hf hc hc' hr hr'
            go_wp2_with fail
            have hlb1 : b < _ := Nat.lt_of_lt_of_le lb0 hb2.size
            have k01 := (hb2.cell (p := ⟨b, o + k * 2, none⟩) lb0).trans hc0
            have k11 := (hb2.cell (p := ⟨b, o + k * 2 + 1, none⟩) lb0).trans hc0'
            have h1x1 := hr0.below hb2
            have h2x1 := hr0'.below hb2
            have hne1 := own_ne hf2 lb0
            have hfd1 := hf2.grow ((Below.refl _ _).drew)
            have hbd1 := hb2.drew
            go_region_held3 (fun w' => w'.cell? ⟨b, o + k * 2, none⟩ = some (.slice ax x.1.length cx) ∧ w'.cell? ⟨b, o + k * 2 + 1, none⟩ = some (.slice ay x.2.length cy)) (first | go_keep | exact ⟨(b31.cell (p := ⟨b, o + k * 2, none⟩) hlb1).trans k01, (b31.cell (p := ⟨b, o + k * 2 + 1, none⟩) hlb1).trans k11⟩ | exact ⟨g91.cell (cell_alloc ((b31.cell (p := ⟨b, o + k * 2, none⟩) hlb1).trans k01) _) hne1, g91.cell (cell_alloc ((b31.cell (p := ⟨b, o + k * 2 + 1, none⟩) hlb1).trans k11) _) hne1⟩) (first
              | (go_at_call 112; refine (termSpec h1x1.drew h2x1.drew (by omega) (by omega)).mono ?_; rintro e w31 ⟨p1, q1, rfl, f51, f61, hd1, b31⟩; obtain ⟨pa1, pc1, rfl⟩ := f51.form; obtain ⟨qa1, qc1, rfl⟩ := f61.form; have R1 := Lib.hid (app_ready hbd1 hfd1 b31 f51 f61))
              | (refine step_appT (W := w) (by rfl) _ _ (by rfl) (by rfl) R1.out.1 hbd1.size R1.out.2.2.2.2.1 R1.out.2.2.2.1 (by rfl) R1.out.2.2.2.2.2.1 R1.out.2.2.2.2.2.2 R1.out.2.1 R1.out.2.2.1 hd1 (by have := HAC.out; simp; omega) ?_; intro v91 w91 f91 b91 g91))
            go_wp2_with fail
            go_roundw
            case rel => exact ⟨k + 1, _, _, _, rfl, by omega, by go_num, rfl, f91, HST2, b91⟩
            case measure => simp [intOf]; omega
        · rw [if_neg (by omega)] at hst
          have HST2 := Lib.hid hst
          clear hst c0
          go_wp2_with fail
          refine (hcmp _ (Below.refl _ wr)).mono ?_
          rintro e w2 ⟨rfl, n2, e2⟩
          have bd : Below wr.heap.size wr w2 := by rw [e2]; exact below_drewN (Below.refl _ wr) n2
          clear e2 hcmp
          rw [HCM.out]
          have hf2 := hf.grow bd
          have hb2 := Keeps.step hb bd
          clear hf hc hc' hr hr'
          go_wp2_with fail
          have hlb1 : b < _ := Nat.lt_of_lt_of_le lb0 hb2.size
          have k01 := (hb2.cell (p := ⟨b, o + k * 2, none⟩) lb0).trans hc0
          have k11 := (hb2.cell (p := ⟨b, o + k * 2 + 1, none⟩) lb0).trans hc0'
          have h1x1 := hr0.below hb2
          have h2x1 := hr0'.below hb2
          have hne1 := own_ne hf2 lb0
          have hfd1 := hf2.grow ((Below.refl _ _).drew)
          have hbd1 := hb2.drew
          go_region_held3 (fun w' => w'.cell? ⟨b, o + k * 2, none⟩ = some (.slice ax x.1.length cx) ∧ w'.cell? ⟨b, o + k * 2 + 1, none⟩ = some (.slice ay x.2.length cy)) (first | go_keep | exact ⟨(b31.cell (p := ⟨b, o + k * 2, none⟩) hlb1).trans k01, (b31.cell (p := ⟨b, o + k * 2 + 1, none⟩) hlb1).trans k11⟩ | exact ⟨g91.cell (cell_alloc ((b31.cell (p := ⟨b, o + k * 2, none⟩) hlb1).trans k01) _) hne1, g91.cell (cell_alloc ((b31.cell (p := ⟨b, o + k * 2 + 1, none⟩) hlb1).trans k11) _) hne1⟩) (first
            | (go_at_call 112; refine (termSpec h1x1.drew h2x1.drew (by omega) (by omega)).mono ?_; rintro e w31 ⟨p1, q1, rfl, f51, f61, hd1, b31⟩; obtain ⟨pa1, pc1, rfl⟩ := f51.form; obtain ⟨qa1, qc1, rfl⟩ := f61.form; have R1 := Lib.hid (app_ready hbd1 hfd1 b31 f51 f61))
            | (refine step_appT (W := w) (by rfl) _ _ (by rfl) (by rfl) R1.out.1 hbd1.size R1.out.2.2.2.2.1 R1.out.2.2.2.1 (by rfl) R1.out.2.2.2.2.2.1 R1.out.2.2.2.2.2.2 R1.out.2.1 R1.out.2.2.1 hd1 (by have := HAC.out; simp; omega) ?_; intro v91 w91 f91 b91 g91))
          go_wp2_with fail
          go_roundw
          case rel => exact ⟨k + 1, _, _, _, rfl, by omega, by go_num, rfl, f91, HST2, b91⟩
          case measure => simp [intOf]; omega
    · have hkm : k = m := by omega
      have i1 : ¬ (k : Int) < (m : Int) := by omega
      rw [hkm, HN.out] at HA
      clear hkm
      have hac : acc.length + 2 ≤ 33554432 := by
        have := HLE.out m
        rw [HN.out, HA.out] at this
        simp at this
        omega
      have HAC := Lib.hid hac
      clear hac
      cases bb with
      | true =>
        have HE : Hid (endP wd p (putF wd p L) = acc) := Lib.hid (by rw [HA.out]; rfl)
        go_wp2_with fail
        go_ret
        rw [HE.out]
        exact ⟨_, rfl, hf, hb⟩
      | false =>
        have HE : Hid (endP wd p (putF wd p L) = acc ++ one1 wd p) := Lib.hid (by rw [HA.out]; rfl)
        by_cases hq : nz = 0
        · rw [one1_nil (by rw [HNZ.out, hq]), List.append_nil] at HE
          have i5 : ¬ (0 : Int) < (nz : Int) := by omega
          clear hq
          go_wp2_with fail
          go_ret
          rw [HE.out]
          exact ⟨_, rfl, hf, hb⟩
        · rw [one1_cons (by rw [HNZ.out]; exact hq)] at HE
          have i5 : (0 : Int) < (nz : Int) := by omega
          clear hq
          go_wp2_with fail
          refine (termSpec (hu.below hb) (hz.below hb) (by have := HNU.out; omega) (by have := HNZ.out; omega)).mono ?_
          rintro e w31 ⟨p1, q1, rfl, f51, f61, hd1, b31⟩
          obtain ⟨pa1, pc1, e51⟩ := f51.form
          obtain ⟨qa1, qc1, e61⟩ := f61.form
          skip
          subst e51 e61
          have R1 := Lib.hid (app_ready hb hf b31 f51 f61)
          go_wp2_with (at_builtin; go_must (refine wpList_appT (W := w) rfl _ _ rfl rfl R1.out.1 hb.size R1.out.2.2.2.2.1 R1.out.2.2.2.1 rfl R1.out.2.2.2.2.2.1 R1.out.2.2.2.2.2.2 R1.out.2.1 R1.out.2.2.1 hd1 (by have := HAC.out; simp; omega) ?_))
          intro v91 w91 f91 b91 g91
          go_wp2_with fail
          go_ret
          rw [HE.out]
          exact ⟨_, rfl, f91, b91⟩
end Go.Proofs.YtipjomdldjbenaaGreatDoor
