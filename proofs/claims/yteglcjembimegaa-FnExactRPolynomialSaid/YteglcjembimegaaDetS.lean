/- Determinants by the reference. Condition: square matrices of at most four rows, numbers up to 2000. -/
import Derived.Test.YteglcjembimegaaDet
namespace Go.Proofs.Yteglcjembimegaa
open Go.RowKit
set_option maxRecDepth 20000

theorem sgn_odd {k : Nat} (h : k % 2 = 1) (x : Int) : Fin.sgn k x = -x := by unfold Fin.sgn; rw [if_pos h]
theorem sgn_even {k : Nat} (h : ¬ k % 2 = 1) (x : Int) : Fin.sgn k x = x := by unfold Fin.sgn; rw [if_neg h]

set_option maxHeartbeats 2000000 in
theorem detSpecN : ∀ (n : Nat) (S : Nat → Prop) (u : Value) (m : List (List Int)) (w : World), RII S w u m → Fin.Sqr m n → Fin.Small 2000 m → n ≤ 4 →
    Calls Try.prog 50 #[u] w fun e w' => e = .returned (.int .i64 (Fin.det n m)) ∧ Below w.heap.size w w'
  | 0, S, u, m, w, h, hs, _, _ => by
    obtain ⟨a, cap, rfl⟩ := h.form
    rw [hs.len]
    go_enter Try.func50, Try.ntmps50
    go_wp2_with fail
    go_ret
    exact ⟨rfl, Below.refl _ _⟩
  | n + 1, S, u, m, w, h, hs, hsm, hn => by
    have ih := Lib.hid (detSpecN n)
    obtain ⟨a, cap, rfl⟩ := h.form
    have HS := Lib.hid hs
    have HSM := Lib.hid hsm
    rw [hs.len] at h ⊢
    clear hs hsm
    have HR : Hid (Fin.sum (fun j => Fin.sgn j (Fin.en m 0 j * Fin.det n (Fin.without m j))) (n + 1) = Fin.det (n + 1) m) := Lib.hid rfl
    have HR0 : Hid (Fin.sum (fun j => Fin.sgn j (Fin.en m 0 j * Fin.det n (Fin.without m j))) 0 = 0) := Lib.hid rfl
    have HST : Hid (∀ k, Fin.sum (fun j => Fin.sgn j (Fin.en m 0 j * Fin.det n (Fin.without m j))) (k + 1) = Fin.sum (fun j => Fin.sgn j (Fin.en m 0 j * Fin.det n (Fin.without m j))) k + Fin.sgn k (Fin.en m 0 k * Fin.det n (Fin.without m k))) := Lib.hid (fun _ => rfl)
    have HBD : Hid (∀ k, k ≤ 4 → -384000000000000 ≤ Fin.sum (fun j => Fin.sgn j (Fin.en m 0 j * Fin.det n (Fin.without m j))) k ∧ Fin.sum (fun j => Fin.sgn j (Fin.en m 0 j * Fin.det n (Fin.without m j))) k ≤ 384000000000000) := Lib.hid (fun k hk => Fin.sum_bd (by omega) HSM.out hk)
    generalize Fin.det (n + 1) m = res at *
    generalize Fin.sum (fun j => Fin.sgn j (Fin.en m 0 j * Fin.det n (Fin.without m j))) = sm at *
    have z0 : ((n : Int) + 1 == 0) = false := by simp; omega
    go_enter Try.func50, Try.ntmps50
    go_wp2_with fail
    go_loopw [3, 4] (fun d j wr => ∃ (k : Nat) (s : Int), k ≤ n + 1 ∧ j = .int .i64 k ∧ d = .int .i64 s ∧ Hid (s = sm k) ∧ Below w.heap.size w wr) (fun _ j _ => n + 1 - (intOf j).toNat)
    case atStart => exact ⟨0, 0, Nat.zero_le _, rfl, rfl, Lib.hid HR0.out.symm, Below.refl _ _⟩
    case round =>
      obtain ⟨k, s, hk, rfl, rfl, HSM2, hb⟩ := hrel
      by_cases hlt : k < n + 1
      · obtain ⟨b, o, r, l, rfl, hc, hr, hl⟩ := (h.below hb).at (j := 0) (by omega)
        obtain ⟨ar, cr, rfl⟩ := hr.form
        have hln : l.length = n + 1 := HS.out.row l (List.mem_of_getElem? hl.out)
        rw [hln] at hr hc
        rw [Nat.add_zero] at hc
        clear hln
        obtain ⟨b', o', x, rfl, hcx, hx⟩ := hr.at hlt
        have HX : Hid (Fin.en m 0 k = x) := Lib.hid (Fin.en_at hl.out hx.out)
        have hbd := HBD.out k (by omega)
        rw [← HSM2.out] at hbd
        have hpd := Fin.term_bd (n := n) (by omega) HSM.out k
        rw [HX.out] at hpd
        have HSS := HST.out k
        rw [HX.out, ← HSM2.out] at HSS
        have HSS2 := Lib.hid HSS
        clear HSS
        have hw0 : IntKind.i64.wrap (x * Fin.det n (Fin.without m k)) = x * Fin.det n (Fin.without m k) := IntWalk.i64_in _ (by omega)
        have l1 := World.block_lt_of_cell? wr _ hc
        have l2 := World.block_lt_of_cell? wr _ hcx
        have i1 : (k : Int) < ((n + 1 : Nat) : Int) := by omega
        generalize hD : Fin.det n (Fin.without m k) = D at *
        have HD := Lib.hid hD
        clear hD
        go_wp2_with fail
        go_region_held3 (fun w' => w'.cell? ⟨b, o, none⟩ = some (.slice (some ⟨b', o', none⟩) (n + 1) cr) ∧ w'.cell? ⟨b', o' + k, none⟩ = some (.int .i64 x)) (first | go_keep | (go_split_ands; exact ⟨(b4.cell l1).trans (by go_simp), (b4.cell l2).trans (by go_simp)⟩) | (go_split_ands; exact ⟨(b5.cell (Nat.lt_of_lt_of_le l1 b4.size)).trans ((b4.cell l1).trans (by go_simp)), (b5.cell (Nat.lt_of_lt_of_le l2 b4.size)).trans ((b4.cell l2).trans (by go_simp))⟩)) (first
          | (go_at_call 108; refine (withoutSpec ((h.below hb).drew) HS.out (by omega) k).mono ?_; rintro e w4 ⟨r4, rfl, f4, b4⟩)
          | (go_at_call 50; refine (ih.out _ _ _ _ f4.reads (HS.out.without (by omega)) (HSM.out.without k) (by omega)).mono ?_; rintro e w5 ⟨rfl, b5⟩; rw [HD.out]))
        have b14 : Below wr.heap.size wr w4 := ((Below.refl _ wr).drew).trans b4
        have b15 := Keeps.step (Keeps.step hb b14) b5
        clear b4 b5 b14 hw0
        by_cases hk2 : k % 2 = 1
        · have HS3 : Hid (sm (k + 1) = s + -(x * D)) := Lib.hid (by rw [HSS2.out, sgn_odd hk2])
          have e1 : ((k : Int) % 2 == 1) = true := by simp; omega
          clear hk2
          go_wp2_with fail
          go_roundw
          case rel => exact ⟨k + 1, s + -(x * D), by omega, by go_num, by go_num, Lib.hid HS3.out.symm, b15⟩
          case measure => simp [intOf]; omega
        · have HS3 : Hid (sm (k + 1) = s + x * D) := Lib.hid (by rw [HSS2.out, sgn_even hk2])
          have e1 : ((k : Int) % 2 == 1) = false := by simp; omega
          clear hk2
          go_wp2_with fail
          go_roundw
          case rel => exact ⟨k + 1, s + x * D, by omega, by go_num, by go_num, Lib.hid HS3.out.symm, b15⟩
          case measure => simp [intOf]; omega
      · have hkn : k = n + 1 := by omega
        have e0 : Hid (s = res) := Lib.hid (by rw [HSM2.out, hkn, HR.out])
        subst hkn
        go_wp2_with fail
        go_ret
        exact ⟨ret_int e0.out, hb⟩
theorem detSpec {n : Nat} {S : Nat → Prop} {u : Value} {m : List (List Int)} {w : World} (h : RII S w u m) (hs : Fin.Sqr m n) (hm : Fin.Small 2000 m) (hn : n ≤ 4) :
    Calls Try.prog 50 #[u] w fun e w' => e = .returned (.int .i64 (Fin.det n m)) ∧ Below w.heap.size w w' := detSpecN n S u m w h hs hm hn
end Go.Proofs.Yteglcjembimegaa
