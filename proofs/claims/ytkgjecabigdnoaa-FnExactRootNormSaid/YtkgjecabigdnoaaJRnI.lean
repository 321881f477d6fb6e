/- The norm of a root vector, by the program. Condition: sizes up to 2^24. -/
import Derived.Test.YtkgjecabigdnoaaJRnS
import Derived.Test.YtkgjecabigdnoaaJSymI
namespace Go.Proofs.Ytkgjecabigdnoaa
open Go.RowKit
set_option maxRecDepth 20000

set_option maxHeartbeats 4000000 in
theorem rootNormImpl {S S' : Nat → Prop} {u v : Value} {c : List (List Int)} {r : List Int} {w : World} (h : RII S w u c) (h' : RI S' w v r) (hl : total c ≤ 16777216) (hl' : r.length ≤ 16777216) :
    Calls Try.prog 21 #[u, v] w (NrC c r w) := by
  have hsy := symImpl h hl
  have mixed : Try.prog.follows .mixedOrders = true := by kernel_rfl
  have HRES : Hid (NrC c r w = fun e w' => e = .returned (.int .i64 (nrR c r)) ∧ Below w.heap.size w w') := Lib.hid rfl
  have HSM : Hid (SmC c w = fun e w' => ∃ r, e = .returned (.tuple #[r, .bool (finB c)]) ∧ FI (New w w') w' r (smR c) ∧ Below w.heap.size w w') := Lib.hid rfl
  have HW := fun (w1 : World) (b1 : Below w.heap.size w w1) => isRootImpl (h.below b1) (h'.below b1) hl hl'
  rw [HSM.out] at hsy
  clear HSM
  cases hF : finB c with
  | false =>
    have HR : Hid (nrR c r = 0) := Lib.hid (by unfold nrR; rw [hF]; simp)
    rw [hF] at hsy
    clear hF
    go_enter Try.func21, Try.ntmps21
    go_wp2_with fail
    refine hsy.mono ?_
    rintro e w1 ⟨r1, rfl, f1, b1⟩
    obtain ⟨a1, c1, rfl⟩ := f1.form
    go_wp2_with fail
    go_ret
    rw [HRES.out]
    exact ⟨ret_int HR.out.symm, b1⟩
  | true =>
    have HSM : Hid (smR c = symP c) := Lib.hid (by unfold smR; rw [hF]; rfl)
    rw [HSM.out] at hsy
    rw [hF] at hsy
    cases hW : isW c r with
    | false =>
      have HR : Hid (nrR c r = 0) := Lib.hid (by unfold nrR; rw [hW]; simp)
      rw [hW] at HW
      clear hF hW
      go_enter Try.func21, Try.ntmps21
      go_wp2_with fail
      refine hsy.mono ?_
      rintro e w1 ⟨r1, rfl, f1, b1⟩
      obtain ⟨a1, c1, rfl⟩ := f1.form
      go_wp2_with fail
      refine (HW w1 b1).mono ?_
      rintro e w2 ⟨rfl, m2, rfl⟩
      go_wp2_with fail
      go_ret
      rw [HRES.out]
      exact ⟨ret_int HR.out.symm, below_drewN b1 m2⟩
    | true =>
      have hfp := finB_p hF
      have hln := (isW_len hW).2.1
      have HR : Hid (nrR c r = nmI (symP c) c r c.length) := Lib.hid (by unfold nrR; rw [if_pos ⟨hF, hW⟩, hln])
      obtain ⟨_, _, hsl, _⟩ := hfp.sym
      have h4 : c.length ≤ 4 := hfp.cart.le
      have HROW : Hid (∀ l ∈ c, l.length = c.length) := Lib.hid hfp.cart.row
      have HS0 : Hid (nmI (symP c) c r 0 = 0) := Lib.hid rfl
      have HS1 : Hid (∀ (i : Nat) (l : List Int) (x z : Int), (symP c)[i]? = some x → c[i]? = some l → r[i]? = some z →
          nmI (symP c) c r (i + 1) = wrap64 (nmI (symP c) c r i + wrap64 (wrap64 (x * z) * prI l r r.length))) := Lib.hid (fun i l x z h1 h2 h3 => by
        simp only [nmI]; rw [num_at h1, num_at h3, h2]; rfl)
      have HP := fun (wv : World) (b : Below w.heap.size w wv) (n : Nat) (l : List Int) (vl : Value) (S9 : Nat → Prop) (hvl : RI S9 (wv.drewN n) vl l) (hlr : l.length = c.length) =>
        pairRowImpl (w := wv.drewN n) hvl ((h'.below b).drewN n) (by rw [hlr, hln]; exact Nat.le_refl _) hl'
      rw [hW] at HW
      clear hF hW hfp
      have h0 := h
      have h0' := h'
      obtain ⟨au, cu, rfl⟩ := h.form
      obtain ⟨av, cv, rfl⟩ := h'.form
      rw [hln] at HW h' h0' HP HS1 ⊢
      generalize symP c = D at *
      generalize hn : c.length = n at *
      have HN := Lib.hid hn
      clear hn hln
      go_enter Try.func21, Try.ntmps21
      go_wp2_with fail
      refine hsy.mono ?_
      rintro e w1 ⟨r1, rfl, f1, b1⟩
      obtain ⟨a1, c1, rfl⟩ := f1.form
      rw [hsl] at f1 ⊢
      go_wp2_with fail
      refine (HW w1 b1).mono ?_
      rintro e w2 ⟨rfl, m2, rfl⟩
      have b2 := below_drewN b1 m2
      have hd2 : RI (New w w1) (w1.drewN m2) (.slice a1 n c1) D := f1.reads.drewN m2
      have hc2 := h0.below b2
      have hr2 := h0'.below b2
      clear f1 hsy HW hsl
      generalize w1.drewN m2 = w2 at *
      clear b1
      have HP := Lib.hid HP
      go_wp2_with fail
      go_loopw [7, 25] (fun s ii wr => ∃ (i d : Nat), i ≤ n ∧ ii = .int .i64 i ∧ s = .int .i64 (nmI D c r i) ∧ wr = w2.drewN d) (fun _ ii _ => n - (intOf ii).toNat)
      case atStart => exact ⟨0, 0, Nat.zero_le _, rfl, by rw [HS0.out], rfl⟩
      case round =>
        obtain ⟨i, d, hi, rfl, rfl, hw⟩ := hrel
        have hd2 := hd2.drewN d
        have hc2 := hc2.drewN d
        have hr2 := hr2.drewN d
        have b2 := below_drewN b2 d
        rw [← hw] at hd2 hc2 hr2 b2
        have HW := Lib.hid hw
        clear hw
        by_cases hin : i < n
        · have i1 : (i : Int) < (n : Int) := by omega
          have i0 : (0 : Int) ≤ (i : Int) := by omega
          obtain ⟨bx, ox, x, rfl, hcx, hx⟩ := RI.at hd2 hin
          obtain ⟨bz, oz, z, rfl, hcz, hz⟩ := RI.at hr2 hin
          obtain ⟨bl, ol, rl, l, rfl, hcl, hrl, hl1⟩ := RII.at hc2 hin
          have hlen : l.length = n := by have := HROW.out l (List.mem_of_getElem? hl1.out); rw [this]
          have HST := Lib.hid (HS1.out i l x z hx.out hl1.out hz.out)
          have HPC := Lib.hid (fun q : Nat => HP.out wr b2 q l rl _ (hrl.drewN q) hlen)
          generalize nmI D c r i = s1 at *
          generalize prI l r n = pl at *
          clear hx hz hl1 hlen hrl
          go_wp2_with fail
          go_quiet ((go_at_call 43; exact Calls.quiet_of (HPC.out _)))
          go_wp2_with fail
          go_roundw
          case rel => exact ⟨i + 1, d + nq, by omega, by go_num, by rw [HST.out], by rw [HW.out]; simp⟩
          case measure => simp [intOf]; omega
        · have i1 : ¬ (i : Int) < (n : Int) := by omega
          have hkm : i = n := by omega
          have HE : Hid (nmI D c r i = nrR c r) := Lib.hid (by rw [hkm, HR.out])
          rw [HE.out]
          clear hkm
          go_wp2_with fail
          go_ret
          rw [HRES.out]
          exact ⟨rfl, b2⟩
theorem rootNormImpl' {S S' : Nat → Prop} {u v : Value} {c : List (List Int)} {r : List Int} {w : World} (h : RII S w u c) (h' : RI S' w v r) (hl : total c ≤ 16777216) (hl' : r.length ≤ 16777216) :
    Calls Try.prog 21 #[u, v] w fun e w' => e = .returned (.int .i64 (nrR c r)) ∧ Below w.heap.size w w' := rootNormImpl h h' hl hl'
end Go.Proofs.Ytkgjecabigdnoaa
