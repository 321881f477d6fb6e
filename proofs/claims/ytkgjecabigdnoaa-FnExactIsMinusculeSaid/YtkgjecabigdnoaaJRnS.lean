/- The norm of a root vector, by the reference; the program's pairing of a row. Condition: sizes up to 2^24. -/
import Derived.Test.YtkgjecabigdnoaaJSymS
import Derived.Test.YtkgjecabigdnoaaJRnP
namespace Go.Proofs.Ytkgjecabigdnoaa
open Go.RowKit
set_option maxRecDepth 20000

/-- What both give. -/
def nrR (c : List (List Int)) (r : List Int) : Int := if finB c = true ∧ isW c r = true then nmI (symP c) c r r.length else 0
def NrC (c : List (List Int)) (r : List Int) (w : World) (e : Ending) (w' : World) : Prop := e = .returned (.int .i64 (nrR c r)) ∧ Below w.heap.size w w'

set_option maxHeartbeats 1000000 in
theorem isRootSpec {S S' : Nat → Prop} {u v : Value} {c : List (List Int)} {l : List Int} {w : World} (h : RII S w u c) (h' : RI S' w v l) (hl : total c ≤ 16777216) (hl' : l.length ≤ 16777216) :
    Calls Try.prog 41 #[u, v] w fun e w' => e = .returned (.bool (isW c l)) ∧ ∃ m, w' = w.drewN m := by
  have hc := isWeightSpec h h' hl hl'
  go_enter Try.func41, Try.ntmps41
  go_wp2_with fail
  refine hc.mono ?_
  rintro e w' ⟨rfl, m, rfl⟩
  go_wp2_with fail
  go_ret
  exact ⟨rfl, m, rfl⟩

set_option maxHeartbeats 1000000 in
theorem isRootImpl {S S' : Nat → Prop} {u v : Value} {c : List (List Int)} {l : List Int} {w : World} (h : RII S w u c) (h' : RI S' w v l) (hl : total c ≤ 16777216) (hl' : l.length ≤ 16777216) :
    Calls Try.prog 42 #[u, v] w fun e w' => e = .returned (.bool (isW c l)) ∧ ∃ m, w' = w.drewN m := by
  have hc := isWeightImpl h h' hl hl'
  go_enter Try.func42, Try.ntmps42
  go_wp2_with fail
  refine hc.mono ?_
  rintro e w' ⟨rfl, m, rfl⟩
  go_wp2_with fail
  go_ret
  exact ⟨rfl, m, rfl⟩

set_option maxHeartbeats 1000000 in
theorem pairRowImpl {S S' : Nat → Prop} {u v : Value} {l r : List Int} {w : World} (h : RI S w u l) (h' : RI S' w v r) (hlr : r.length ≤ l.length) (hl : r.length ≤ 16777216) :
    Calls Try.prog 43 #[u, v] w fun e w' => e = .returned (.int .i64 (prI l r r.length)) ∧ ∃ m, w' = w.drewN m := by
  obtain ⟨a, cap, rfl⟩ := h.form
  obtain ⟨a', cap', rfl⟩ := h'.form
  have HL : Hid (∀ k x y, l[k]? = some x → r[k]? = some y → prI l r (k + 1) = wrap64 (prI l r k + wrap64 (x * y))) := Lib.hid (fun k x y h1 h2 => by simp only [prI]; rw [num_at h1, num_at h2])
  have H0 : Hid (prI l r 0 = 0) := Lib.hid rfl
  generalize hn : l.length = n at *
  generalize hn' : r.length = m at *
  clear hn hn'
  have mixed : Try.prog.follows .mixedOrders = true := by kernel_rfl
  go_enter Try.func43, Try.ntmps43
  go_wp2_with fail
  go_loopw [5, 10] (fun s i wr => ∃ (k d : Nat) (t : Int), k ≤ m ∧ s = .int .i64 t ∧ i = .int .i64 k ∧ wr = w.drewN d ∧ Hid (prI l r k = t)) (fun _ i _ => m - (intOf i).toNat)
  case atStart => exact ⟨0, 0, 0, Nat.zero_le _, rfl, rfl, rfl, H0⟩
  case round =>
    obtain ⟨k, d, t, hk, rfl, rfl, rfl, HT⟩ := hrel
    by_cases hlt : k < m
    · obtain ⟨b, o, x, rfl, hc, hx⟩ := h.at (show k < n by omega)
      obtain ⟨b', o', y, rfl, hc', hy⟩ := h'.at hlt
      have b1 : (k : Int) < (m : Int) := by omega
      have b2 : (k : Int) < (n : Int) := by omega
      have b3 : (0 : Int) ≤ (k : Int) := by omega
      have HT2 := Lib.hid (HL.out k x y hx.out hy.out)
      rw [HT.out] at HT2
      clear hx hy
      go_wp2_with fail
      first | go_quiet (fail) | skip
      go_wp2_with fail
      go_roundw
      case rel => first | exact ⟨k + 1, _, _, by omega, rfl, by go_num, rfl, HT2⟩ | exact ⟨k + 1, d + nq, _, by omega, rfl, by go_num, by simp, HT2⟩
      case measure => simp [intOf]; omega
    · have b1 : ¬ (k : Int) < (m : Int) := by omega
      have hkm : k = m := by omega
      have HR : Hid (t = prI l r m) := Lib.hid (by rw [← HT.out, hkm])
      clear hkm
      go_wp2_with fail
      go_ret
      exact ⟨ret_int HR.out, d, rfl⟩

set_option maxHeartbeats 4000000 in
theorem rootNormSpec {S S' : Nat → Prop} {u v : Value} {c : List (List Int)} {r : List Int} {w : World} (h : RII S w u c) (h' : RI S' w v r) (hl : total c ≤ 16777216) (hl' : r.length ≤ 16777216) :
    Calls Try.prog 19 #[u, v] w (NrC c r w) := by
  have hsy := symSpec h hl
  have mixed : Try.prog.follows .mixedOrders = true := by kernel_rfl
  have HRES : Hid (NrC c r w = fun e w' => e = .returned (.int .i64 (nrR c r)) ∧ Below w.heap.size w w') := Lib.hid rfl
  have HSM : Hid (SmC c w = fun e w' => ∃ r, e = .returned (.tuple #[r, .bool (finB c)]) ∧ FI (New w w') w' r (smR c) ∧ Below w.heap.size w w') := Lib.hid rfl
  have HW := fun (w1 : World) (b1 : Below w.heap.size w w1) => isRootSpec (h.below b1) (h'.below b1) hl hl'
  rw [HSM.out] at hsy
  clear HSM
  cases hF : finB c with
  | false =>
    have HR : Hid (nrR c r = 0) := Lib.hid (by unfold nrR; rw [hF]; simp)
    rw [hF] at hsy
    clear hF
    go_enter Try.func19, Try.ntmps19
    go_wp2_with fail
    refine hsy.mono ?_
    rintro e w1 ⟨r1, rfl, f1, b1⟩
    obtain ⟨a1, c1, rfl⟩ := f1.form
    go_wp2_with fail
    go_ret
    rw [HRES.out]
    exact ⟨ret_int HR.out.symm, b1⟩
  | true =>
    have HSM : Hid (smR c = symP c) := Lib.hid (by unfold smR; rw [hF]; rfl)
    rw [HSM.out] at hsy
    rw [hF] at hsy
    cases hW : isW c r with
    | false =>
      have HR : Hid (nrR c r = 0) := Lib.hid (by unfold nrR; rw [hW]; simp)
      rw [hW] at HW
      clear hF hW
      go_enter Try.func19, Try.ntmps19
      go_wp2_with fail
      refine hsy.mono ?_
      rintro e w1 ⟨r1, rfl, f1, b1⟩
      obtain ⟨a1, c1, rfl⟩ := f1.form
      go_wp2_with fail
      refine (HW w1 b1).mono ?_
      rintro e w2 ⟨rfl, m2, rfl⟩
      go_wp2_with fail
      go_ret
      rw [HRES.out]
      exact ⟨ret_int HR.out.symm, below_drewN b1 m2⟩
    | true =>
      have hfp := finB_p hF
      have hln := (isW_len hW).2.1
      have HR : Hid (nrR c r = nmS (symP c) c r c.length) := Lib.hid (by unfold nrR; rw [if_pos ⟨hF, hW⟩, hln]; exact norms hln _)
      obtain ⟨_, _, hsl, _⟩ := hfp.sym
      have h4 : c.length ≤ 4 := hfp.cart.le
      have HROW : Hid (∀ l ∈ c, l.length = c.length) := Lib.hid hfp.cart.row
      have HS0 : Hid (nmS (symP c) c r 0 = 0) := Lib.hid rfl
      have HS1 : Hid (∀ i, nmS (symP c) c r (i + 1) = nmR (symP c) c r i (nmS (symP c) c r i) c.length) := Lib.hid (fun i => rfl)
      have HR0 : Hid (∀ i s, nmR (symP c) c r i s 0 = s) := Lib.hid (fun i s => rfl)
      have HR1 : Hid (∀ (i k : Nat) (s : Int) (l : List Int) (x y z t : Int), (symP c)[i]? = some x → c[i]? = some l → l[k]? = some y → r[i]? = some z → r[k]? = some t →
          nmR (symP c) c r i s (k + 1) = wrap64 (nmR (symP c) c r i s k + wrap64 (wrap64 (wrap64 (x * y) * z) * t))) := Lib.hid (fun i k s l x y z t h1 h2 h3 h4 h5 => by
        simp only [nmR]; rw [num_at h1, num_at h4, num_at h5, h2]; simp only [Option.getD_some]; rw [num_at h3])
      rw [hW] at HW
      clear hF hW hfp
      have h0 := h
      have h0' := h'
      obtain ⟨au, cu, rfl⟩ := h.form
      obtain ⟨av, cv, rfl⟩ := h'.form
      rw [hln] at HW h' h0' ⊢
      generalize symP c = D at *
      generalize hn : c.length = n at *
      have HN := Lib.hid hn
      clear hn hln
      go_enter Try.func19, Try.ntmps19
      go_wp2_with fail
      refine hsy.mono ?_
      rintro e w1 ⟨r1, rfl, f1, b1⟩
      obtain ⟨a1, c1, rfl⟩ := f1.form
      rw [hsl] at f1 ⊢
      go_wp2_with fail
      refine (HW w1 b1).mono ?_
      rintro e w2 ⟨rfl, m2, rfl⟩
      have b2 := below_drewN b1 m2
      have hd2 : RI (New w w1) (w1.drewN m2) (.slice a1 n c1) D := f1.reads.drewN m2
      have hc2 := h0.below b2
      have hr2 := h0'.below b2
      clear f1 hsy HW hsl
      generalize w1.drewN m2 = w2 at *
      clear b1
      go_wp2_with fail
      go_loopw [7, 8] (fun s ii wr => ∃ (i d : Nat), i ≤ n ∧ ii = .int .i64 i ∧ s = .int .i64 (nmS D c r i) ∧ wr = w2.drewN d) (fun _ ii _ => n - (intOf ii).toNat)
      case atStart => exact ⟨0, 0, Nat.zero_le _, rfl, by rw [HS0.out], rfl⟩
      case round =>
        obtain ⟨i, d, hi, rfl, rfl, rfl⟩ := hrel
        by_cases hin : i < n
        · have i1 : (i : Int) < (n : Int) := by omega
          have i0 : (0 : Int) ≤ (i : Int) := by omega
          have HSi := Lib.hid (HS1.out i)
          have HR0i := Lib.hid (HR0.out i (nmS D c r i))
          have HR1i := Lib.hid (fun k => HR1.out i k (nmS D c r i))
          generalize nmS D c r i = s0 at *
          go_wp2_with fail
          go_loopw [7, 9] (fun s kk wr => ∃ (k d' : Nat), k ≤ n ∧ kk = .int .i64 k ∧ s = .int .i64 (nmR D c r i s0 k) ∧ wr = w2.drewN d') (fun _ kk _ => n - (intOf kk).toNat)
          case atStart => exact ⟨0, d, Nat.zero_le _, rfl, by rw [HR0i.out], rfl⟩
          case round =>
            obtain ⟨k, d', hk, rfl, rfl, rfl⟩ := hrel
            by_cases hkn : k < n
            · have k1 : (k : Int) < (n : Int) := by omega
              have k0 : (0 : Int) ≤ (k : Int) := by omega
              obtain ⟨bx, ox, x, rfl, hcx, hx⟩ := RI.at hd2 hin
              obtain ⟨bz, oz, z, rfl, hcz, hz⟩ := RI.at hr2 hin
              obtain ⟨bt, ot, t, qt, hct, ht⟩ := RI.at hr2 hkn
              simp only [Option.some.injEq, Addr.mk.injEq, and_true] at qt
              obtain ⟨rfl, rfl⟩ := qt
              obtain ⟨bl, ol, rl, l, rfl, hcl, hrl, hl1⟩ := RII.at hc2 hin
              have hlen : l.length = n := by have := HROW.out l (List.mem_of_getElem? hl1.out); rw [this]
              obtain ⟨al, cl, rfl⟩ := hrl.form
              rw [hlen] at hrl hcl
              obtain ⟨by', oy, y, rfl, hcy, hy⟩ := RI.at hrl hkn
              have HST := Lib.hid (HR1i.out k l x y z t hx.out hl1.out hy.out hz.out ht.out)
              generalize nmR D c r i s0 k = s1 at *
              clear hx hz ht hl1 hy hlen hrl
              go_wp2_with fail
              go_quiet (fail)
              go_wp2_with fail
              go_roundw
              case rel => exact ⟨k + 1, d' + nq, by omega, by go_num, by rw [HST.out], by simp⟩
              case measure => simp [intOf]; omega
            · have k1 : ¬ (k : Int) < (n : Int) := by omega
              have hkm : k = n := by omega
              have HE : Hid (nmR D c r i s0 k = nmS D c r (i + 1)) := Lib.hid (by rw [hkm, HSi.out])
              rw [HE.out]
              clear hkm
              go_wp2_with fail
              go_roundw
              case rel => exact ⟨i + 1, d', by omega, by go_num, rfl, rfl⟩
              case measure => simp [intOf]; omega
        · have i1 : ¬ (i : Int) < (n : Int) := by omega
          have hkm : i = n := by omega
          have HE : Hid (nmS D c r i = nrR c r) := Lib.hid (by rw [hkm, HR.out])
          rw [HE.out]
          clear hkm
          go_wp2_with fail
          go_ret
          rw [HRES.out]
          exact ⟨rfl, below_drewN b2 d⟩
theorem rootNormSpec' {S S' : Nat → Prop} {u v : Value} {c : List (List Int)} {r : List Int} {w : World} (h : RII S w u c) (h' : RI S' w v r) (hl : total c ≤ 16777216) (hl' : r.length ≤ 16777216) :
    Calls Try.prog 19 #[u, v] w fun e w' => e = .returned (.int .i64 (nrR c r)) ∧ Below w.heap.size w w' := rootNormSpec h h' hl hl'
end Go.Proofs.Ytkgjecabigdnoaa
