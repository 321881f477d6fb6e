/- Weights as multiples of simple roots, by the program. Condition: a Cartan matrix with a determinant above 0; numbers up to 2000. -/
import Derived.Test.YteglcjembimegaaCoord
import Derived.Test.YteglcjembimegaaDetI
import Derived.Test.YteglcjembimegaaStar
import Derived.Test.YteglcjembimegaaDom
namespace Go.Proofs.Yteglcjembimegaa
open Go.RowKit
set_option maxRecDepth 20000

theorem colM_step {c : List (List Int)} {i : Nat} {v : List Int} {k : Nat} {r : List Int} {x : Int} (hr : c[k]? = some r) (hx : v[k]? = some x) : List.zipWith (fun (r : List Int) (x : Int) => r.set i x) (c.take (k + 1)) (v.take (k + 1)) = List.zipWith (fun (r : List Int) (x : Int) => r.set i x) (c.take k) (v.take k) ++ [r.set i x] := by
  rw [take_step hr, take_step hx, List.zipWith_append]
  · rfl
  · have h1 : k < c.length := (List.getElem?_eq_some_iff.1 hr).1
    have h2 : k < v.length := (List.getElem?_eq_some_iff.1 hx).1
    simp; omega

/-- The quotients up to k, as long as all are whole. -/
def quos (c : List (List Int)) (v : List Int) (d : Int) (k : Nat) : List Int := (coords c v k).map fun x => x.tdiv d
theorem quos_len (c : List (List Int)) (v : List Int) (d : Int) (k : Nat) : (quos c v d k).length = k := by simp [quos, coords_len]
theorem quos_step (c : List (List Int)) (v : List Int) (d : Int) (k : Nat) : quos c v d (k + 1) = quos c v d k ++ [(coord c v k).tdiv d] := by simp [quos, coords]

/-- What asRoot gives: a list and whether all are whole; without that, nil. -/
def AsRoot (c : List (List Int)) (l : List Int) (d : Int) (n : Nat) (w : World) (e : Ending) (w' : World) : Prop :=
  (∃ r, e = .returned (.tuple #[r, .bool true]) ∧ FI (New w w') w' r (quos c l d n) ∧ (∀ k, k < n → (coord c l k).tmod d = 0) ∧ Below w.heap.size w w') ∨
  (e = .returned (.tuple #[.slice none 0 0, .bool false]) ∧ (∃ k, k < n ∧ (coord c l k).tmod d ≠ 0) ∧ Below w.heap.size w w')

set_option maxHeartbeats 2000000 in
theorem asRootImpl {S S' : Nat → Prop} {u v : Value} {c : List (List Int)} {l : List Int} {w : World} (h : RII S w u c) (h' : RI S' w v l) (hc : CartanP c) (hl : total c ≤ 16777216) (hln : l.length = c.length) (hv : ∀ x ∈ l, x.natAbs ≤ 2000) (hd : 0 < Fin.det c.length c) :
    Calls Try.prog 110 #[u, v] w (AsRoot c l (Fin.det c.length c) c.length w) := by
  obtain ⟨a, cap, rfl⟩ := h.form
  obtain ⟨a', cap', rfl⟩ := h'.form
  have hn4 := hc.le
  have HC := Lib.hid hc
  have HS := Lib.hid hc.sq
  have HV := Lib.hid hv
  have HLL := Lib.hid hln
  have HSM : Hid (Fin.Small 2000 c) := Lib.hid (fun r hr x hx => by
    obtain ⟨i, hi, rfl⟩ := List.getElem_of_mem hr
    obtain ⟨j, hj, rfl⟩ := List.getElem_of_mem hx
    have := ent_small hc i j
    have e : ent c i j = c[i][j] := by simp [ent, hi, hj]
    rw [e] at this; omega)
  have HSQ : Hid (Fin.Sqr c c.length) := Lib.hid ⟨rfl, hc.row⟩
  have hdb := Fin.det_abs (B := 2000) c.length HSM.out
  rw [hln] at h' ⊢
  clear hc hv hln
  have HN : Hid (∀ i, Fin.det c.length (colM c i l) = coord c l i) := Lib.hid (fun _ => rfl)
  have HB : Hid (∀ i, (coord c l i).natAbs ≤ Fin.dB 2000 c.length) := Lib.hid (fun i => Fin.det_abs c.length (colM_small HC.out i HV.out))
  have HDB : Hid (Fin.dB 2000 c.length ≤ 384000000000000) := Lib.hid (by
    have : ∀ n, n ≤ 4 → Fin.dB 2000 n ≤ 384000000000000 := by
      intro n hn
      match n, hn with
      | 0, _ => decide
      | 1, _ => decide
      | 2, _ => decide
      | 3, _ => decide
      | 4, _ => decide
    exact this _ hn4)
  generalize hn : c.length = n at *
  have HNN := Lib.hid hn
  clear hn
  have hdb2 := HDB.out
  generalize hdd : Fin.det n c = d at *
  have HDD := Lib.hid hdd
  clear hdd
  have hd1 : 1 ≤ d ∧ d ≤ 384000000000000 := by omega
  clear hdb hdb2
  go_enter Try.func110, Try.ntmps110
  go_wp2_with fail
  refine (detImpl h HSQ.out HSM.out hn4).mono ?_
  rintro e w0 ⟨rfl, b0⟩
  obtain ⟨w1, hw1⟩ : ∃ w1, w1 = w0.alloc (.cells #[] 3) := ⟨_, rfl⟩
  obtain ⟨f1, b1⟩ := fresh_of b0 hw1
  have HQ0 : Hid (quos c l d 0 = []) := Lib.hid rfl
  rw [HDD.out]
  go_wp2_with fail
  rw [← hw1]
  clear hw1
  rw [← HQ0.out] at f1
  go_loopw [7, 19] (fun zz j wr => ∃ (k : Nat) (z : Value), z = zz ∧ k ≤ n ∧ j = .int .i64 k ∧ FI (New w wr) wr z (quos c l d k) ∧ Hid (∀ q, q < k → (coord c l q).tmod d = 0) ∧ Below w.heap.size w wr) (fun _ j _ => n - (intOf j).toNat)
  case atStart => exact ⟨0, _, rfl, Nat.zero_le _, rfl, f1, Lib.hid (fun q hq => by omega), b1⟩
  case round =>
    obtain ⟨i, z, rfl, hi, rfl, hf, HK, hb⟩ := hrel
    have HAL := Lib.hid (quos_len c l d i)
    by_cases hlt : i < n
    · have HST := Lib.hid (quos_step c l d i)
      generalize quos c l d i = A at *
      have i1 : (i : Int) < (n : Int) := by omega
      obtain ⟨M, hM⟩ : ∃ M : Nat → List (List Int), ∀ k, M k = List.zipWith (fun (r : List Int) (x : Int) => r.set i x) (c.take k) (l.take k) := ⟨_, fun _ => rfl⟩
      have HM0 : Hid (M 0 = []) := Lib.hid (by rw [hM]; simp)
      have HMn : Hid (M n = colM c i l) := Lib.hid (by rw [hM, List.take_of_length_le (by rw [HNN.out]; exact Nat.le_refl _), List.take_of_length_le (by rw [HLL.out]; exact Nat.le_refl _)]; rfl)
      have HMS : Hid (∀ k r x, c[k]? = some r → l[k]? = some x → M (k + 1) = M k ++ [r.set i x]) := Lib.hid (fun k r x hr hx => by rw [hM, hM]; exact colM_step hr hx)
      have HML : Hid (∀ k, (M k).length ≤ k) := Lib.hid (fun k => by rw [hM]; simp; omega)
      clear hM
      go_wp2_with fail
      obtain ⟨w2, hw2⟩ : ∃ w2, w2 = wr.alloc (.cells #[] 23) := ⟨_, rfl⟩
      obtain ⟨f2, b2⟩ := FR.empty_of (Below.refl _ wr) hw2
      rw [← hw2]
      clear hw2
      rw [← HM0.out] at f2
      generalize wr = wO at *
      go_loopw [9, 25] (fun mm j wr => ∃ (k : Nat) (m : Value), m = mm ∧ k ≤ n ∧ j = .int .i64 k ∧ FR (New wO wr) wr m (M k) ∧ Below wO.heap.size wO wr) (fun _ j _ => n - (intOf j).toNat)
      case atStart => exact ⟨0, _, rfl, Nat.zero_le _, rfl, f2, b2⟩
      case round =>
        obtain ⟨k, m, rfl, hk, rfl, hfm, hbm⟩ := hrel
        have hml := HML.out k
        have hb0 := Keeps.step hb hbm
        by_cases hltk : k < n
        · obtain ⟨b, o, r, rl, e8, hcr, hr, hrl⟩ := (h.below hb0).at hltk
          subst e8
          obtain ⟨ar, cr, rfl⟩ := hr.form
          have hrn := HS.out.row k rl hrl.out
          rw [hrn] at hr hcr
          obtain ⟨b', o', x, e9, hcx, hx⟩ := (h'.below hb0).at hltk
          subst e9
          have HST2 := Lib.hid (HMS.out k rl x hrl.out hx.out)
          generalize M k = Mk at *
          have i2 : (k : Int) < (n : Int) := by omega
          have HRN := Lib.hid hrn
          clear hrn hrl hx
          go_wp2_with fail
          refine (cloneInts hr (by rw [HRN.out]; omega)).mono ?_
          rintro e w4 ⟨r4, rfl, f4, b4⟩
          obtain ⟨a4, c4, e4⟩ := f4.form
          rw [HRN.out] at e4
          subst e4
          obtain ⟨g, rfl, hg, _⟩ := f4.head (by omega)
          obtain ⟨y, hy⟩ : ∃ y, rl[i]? = some y := ⟨_, List.getElem?_eq_getElem (by rw [HRN.out]; exact hlt)⟩
          have hcy := f4.cell hy hlt
          have hfr := f4.froz HRN.out i
          have hst := Lib.hid (f4.put HRN.out i x)
          have hcx4 := (b4.cell (p := ⟨b', o' + k, none⟩) (World.block_lt_of_cell? wr _ hcx)).trans hcx
          have bset : Below wr.heap.size wr (w4.setCell ⟨g, i, none⟩ (.int .i64 x)) := b4.setCell hg.1 _
          obtain ⟨w5, hw5⟩ : ∃ w5, w5 = w4.setCell ⟨g, i, none⟩ (.int .i64 x) := ⟨_, rfl⟩
          clear hy
          have f5 : FI (New wr w4) w5 (.slice (some ⟨g, 0, none⟩) n c4) (rl.set i x) := by rw [hw5]; exact hst.out
          have hs5 : w5.heap.size = w4.heap.size := by rw [hw5]; exact size_setCell _ _ _
          have b5 : Below wr.heap.size wr w5 := by rw [hw5]; exact bset
          have bb : Below w5.heap.size w5 (w5.alloc (.cells #[.slice (some ⟨g, 0, none⟩) n c4] 23)) := (Below.refl _ _).alloc (Nat.le_refl _) _
          have b15 := Keeps.step b5 bb
          have hcn : (w5.alloc (.cells #[.slice (some ⟨g, 0, none⟩) n c4] 23)).cell? ⟨w5.heap.size, 0, none⟩ = some (.slice (some ⟨g, 0, none⟩) n c4) := by go_simp
          have hy5 : RI (New wO (w5.alloc (.cells #[.slice (some ⟨g, 0, none⟩) n c4] 23))) (w5.alloc (.cells #[.slice (some ⟨g, 0, none⟩) n c4] 23)) (.slice (some ⟨g, 0, none⟩) n c4) (rl.set i x) :=
            ((f5.below bb).reads).mono (fun b hb' => ⟨Nat.le_trans hbm.size hb'.1, Nat.lt_of_lt_of_le (by rw [hs5]; exact hb'.2) bb.size⟩)
          have hln : Mk.length + 1 ≤ 67108864 := by omega
          rw [hs5] at hcn
          rw [hw5] at hcn hy5 b15
          have hfm5 := hfm.grow b15
          have hbm5 := Keeps.step hbm b15
          clear hst
          go_wp2_with (at_builtin; go_must (refine wpList_appR (W := wO) rfl _ _ rfl rfl hfm5 hbm5 rfl hcn hy5 hln ?_))
          intro v7 w7 f7 b7 _
          go_wp2_with fail
          go_roundw
          case rel => exact ⟨k + 1, _, rfl, by omega, by go_num, by rw [HST2.out]; exact f7, b7⟩
          case measure => simp [intOf]; omega
        · have hkn : k = n := by omega
          have i2 : ¬ (k : Int) < (n : Int) := by omega
          rw [hkn, HMn.out] at hfm
          clear hkn
          have HCO := Lib.hid (HN.out i)
          have hbd := HB.out i
          have hbd2 := HDB.out
          have hz := hf.grow hbm
          go_wp2_with fail
          refine (detImpl hfm.reads (colM_sqr HS.out i HLL.out) (colM_small HC.out i HV.out) hn4).mono ?_
          rintro e w5 ⟨rfl, b5⟩
          rw [HCO.out]
          have b05 := Keeps.step hb0 b5
          have hz5 := hz.grow b5
          by_cases hdv : (coord c l i).tmod d = 0
          · have HK2 : Hid (∀ q, q < i + 1 → (coord c l q).tmod d = 0) := Lib.hid (fun q hq => by
              rcases Nat.lt_or_ge q i with h9 | h9
              · exact HK.out q h9
              · have : q = i := by omega
                subst this; exact hdv)
            have j1 : ((coord c l i).tmod d != 0) = false := by simp [hdv]
            have j2 : -384000000000000 ≤ (coord c l i).tdiv d ∧ (coord c l i).tdiv d ≤ 384000000000000 := by
              have := Int.natAbs_tdiv_le_natAbs (coord c l i) d
              omega
            have j3 : -384000000000000 ≤ coord c l i ∧ coord c l i ≤ 384000000000000 := by omega
            clear hdv hbd hbd2
            generalize coord c l i = D at *
            have bb : Below w5.heap.size w5 (w5.alloc (.cells #[.int .i64 (D.tdiv d)] 3)) := (Below.refl _ _).alloc (Nat.le_refl _) _
            go_wp2_with (at_builtin; go_must (refine wpList_app (W := w) rfl _ _ rfl rfl (hz5.grow bb) (Keeps.step b05 bb) rfl (RI.one _ (D.tdiv d)) ?_ ?_))
            · have := HAL.out; simp; omega
            · intro v7 w7 f7 b7 _
              go_wp2_with fail
              go_roundw
              case rel => exact ⟨i + 1, _, rfl, by omega, by go_num, by rw [HST.out]; exact f7, HK2, b7⟩
              case measure => simp [intOf]; omega
          · have j1 : ((coord c l i).tmod d != 0) = true := by simp [hdv]
            have j3 : -384000000000000 ≤ coord c l i ∧ coord c l i ≤ 384000000000000 := by omega
            have HDV := Lib.hid hdv
            clear hdv hbd hbd2
            generalize hDq : coord c l i = D at *
            have HDq := Lib.hid hDq
            clear hDq
            go_wp2_with fail
            go_ret2
            exact .inr ⟨rfl, ⟨i, hlt, by rw [HDq.out]; exact HDV.out⟩, b05⟩
    · have hin : i = n := by omega
      have i1 : ¬ (i : Int) < (n : Int) := by omega
      have HK3 : Hid (∀ q, q < n → (coord c l q).tmod d = 0) := Lib.hid (by rw [← hin]; exact HK.out)
      rw [hin] at hf
      clear hin HAL
      go_wp2_with fail
      go_ret2
      exact .inl ⟨_, rfl, hf, HK3.out, hb⟩
end Go.Proofs.Yteglcjembimegaa
