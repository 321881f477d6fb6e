/- Normal forms: the reference's, and what both give for a word. Condition: words of at most 30 letters of a Cartan matrix. -/
import Derived.Test.YtfpjojlkodglnaaJNormal
namespace Go.Proofs.Ytfpjojlkodglnaa
open Go.RowKit
set_option maxRecDepth 20000

set_option maxHeartbeats 1000000 in
theorem reducedImpl {S S' : Nat → Prop} {u v : Value} {c : List (List Int)} {l : List Int} {w : World} (h : RII S w u c) (h' : RI S' w v l) (hc : CartanP c) (hle : Lets c.length l) (hl' : l.length ≤ 30) :
    Calls Try.prog 70 #[u, v] w fun e w' => ∃ r, e = .returned r ∧ FI (New w w') w' r (normL c l) ∧ Below w.heap.size w w' := by
  have HI : Hid (nf c 30 (image c l) = normL c l) := Lib.hid rfl
  have HIM := Lib.hid (image_im hc hle hl')
  have HC := Lib.hid hc
  have HLE := Lib.hid hle
  clear hc hle
  go_enter Try.func70, Try.ntmps70
  go_wp2_with fail
  refine (imageImpl h h' HC.out HLE.out (by omega)).mono ?_
  rintro e w2 ⟨r2, rfl, f2, b2⟩
  go_wp2_with fail
  refine (normalImpl (h.below b2) f2.reads HC.out HIM.out hl').mono ?_
  rintro e w3 ⟨r3, rfl, f3, b3⟩
  go_wp2_with fail
  go_ret
  rw [← HI.out]
  exact ⟨_, rfl, f3.mono (fun b hb => ⟨Nat.le_trans b2.size hb.1, hb.2⟩), Keeps.step b2 b3⟩

set_option maxHeartbeats 1000000 in
theorem imageSpec {S S' : Nat → Prop} {u z : Value} {c : List (List Int)} {l : List Int} {w : World} (h : RII S w u c) (h' : RI S' w z l) (hc : CartanP c) (hle : Lets c.length l) (hl : total c ≤ 16777216) (hl' : l.length ≤ 16777216) :
    Calls Try.prog 69 #[u, z] w fun e w' => ∃ r, e = .returned r ∧ FI (New w w') w' r (image c l) ∧ Below w.heap.size w w' := by
  have hcl := hc.le
  obtain ⟨a, cap, rfl⟩ := h.form
  obtain ⟨a', cap', rfl⟩ := h'.form
  have HA0 : Hid (act c (l.drop l.length) (List.replicate c.length 1) = rho c) := Lib.hid (by rw [rho_of (isC_iff.2 hc)]; simp [act])
  have HR : Hid (act c (l.drop 0) (List.replicate c.length 1) = image c l) := Lib.hid (by simp [image])
  have HSq := Lib.hid hc.sq
  have HLE := Lib.hid hle
  generalize hm : l.length = m at *
  have HM := Lib.hid hm
  clear hm hle
  generalize hn : c.length = n at *
  have HN := Lib.hid hn
  clear hn hc
  go_enter Try.func69, Try.ntmps69
  go_wp2_with fail
  refine (rhoOfSpec h hl).mono ?_
  rintro e w2 ⟨v1, rfl, f2, b2⟩
  rw [← HA0.out] at f2
  go_wp2_with fail
  go_loopw [5, 6] (fun z j wr => ∃ (k : Nat), k ≤ m ∧ j = .int .i64 ((k : Int) - 1) ∧ FI (New w wr) wr z (act c (l.drop k) (List.replicate n 1)) ∧ Below w.heap.size w wr) (fun _ j _ => (intOf j + 1).toNat)
  case atStart => exact ⟨m, Nat.le_refl _, by go_num, f2, b2⟩
  case round =>
    obtain ⟨k, hk, rfl, hf, hb⟩ := hrel
    rcases k with _ | k
    · go_wp2_with fail
      go_ret
      rw [← HR.out]
      exact ⟨_, rfl, hf, hb⟩
    · obtain ⟨b, o, x, rfl, hc, hx⟩ := ((h'.below hb)).at (j := k) (by omega)
      have e1 : ((k + 1 : Nat) : Int) - 1 = (k : Int) := by omega
      rw [e1]
      obtain ⟨i, rfl, hi⟩ := lets_at HLE.out hx.out
      have hi : i < n := hi
      have hlen : (act c (l.drop (k + 1)) (List.replicate n 1)).length = n := by rw [act_length]; simp
      have HST : Hid (act c (l.drop k) (List.replicate n 1) = refl c i (act c (l.drop (k + 1)) (List.replicate n 1))) := Lib.hid (by rw [act_step hx.out]; rfl)
      go_wp2_with fail
      refine (reflectSpec (h.below hb) hf.reads i hi HSq.out hlen (by omega)).mono ?_
      rintro e w4 ⟨r, rfl, f4, b4⟩
      go_wp2_with fail
      go_roundw
      case rel => exact ⟨k, by omega, by go_num, by rw [HST.out]; exact f4.mono (fun b hb' => ⟨by have := hb.size; have := hb'.1; omega, hb'.2⟩), Keeps.step hb b4⟩
      case measure => simp [intOf]

set_option maxHeartbeats 1000000 in
theorem formSpec {S S' : Nat → Prop} {u v : Value} {c : List (List Int)} {l : List Int} {w : World} {m : Nat} (h : RII S w u c) (h' : RI S' w v l) (hc : CartanP c) (him : Im c l m) (hm : m ≤ 30) :
    Calls Try.prog 68 #[u, v] w fun e w' => ∃ r, e = .returned r ∧ FI (New w w') w' r (nf c 30 l) ∧ Below w.heap.size w w' := by
  have hn4 := hc.le
  have h' := h'.old
  obtain ⟨a, cap, rfl⟩ := h.form
  have HQ := Lib.hid hc.sq
  have HC := Lib.hid hc
  have HIM := Lib.hid him
  have HR0 : Hid ([] ++ nf c 30 l = nf c 30 l) := Lib.hid rfl
  clear hc him
  go_enter Try.func68, Try.ntmps68
  go_wp2_with fail
  obtain ⟨w1, hw1⟩ : ∃ w1, w1 = w.alloc (.cells #[] 3) := ⟨_, rfl⟩
  obtain ⟨f1, b1⟩ := fresh_of (Below.refl _ w) hw1
  rw [← hw1]
  clear hw1
  have h1 : RI (fun b => (Value.slice (some ⟨w.heap.size, 0, none⟩) 0 0).ownBlock ≠ some b) w1 v l := RL.mono (h'.below b1) (fun b hb e => by have := hb.2; simp [Value.ownBlock] at e; omega) (fun _ _ h => h)
  go_loopw [1, 5, 6] (fun v z j wr => ∃ (acc x : List Int) (m k : Nat), j = .int .i64 k ∧ k + m ≤ 30 ∧ acc.length = k ∧ RI (fun b => z.ownBlock ≠ some b) wr v x ∧ FI (New w wr) wr z acc ∧ Hid (Im c x m) ∧ Hid (acc ++ nf c 30 x = nf c 30 l) ∧ Below w.heap.size w wr) (fun _ _ j _ => 31 - (intOf j).toNat)
  case atStart => exact ⟨[], l, m, 0, rfl, by omega, rfl, h1, f1, HIM, HR0, b1⟩
  case round =>
    obtain ⟨acc, x, m, k, rfl, hkm, hacc, hv, hz, HI, HR, hb⟩ := hrel
    obtain ⟨av, capv, rfl⟩ := hv.form
    have hxl : x.length = c.length := HI.out.len
    rw [hxl] at hv ⊢
    have HF0 : Hid ((firstN (x.drop 0)).map (· + 0) = firstN x) := Lib.hid (by simp)
    have HE : Hid (firstN (x.drop c.length) = none) := Lib.hid (by rw [← hxl]; simp [firstN])
    have HXL := Lib.hid hxl
    clear hxl
    go_wp2_with fail
    go_loop [7] (fun j => ∃ (i : Nat), i ≤ c.length ∧ j = .int .i64 i ∧ Hid ((firstN (x.drop i)).map (· + i) = firstN x)) (fun j => c.length - (intOf j).toNat)
    case atStart => exact ⟨0, Nat.zero_le _, rfl, HF0⟩
    case round =>
      obtain ⟨i, hi, rfl, HK⟩ := hrel
      by_cases hlt : i < c.length
      · obtain ⟨b, o, y, rfl, hcy, hy⟩ := hv.at hlt
        by_cases hy0 : 0 < y
        · have HK2 : Hid ((firstN (x.drop (i + 1))).map (· + (i + 1)) = firstN x) := Lib.hid (by
            rw [← HK.out, firstN_drop hy.out (by omega), Option.map_map]
            congr 1
            funext j
            simp only [Function.comp_apply]
            omega)
          go_wp2_with fail
          go_round
          case rel => exact ⟨i + 1, by omega, by go_num, HK2⟩
          case measure => simp [intOf]; omega
        · have hyn : y < 0 := by
            have := HI.out.ne HC.out (List.mem_of_getElem? hy.out)
            omega
          have e : firstN x = some i := by rw [← HK.out, firstN_hit hy.out hyn]; simp
          obtain ⟨m', hm', him', hnf⟩ := nf_turn HC.out HI.out (by omega) e
          have HI2 := Lib.hid him'
          have HR2 : Hid ((acc ++ [(i : Int)]) ++ nf c 30 (refl c i x) = nf c 30 l) := Lib.hid (by rw [← HR.out, hnf, List.append_assoc]; rfl)
          clear him' hnf e
          have hic : ¬ ((i : Int) = (c.length : Int)) := by omega
          have bb : ∀ wr : World, Below wr.heap.size wr (wr.alloc (.cells #[.int .i64 i] 3)) := fun wr => (Below.refl wr.heap.size wr).alloc (Nat.le_refl _) _
          go_wp2_with (at_builtin; go_must (refine wpList_app (W := w) rfl _ _ rfl rfl (hz.grow (bb _)) (Keeps.step hb (bb _)) rfl (RI.one _ i) ?_ ?_))
          · omega
          · intro v' w2 f3 b4 hg
            have hsz : wr.heap.size ≤ w2.heap.size := Nat.le_trans (bb wr).size hg.size
            have hv2 : RI Any w2 (.slice (some ⟨b, o, none⟩) c.length capv) x := RI.any (RI.keep hv (fun d hd hl => by
              rw [hg.block d (Nat.lt_of_lt_of_le hl (bb wr).size) (fun e => hd e.symm)]
              exact (bb wr).block d hl))
            go_wp2_with fail
            refine (reflectSpec (h.below b4) hv2 i hlt HQ.out HXL.out (by omega)).mono ?_
            rintro e w4 ⟨r4, rfl, f4, b5⟩
            have f5 := f3.grow b5
            have hv4 : RI (fun b => v'.ownBlock ≠ some b) w4 r4 (refl c i x) := RL.mono f4.reads (fun b hb e => by have := (f3.2 b e).2; have := hb.1; omega) (fun _ _ h => h)
            go_wp2_with fail
            go_roundw
            case rel => exact ⟨acc ++ [(i : Int)], refl c i x, m', k + 1, by go_num, by omega, by simp; omega, hv4, f5, HI2, HR2, Keeps.step b4 b5⟩
            case measure => simp [intOf]; omega
      · have hic : i = c.length := by omega
        have e : firstN x = none := by rw [← HK.out, hic, HE.out]; rfl
        have e1 : Hid (acc = nf c 30 l) := Lib.hid (by rw [← HR.out, nf_end e, List.append_nil])
        subst hic
        go_wp2_with fail
        go_ret
        rw [← e1.out]
        exact ⟨_, rfl, hz, hb⟩

set_option maxHeartbeats 1000000 in
theorem normalSpec {S S' : Nat → Prop} {u v : Value} {c : List (List Int)} {l : List Int} {w : World} (h : RII S w u c) (h' : RI S' w v l) (hc : CartanP c) (hle : Lets c.length l) (hl : total c ≤ 16777216) (hl' : l.length ≤ 30) :
    Calls Try.prog 44 #[u, v] w fun e w' => ∃ r, e = .returned r ∧ FI (New w w') w' r (normL c l) ∧ Below w.heap.size w w' := by
  have HI : Hid (nf c 30 (image c l) = normL c l) := Lib.hid rfl
  have HIM := Lib.hid (image_im hc hle hl')
  have HC := Lib.hid hc
  have HLE := Lib.hid hle
  clear hc hle
  go_enter Try.func44, Try.ntmps44
  go_wp2_with fail
  refine (imageSpec h h' HC.out HLE.out hl (by omega)).mono ?_
  rintro e w2 ⟨r2, rfl, f2, b2⟩
  go_wp2_with fail
  refine (formSpec (h.below b2) f2.reads HC.out HIM.out hl').mono ?_
  rintro e w3 ⟨r3, rfl, f3, b3⟩
  go_wp2_with fail
  go_ret
  rw [← HI.out]
  exact ⟨_, rfl, f3.mono (fun b hb => ⟨Nat.le_trans b2.size hb.1, hb.2⟩), Keeps.step b2 b3⟩

/-- The normal form of a word, if it is one. -/
def nform (c : List (List Int)) (l : List Int) : List Int := if isWd c l then normL c l else []
theorem nform_le (c : List (List Int)) (l : List Int) : (nform c l).length ≤ l.length := by
  unfold nform
  cases h : isWd c l
  · simp
  · obtain ⟨h1, h2, h3⟩ := isWd_parts h
    exact normL_le (isC_iff.1 h1) h3 (by omega)

set_option maxHeartbeats 1000000 in
theorem normalFormSpec {S S' : Nat → Prop} {u v : Value} {c : List (List Int)} {l : List Int} {w : World} (h : RII S w u c) (h' : RI S' w v l) (hl : total c ≤ 16777216) (hl' : l.length ≤ 16777216) :
    Calls Try.prog 73 #[u, v] w fun e w' => ∃ r, e = .returned (.tuple #[r, .bool (isWd c l)]) ∧ FI (New w w') w' r (nform c l) ∧ Below w.heap.size w w' := by
  have HY : Hid (isWd c l = true → nform c l = normL c l ∧ CartanP c ∧ Lets c.length l ∧ l.length ≤ 30) := Lib.hid (fun h => by
    obtain ⟨h1, h2, h3⟩ := isWd_parts h
    exact ⟨by unfold nform; rw [if_pos h], isC_iff.1 h1, h3, by omega⟩)
  have HN : Hid (isWd c l = false → nform c l = []) := Lib.hid (fun h => by unfold nform; rw [h]; rfl)
  go_enter Try.func73, Try.ntmps73
  go_wp2_with fail
  refine (isWordSpec h h' hl hl').mono ?_
  rintro e w3 ⟨rfl, hw3⟩
  have b3 := below_quiet hw3
  clear hw3
  cases hg : isWd c l
  · have e0 := HN.out hg
    go_wp2_with fail
    obtain ⟨f1, b1⟩ := fresh_of (w := w3) b3 rfl
    go_ret2
    rw [e0, hg]
    exact ⟨_, rfl, f1, b1⟩
  · obtain ⟨e0, hC, hL, hlen⟩ := HY.out hg
    have E0 := Lib.hid e0
    have HC := Lib.hid hC
    have HL := Lib.hid hL
    clear hC hL e0
    go_wp2_with fail
    refine (normalSpec (h.below b3) (h'.below b3) HC.out HL.out hl hlen).mono ?_
    rintro e w4 ⟨r4, rfl, f4, b4⟩
    go_wp2_with fail
    go_ret2
    rw [E0.out, hg]
    exact ⟨_, rfl, f4.mono (fun b hb => ⟨Nat.le_trans b3.size hb.1, hb.2⟩), Keeps.step b3 b4⟩
end Go.Proofs.Ytfpjojlkodglnaa
