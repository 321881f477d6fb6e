/- R-polynomials and numbers of points, by the program and by the reference. Condition: sizes up to 2^24. -/
import Derived.Test.YteglcjembimegaaRpolR
import Derived.Test.YteglcjembimegaaRpolS
import Derived.Test.YteglcjembimegaaStar
import Derived.Test.YteglcjembimegaaWordOf
import Derived.Carry
namespace Go.Proofs.Yteglcjembimegaa
open Go.RowKit
set_option maxRecDepth 20000

def rpOk (c : List (List Int)) (u v : List Int) : Bool := (isWd c u && isWd c v) && decide ((normL c v).length ≤ 10)
def rp (c : List (List Int)) (u v : List Int) : List Int := if rpOk c u v then rI c (image c u) (normL c v) else []
theorem rp_le (c : List (List Int)) (u v : List Int) : (rp c u v).length ≤ 11 := by
  unfold rp
  cases h : rpOk c u v
  · simp
  · have := rI_len c (normL c v) (image c u)
    unfold rpOk at h
    simp only [Bool.and_eq_true, decide_eq_true_eq] at h
    simp
    omega

set_option maxHeartbeats 1000000 in
theorem lengthOfImpl {S S' : Nat → Prop} {u v : Value} {c : List (List Int)} {l : List Int} {w : World} (h : RII S w u c) (h' : RI S' w v l) (hc : CartanP c) (hle : Lets c.length l) (hl' : l.length ≤ 30) :
    Calls Try.prog 61 #[u, v] w fun e w' => e = .returned (.int .i64 (normL c l).length) ∧ Below w.heap.size w w' := by
  go_enter Try.func61, Try.ntmps61
  go_wp2_with fail
  refine (reducedImpl h h' hc hle hl').mono ?_
  rintro e w1 ⟨r1, rfl, f1, b1⟩
  obtain ⟨a1, c1, rfl⟩ := f1.reads.form
  go_wp2_with fail
  go_ret
  exact ⟨rfl, b1⟩

set_option maxHeartbeats 1000000 in
theorem lengthOfSpec {S S' : Nat → Prop} {u v : Value} {c : List (List Int)} {l : List Int} {w : World} (h : RII S w u c) (h' : RI S' w v l) (hw : isWd c l = true) (hl : total c ≤ 16777216) (hl' : l.length ≤ 16777216) :
    Calls Try.prog 57 #[u, v] w fun e w' => e = .returned (.int .i64 (normL c l).length) ∧ Below w.heap.size w w' := by
  have HN : Hid (nform c l = normL c l) := Lib.hid (by unfold nform; rw [if_pos hw])
  have HW := Lib.hid hw
  clear hw
  go_enter Try.func57, Try.ntmps57
  go_wp2_with fail
  refine (normalFormSpec h h' hl hl').mono ?_
  rintro e w1 ⟨r1, rfl, f1, b1⟩
  rw [HN.out] at f1
  rw [HW.out]
  obtain ⟨a1, c1, rfl⟩ := f1.reads.form
  go_wp2_with fail
  go_ret
  exact ⟨rfl, b1⟩

set_option maxHeartbeats 1000000 in
theorem newRatiosImpl {c : List (List Int)} {x : Value} {w : World} {cl : List (List Int)} {S : Nat → Prop} (h : RII S w x cl) :
    Calls Try.prog 63 #[x] w fun e w' => ∃ mb, e = .returned (.agg #[x, .map (some mb)]) ∧ w.heap.size ≤ mb ∧ RMemo c mb 0 w' ∧ Below w.heap.size w w' := by
  obtain ⟨a, cap, rfl⟩ := h.form
  have hmm := @run_makeMap Try.prog
  go_enter Try.func63, Try.ntmps63
  go_wp2_with fail
  have hM := Memo.made (A := AIm c) (F := fun a b => rI c a (nf c 30 b)) (n := c.length) (w.alloc (Obj.cells #[Value.slice a cl.length cap, Value.map (some (w.heap.size + 1))] 65))
  rw [World.size_alloc] at hM
  have x0 : ((w.alloc (Obj.cells #[Value.slice a cl.length cap, Value.map (some (w.heap.size + 1))] 65)).alloc (Obj.map #[] 0)).cell? ⟨w.heap.size, 0, none⟩ = some (Value.slice a cl.length cap) := cell_alloc (by go_simp) _
  have x1 : ((w.alloc (Obj.cells #[Value.slice a cl.length cap, Value.map (some (w.heap.size + 1))] 65)).alloc (Obj.map #[] 0)).cell? ⟨w.heap.size, 1, none⟩ = some (.map (some (w.heap.size + 1))) := cell_alloc (by go_simp) _
  have hb : Below w.heap.size w ((w.alloc (Obj.cells #[Value.slice a cl.length cap, Value.map (some (w.heap.size + 1))] 65)).alloc (Obj.map #[] 0)) := ((Below.refl _ _).alloc (Nat.le_refl _) _).alloc (by simp) _
  generalize (w.alloc (Obj.cells #[Value.slice a cl.length cap, Value.map (some (w.heap.size + 1))] 65)).alloc (Obj.map #[] 0) = w4 at *
  try simp only [Exit.inBlock, Exit.then]
  refine bodyPost_ret (v := .agg #[Value.slice a cl.length cap, Value.map (some (w.heap.size + 1))]) (by simp [results, Try.results63, go_sem, x0, x1]) rfl ?_
  exact ⟨_, rfl, Nat.le_succ _, hM, hb⟩

set_option maxHeartbeats 2000000 in
theorem rpolynomialSpec {S S1 S2 : Nat → Prop} {x y z : Value} {c : List (List Int)} {l l' : List Int} {w : World} (h : RII S w x c) (h1 : RI S1 w y l) (h2 : RI S2 w z l') (hl : total c ≤ 16777216) (hl1 : l.length ≤ 16777216) (hl2 : l'.length ≤ 16777216) :
    Calls Try.prog 25 #[x, y, z] w fun e w' => ∃ r, e = .returned (.tuple #[r, .bool (rpOk c l l')]) ∧ FI (New w w') w' r (rp c l l') ∧ Below w.heap.size w w' := by
  have R1 : Hid (rpOk c l l' = ((isWd c l && isWd c l') && decide ((normL c l').length ≤ 10))) := Lib.hid rfl
  have R2 : Hid (rp c l l' = if rpOk c l l' then rI c (image c l) (normL c l') else []) := Lib.hid rfl
  have HP := Lib.hid (@isWd_parts c l)
  have HP' := Lib.hid (@isWd_parts c l')
  have HR : Hid (isWd c l = true → isWd c l' = true → (normL c l').length ≤ 10 → rS c (image c l) (normL c l') = rI c (image c l) (normL c l')) := Lib.hid (fun e1 e2 e3 => by
    obtain ⟨p1, p2, p3⟩ := isWd_parts e1
    obtain ⟨q1, q2, q3⟩ := isWd_parts e2
    have hc := isC_iff.1 p1
    exact rS_rI hc _ (image_im hc p3 (by omega)) (by omega) (nfl_lets hc _ (image_im hc q3 (by omega)) (by omega)))
  generalize rp c l l' = res at *
  generalize rpOk c l l' = ok at *
  go_enter Try.func25, Try.ntmps25
  go_wp2_with fail
  refine (isWordSpec h h1 hl hl1).mono ?_
  rintro e w1 ⟨rfl, hw1⟩
  have b1 := below_quiet hw1
  clear hw1
  cases e1 : isWd c l
  · have E0 : Hid (ok = false) := Lib.hid (by rw [R1.out, e1]; rfl)
    go_wp2_with fail
    obtain ⟨f1, b1⟩ := fresh_of (w := w1) b1 rfl
    go_ret2
    rw [R2.out, E0.out]
    exact ⟨_, rfl, f1, b1⟩
  · have E1 := Lib.hid e1
    clear e1
    go_wp2_with fail
    refine (isWordSpec (h.below b1) (h2.below b1) hl hl2).mono ?_
    rintro e w2 ⟨rfl, hw2⟩
    have b2 := Keeps.step b1 (below_quiet hw2)
    clear hw2
    cases e2 : isWd c l'
    · have E0 : Hid (ok = false) := Lib.hid (by rw [R1.out, e2, Bool.and_false]; rfl)
      go_wp2_with fail
      obtain ⟨f1, b1⟩ := fresh_of (w := w2) b2 rfl
      go_ret2
      rw [R2.out, E0.out]
      exact ⟨_, rfl, f1, b1⟩
    · have E2 := Lib.hid e2
      clear e2
      go_wp2_with fail
      refine (lengthOfSpec (h.below b2) (h2.below b2) E2.out hl hl2).mono ?_
      rintro e w3 ⟨rfl, b3⟩
      have b3 := Keeps.step b2 b3
      by_cases e3 : (normL c l').length ≤ 10
      · have E0 : Hid (ok = true) := Lib.hid (by rw [R1.out, E1.out, E2.out, decide_eq_true e3]; rfl)
        have E3 := Lib.hid e3
        have i1 : ¬ (10 : Int) < ((normL c l').length : Int) := by omega
        clear e3
        go_wp2_with fail
        refine (normalSpec (h.below b3) (h1.below b3) (isC_iff.1 (HP.out E1.out).1) (HP.out E1.out).2.2 hl (by have := (HP.out E1.out).2.1; omega)).mono ?_
        rintro e w4 ⟨r4, rfl, f4, b4⟩
        have b04 := Keeps.step b3 b4
        go_wp2_with fail
        refine (normalSpec (h.below b04) (h2.below b04) (isC_iff.1 (HP.out E1.out).1) (HP'.out E2.out).2.2 hl (by have := (HP'.out E2.out).2.1; omega)).mono ?_
        rintro e w5 ⟨r5, rfl, f5, b5⟩
        have b05 := Keeps.step b04 b5
        have hc := Lib.hid (isC_iff.1 (HP.out E1.out).1)
        have hI := Lib.hid (image_im hc.out (HP.out E1.out).2.2 (by have := (HP.out E1.out).2.1; omega))
        have f4' : RI (New w3 w4) w5 r4 (nf c 30 (image c l)) := f4.reads.below b5
        go_wp2_with fail
        refine (rP_all hc.out hl (normL c l') (h.below b05) f4' f5.reads hI.out (by have := E3.out; have := (HP.out E1.out).2.1; omega) (nfl_lets hc.out _ (image_im hc.out (HP'.out E2.out).2.2 (by have := (HP'.out E2.out).2.1; omega)) (by have := (HP'.out E2.out).2.1; omega)) (by have := E3.out; omega)).mono ?_
        rintro e w6 ⟨r6, rfl, f6, b6⟩
        have b06 := Keeps.step b05 b6
        go_wp2_with fail
        go_ret2
        rw [R2.out, E0.out, if_pos rfl, ← HR.out E1.out E2.out E3.out]
        exact ⟨_, rfl, f6.mono (fun b hb => ⟨Nat.le_trans b05.size hb.1, hb.2⟩), b06⟩
      · have E0 : Hid (ok = false) := Lib.hid (by rw [R1.out, decide_eq_false e3, Bool.and_false])
        have i1 : (10 : Int) < ((normL c l').length : Int) := by omega
        clear e3
        go_wp2_with fail
        obtain ⟨f1, b1⟩ := fresh_of (w := w3) b3 rfl
        go_ret2
        rw [R2.out, E0.out]
        exact ⟨_, rfl, f1, b1⟩

set_option maxHeartbeats 2000000 in
theorem rpolynomialImpl {S S1 S2 : Nat → Prop} {x y z : Value} {c : List (List Int)} {l l' : List Int} {w : World} (h : RII S w x c) (h1 : RI S1 w y l) (h2 : RI S2 w z l') (hl : total c ≤ 16777216) (hl1 : l.length ≤ 16777216) (hl2 : l'.length ≤ 16777216) :
    Calls Try.prog 26 #[x, y, z] w fun e w' => ∃ r, e = .returned (.tuple #[r, .bool (rpOk c l l')]) ∧ FI (New w w') w' r (rp c l l') ∧ Below w.heap.size w w' := by
  have R1 : Hid (rpOk c l l' = ((isWd c l && isWd c l') && decide ((normL c l').length ≤ 10))) := Lib.hid rfl
  have R2 : Hid (rp c l l' = if rpOk c l l' then rI c (image c l) (normL c l') else []) := Lib.hid rfl
  have HP := Lib.hid (@isWd_parts c l)
  have HP' := Lib.hid (@isWd_parts c l')
  generalize rp c l l' = res at *
  generalize rpOk c l l' = ok at *
  go_enter Try.func26, Try.ntmps26
  go_wp2_with fail
  refine (isWordImpl h h1 hl hl1).mono ?_
  rintro e w1 ⟨rfl, hw1⟩
  have b1 := below_quiet hw1
  clear hw1
  cases e1 : isWd c l
  · have E0 : Hid (ok = false) := Lib.hid (by rw [R1.out, e1]; rfl)
    go_wp2_with fail
    obtain ⟨f1, b1⟩ := fresh_of (w := w1) b1 rfl
    go_ret2
    rw [R2.out, E0.out]
    exact ⟨_, rfl, f1, b1⟩
  · have E1 := Lib.hid e1
    clear e1
    go_wp2_with fail
    refine (isWordImpl (h.below b1) (h2.below b1) hl hl2).mono ?_
    rintro e w2 ⟨rfl, hw2⟩
    have b2 := Keeps.step b1 (below_quiet hw2)
    clear hw2
    cases e2 : isWd c l'
    · have E0 : Hid (ok = false) := Lib.hid (by rw [R1.out, e2, Bool.and_false]; rfl)
      go_wp2_with fail
      obtain ⟨f1, b1⟩ := fresh_of (w := w2) b2 rfl
      go_ret2
      rw [R2.out, E0.out]
      exact ⟨_, rfl, f1, b1⟩
    · have E2 := Lib.hid e2
      clear e2
      go_wp2_with fail
      refine (lengthOfImpl (h.below b2) (h2.below b2) (isC_iff.1 (HP.out E1.out).1) (HP'.out E2.out).2.2 (by have := (HP'.out E2.out).2.1; omega)).mono ?_
      rintro e w3 ⟨rfl, b3⟩
      have b3 := Keeps.step b2 b3
      by_cases e3 : (normL c l').length ≤ 10
      · have E0 : Hid (ok = true) := Lib.hid (by rw [R1.out, E1.out, E2.out, decide_eq_true e3]; rfl)
        have E3 := Lib.hid e3
        have i1 : ¬ (10 : Int) < ((normL c l').length : Int) := by omega
        clear e3
        go_wp2_with fail
        have hc := Lib.hid (isC_iff.1 (HP.out E1.out).1)
        refine (newRatiosImpl (c := c) (h.below b3)).mono ?_
        rintro e w4 ⟨mb, rfl, hmb, M4, b4⟩
        have b04 := Keeps.step b3 b4
        have hlt4 := M4.lt
        have hmb0 : w.heap.size ≤ mb := Nat.le_trans b3.size hmb
        go_wp2_with fail
        refine (imageImpl (h.below b04) (h1.below b04) hc.out (HP.out E1.out).2.2 hl1).mono ?_
        rintro e w5 ⟨r5, rfl, f5, b5⟩
        have b05 := Keeps.step b04 b5
        go_wp2_with fail
        refine (imageImpl (h.below b05) (h2.below b05) hc.out (HP'.out E2.out).2.2 hl2).mono ?_
        rintro e w6 ⟨r6, rfl, f6, b6⟩
        have b06 := Keeps.step b05 b6
        have hI := Lib.hid (image_im hc.out (HP.out E1.out).2.2 (by have := (HP.out E1.out).2.1; omega))
        have hI' := Lib.hid (image_im hc.out (HP'.out E2.out).2.2 (by have := (HP'.out E2.out).2.1; omega))
        have u6 : RI (Nm mb) w6 r5 (image c l) := RL.mono (f5.reads.below b6) (fun b hb e => by have := hb.1; omega) (fun _ _ h => h)
        have v6 : RI (Nm mb) w6 r6 (image c l') := Nm.of f6 (by have := b5.size; omega)
        have c6 : RII (Nm mb) w6 x c := RL.mono (h.old.below b06) (fun b hb e => by have := hb.2; omega) (fun _ _ h => RL.mono h (fun b hb e => by have := hb.2; omega) (fun _ _ h => h))
        have M6 : RMemo c mb 0 w6 := (M4.below b5).below b6
        go_wp2_with fail
        refine (polN_all hc.out (normL c l').length c6 u6 v6 hI.out hI'.out rfl (by have := E3.out; have := (HP.out E1.out).2.1; omega) (by have := (HP'.out E2.out).2.1; omega) M6 (by have := Nat.pow_le_pow_right (n := 2) (by decide) (show (normL c l').length + 1 ≤ 11 by have := E3.out; omega); omega)).mono ?_
        rintro e w7 ⟨r7, k7, rfl, v7, g7, M7, _⟩
        have b07 : Below w.heap.size w w7 := b06.grown g7 b06.size (fun k hk => by cases hk; exact hmb0)
        have L7 := Lib.hid (rI_len c (normL c l') (image c l))
        have v7 : RI (Nm mb) w7 r7 (rI c (image c l) (normL c l')) := v7
        go_wp2_with fail
        refine (cloneInts v7 (by have := L7.out; have := E3.out; omega)).mono ?_
        rintro e w8 ⟨r8, rfl, f8, b8⟩
        go_wp2_with fail
        go_ret2
        rw [R2.out, E0.out, if_pos rfl]
        exact ⟨_, rfl, f8.mono (fun b hb => ⟨Nat.le_trans b07.size hb.1, hb.2⟩), Keeps.step b07 b8⟩
      · have E0 : Hid (ok = false) := Lib.hid (by rw [R1.out, decide_eq_false e3, Bool.and_false])
        have i1 : (10 : Int) < ((normL c l').length : Int) := by omega
        clear e3
        go_wp2_with fail
        obtain ⟨f1, b1⟩ := fresh_of (w := w3) b3 rfl
        go_ret2
        rw [R2.out, E0.out]
        exact ⟨_, rfl, f1, b1⟩

def rich (c : List (List Int)) (u v : List Int) (q : Int) : Int := if rpOk c u v && inR q 2 9 then evalP q (rp c u v) else -1

set_option maxHeartbeats 1000000 in
theorem richardsonSpec {S S1 S2 : Nat → Prop} {x y z : Value} {c : List (List Int)} {l l' : List Int} {w : World} {q : Int} (h : RII S w x c) (h1 : RI S1 w y l) (h2 : RI S2 w z l') (hl : total c ≤ 16777216) (hl1 : l.length ≤ 16777216) (hl2 : l'.length ≤ 16777216) :
    Calls Try.prog 32 #[x, y, z, .int .i64 q] w fun e w' => e = .returned (.int .i64 (rich c l l' q)) ∧ Below w.heap.size w w' := by
  have HR : Hid (rich c l l' q = if rpOk c l l' && inR q 2 9 then evalP q (rp c l l') else -1) := Lib.hid rfl
  have HL := Lib.hid (rp_le c l l')
  generalize rich c l l' q = res at *
  go_enter Try.func32, Try.ntmps32
  go_wp2_with fail
  refine (rpolynomialSpec h h1 h2 hl hl1 hl2).mono ?_
  rintro e w1 ⟨r1, rfl, f1, b1⟩
  cases e1 : rpOk c l l'
  · have HR2 : Hid (res = -1) := Lib.hid (by rw [HR.out, e1]; rfl)
    clear HR
    go_wp2_with fail
    go_ret
    rw [HR2.out]
    exact ⟨rfl, b1⟩
  · go_wp2_with fail
    refine (l1In_any q 2 9 w1).mono ?_
    rintro e w2 ⟨rfl, hw2⟩
    have b2 := Keeps.step b1 (below_same hw2)
    cases e2 : inR q 2 9
    · have HR2 : Hid (res = -1) := Lib.hid (by rw [HR.out, e1, e2]; rfl)
      clear HR
      go_wp2_with fail
      go_ret
      rw [HR2.out]
      exact ⟨rfl, b2⟩
    · have HR2 : Hid (res = evalP q (rp c l l')) := Lib.hid (by rw [HR.out, e1, e2]; rfl)
      clear HR
      have f2 := f1.reads.below (below_same hw2)
      go_wp2_with fail
      refine (evalSpec q f2 (by have := HL.out; omega)).mono ?_
      rintro e w3 ⟨rfl, hw3⟩
      go_wp2_with fail
      go_ret
      rw [HR2.out]
      exact ⟨rfl, Keeps.step b2 (below_same hw3)⟩

set_option maxHeartbeats 1000000 in
theorem richardsonImpl {S S1 S2 : Nat → Prop} {x y z : Value} {c : List (List Int)} {l l' : List Int} {w : World} {q : Int} (h : RII S w x c) (h1 : RI S1 w y l) (h2 : RI S2 w z l') (hl : total c ≤ 16777216) (hl1 : l.length ≤ 16777216) (hl2 : l'.length ≤ 16777216) :
    Calls Try.prog 33 #[x, y, z, .int .i64 q] w fun e w' => e = .returned (.int .i64 (rich c l l' q)) ∧ Below w.heap.size w w' := by
  have HR : Hid (rich c l l' q = if rpOk c l l' && inR q 2 9 then evalP q (rp c l l') else -1) := Lib.hid rfl
  have HL := Lib.hid (rp_le c l l')
  generalize rich c l l' q = res at *
  go_enter Try.func33, Try.ntmps33
  go_wp2_with fail
  refine (rpolynomialImpl h h1 h2 hl hl1 hl2).mono ?_
  rintro e w1 ⟨r1, rfl, f1, b1⟩
  cases e1 : rpOk c l l'
  · have HR2 : Hid (res = -1) := Lib.hid (by rw [HR.out, e1]; rfl)
    clear HR
    go_wp2_with fail
    go_ret
    rw [HR2.out]
    exact ⟨rfl, b1⟩
  · by_cases q2 : q < 2
    · have HR2 : Hid (res = -1) := Lib.hid (by rw [HR.out, e1, inR_no (by omega)]; rfl)
      clear HR
      go_wp2_with fail
      go_ret
      rw [HR2.out]
      exact ⟨rfl, b1⟩
    · by_cases q9 : 9 < q
      · have HR2 : Hid (res = -1) := Lib.hid (by rw [HR.out, e1, inR_no (by omega)]; rfl)
        clear HR
        go_wp2_with fail
        go_ret
        rw [HR2.out]
        exact ⟨rfl, b1⟩
      · have HR2 : Hid (res = evalP q (rp c l l')) := Lib.hid (by rw [HR.out, e1, inR_yes (by omega)]; rfl)
        clear HR
        go_wp2_with fail
        refine (evalImpl q f1.reads (by have := HL.out; omega)).mono ?_
        rintro e w3 ⟨rfl, hw3⟩
        go_wp2_with fail
        go_ret
        rw [HR2.out]
        exact ⟨rfl, Keeps.step b1 (below_same hw3)⟩
end Go.Proofs.Yteglcjembimegaa
