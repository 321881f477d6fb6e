/- R-polynomials and numbers of points, by the program and by the reference. Condition: sizes up to 2^24. -/
import Derived.Test.YtipjomdldjbenaaJRpolR
import Derived.Test.YtipjomdldjbenaaJRpolS
import Derived.Test.YtipjomdldjbenaaJGStar
import Derived.Test.YtipjomdldjbenaaJGCart
import Derived.Carry
namespace Go.Proofs.Ytipjomdldjbenaa
open Go.RowKit
set_option maxRecDepth 20000

def rpOk (c : List (List Int)) (u v : List Int) : Bool := (isWd c u && isWd c v) && decide ((normL c v).length ≤ 10)
def rp (c : List (List Int)) (u v : List Int) : List Int := if rpOk c u v then rI c (image c u) (normL c v) else []
theorem rp_le (c : List (List Int)) (u v : List Int) : (rp c u v).length ≤ 11 := by
  unfold rp
  cases h : rpOk c u v
  · simp
  · have := rI_len c (normL c v) (image c u)
    unfold rpOk at h
    simp only [Bool.and_eq_true, decide_eq_true_eq] at h
    simp
    omega

set_option maxHeartbeats 1000000 in
theorem lengthOfImpl {S S' : Nat → Prop} {u v : Value} {c : List (List Int)} {l : List Int} {w : World} (h : RII S w u c) (h' : RI S' w v l) (hc : CartanP c) (hle : Lets c.length l) (hl' : l.length ≤ 30) :
    Calls Try.prog 19 #[u, v] w fun e w' => e = .returned (.int .i64 (normL c l).length) ∧ Below w.heap.size w w' := by
  go_enter Try.func19, Try.ntmps19
  go_wp2_with fail
  refine (reducedImpl h h' hc hle hl').mono ?_
  rintro e w1 ⟨r1, rfl, f1, b1⟩
  obtain ⟨a1, c1, rfl⟩ := f1.reads.form
  go_wp2_with fail
  go_ret
  exact ⟨rfl, b1⟩

set_option maxHeartbeats 1000000 in
theorem lengthOfSpec {S S' : Nat → Prop} {u v : Value} {c : List (List Int)} {l : List Int} {w : World} (h : RII S w u c) (h' : RI S' w v l) (hw : isWd c l = true) (hl : total c ≤ 16777216) (hl' : l.length ≤ 16777216) :
    Calls Try.prog 16 #[u, v] w fun e w' => e = .returned (.int .i64 (normL c l).length) ∧ Below w.heap.size w w' := by
  have HN : Hid (nform c l = normL c l) := Lib.hid (by unfold nform; rw [if_pos hw])
  have HW := Lib.hid hw
  clear hw
  go_enter Try.func16, Try.ntmps16
  go_wp2_with fail
  refine (normalFormSpec h h' hl hl').mono ?_
  rintro e w1 ⟨r1, rfl, f1, b1⟩
  rw [HN.out] at f1
  rw [HW.out]
  obtain ⟨a1, c1, rfl⟩ := f1.reads.form
  go_wp2_with fail
  go_ret
  exact ⟨rfl, b1⟩

set_option maxHeartbeats 1000000 in
theorem newRatiosImpl {c : List (List Int)} {x : Value} {w : World} {cl : List (List Int)} {S : Nat → Prop} (h : RII S w x cl) :
    Calls Try.prog 20 #[x] w fun e w' => ∃ mb, e = .returned (.agg #[x, .map (some mb)]) ∧ w.heap.size ≤ mb ∧ RMemo c mb 0 w' ∧ Below w.heap.size w w' := by
  obtain ⟨a, cap, rfl⟩ := h.form
  have hmm := @run_makeMap Try.prog
  go_enter Try.func20, Try.ntmps20
  go_wp2_with fail
  have hM := Memo.made (A := AIm c) (F := fun a b => rI c a (nf c 30 b)) (n := c.length) (w.alloc (Obj.cells #[Value.slice a cl.length cap, Value.map (some (w.heap.size + 1))] 38))
  rw [World.size_alloc] at hM
  have x0 : ((w.alloc (Obj.cells #[Value.slice a cl.length cap, Value.map (some (w.heap.size + 1))] 38)).alloc (Obj.map #[] 0)).cell? ⟨w.heap.size, 0, none⟩ = some (Value.slice a cl.length cap) := cell_alloc (by go_simp) _
  have x1 : ((w.alloc (Obj.cells #[Value.slice a cl.length cap, Value.map (some (w.heap.size + 1))] 38)).alloc (Obj.map #[] 0)).cell? ⟨w.heap.size, 1, none⟩ = some (.map (some (w.heap.size + 1))) := cell_alloc (by go_simp) _
  have hb : Below w.heap.size w ((w.alloc (Obj.cells #[Value.slice a cl.length cap, Value.map (some (w.heap.size + 1))] 38)).alloc (Obj.map #[] 0)) := ((Below.refl _ _).alloc (Nat.le_refl _) _).alloc (by simp) _
  generalize (w.alloc (Obj.cells #[Value.slice a cl.length cap, Value.map (some (w.heap.size + 1))] 38)).alloc (Obj.map #[] 0) = w4 at *
  try simp only [Exit.inBlock, Exit.then]
  refine bodyPost_ret (v := .agg #[Value.slice a cl.length cap, Value.map (some (w.heap.size + 1))]) (by simp [results, Try.results20, go_sem, x0, x1]) rfl ?_
  exact ⟨_, rfl, Nat.le_succ _, hM, hb⟩

set_option maxHeartbeats 2000000 in
theorem rpolynomialSpec {S S1 S2 : Nat → Prop} {x y z : Value} {c : List (List Int)} {l l' : List Int} {w : World} (h : RII S w x c) (h1 : RI S1 w y l) (h2 : RI S2 w z l') (hl : total c ≤ 16777216) (hl1 : l.length ≤ 16777216) (hl2 : l'.length ≤ 16777216) :
    Calls Try.prog 17 #[x, y, z] w fun e w' => ∃ r, e = .returned (.tuple #[r, .bool (rpOk c l l')]) ∧ FI (New w w') w' r (rp c l l') ∧ Below w.heap.size w w' := by
  have R1 : Hid (rpOk c l l' = ((isWd c l && isWd c l') && decide ((normL c l').length ≤ 10))) := Lib.hid rfl
  have R2 : Hid (rp c l l' = if rpOk c l l' then rI c (image c l) (normL c l') else []) := Lib.hid rfl
  have HP := Lib.hid (@isWd_parts c l)
  have HP' := Lib.hid (@isWd_parts c l')
  have HR : Hid (isWd c l = true → isWd c l' = true → (normL c l').length ≤ 10 → rS c (image c l) (normL c l') = rI c (image c l) (normL c l')) := Lib.hid (fun e1 e2 e3 => by
    obtain ⟨p1, p2, p3⟩ := isWd_parts e1
    obtain ⟨q1, q2, q3⟩ := isWd_parts e2
    have hc := isC_iff.1 p1
    exact rS_rI hc _ (image_im hc p3 (by omega)) (by omega) (nfl_lets hc _ (image_im hc q3 (by omega)) (by omega)))
  generalize rp c l l' = res at *
  generalize rpOk c l l' = ok at *
  go_enter Try.func17, Try.ntmps17
  go_wp2_with fail
  refine (isWordSpec h h1 hl hl1).mono ?_
  rintro e w1 ⟨rfl, hw1⟩
  have b1 := below_quiet hw1
  clear hw1
  cases e1 : isWd c l
  · have E0 : Hid (ok = false) := Lib.hid (by rw [R1.out, e1]; rfl)
    go_wp2_with fail
    obtain ⟨f1, b1⟩ := fresh_of (w := w1) b1 rfl
    go_ret2
    rw [R2.out, E0.out]
    exact ⟨_, rfl, f1, b1⟩
  · have E1 := Lib.hid e1
    clear e1
    go_wp2_with fail
    refine (isWordSpec (h.below b1) (h2.below b1) hl hl2).mono ?_
    rintro e w2 ⟨rfl, hw2⟩
    have b2 := Keeps.step b1 (below_quiet hw2)
    clear hw2
    cases e2 : isWd c l'
    · have E0 : Hid (ok = false) := Lib.hid (by rw [R1.out, e2, Bool.and_false]; rfl)
      go_wp2_with fail
      obtain ⟨f1, b1⟩ := fresh_of (w := w2) b2 rfl
      go_ret2
      rw [R2.out, E0.out]
      exact ⟨_, rfl, f1, b1⟩
    · have E2 := Lib.hid e2
      clear e2
      go_wp2_with fail
      refine (lengthOfSpec (h.below b2) (h2.below b2) E2.out hl hl2).mono ?_
      rintro e w3 ⟨rfl, b3⟩
      have b3 := Keeps.step b2 b3
      by_cases e3 : (normL c l').length ≤ 10
      · have E0 : Hid (ok = true) := Lib.hid (by rw [R1.out, E1.out, E2.out, decide_eq_true e3]; rfl)
        have E3 := Lib.hid e3
        have i1 : ¬ (10 : Int) < ((normL c l').length : Int) := by omega
        clear e3
        go_wp2_with fail
        refine (normalSpec (h.below b3) (h1.below b3) (isC_iff.1 (HP.out E1.out).1) (HP.out E1.out).2.2 hl (by have := (HP.out E1.out).2.1; omega)).mono ?_
        rintro e w4 ⟨r4, rfl, f4, b4⟩
        have b04 := Keeps.step b3 b4
        go_wp2_with fail
        refine (normalSpec (h.below b04) (h2.below b04) (isC_iff.1 (HP.out E1.out).1) (HP'.out E2.out).2.2 hl (by have := (HP'.out E2.out).2.1; omega)).mono ?_
        rintro e w5 ⟨r5, rfl, f5, b5⟩
        have b05 := Keeps.step b04 b5
        have hc := Lib.hid (isC_iff.1 (HP.out E1.out).1)
        have hI := Lib.hid (image_im hc.out (HP.out E1.out).2.2 (by have := (HP.out E1.out).2.1; omega))
        have f4' : RI (New w3 w4) w5 r4 (nf c 30 (image c l)) := f4.reads.below b5
        go_wp2_with fail
        refine (rP_all hc.out hl (normL c l') (h.below b05) f4' f5.reads hI.out (by have := E3.out; have := (HP.out E1.out).2.1; omega) (nfl_lets hc.out _ (image_im hc.out (HP'.out E2.out).2.2 (by have := (HP'.out E2.out).2.1; omega)) (by have := (HP'.out E2.out).2.1; omega)) (by have := E3.out; omega)).mono ?_
        rintro e w6 ⟨r6, rfl, f6, b6⟩
        have b06 := Keeps.step b05 b6
        go_wp2_with fail
        go_ret2
        rw [R2.out, E0.out, if_pos rfl, ← HR.out E1.out E2.out E3.out]
        exact ⟨_, rfl, f6.mono (fun b hb => ⟨Nat.le_trans b05.size hb.1, hb.2⟩), b06⟩
      · have E0 : Hid (ok = false) := Lib.hid (by rw [R1.out, decide_eq_false e3, Bool.and_false])
        have i1 : (10 : Int) < ((normL c l').length : Int) := by omega
        clear e3
        go_wp2_with fail
        obtain ⟨f1, b1⟩ := fresh_of (w := w3) b3 rfl
        go_ret2
        rw [R2.out, E0.out]
        exact ⟨_, rfl, f1, b1⟩

def rich (c : List (List Int)) (u v : List Int) (q : Int) : Int := if rpOk c u v && inR q 2 9 then evalP q (rp c u v) else -1

end Go.Proofs.Ytipjomdldjbenaa
