/- Putting terms in order by their words: insertion. Condition: at most 2^20 terms, words of at most 2^24 letters. -/
import Derived.Test.YtfpjojlkodglnaaJRowT
import Derived.Test.YtfpjojlkodglnaaJCmp
import Derived.Deep.RegionHeld3
namespace Go.Proofs.Ytfpjojlkodglnaa
open Go.RowKit
open Mrg
set_option maxRecDepth 20000

theorem cmpL_swap : ∀ x y : List Int, cmpL y x = -cmpL x y
  | [], [] => by simp [cmpL]
  | [], _ :: _ => by simp [cmpL]
  | _ :: _, [] => by simp [cmpL]
  | a :: x, b :: y => by
    have := cmpL_swap x y
    simp only [cmpL]
    rcases Int.lt_trichotomy a b with h | h | h
    · rw [if_neg (by omega), if_pos h, if_pos h]; rfl
    · subst h; rw [if_neg (by omega), if_neg (by omega), if_neg (by omega), if_neg (by omega)]; exact this
    · rw [if_pos h, if_neg (by omega), if_pos h]
theorem cmpW_swap (x y : List Int) : cmpW y x = -cmpW x y := by
  unfold cmpW
  by_cases h : x.length = y.length
  · rw [if_pos h, if_pos h.symm]; exact cmpL_swap x y
  · rw [if_neg h, if_neg (fun e => h e.symm)]
    by_cases h2 : x.length < y.length
    · rw [if_pos h2, if_neg (by omega)]; rfl
    · rw [if_neg h2, if_pos (by omega)]
theorem cmpL_trans : ∀ {x y z : List Int}, x.length = y.length → y.length = z.length → cmpL x y ≤ 0 → cmpL y z ≤ 0 → cmpL x z ≤ 0
  | [], _, _, _, _, _, _ => by simp [cmpL]
  | a :: x, b :: y, c :: z, h1, h2, h3, h4 => by
    have ih := cmpL_trans (x := x) (y := y) (z := z) (by simpa using h1) (by simpa using h2)
    simp only [cmpL] at h3 h4 ⊢
    by_cases q1 : a < b
    · by_cases q2 : b < c
      · rw [if_pos (by omega)]; decide
      · rw [if_neg q2] at h4
        by_cases q3 : c < b
        · rw [if_pos q3] at h4; omega
        · rw [if_pos (by omega)]; decide
    · rw [if_neg q1] at h3
      by_cases q0 : b < a
      · rw [if_pos q0] at h3; omega
      · rw [if_neg q0] at h3
        obtain rfl : a = b := by omega
        by_cases q2 : a < c
        · rw [if_pos q2]; decide
        · rw [if_neg q2] at h4 ⊢
          by_cases q3 : c < a
          · rw [if_pos q3] at h4; omega
          · rw [if_neg q3] at h4 ⊢
            exact ih h3 h4
theorem cmpW_trans {x y z : List Int} (h1 : cmpW x y ≤ 0) (h2 : cmpW y z ≤ 0) : cmpW x z ≤ 0 := by
  unfold cmpW at *
  by_cases a : x.length = y.length
  · rw [if_pos a] at h1
    by_cases b : y.length = z.length
    · rw [if_pos b] at h2
      rw [if_pos (a.trans b)]
      exact cmpL_trans a b h1 h2
    · rw [if_neg b] at h2
      rw [if_neg (by omega)]
      by_cases c : y.length < z.length
      · rw [if_pos (by omega)]; decide
      · rw [if_neg c] at h2; omega
  · rw [if_neg a] at h1
    by_cases a2 : x.length < y.length
    · by_cases b : y.length = z.length
      · rw [if_neg (by omega), if_pos (by omega)]; decide
      · rw [if_neg b] at h2
        by_cases c : y.length < z.length
        · rw [if_neg (by omega), if_pos (by omega)]; decide
        · rw [if_neg c] at h2; omega
    · rw [if_neg a2] at h1; omega

/-- The order of terms by their words. -/
def leT (e f : El) : Prop := cmpW e.x f.x ≤ 0
theorem leT_trans (a b c : El) (h1 : leT a b) (h2 : leT b c) : leT a c := cmpW_trans h1 h2
theorem leT_not {e f : El} (h : ¬ cmpW e.x f.x < 0) : leT f e := by unfold leT; rw [cmpW_swap]; omega
theorem leT_lt {e f : El} (h : cmpW e.x f.x < 0) : leT e f := by unfold leT; omega

/-- The words are not too long. -/
def WdOk (L : List El) : Prop := ∀ e ∈ L, e.x.length ≤ 16777216

set_option maxHeartbeats 1000000 in
theorem cmpT {S S' : Nat → Prop} {W : World} {r1 r1' r2 r2' : Value} {x y : List Int} (h : RI S W r1 x) (h' : RI S' W r2 y) (hl : x.length ≤ 16777216) (hl' : y.length ≤ 16777216) (h1 : ∃ a n c, r1' = .slice a n c) (h2 : ∃ a n c, r2' = .slice a n c) :
    Calls Try.prog 62 #[.agg #[r1, r1'], .agg #[r2, r2']] W fun e w' => e = .returned (.int .i64 (cmpW x y)) ∧ Below W.heap.size W w' := by
  obtain ⟨a1, n1, c1, rfl⟩ := h1
  obtain ⟨a2, n2, c2, rfl⟩ := h2
  obtain ⟨a3, c3, rfl⟩ := h.form
  obtain ⟨a4, c4, rfl⟩ := h'.form
  go_enter Try.func62, Try.ntmps62
  have bb : Below W.heap.size W ((W.alloc (.cells #[.slice a3 x.length c3, .slice a1 n1 c1] 48)).alloc (.cells #[.slice a4 y.length c4, .slice a2 n2 c2] 48)) := ((Below.refl _ _).alloc (Nat.le_refl _) _).alloc (by simp) _
  go_wp2_with fail
  refine (compareWordsImpl (h.below bb) (h'.below bb) hl hl').mono ?_
  rintro e w1 ⟨rfl, b1⟩
  go_wp2_with fail
  go_ret
  exact ⟨rfl, Keeps.step bb b1⟩

theorem RowT.wds {blk N cap : Nat} {W : World} {L : List El} {j : Nat} {e : El} (_ : RowT blk N cap W L) (hw : WdOk L) (hj : L[j]? = some e) : e.x.length ≤ 16777216 := hw e (List.mem_of_getElem? hj)
theorem wdOk_perm {L M : List El} (h : WdOk L) (p : M.Perm L) : WdOk M := fun e he => h e (p.mem_iff.1 he)

set_option maxHeartbeats 2000000 in
theorem insertionT {blk N cap : Nat} {A M Z L : List El} {w : World} {a b : Nat} (h : RowT blk N cap w L) (hL : L = A ++ (M ++ Z)) (ha : A.length = a) (hb : A.length + M.length = b) (hN : N ≤ 1048576) (hwd : WdOk L) :
    Calls Try.prog 89 #[.slice (some ⟨blk, 0, none⟩) N cap, .int .i64 a, .int .i64 b, .func (.func 62) #[] #[]] w fun e w' =>
      e = .returned (.tuple #[]) ∧ ∃ M', M'.Perm M ∧ Srt leT M' ∧ RowT blk N cap w' (A ++ (M' ++ Z)) ∧ w.grownBy w' (some blk) := by
  have hlen := h.1
  have hbN : b ≤ N := by rw [hL] at hlen; simp at hlen; omega
  have mixed : Try.prog.follows .mixedOrders = true := by kernel_rfl
  subst hL
  have HWD := Lib.hid hwd
  have HA := Lib.hid ha
  have HB := Lib.hid hb
  have hab : a ≤ b := by omega
  clear hwd ha hb hlen
  go_enter Try.func89, Try.ntmps89
  go_wp2_with fail
  go_loopw [8] (fun iv wr => ∃ (I : Nat) (P R : List El), iv = .int .i64 (I : Int) ∧ a + 1 ≤ I ∧ I ≤ b + 1 ∧ Hid (R ≠ [] → a + P.length = I) ∧ Hid (a + P.length ≤ I) ∧ Hid (P.length + R.length = M.length) ∧ Hid (Srt leT P) ∧ Hid ((P ++ R).Perm M) ∧ RowT blk N cap wr (A ++ (P ++ (R ++ Z))) ∧ w.grownBy wr (some blk)) (fun iv _ => b + 1 - (intOf iv).toNat)
  case atStart =>
    refine ⟨a + 1, M.take 1, M.drop 1, by go_num, Nat.le_refl _, by omega, Lib.hid (fun hne => ?_), Lib.hid ?_, Lib.hid ?_, Lib.hid ?_, Lib.hid (by rw [List.take_append_drop]), ?_, World.grownBy.refl _ _⟩
    · cases M with
      | nil => simp at hne
      | cons x M => simp
    · have : (M.take 1).length ≤ 1 := by simp; omega
      omega
    · simp; omega
    · cases M with
      | nil => simp
      | cons x M => simp
    · rw [← List.append_assoc (M.take 1), List.take_append_drop]; exact h
  case round =>
    obtain ⟨I, P, R, rfl, hI1, hI2, HPR, HPI, HLN, HS, HPM, hr, hg⟩ := hrel
    cases R with
    | nil =>
      have i1 : ¬ (I : Int) < (b : Int) := by have h9 := HLN.out; have := HA.out; have := HB.out; have := HPI.out; rw [List.length_nil] at h9; omega
      go_wp2_with fail
      go_end0
      exact ⟨rfl, P, by have := HPM.out; rwa [List.append_nil] at this, HS.out, hr, hg⟩
    | cons x R =>
      have hPI := HPR.out (by simp)
      have hIb : I < b := by have h9 := HLN.out; have := HA.out; have := HB.out; rw [List.length_cons] at h9; omega
      have i1 : (I : Int) < (b : Int) := by omega
      have HWL : Hid (WdOk (x :: P)) := Lib.hid (fun e he => HWD.out e (by
        have hm : e ∈ M := HPM.out.mem_iff.1 (by
          rcases List.mem_cons.1 he with rfl | he
          · simp
          · simp [he])
        simp [hm]))
      have h0 : RowT blk N cap wr (A ++ (ins P (I - a) x ++ (R ++ Z))) := by
        rw [show I - a = P.length by omega, ins_end]
        simpa using hr
      have HPI2 := Lib.hid hPI
      clear hr hPI
      go_wp2_with fail
      go_loopw [9] (fun jv wr => ∃ (J : Nat), jv = .int .i64 (J : Int) ∧ a ≤ J ∧ J ≤ I ∧ Hid (∀ y, P[J - a]? = some y → leT x y) ∧ RowT blk N cap wr (A ++ (ins P (J - a) x ++ (R ++ Z))) ∧ w.grownBy wr (some blk)) (fun jv _ => (intOf jv).toNat)
      case atStart => exact ⟨I, rfl, by omega, Nat.le_refl _, Lib.hid (fun y hy => by rw [List.getElem?_eq_none (by have := HPI2.out; omega)] at hy; cases hy), h0, hg⟩
      case round =>
        obtain ⟨J, rfl, hJ1, hJ2, HJ, hrj, hgj⟩ := hrel
        have HEND : Hid ((J = a ∨ ∃ y, P[J - a - 1]? = some y ∧ leT y x) → Srt leT (ins P (J - a) x)) := Lib.hid (fun hc => ins_srt leT_trans HS.out (by
          rcases hc with rfl | hc
          · exact .inl (Nat.sub_self _)
          · exact .inr hc) HJ.out)
        have HNEW : Hid (∀ wr', RowT blk N cap wr' (A ++ (ins P (J - a) x ++ (R ++ Z))) → Srt leT (ins P (J - a) x) → w.grownBy wr' (some blk) → ∃ (I' : Nat) (P' R' : List El), Value.int IntKind.i64 ((I : Int) + 1) = .int .i64 (I' : Int) ∧ a + 1 ≤ I' ∧ I' ≤ b + 1 ∧ Hid (R' ≠ [] → a + P'.length = I') ∧ Hid (a + P'.length ≤ I') ∧ Hid (P'.length + R'.length = M.length) ∧ Hid (Srt leT P') ∧ Hid ((P' ++ R').Perm M) ∧ RowT blk N cap wr' (A ++ (P' ++ (R' ++ Z))) ∧ w.grownBy wr' (some blk)) := Lib.hid (fun wr' q1 q2 q3 => by
          have hl := ins_len P (J - a) x
          have := HPI2.out
          refine ⟨I + 1, ins P (J - a) x, R, by go_num, by omega, by omega, Lib.hid (fun _ => by omega), Lib.hid (by omega), Lib.hid (by have h9 := HLN.out; rw [List.length_cons] at h9; omega), Lib.hid q2, Lib.hid ?_, q1, q3⟩
          refine ((ins_perm P (J - a) x).append_right R).trans (List.Perm.trans ?_ HPM.out)
          simp only [List.cons_append]
          exact List.perm_middle.symm)
        by_cases hja : a < J
        · obtain ⟨jp, rfl⟩ : ∃ jp, J = jp + 1 := ⟨J - 1, by omega⟩
          have hvP : jp - a < P.length := by have := HPI2.out; omega
          obtain ⟨y, hy⟩ : ∃ y, P[jp - a]? = some y := ⟨_, List.getElem?_eq_getElem hvP⟩
          have hst := ins_step A (R ++ Z) (x := x) hy
          have e1 : A.length + (jp - a) = jp := by have := HA.out; omega
          rw [e1, show jp - a + 1 = jp + 1 - a by omega] at hst
          obtain ⟨_, _, _, hset, hgy, hgx⟩ := hst
          obtain ⟨ax, lx, qx, ax', lx', qx', ex, ex'⟩ := hrj.forms hgx
          obtain ⟨ay, ly, qy, ay', ly', qy', ey, ey'⟩ := hrj.forms hgy
          obtain ⟨cx, cx'⟩ := hrj.cell hgx
          obtain ⟨cy, cy'⟩ := hrj.cell hgy
          have rx := (hrj.reads hgx).1
          have ry := (hrj.reads hgy).1
          rw [ex] at cx rx
          rw [ex'] at cx'
          rw [ey] at cy ry
          rw [ey'] at cy'
          have g0 := fun z : GW wr => z.cell cx
          have g1 := fun z : GW wr => z.cell cx'
          have g2 := fun z : GW wr => z.cell cy
          have g3 := fun z : GW wr => z.cell cy'
          have hwx : x.x.length ≤ 16777216 := HWL.out x (by simp)
          have hwy : y.x.length ≤ 16777216 := HWL.out y (by simp [List.mem_of_getElem? hy])
          have jz : (jp : Int) + 1 < (N : Int) := by omega
          have jz1 : (jp : Int) < (N : Int) := by omega
          have jza : (a : Int) < (jp : Int) + 1 := by omega
          have p0 : (0 : Int) ≤ (jp : Int) + 1 := by omega
          have e0 : ((jp : Int) + 1).toNat = jp + 1 := by omega
          have HROW : Hid (∀ w8, Below wr.heap.size wr w8 → RowT blk N cap w8 (A ++ (ins P (jp + 1 - a) x ++ (R ++ Z)))) := Lib.hid (fun w8 hb => hrj.below hb)
          have HGX := Lib.hid hgx
          have HGY := Lib.hid hgy
          have HSET := Lib.hid hset
          have HY := Lib.hid hy
          have HEX := Lib.hid (show x.r = _ ∧ x.r' = _ ∧ y.r = _ ∧ y.r' = _ from ⟨ex, ex', ey, ey'⟩)
          clear hgx hgy hset hy ex ex' ey ey' cx cx' cy cy'
          by_cases hless : cmpW x.x y.x < 0
          · go_wp2_with fail
            refine region_grow (by kernel_rfl) (by kernel_rfl) ?_
            repeat (go_big_quiet_step ((first | (rename_i z; go_at_call 62; exact Calls.grow z (cmpT (rx.below z.le) (ry.below z.le) hwx hwy ⟨_, _, _, rfl⟩ ⟨_, _, _, rfl⟩)))))
            refine wpQuiet_nil ?_
            intro w8 hb8
            have hr8 := HROW.out w8 hb8
            obtain ⟨dx, dx'⟩ := hr8.cell HGX.out
            obtain ⟨dy, dy'⟩ := hr8.cell HGY.out
            have hsw := hr8.swap HGX.out HGY.out
            rw [HSET.out, HEX.out.1, HEX.out.2.1, HEX.out.2.2.1, HEX.out.2.2.2] at hsw
            rw [HEX.out.1] at dx
            rw [HEX.out.2.1] at dx'
            rw [HEX.out.2.2.1] at dy
            rw [HEX.out.2.2.2] at dy'
            have f0 := hr8.froz (jp * 2)
            have f1 := hr8.froz (jp * 2 + 1)
            have f2 := hr8.froz ((jp + 1) * 2)
            have f3 := hr8.froz ((jp + 1) * 2 + 1)
            have HSW := Lib.hid hsw
            have hless2 := decide_eq_true hless
            have HB8 := Lib.hid hb8
            clear hr8 hsw hb8 g0 g1 g2 g3
            go_wp2_with fail
            go_big_region_o
            go_wp2_with fail
            go_roundw
            case rel => exact ⟨jp, by go_num, by omega, by omega, Lib.hid (fun y' hy' => by
              have := HY.out
              rw [hy'] at this
              cases this
              exact leT_lt hless), HSW.out.1.drew, Off.tr (Off.tr hgj (Off.grown HB8.out)) (Off.drewG HSW.out.2)⟩
            case measure => simp [intOf]
          · have HS2 : Hid (Srt leT (ins P (jp + 1 - a) x)) := Lib.hid (HEND.out (.inr ⟨y, by rw [show jp + 1 - a - 1 = jp - a by omega]; exact HY.out, leT_not hless⟩))
            have hless2 := decide_eq_false hless
            go_wp2_with fail
            refine region_grow (by kernel_rfl) (by kernel_rfl) ?_
            repeat (go_big_quiet_step ((first | (rename_i z; go_at_call 62; exact Calls.grow z (cmpT (rx.below z.le) (ry.below z.le) hwx hwy ⟨_, _, _, rfl⟩ ⟨_, _, _, rfl⟩)))))
            refine wpQuiet_nil ?_
            intro w8 hb8
            have HFIN := Lib.hid (HNEW.out w8 (HROW.out w8 hb8) HS2.out (Off.tr hgj (Off.grown hb8)))
            clear hb8 g0 g1 g2 g3
            go_wp2_with fail
            go_roundw
            case rel => exact HFIN.out
            case measure => simp [intOf]; omega
        · have hJa : J = a := by omega
          have HS2 : Hid (Srt leT (ins P (J - a) x)) := Lib.hid (HEND.out (.inl hJa))
          have i2 : decide ((a : Int) < (J : Int)) = false := decide_eq_false (by omega)
          have i3 : decide (a < J) = false := decide_eq_false (by omega)
          have HROW : Hid (∀ w8, Below wr.heap.size wr w8 → RowT blk N cap w8 (A ++ (ins P (J - a) x ++ (R ++ Z)))) := Lib.hid (fun w8 hb => hrj.below hb)
          clear hJa hja
          go_wp2_with fail
          refine region_grow (by kernel_rfl) (by kernel_rfl) ?_
          repeat (go_big_quiet_step ((first | (rename_i z; go_at_call 62; fail))))
          refine wpQuiet_nil ?_
          intro w8 hb8
          have HFIN := Lib.hid (HNEW.out w8 (HROW.out w8 hb8) HS2.out (Off.tr hgj (Off.grown hb8)))
          clear hb8
          go_wp2_with fail
          go_roundw
          case rel => exact HFIN.out
          case measure => simp [intOf]; omega
end Go.Proofs.Ytfpjojlkodglnaa
