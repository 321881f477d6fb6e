/- Letters taken until a vector is dominant: by the program, for whatever goes down; dominant weights. Condition: sizes up to 2^24. -/
import Derived.Test.YteglcjembimegaaNormals
import Derived.Test.YteglcjembimegaaFinDom
import Derived.Test.YteglcjembimegaaFinite
import Derived.Test.YteglcjembimegaaRev
import Derived.Test.YteglcjembimegaaAppW
namespace Go.Proofs.Yteglcjembimegaa
open Go.RowKit
set_option maxRecDepth 20000

set_option maxHeartbeats 1000000 in
theorem normalImplG {S S' : Nat → Prop} {u v : Value} {c : List (List Int)} {l : List Int} {w : World} {m : Nat} {P : List Int → Nat → Prop} (h : RII S w u c) (h' : RI S' w v l) (hc : CartanP c) (hD : Down c P) (him : P l m) :
    Calls Try.prog 114 #[u, v] w fun e w' => ∃ r, e = .returned r ∧ FI (New w w') w' r (nf c 30 l) ∧ Below w.heap.size w w' := by
  have h := h.old
  have hn4 := hc.le
  have hlen := hD.len _ _ him
  have hm := hD.le _ _ him
  have HDN := Lib.hid hD
  clear hD
  obtain ⟨a, cap, rfl⟩ := h.form
  obtain ⟨a', cap', rfl⟩ := h'.form
  have HQ := Lib.hid hc.sq
  have HC := Lib.hid hc
  have HIM := Lib.hid him
  rw [hlen] at h' ⊢
  have HN := Lib.hid hlen
  clear hc him hlen
  go_enter Try.func114, Try.ntmps114
  obtain ⟨f1, b1⟩ := fresh_of (w := w) (Below.refl _ w) rfl
  go_wp2_with (at_builtin; go_must (refine wpList_app (W := w) rfl _ _ rfl rfl f1 b1 rfl (h'.below b1) ?_ ?_))
  · have := HN.out; simp; omega
  · intro v1 w2 f2 b2 _
    clear b1 f1 h'
    go_wp2_with fail
    obtain ⟨w3, hw3⟩ : ∃ w3, w3 = w2.alloc (.cells #[] 3) := ⟨_, rfl⟩
    obtain ⟨f3, b3⟩ := fresh_of (Below.refl _ w2) hw3
    rw [← hw3]
    clear hw3
    have f2 := f2.below b3
    have hD : ∀ b, Bt 0 w.heap.size b → ¬ New w w2 b := fun b hb hb' => by have := hb.2; have := hb'.1; omega
    have hD2 : ∀ (W : World) b, Bt w2.heap.size W.heap.size b → ¬ New w w2 b := fun W b hb hb' => by have := hb.1; have := hb'.2; omega
    have b03 := Keeps.step b2 b3
    have hs2 : w.heap.size ≤ w2.heap.size := b2.size
    have hs3 : w2.heap.size ≤ w3.heap.size := b3.size
    have HR0 : Hid ([] ++ nf c 30 l = nf c 30 l) := Lib.hid rfl
    go_loopw [5, 6] (fun z y wr => ∃ (acc x : List Int) (m : Nat), FI (New w w2) wr v1 x ∧ FI (Bt w2.heap.size wr.heap.size) wr z acc ∧ Hid (P x m) ∧ acc.length + m ≤ 30 ∧ Hid (acc ++ nf c 30 x = nf c 30 l) ∧ w2.heap.size ≤ wr.heap.size ∧ Below w.heap.size w wr) (fun z _ _ => 31 - lenV z)
    case atStart => exact ⟨[], l, m, f2, f3, HIM, by simpa using hm, HR0, hs3, b03⟩
    case round =>
      obtain ⟨acc, x, m, hf, hz, HI, hlen, HR, hs, hb⟩ := hrel
      have hxl : x.length = c.length := HDN.out.len _ _ HI.out
      obtain ⟨az, capz, rfl⟩ := hz.form
      go_wp2_with fail
      refine (firstDescentImpl hf.reads (by omega)).mono ?_
      rintro e w4 ⟨rfl, rfl⟩
      cases e : firstN x with
      | none =>
        have e1 : Hid (acc = nf c 30 l) := Lib.hid (by rw [← HR.out, nf_end e, List.append_nil])
        have e2 : fd x = -1 := by unfold fd; rw [e]
        rw [e2]
        go_wp2_with fail
        go_ret
        rw [← e1.out]
        exact ⟨_, rfl, hz.mono (fun b hb' => ⟨by have := hb'.1; omega, hb'.2⟩), hb⟩
      | some i =>
        have e2 : fd x = (i : Int) := by unfold fd; rw [e]
        have hi : i < c.length := by have := firstN_lt e; omega
        obtain ⟨m', hm', him', hnf⟩ := HDN.out.turn _ _ _ HI.out e
        have HI2 := Lib.hid him'
        have HR2 : Hid ((acc ++ [(i : Int)]) ++ nf c 30 (refl c i x) = nf c 30 l) := Lib.hid (by rw [← HR.out, hnf, List.append_assoc]; rfl)
        clear him' hnf
        rw [e2]
        have bb := (Below.refl w4.heap.size w4).alloc (Nat.le_refl _) (.cells #[.int .i64 i] 3)
        have hz2 : FI (Bt w2.heap.size (w4.alloc (.cells #[.int .i64 i] 3)).heap.size) (w4.alloc (.cells #[.int .i64 i] 3)) _ acc := (hz.below bb).mono (fun b hb' => ⟨hb'.1, Nat.lt_of_lt_of_le hb'.2 bb.size⟩)
        have hi0 : ¬ (i : Int) < 0 := by omega
        go_wp2_with (at_builtin; go_must (refine wpList_appB (B := w2.heap.size) rfl _ _ rfl rfl hz2 (Nat.le_trans hs bb.size) rfl (RI.one w4 i) ?_ ?_))
        · simp; omega
        · intro v' w5 f5 b5 _
          have b45 : Below w2.heap.size w4 w5 := (bb.mono hs).trans b5
          have hb5 : Below w.heap.size w w5 := hb.trans (b45.mono hs2)
          have hf5 : FI (New w w2) w5 v1 x := hf.keep (fun b hb' => b45.block b (hf.2 b hb').2)
          go_wp2_with fail
          refine (reflectedImpl (h.below hb5) hf5 hD i hi HQ.out hxl (by omega)).mono ?_
          rintro e w6 ⟨rfl, f6, o6⟩
          have f7 := f5.only o6 (hD2 w5)
          obtain ⟨a7, cap7, rfl⟩ := f7.form
          go_wp2_with fail
          go_roundw
          case rel => exact ⟨acc ++ [(i : Int)], refl c i x, m', f6, by rw [o6.size]; rw [List.length_append] at f7; exact f7, HI2, by simp; omega, HR2, by rw [o6.size]; exact Nat.le_trans hs b45.size, hb5.trans (o6.below (fun b hb' => hb'.1))⟩
          case measure => simp [lenV]; omega

theorem lets_rev {n : Nat} {w : List Int} (h : Lets n w) : Lets n w.reverse := fun x hx => h x (by simpa using hx)

/-- Two lists of the call's own, apart. -/
def Two (L1 L2 : List Int) (ok : Bool) (w : World) (e : Ending) (w' : World) : Prop := ∃ r1 r2, e = .returned (.tuple #[r1, r2, .bool ok]) ∧ FI (New w w') w' r1 L1 ∧ FI (New w w') w' r2 L2 ∧ (∀ b, r1.ownBlock = some b → r2.ownBlock ≠ some b) ∧ Below w.heap.size w w'
def Two2 (L1 L2 : List Int) (w : World) (e : Ending) (w' : World) : Prop := ∃ r1 r2, e = .returned (.tuple #[r1, r2]) ∧ FI (New w w') w' r1 L1 ∧ FI (New w w') w' r2 L2 ∧ (∀ b, r1.ownBlock = some b → r2.ownBlock ≠ some b) ∧ Below w.heap.size w w'

set_option maxHeartbeats 1000000 in
theorem raisedImpl {S S' : Nat → Prop} {u v : Value} {c : List (List Int)} {l : List Int} {w : World} {m : Nat} {P : List Int → Nat → Prop} (h : RII S w u c) (h' : RI S' w v l) (hc : CartanP c) (hD : Down c P) (him : P l m) :
    Calls Try.prog 55 #[u, v] w (Two2 (dmL c l) (nf c 30 l) w) := by
  have hlen := Lib.hid (hD.len _ _ him)
  have hn4 := hc.le
  have HLT := Lib.hid (nf_lets hD m him)
  have HNL := Lib.hid (nf_len hD m him)
  have hm := hD.le _ _ him
  have HDN := Lib.hid hD
  have HC := Lib.hid hc
  have HS := Lib.hid hc.sq
  have HI := Lib.hid him
  have HR : Hid (act c (nf c 30 l).reverse l = dmL c l) := Lib.hid rfl
  clear hD hc him
  go_enter Try.func55, Try.ntmps55
  go_wp2_with fail
  refine (normalImplG h h' HC.out HDN.out HI.out).mono ?_
  rintro e w2 ⟨r2, rfl, f2, b2⟩
  go_wp2_with fail
  refine (reverseWordImpl f2.reads (by have := HNL.out; omega)).mono ?_
  rintro e w3 ⟨r3, rfl, f3, b3⟩
  have b03 := Keeps.step b2 b3
  go_wp2_with fail
  refine (actedImpl (h.below b03) f3.reads (h'.below b03) HS.out (lets_rev HLT.out) hlen.out (by omega) (by have := HNL.out; simp; omega)).mono ?_
  rintro e w4 ⟨r4, rfl, f4, b4⟩
  rw [HR.out] at f4
  have b04 := Keeps.step b03 b4
  go_wp2_with fail
  refine (normalImplG (h.below b04) (h'.below b04) HC.out HDN.out HI.out).mono ?_
  rintro e w5 ⟨r5, rfl, f5, b5⟩
  have b05 := Keeps.step b04 b5
  go_wp2_with fail
  go_ret2
  have hd : ∀ b, r4.ownBlock = some b → r5.ownBlock ≠ some b := fun b h1 h2 => by
    have a1 := (f4.2 b h1).2
    have a2 := (f5.2 b h2).1
    omega
  have g4 : FI (New w w5) w5 r4 (dmL c l) := (f4.below b5).mono (fun b hb => ⟨Nat.le_trans b03.size hb.1, Nat.lt_of_lt_of_le hb.2 b5.size⟩)
  have g5 : FI (New w w5) w5 r5 (nf c 30 l) := f5.mono (fun b hb => ⟨Nat.le_trans b04.size hb.1, hb.2⟩)
  exact ⟨_, _, rfl, g4, g5, hd, b05⟩

def domOk (c : List (List Int)) (l : List Int) : Bool := isW c l && finB c
def dom1 (c : List (List Int)) (l : List Int) : List Int := if domOk c l then dmL c l else []
def dom2 (c : List (List Int)) (l : List Int) : List Int := if domOk c l then nf c 30 l else []
theorem isW_len {c : List (List Int)} {l : List Int} (h : isW c l = true) : CartanP c ∧ l.length = c.length ∧ ∀ x ∈ l, -1000 ≤ x ∧ x ≤ 1000 := by
  unfold isW at h
  simp only [Bool.and_eq_true, decide_eq_true_eq] at h
  refine ⟨isC_iff.1 h.1.1, h.1.2, fun x hx => ?_⟩
  have := allB_iff.1 h.2 x hx
  unfold wtB inR at this
  simp at this
  exact this
theorem finB_p {c : List (List Int)} (h : finB c = true) : FinP c := by
  unfold finB at h
  simp only [Bool.and_eq_true] at h
  exact ⟨isC_iff.1 h.1, h.2⟩
theorem domOk_parts {c : List (List Int)} {l : List Int} (h : domOk c l = true) : FinP c ∧ CartanP c ∧ Cor c (cors c) ∧ DomS c (cors c) l (negs c (cors c) l) := by
  unfold domOk at h
  simp only [Bool.and_eq_true] at h
  obtain ⟨h1, h2, h3⟩ := isW_len h.1
  have hf := finB_p h.2
  exact ⟨hf, h1, hf.cor, wt_start hf.cor h2 (fun x hx => by have := h3 x hx; omega), rfl⟩

theorem two_empty {w w1 w2 : World} (h1 : w1 = w.alloc (.cells #[] 3)) (h2 : w2 = w1.alloc (.cells #[] 3)) {W : World} (hb : Below W.heap.size W w) :
    FI (New W w2) w2 (.slice (some ⟨w.heap.size, 0, none⟩) 0 0) [] ∧ FI (New W w2) w2 (.slice (some ⟨w.heap.size + 1, 0, none⟩) 0 0) [] ∧ (∀ b, (Value.slice (some ⟨w.heap.size, 0, none⟩) 0 0).ownBlock = some b → (Value.slice (some ⟨w.heap.size + 1, 0, none⟩) 0 0).ownBlock ≠ some b) ∧ Below W.heap.size W w2 := by
  obtain ⟨f1, b1⟩ := fresh_of hb h1
  obtain ⟨f2, b2⟩ := fresh_of b1 h2
  have hs : w1.heap.size = w.heap.size + 1 := by rw [h1]; simp
  rw [hs] at f2
  have b12 : Below w1.heap.size w1 w2 := by rw [h2]; exact (Below.refl _ _).alloc (Nat.le_refl _) _
  exact ⟨f1.grow b12, f2, fun b e e' => by simp [Value.ownBlock] at e e'; omega, b2⟩

set_option maxHeartbeats 1000000 in
theorem dominantOfImpl {S S' : Nat → Prop} {u v : Value} {c : List (List Int)} {l : List Int} {w : World} (h : RII S w u c) (h' : RI S' w v l) (hl : total c ≤ 16777216) (hl' : l.length ≤ 16777216) :
    Calls Try.prog 21 #[u, v] w (Two (dom1 c l) (dom2 c l) (domOk c l) w) := by
  have HD : Hid (domOk c l = (isW c l && finB c)) := Lib.hid rfl
  have H1 : Hid (domOk c l = false → dom1 c l = [] ∧ dom2 c l = []) := Lib.hid (fun h => by unfold dom1 dom2; rw [h]; exact ⟨rfl, rfl⟩)
  have H2 : Hid (domOk c l = true → dom1 c l = dmL c l ∧ dom2 c l = nf c 30 l) := Lib.hid (fun h => by unfold dom1 dom2; rw [h]; exact ⟨rfl, rfl⟩)
  have HP := Lib.hid (@domOk_parts c l)
  generalize dom1 c l = d1 at *
  generalize dom2 c l = d2 at *
  generalize domOk c l = ok at *
  go_enter Try.func21, Try.ntmps21
  go_wp2_with fail
  refine (isWeightImpl h h' hl hl').mono ?_
  rintro e w1 ⟨rfl, hw1⟩
  have b1 := below_quiet hw1
  clear hw1
  cases hW : isW c l
  · have e0 : Hid (ok = false) := Lib.hid (by rw [HD.out, hW]; rfl)
    have e1 := Lib.hid (H1.out e0.out)
    have e3 := two_empty (w := w1) rfl rfl b1
    go_wp2_with fail
    go_ret3
    rw [e1.out.1, e1.out.2, e0.out]
    exact ⟨_, _, rfl, e3.1, e3.2.1, e3.2.2.1, e3.2.2.2⟩
  · have hW2 := Lib.hid hW
    clear hW
    go_wp2_with fail
    refine (isFiniteImpl (h.below b1) hl).mono ?_
    rintro e w2 ⟨rfl, b2⟩
    have b02 := Keeps.step b1 b2
    cases hF : finB c
    · have e0 : Hid (ok = false) := Lib.hid (by rw [HD.out, hW2.out, hF]; rfl)
      have e1 := Lib.hid (H1.out e0.out)
      have e3 := two_empty (w := w2) rfl rfl b02
      go_wp2_with fail
      go_ret3
      rw [e1.out.1, e1.out.2, e0.out]
      exact ⟨_, _, rfl, e3.1, e3.2.1, e3.2.2.1, e3.2.2.2⟩
    · have e0 : Hid (ok = true) := Lib.hid (by rw [HD.out, hW2.out, hF]; rfl)
      have e1 := Lib.hid (H2.out e0.out)
      have e4 := Lib.hid (HP.out e0.out)
      clear hF
      go_wp2_with fail
      refine (raisedImpl (h.below b02) (h'.below b02) e4.out.2.1 (down_dom e4.out.2.2.1 e4.out.2.1) e4.out.2.2.2).mono ?_
      rintro e w3 ⟨r1, r2, rfl, f1, f2, hd, b3⟩
      go_wp2_with fail
      go_ret3
      rw [e1.out.1, e1.out.2, e0.out]
      exact ⟨_, _, rfl, f1.mono (fun b hb => ⟨Nat.le_trans b02.size hb.1, hb.2⟩), f2.mono (fun b hb => ⟨Nat.le_trans b02.size hb.1, hb.2⟩), hd, Keeps.step b02 b3⟩
end Go.Proofs.Yteglcjembimegaa
