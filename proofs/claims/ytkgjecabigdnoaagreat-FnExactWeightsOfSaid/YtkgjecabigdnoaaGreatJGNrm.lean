/- 'append' to a slice of numbers whose block lies beyond a bound. Condition: at most 2^26 numbers. Normal forms of words, by the program and by the reference. Condition: words of at most 30 letters of a Cartan matrix. Normal forms: the reference's, and what both give for a word. Condition: words of at most 30 letters of a Cartan matrix. -/
import Derived.Test.YtkgjecabigdnoaaGreatJGCart
import Derived.Test.YtkgjecabigdnoaaGreatJNorm
import Derived.Test.YtkgjecabigdnoaaGreatJDot
/-! 'append' to a slice of numbers whose block lies beyond a bound. Condition: at most 2^26 numbers. -/
namespace Go.Proofs.YtkgjecabigdnoaaGreat
open Go.RowKit
set_option maxRecDepth 20000
section
variable {w : World} {ops : Array Oper} {rest : List Oper} {o : Oper} {a : Act} {Q : Exit → Act → World → Prop}

theorem FI.of_rowB {w' : World} {B : Nat} {v : Value} {l : List Int} {n : Nat} {xs : List Value} (h : w'.ownsRow B 3 1 v n xs) (hn : n = l.length) (hx : xs = l.map (Value.int .i64)) : FI (Bt B w'.heap.size) w' v l := by
  subst hn
  subst hx
  refine ⟨own_base h (Nat.zero_le _), fun b hb => ?_⟩
  obtain ⟨h1, h2⟩ := h.lt b hb
  exact ⟨h1, h2⟩

/-- append(v, x...): v a row of numbers of the call's own, x whatever reads as numbers. -/
theorem wpList_appB {S : Nat → Prop} {B : Nat} (hgd : o.guard = none) (s x : Operand)
    (ho : o.op = .call { callee := .builtin .append, args := #[s, x], argTypes := #[23, 23] })
    {v : Value} {l l2 : List Int} (hs : a.eval s = v) (hf : FI (Bt B w.heap.size) w v l) (hB : B ≤ w.heap.size)
    {sa : Option Addr} {m c : Nat} (hx : a.eval x = .slice sa m c) (hr : RI S w (.slice sa m c) l2) (hlen : l.length + l2.length ≤ 67108864)
    (h : ∀ v' w', FI (Bt B w'.heap.size) w' v' (l ++ l2) → Below B w w' → w.grownBy w' v.ownBlock → wpList Tryz.prog ops Q rest (a.put o.dst v') w') : wpList Tryz.prog ops Q (o :: rest) a w := by
  obtain ⟨i0, hi, hz0, hz1, hz2⟩ := info_parts infoInt
  obtain ⟨hown, hS⟩ := hf
  obtain ⟨a', cap', hv, hcap, hcase⟩ := hr
  simp only [Value.slice.injEq] at hv
  obtain ⟨rfl, rfl, rfl⟩ := hv
  have hown' : w.ownsRow B 3 1 v l.length (l.map (Value.int .i64)) := by
    refine ⟨hown.1, ?_⟩
    rcases hown.2 with h | ⟨g, cap, cur, hv, _, r⟩
    · exact .inl h
    · exact .inr ⟨g, cap, cur, hv, (hS g (by rw [hv]; rfl)).1, r⟩
  have fin : ∀ v' w', w'.ownsRow B 3 1 v' (l.length + l2.length) (l.map (Value.int .i64) ++ l2.map (Value.int .i64)) → w.grownBy w' v.ownBlock → wpList Tryz.prog ops Q rest (a.put o.dst v') w' := by
    intro v' w' h1 h2
    have hb' : Below B w w' := (Below.refl B w).grown h2 hB (fun k hk => (hS k hk).1)
    exact h v' w' (FI.of_rowB h1 (by simp) (by simp)) hb' h2
  cases sa with
  | none =>
    have h0 : l2 = [] := by
      rcases hcase with h | ⟨b, o, ha, _⟩
      · exact h
      · cases ha
    subst h0
    have hrun := run_append_bare (w := w) B 23 o.type 3 i0 1 Tryz.underlying23 hi v l.length c _ hown'
    have fin' := fin v w (by simpa using hown') (World.grownBy.refl _ _)
    clear fin h hS hown
    refine wpList_plain hgd fun K hK => ?_
    unfold Oper.wp
    rw [show ([] : List Int).length = 0 from rfl] at hx
    simp [execOp, ho, resolve, invoke, builtin, hs, hx, hrun, Result.andThen]
    exact hK _ _ fin'
  | some ad =>
    refine wpList_append_own w hgd s x 23 ho B 3 i0 (.int .i64 0) 1 8 Tryz.underlying23 hi hz0 hz1 hz2 rfl (by decide) v l.length (l.map (Value.int .i64)) hs hown' ad l2.length c (l2.map (Value.int .i64)) hx (by simp) ?_ ?_ ?_ ?_ hB (fun v' w' h1 h2 _ => fin v' w' h1 h2)
    · intro j u hj
      rcases hcase with h | ⟨b, o, ha, _, _, hc⟩
      · subst h; simp at hj
      · simp only [Option.some.injEq] at ha
        subst ha
        rw [List.getElem?_map] at hj
        obtain ⟨x, hx1, hx2⟩ := Option.map_eq_some_iff.1 hj
        obtain ⟨r, h1, h2⟩ := hc j x hx1
        have hadd : (⟨b, o, none⟩ : Addr).add j = ⟨b, o + j, none⟩ := by unfold Addr.add; split <;> simp_all
        rw [hadd, h1, ← hx2]
        exact congrArg some h2
    · intro u hu
      obtain ⟨x, _, rfl⟩ := List.mem_map.1 hu
      rfl
    · unfold maxLen; omega
    · omega

end
end Go.Proofs.YtkgjecabigdnoaaGreat

/-! Normal forms of words, by the program and by the reference. Condition: words of at most 30 letters of a Cartan matrix. -/
namespace Go.Proofs.YtkgjecabigdnoaaGreat
open Go.RowKit
set_option maxRecDepth 20000

theorem firstN_drop {v : List Int} {k : Nat} {x : Int} (h : v[k]? = some x) (hx : ¬ x < 0) : firstN (v.drop k) = (firstN (v.drop (k + 1))).map (· + 1) := by
  rw [drop_step h]; simp [firstN, hx]
theorem firstN_hit {v : List Int} {k : Nat} {x : Int} (h : v[k]? = some x) (hx : x < 0) : firstN (v.drop k) = some 0 := by
  rw [drop_step h]; simp [firstN, hx]
def lenV : Value → Nat
  | .slice _ n _ => n
  | _ => 0

/-- The first letter, or -1. -/
def fd (v : List Int) : Int := match firstN v with
  | none => -1
  | some i => i

set_option maxHeartbeats 1000000 in
theorem firstDescentImpl {S : Nat → Prop} {v : Value} {l : List Int} {w : World} (h : RI S w v l) (hl : l.length ≤ 16777216) :
    Calls Tryz.prog 52 #[v] w fun e w' => e = .returned (.int .i64 (fd l)) ∧ w' = w := by
  obtain ⟨a, cap, rfl⟩ := h.form
  have HR : Hid ((firstN (l.drop 0)).map (· + 0) = firstN l) := Lib.hid (by simp)
  have HE : Hid (firstN (l.drop l.length) = none) := Lib.hid (by simp [firstN])
  have HF : Hid (∀ i, firstN l = some i → fd l = i) := Lib.hid (by intro i h; simp [fd, h])
  have HG : Hid (firstN l = none → fd l = -1) := Lib.hid (by intro h; simp [fd, h])
  generalize fd l = res at *
  generalize hn : l.length = n at *
  have HN := Lib.hid hn
  clear hn
  go_enter Tryz.func52, Tryz.ntmps52
  go_wp2_with fail
  go_loop [7] (fun j => ∃ (k : Nat), k ≤ n ∧ j = .int .i64 k ∧ Hid ((firstN (l.drop k)).map (· + k) = firstN l)) (fun j => n - (intOf j).toNat)
  case atStart => exact ⟨0, Nat.zero_le _, rfl, HR⟩
  case round =>
    obtain ⟨k, hk, rfl, HK⟩ := hrel
    by_cases hlt : k < n
    · obtain ⟨b, o, x, rfl, hc, hx⟩ := h.at hlt
      by_cases hx0 : x < 0
      · have e0 : Hid (res = (k : Int)) := Lib.hid (HF.out k (by rw [← HK.out, firstN_hit hx.out hx0]; simp))
        go_wp2_with fail
        go_ret
        exact ⟨ret_int e0.out.symm, rfl⟩
      · have HK2 : Hid ((firstN (l.drop (k + 1))).map (· + (k + 1)) = firstN l) := Lib.hid (by
          rw [← HK.out, firstN_drop hx.out hx0, Option.map_map]
          congr 1
          funext j
          simp only [Function.comp_apply]
          omega)
        go_wp2_with fail
        go_round
        case rel => exact ⟨k + 1, by omega, by go_num, HK2⟩
        case measure => simp [intOf]; omega
    · have hkn : k = n := by omega
      have e0 : Hid (res = -1) := Lib.hid (HG.out (by rw [← HK.out, hkn, HE.out]; rfl))
      go_wp2_with fail
      go_ret
      exact ⟨ret_int e0.out.symm, rfl⟩

set_option maxHeartbeats 1000000 in
theorem normalImpl {S S' : Nat → Prop} {u v : Value} {c : List (List Int)} {l : List Int} {w : World} {m : Nat} (h : RII S w u c) (h' : RI S' w v l) (hc : CartanP c) (him : Im c l m) (hm : m ≤ 30) :
    Calls Tryz.prog 77 #[u, v] w fun e w' => ∃ r, e = .returned r ∧ FI (New w w') w' r (nf c 30 l) ∧ Below w.heap.size w w' := by
  have h := h.old
  have hn4 := hc.le
  have hlen := him.len
  obtain ⟨a, cap, rfl⟩ := h.form
  obtain ⟨a', cap', rfl⟩ := h'.form
  have HQ := Lib.hid hc.sq
  have HC := Lib.hid hc
  have HIM := Lib.hid him
  rw [hlen] at h' ⊢
  have HN := Lib.hid hlen
  clear hc him hlen
  go_enter Tryz.func77, Tryz.ntmps77
  obtain ⟨f1, b1⟩ := fresh_of (w := w) (Below.refl _ w) rfl
  go_wp2_with (at_builtin; go_must (refine wpList_app (W := w) rfl _ _ rfl rfl f1 b1 rfl (h'.below b1) ?_ ?_))
  · have := HN.out; simp; omega
  · intro v1 w2 f2 b2 _
    clear b1 f1 h'
    go_wp2_with fail
    obtain ⟨w3, hw3⟩ : ∃ w3, w3 = w2.alloc (.cells #[] 3) := ⟨_, rfl⟩
    obtain ⟨f3, b3⟩ := fresh_of (Below.refl _ w2) hw3
    rw [← hw3]
    clear hw3
    have f2 := f2.below b3
    have hD : ∀ b, Bt 0 w.heap.size b → ¬ New w w2 b := fun b hb hb' => by have := hb.2; have := hb'.1; omega
    have hD2 : ∀ (W : World) b, Bt w2.heap.size W.heap.size b → ¬ New w w2 b := fun W b hb hb' => by have := hb.1; have := hb'.2; omega
    have b03 := Keeps.step b2 b3
    have hs2 : w.heap.size ≤ w2.heap.size := b2.size
    have hs3 : w2.heap.size ≤ w3.heap.size := b3.size
    have HR0 : Hid ([] ++ nf c 30 l = nf c 30 l) := Lib.hid rfl
    go_loopw [5, 6] (fun z y wr => ∃ (acc x : List Int) (m : Nat), FI (New w w2) wr v1 x ∧ FI (Bt w2.heap.size wr.heap.size) wr z acc ∧ Hid (Im c x m) ∧ acc.length + m ≤ 30 ∧ Hid (acc ++ nf c 30 x = nf c 30 l) ∧ w2.heap.size ≤ wr.heap.size ∧ Below w.heap.size w wr) (fun z _ _ => 31 - lenV z)
    case atStart => exact ⟨[], l, m, f2, f3, HIM, by simpa using hm, HR0, hs3, b03⟩
    case round =>
      obtain ⟨acc, x, m, hf, hz, HI, hlen, HR, hs, hb⟩ := hrel
      have hxl : x.length = c.length := HI.out.len
      obtain ⟨az, capz, rfl⟩ := hz.form
      go_wp2_with fail
      refine (firstDescentImpl hf.reads (by omega)).mono ?_
      rintro e w4 ⟨rfl, rfl⟩
      cases e : firstN x with
      | none =>
        have e1 : Hid (acc = nf c 30 l) := Lib.hid (by rw [← HR.out, nf_end e, List.append_nil])
        have e2 : fd x = -1 := by unfold fd; rw [e]
        rw [e2]
        go_wp2_with fail
        go_ret
        rw [← e1.out]
        exact ⟨_, rfl, hz.mono (fun b hb' => ⟨by have := hb'.1; omega, hb'.2⟩), hb⟩
      | some i =>
        have e2 : fd x = (i : Int) := by unfold fd; rw [e]
        have hi : i < c.length := by have := firstN_lt e; omega
        obtain ⟨m', hm', him', hnf⟩ := nf_turn HC.out HI.out (by omega) e
        have HI2 := Lib.hid him'
        have HR2 : Hid ((acc ++ [(i : Int)]) ++ nf c 30 (refl c i x) = nf c 30 l) := Lib.hid (by rw [← HR.out, hnf, List.append_assoc]; rfl)
        clear him' hnf
        rw [e2]
        have bb := (Below.refl w4.heap.size w4).alloc (Nat.le_refl _) (.cells #[.int .i64 i] 3)
        have hz2 : FI (Bt w2.heap.size (w4.alloc (.cells #[.int .i64 i] 3)).heap.size) (w4.alloc (.cells #[.int .i64 i] 3)) _ acc := (hz.below bb).mono (fun b hb' => ⟨hb'.1, Nat.lt_of_lt_of_le hb'.2 bb.size⟩)
        have hi0 : ¬ (i : Int) < 0 := by omega
        go_wp2_with (at_builtin; go_must (refine wpList_appB (B := w2.heap.size) rfl _ _ rfl rfl hz2 (Nat.le_trans hs bb.size) rfl (RI.one w4 i) ?_ ?_))
        · simp; omega
        · intro v' w5 f5 b5 _
          have b45 : Below w2.heap.size w4 w5 := (bb.mono hs).trans b5
          have hb5 : Below w.heap.size w w5 := hb.trans (b45.mono hs2)
          have hf5 : FI (New w w2) w5 v1 x := hf.keep (fun b hb' => b45.block b (hf.2 b hb').2)
          go_wp2_with fail
          refine (reflectedImpl (h.below hb5) hf5 hD i hi HQ.out hxl (by omega)).mono ?_
          rintro e w6 ⟨rfl, f6, o6⟩
          have f7 := f5.only o6 (hD2 w5)
          obtain ⟨a7, cap7, rfl⟩ := f7.form
          go_wp2_with fail
          go_roundw
          case rel => exact ⟨acc ++ [(i : Int)], refl c i x, m', f6, by rw [o6.size]; rw [List.length_append] at f7; exact f7, HI2, by simp; omega, HR2, by rw [o6.size]; exact Nat.le_trans hs b45.size, hb5.trans (o6.below (fun b hb' => hb'.1))⟩
          case measure => simp [lenV]; omega
end Go.Proofs.YtkgjecabigdnoaaGreat

/-! Normal forms: the reference's, and what both give for a word. Condition: words of at most 30 letters of a Cartan matrix. -/
namespace Go.Proofs.YtkgjecabigdnoaaGreat
open Go.RowKit
set_option maxRecDepth 20000

/-- The normal form of a word, if it is one. -/
def nform (c : List (List Int)) (l : List Int) : List Int := if isWd c l then normL c l else []
theorem nform_le (c : List (List Int)) (l : List Int) : (nform c l).length ≤ l.length := by
  unfold nform
  cases h : isWd c l
  · simp
  · obtain ⟨h1, h2, h3⟩ := isWd_parts h
    exact normL_le (isC_iff.1 h1) h3 (by omega)

end Go.Proofs.YtkgjecabigdnoaaGreat
