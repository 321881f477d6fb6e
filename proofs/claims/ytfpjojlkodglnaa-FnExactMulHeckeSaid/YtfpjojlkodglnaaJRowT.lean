/- A row of terms of the call's own, put in order by exchanges. No condition. -/
import Derived.Test.YtfpjojlkodglnaaJMrg
import Derived.Test.YtfpjojlkodglnaaJActs
import Derived.Test.YtfpjojlkodglnaaJAppS
import Derived.Test.YtfpjojlkodglnaaJWords
import Derived.Test.YtfpjojlkodglnaaJGrow
import Derived.RegionTactic
import Derived.BigRegion
import Derived.Shelf.RegionOpenPlain
namespace Go.Proofs.Ytfpjojlkodglnaa
open Go.RowKit
set_option maxRecDepth 20000

/-- Every block but one. -/
abbrev Off (b : Nat) : Nat → Prop := fun g => g ≠ b
theorem Off.keepI {mb : Nat} {w w' : World} {v : Value} {l : List Int} (h : RI (Off mb) w v l) (hg : w.grownBy w' (some mb)) : RI (Off mb) w' v l := h.keep fun b hb hl => hg.block b hl (by simpa using hb)
theorem Off.grown {mb : Nat} {w w' : World} (h : Below w.heap.size w w') : w.grownBy w' (some mb) := ⟨h.os, h.tape, h.output, h.size, fun i hi _ => h.block i hi⟩
theorem Off.tr {mb : Nat} {a b c : World} (h : a.grownBy b (some mb)) (k : b.grownBy c (some mb)) : a.grownBy c (some mb) :=
  ⟨k.os.trans h.os, k.tape.trans h.tape, k.output.trans h.output, Nat.le_trans h.size k.size, fun i hi hn => (k.block i (Nat.lt_of_lt_of_le hi h.size) hn).trans (h.block i hi hn)⟩
theorem Off.drewG {mb : Nat} {a b : World} (h : a.grownBy b (some mb)) : a.grownBy b.drew (some mb) := ⟨h.os, h.tape, h.output, h.size, h.block⟩

/-- A term in memory: its two cells, and what they read as. -/
structure El where
  r : Value
  r' : Value
  x : List Int
  y : List Int
def cellsT : List El → List Value
  | [] => []
  | e :: L => e.r :: e.r' :: cellsT L
theorem cellsT_len : ∀ L : List El, (cellsT L).length = L.length * 2
  | [] => rfl
  | e :: L => by simp [cellsT, cellsT_len L]; omega
theorem cellsT_app : ∀ L M : List El, cellsT (L ++ M) = cellsT L ++ cellsT M
  | [], M => rfl
  | e :: L, M => by simp [cellsT, cellsT_app L M]
theorem cellsT_at : ∀ {L : List El} {j : Nat} {e : El}, L[j]? = some e → (cellsT L)[j * 2]? = some e.r ∧ (cellsT L)[j * 2 + 1]? = some e.r'
  | [], _, _, h => by simp at h
  | a :: L, 0, e, h => by simp at h; subst h; simp [cellsT]
  | a :: L, j + 1, e, h => by
    have := cellsT_at (L := L) (j := j) (by simpa using h)
    rw [show (j + 1) * 2 = j * 2 + 1 + 1 by omega, show j * 2 + 1 + 1 + 1 = (j * 2 + 1) + 1 + 1 by omega]
    simpa [cellsT] using this
theorem cellsT_set : ∀ (L : List El) (j : Nat) (e : El), ((cellsT L).set (j * 2) e.r).set (j * 2 + 1) e.r' = cellsT (L.set j e)
  | [], j, e => by simp [cellsT]
  | a :: L, 0, e => by simp [cellsT]
  | a :: L, j + 1, e => by
    have := cellsT_set L j e
    rw [show (j + 1) * 2 = j * 2 + 1 + 1 by omega, show j * 2 + 1 + 1 + 1 = (j * 2 + 1) + 1 + 1 by omega]
    simpa [cellsT] using this

def RowT (blk N cap : Nat) (W : World) (L : List El) : Prop :=
  L.length = N ∧ W.ownsRow 0 48 2 (.slice (some ⟨blk, 0, none⟩) N cap) N (cellsT L) ∧ ∀ e ∈ L, RI (Off blk) W e.r e.x ∧ RI (Off blk) W e.r' e.y
section
variable {blk N cap : Nat} {W W' : World} {L : List El}
theorem RowT.cell (h : RowT blk N cap W L) {j : Nat} {e : El} (hj : L[j]? = some e) : W.cell? ⟨blk, j * 2, none⟩ = some e.r ∧ W.cell? ⟨blk, j * 2 + 1, none⟩ = some e.r' := by
  have hl : j < L.length := (List.getElem?_eq_some_iff.1 hj).1
  have := h.1
  have h0 := h.2.1.cellAt (j * 2) (by omega)
  have h1 := h.2.1.cellAt (j * 2 + 1) (by omega)
  obtain ⟨a, b⟩ := cellsT_at hj
  exact ⟨h0.trans a, h1.trans b⟩
theorem RowT.froz (h : RowT blk N cap W L) (j : Nat) : W.frozen? ⟨blk, j, none⟩ = false := h.2.1.frozenAt j
theorem RowT.reads (h : RowT blk N cap W L) {j : Nat} {e : El} (hj : L[j]? = some e) : RI (Off blk) W e.r e.x ∧ RI (Off blk) W e.r' e.y := h.2.2 e (List.mem_of_getElem? hj)
theorem RowT.forms (h : RowT blk N cap W L) {j : Nat} {e : El} (hj : L[j]? = some e) : ∃ a n c a' n' c', e.r = .slice a n c ∧ e.r' = .slice a' n' c' := by
  obtain ⟨a, c, h1⟩ := (h.reads hj).1.form
  obtain ⟨a', c', h2⟩ := (h.reads hj).2.form
  exact ⟨a, _, c, a', _, c', h1, h2⟩
theorem RowT.below (h : RowT blk N cap W L) (hb : Below W.heap.size W W') : RowT blk N cap W' L :=
  ⟨h.1, own_keep h.2.1 (fun b hv => hb.block b (h.2.1.lt b hv).2), fun e he => ⟨(h.2.2 e he).1.below hb, (h.2.2 e he).2.below hb⟩⟩
theorem RowT.drew (h : RowT blk N cap W L) : RowT blk N cap W.drew L := h.below (by exact (Below.refl _ W).drew)
theorem RowT.lt (h : RowT blk N cap W L) : blk < W.heap.size := (h.2.1.lt blk rfl).2
/-- An element has been laid at place j. -/
theorem RowT.put (h : RowT blk N cap W L) {j : Nat} {e : El} (he : RI (Off blk) W e.r e.x ∧ RI (Off blk) W e.r' e.y) : RowT blk N cap ((W.setCell ⟨blk, j * 2, none⟩ e.r).setCell ⟨blk, j * 2 + 1, none⟩ e.r') (L.set j e) ∧
    W.grownBy ((W.setCell ⟨blk, j * 2, none⟩ e.r).setCell ⟨blk, j * 2 + 1, none⟩ e.r') (some blk) := by
  obtain ⟨a1, g1⟩ := h.2.1.stored (j * 2) e.r
  obtain ⟨a2, g2⟩ := a1.stored (j * 2 + 1) e.r'
  have g := Off.tr g1 g2
  rw [cellsT_set] at a2
  refine ⟨⟨by simp [h.1], a2, fun f hf => ?_⟩, g⟩
  rcases List.mem_or_eq_of_mem_set hf with h' | rfl
  · exact ⟨Off.keepI (h.2.2 f h').1 g, Off.keepI (h.2.2 f h').2 g⟩
  · exact ⟨Off.keepI he.1 g, Off.keepI he.2 g⟩
/-- Two elements exchanged. -/
theorem RowT.swap (h : RowT blk N cap W L) {i j : Nat} {e f : El} (hi : L[i]? = some e) (hj : L[j]? = some f) :
    RowT blk N cap ((((W.setCell ⟨blk, i * 2, none⟩ f.r).setCell ⟨blk, i * 2 + 1, none⟩ f.r').setCell ⟨blk, j * 2, none⟩ e.r).setCell ⟨blk, j * 2 + 1, none⟩ e.r') ((L.set i f).set j e) ∧
    W.grownBy ((((W.setCell ⟨blk, i * 2, none⟩ f.r).setCell ⟨blk, i * 2 + 1, none⟩ f.r').setCell ⟨blk, j * 2, none⟩ e.r).setCell ⟨blk, j * 2 + 1, none⟩ e.r') (some blk) := by
  obtain ⟨h1, g1⟩ := h.put (j := i) (h.reads hj)
  obtain ⟨h2, g2⟩ := h1.put (j := j) (e := e) ⟨Off.keepI (h.reads hi).1 g1, Off.keepI (h.reads hi).2 g1⟩
  exact ⟨h2, Off.tr g1 g2⟩
end

open Mrg
set_option maxHeartbeats 1000000 in
theorem swapRangeT {blk N cap : Nat} {A B C D E L : List El} {w : World} {fv : Value} {a b n : Nat} (h : RowT blk N cap w L) (hL : L = A ++ (B ++ (C ++ (D ++ E)))) (ha : A.length = a) (hb : A.length + B.length + C.length = b) (hn : B.length = n) (hBD : B.length = D.length) (hN : N ≤ 1048576) :
    Calls Try.prog 96 #[.slice (some ⟨blk, 0, none⟩) N cap, .int .i64 a, .int .i64 b, .int .i64 n, fv] w fun e w' =>
      e = .returned (.tuple #[]) ∧ RowT blk N cap w' (A ++ (D ++ (C ++ (B ++ E)))) ∧ w.grownBy w' (some blk) := by
  have HST := Lib.hid (fun k (hk : k < n) => swK_step (A := A) (C := C) (E := E) (k := k) hBD (by omega))
  rw [hb, ha] at HST
  have hlen := h.1
  have h0 : RowT blk N cap w (swK A B C D E 0) := by rw [swK_zero, ← hL]; exact h
  have HE : Hid (swK A B C D E n = A ++ (D ++ (C ++ (B ++ E)))) := Lib.hid (by rw [← hn]; exact swK_end hBD)
  have hs1 : a + n ≤ b ∧ b + n ≤ N := by rw [hL] at hlen; simp at hlen; omega
  clear hL ha hb hn hBD h hlen
  rw [← HE.out]
  generalize swK A B C D E = K at *
  obtain ⟨hs1, hs2⟩ := hs1
  have mixed : Try.prog.follows .mixedOrders = true := by kernel_rfl
  go_enter Try.func96, Try.ntmps96
  go_wp2_with fail
  go_loopw [10] (fun i wr => ∃ k : Nat, k ≤ n ∧ i = .int .i64 k ∧ RowT blk N cap wr (K k) ∧ w.grownBy wr (some blk)) (fun i _ => n - (intOf i).toNat)
  case atStart => exact ⟨0, Nat.zero_le _, rfl, h0, World.grownBy.refl _ _⟩
  case round =>
    obtain ⟨k, hk, rfl, hr, hg⟩ := hrel
    by_cases h1 : k < n
    · have i1 : (k : Int) < (n : Int) := by omega
      obtain ⟨x, y, hx, hy, hset⟩ := HST.out k h1
      obtain ⟨ax, lx, qx, ax', lx', qx', ex, ex'⟩ := hr.forms hx
      obtain ⟨ay, ly, qy, ay', ly', qy', ey, ey'⟩ := hr.forms hy
      obtain ⟨cx, cx'⟩ := hr.cell hx
      obtain ⟨cy, cy'⟩ := hr.cell hy
      rw [ex] at cx
      rw [ex'] at cx'
      rw [ey] at cy
      rw [ey'] at cy'
      have f0 := hr.froz ((a + k) * 2)
      have f1 := hr.froz ((a + k) * 2 + 1)
      have f2 := hr.froz ((b + k) * 2)
      have f3 := hr.froz ((b + k) * 2 + 1)
      have e0 : ((a : Int) + (k : Int)).toNat = a + k := by omega
      have e1 : ((b : Int) + (k : Int)).toNat = b + k := by omega
      have hsw := hr.swap hx hy
      rw [hset] at hsw
      rw [ex, ex', ey, ey'] at hsw
      have HSW := Lib.hid hsw
      clear hsw ex ex' ey ey'
      clear hx hy hset
      go_wp2_with fail
      go_big_region_o
      go_wp2_with fail
      go_roundw
      case rel => exact ⟨k + 1, by omega, by go_num, HSW.out.1.drew, Off.tr hg (Off.drewG HSW.out.2)⟩
      case measure => simp [intOf]; omega
    · have hkn : k = n := by omega
      have i1 : ¬ (k : Int) < (n : Int) := by omega
      rw [hkn] at hr
      clear hkn
      go_wp2_with fail
      go_end0
      exact ⟨rfl, hr, hg⟩

theorem swapRangeT' {blk N cap : Nat} {A B C D E L : List El} {w : World} {fv : Value} {a b n : Int} (h : RowT blk N cap w L) (hL : L = A ++ (B ++ (C ++ (D ++ E)))) (ha : (A.length : Int) = a) (hb : (A.length : Int) + B.length + C.length = b) (hn : (B.length : Int) = n) (hBD : B.length = D.length) (hN : N ≤ 1048576) :
    Calls Try.prog 96 #[.slice (some ⟨blk, 0, none⟩) N cap, .int .i64 a, .int .i64 b, .int .i64 n, fv] w fun e w' =>
      e = .returned (.tuple #[]) ∧ RowT blk N cap w' (A ++ (D ++ (C ++ (B ++ E)))) ∧ w.grownBy w' (some blk) := by
  subst ha hb hn
  have e : (A.length : Int) + B.length + C.length = ((A.length + B.length + C.length : Nat) : Int) := by omega
  rw [e]
  exact swapRangeT h hL rfl rfl rfl hBD hN

theorem sub_nat {m i : Nat} (h : i ≤ m) : (m : Int) - (i : Int) = ((m - i : Nat) : Int) := by omega

set_option maxHeartbeats 1000000 in
theorem rotateT {blk N cap : Nat} {A X Y Z L : List El} {w : World} {fv : Value} {a m b : Nat} (h : RowT blk N cap w L) (hL : L = A ++ (X ++ (Y ++ Z))) (ha : A.length = a) (hm : A.length + X.length = m) (hb : A.length + X.length + Y.length = b) (hX : 0 < X.length) (hY : 0 < Y.length) (hN : N ≤ 1048576) :
    Calls Try.prog 95 #[.slice (some ⟨blk, 0, none⟩) N cap, .int .i64 a, .int .i64 m, .int .i64 b, fv] w fun e w' =>
      e = .returned (.tuple #[]) ∧ RowT blk N cap w' (A ++ (Y ++ (X ++ Z))) ∧ w.grownBy w' (some blk) := by
  have hlen := h.1
  have hbN : b ≤ N := by rw [hL] at hlen; simp at hlen; omega
  have e1 : (m : Int) - (a : Int) = ((X.length : Nat) : Int) := by omega
  have e2 : (b : Int) - (m : Int) = ((Y.length : Nat) : Int) := by omega
  have HL := Lib.hid hL
  have HM := Lib.hid hm
  generalize hT : A ++ (Y ++ (X ++ Z)) = T at *
  have HT := Lib.hid hT
  have hXN : X.length ≤ m := by omega
  have hYN : Y.length ≤ N := by omega
  have hmN : m ≤ N := by omega
  generalize hxl : X.length = xl at *
  generalize hyl : Y.length = yl at *
  have HXL := Lib.hid hxl
  have HYL := Lib.hid hyl
  clear hxl hyl hL hT hm ha hb hlen
  go_enter Try.func95, Try.ntmps95
  go_wp2_with fail
  go_loopw [10, 11] (fun i j wr => ∃ (p q : Nat) (A' P Q Z' L' : List El), i = .int .i64 p ∧ j = .int .i64 q ∧ 0 < p ∧ 0 < q ∧ p ≤ m ∧ m + q ≤ N ∧ Hid (L' = A' ++ (P ++ (Q ++ Z'))) ∧ Hid (P.length = p) ∧ Hid (Q.length = q) ∧ Hid (A'.length + P.length = m) ∧ Hid (A' ++ (Q ++ (P ++ Z')) = T) ∧ RowT blk N cap wr L' ∧ w.grownBy wr (some blk)) (fun i j _ => (intOf i).toNat + (intOf j).toNat)
  case atStart => exact ⟨xl, yl, A, X, Y, Z, L, rfl, rfl, by omega, by omega, by omega, by omega, HL, HXL, HYL, Lib.hid (by have := HXL.out; have := HM.out; omega), HT, h, World.grownBy.refl _ _⟩
  case round =>
    obtain ⟨p, q, A', P, Q, Z', L', rfl, rfl, hp, hq, hpm, hmq, HL', HP, HQ, HA, HT', hr, hg⟩ := hrel
    by_cases hpq : p = q
    · subst hpq
      have i1 : ((p : Int) != (p : Int)) = false := by simp
      go_wp2_with fail
      refine (swapRangeT' (A := A') (B := P) (C := []) (D := Q) (E := Z') hr (by rw [HL'.out]; rfl) (by have := HP.out; have := HA.out; omega) (by have := HP.out; have := HA.out; simp; omega) (by rw [HP.out]) (by rw [HP.out, HQ.out]) hN).mono ?_
      rintro e w1 ⟨rfl, hr1, hg1⟩
      go_wp2_with fail
      go_end0
      refine ⟨rfl, ?_, Off.tr hg hg1⟩
      rw [← HT'.out]
      exact hr1
    · have i1 : ((p : Int) != (q : Int)) = true := by simp; omega
      by_cases hlt : q < p
      · have i2 : (q : Int) < (p : Int) := by omega
        have e0 : P.take q ++ P.drop q = P := List.take_append_drop q P
        have l1 : (P.take q).length = q := by have := HP.out; simp; omega
        have l2 : (P.drop q).length = p - q := by have := HP.out; simp; omega
        generalize P.take q = P1 at *
        generalize P.drop q = P2 at *
        have H0 := Lib.hid e0
        have H1 := Lib.hid l1
        have H2 := Lib.hid l2
        clear e0 l1 l2
        go_wp2_with fail
        refine (swapRangeT' (A := A') (B := P1) (C := P2) (D := Q) (E := Z') hr (by rw [HL'.out, ← H0.out]; simp) (by have := HP.out; have := HA.out; omega) (by have := H1.out; have := H2.out; have := HP.out; have := HA.out; omega) (by rw [H1.out]) (by rw [H1.out, HQ.out]) hN).mono ?_
        rintro e w1 ⟨rfl, hr1, hg1⟩
        go_wp2_with fail
        go_roundw
        case rel => exact ⟨p - q, q, A' ++ Q, P2, P1, Z', _, by go_num, rfl, by omega, hq, by omega, hmq, Lib.hid rfl, H2, H1, Lib.hid (by have := H2.out; have := HQ.out; have := HP.out; have := HA.out; simp; omega), Lib.hid (by rw [← HT'.out, ← H0.out]; simp), by simpa using hr1, Off.tr hg hg1⟩
        case measure => simp [intOf]; omega
      · have i2 : ¬ (q : Int) < (p : Int) := by omega
        have e0 : Q.take (q - p) ++ Q.drop (q - p) = Q := List.take_append_drop _ Q
        have l1 : (Q.take (q - p)).length = q - p := by have := HQ.out; simp; omega
        have l2 : (Q.drop (q - p)).length = p := by have := HQ.out; simp; omega
        generalize Q.take (q - p) = Q1 at *
        generalize Q.drop (q - p) = Q2 at *
        have H0 := Lib.hid e0
        have H1 := Lib.hid l1
        have H2 := Lib.hid l2
        clear e0 l1 l2
        go_wp2_with fail
        refine (swapRangeT' (A := A') (B := P) (C := Q1) (D := Q2) (E := Z') hr (by rw [HL'.out, ← H0.out]; simp) (by have := HP.out; have := HA.out; omega) (by have := H1.out; have := HP.out; have := HA.out; omega) (by rw [HP.out]) (by rw [HP.out, H2.out]) hN).mono ?_
        rintro e w1 ⟨rfl, hr1, hg1⟩
        go_wp2_with fail
        go_roundw
        case rel => exact ⟨p, q - p, A', Q2, Q1, P ++ Z', _, rfl, by go_num, hp, by omega, hpm, by omega, Lib.hid rfl, H2, H1, Lib.hid (by have := H2.out; have := HP.out; have := HA.out; omega), Lib.hid (by rw [← HT'.out, ← H0.out]; simp), by simpa using hr1, Off.tr hg hg1⟩
        case measure => simp [intOf]; omega
end Go.Proofs.Ytfpjojlkodglnaa
