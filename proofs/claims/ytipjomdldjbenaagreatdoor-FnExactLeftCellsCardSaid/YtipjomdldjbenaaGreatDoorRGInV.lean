/- Whether a list is among lists; which of two lists is greater; a list put into a descending list of lists: by the reference. Condition: sizes up to 2^24. A list put into a descending list of lists, by the reference. Condition: sizes up to 2^24. -/
import Derived.Test.YtipjomdldjbenaaGreatDoorRGHeap
import Derived.Test.YtipjomdldjbenaaGreatDoorRGGt
import Derived.Test.YtipjomdldjbenaaGreatDoorRGBase
import Derived.Test.YtipjomdldjbenaaGreatDoorRGCell
namespace Go.Proofs.YtipjomdldjbenaaGreatDoor
open Go.RowKit
set_option maxRecDepth 20000
def inV (L : List (List Int)) (l : List Int) : Bool := decide (l ∈ L)
theorem eqL_yes {a b : List Int} (h : eqL a b = true) : a = b := by
 have := eqL_cmp a b
 rw [h] at this
 simpa [cmpW_eq] using this
theorem eqL_no {a b : List Int} (h : eqL a b = false) : a ≠ b := by
 have := eqL_cmp a b
 rw [h] at this
 intro e
 rw [cmpW_eq.2 e] at this
 simp at this
set_option maxHeartbeats 1000000 in
theorem inSpec {S S' : Nat → Prop} {u v : Value} {L : List (List Int)} {l : List Int} {w : World} (h : RII S w u L) (h' : RI S' w v l) (hll : ∀ x ∈ L, x.length ≤ 16777216) (hl : L.length ≤ 16777216) (hl' : l.length ≤ 16777216) :
  Calls Tryz.prog 124 #[u, v] w fun e w' => e = .returned (.bool (inV L l)) ∧ ∃ m, w' = w.drewN m := by
 obtain ⟨a, cap, rfl⟩ := h.form
 have R0 : Hid (inV (L.drop 0) l = inV L l) := Lib.hid rfl
 have HLL := Lib.hid hll
 have HE := Lib.hid (fun (S9 : Nat → Prop) (r : Value) (x : List Int) (m : Nat) (hr : RI S9 (w.drewN m) r x) (hx : x ∈ L) => equalWordsSpec hr (h'.drewN m) (hll x hx) hl')
 generalize hR : inV L l = R at *
 generalize hn : L.length = n at *
 have H := Lib.hid hn
 clear hn hll hR
 have mixed : Tryz.prog.follows .mixedOrders = true := by kernel_rfl
 go_enter Tryz.func124, Tryz.ntmps124
 go_wp2_with fail
 go_loopw [5] (fun i wr => ∃ k m : Nat, k ≤ n ∧ i = .int .i64 k ∧ wr = w.drewN m ∧ Hid (inV (L.drop k) l = R)) (fun i _ => n - (intOf i).toNat)
 case atStart => exact ⟨0, 0, Nat.zero_le _, rfl, rfl, R0⟩
 case round =>
  obtain ⟨k, m, hk, rfl, rfl, HR⟩ := hrel
  by_cases hlt : k < n
  ·have i1 : (k : Int) < (n : Int) := by omega
   obtain ⟨b, o, r, x, rfl, hc, hr, hx⟩ := (h.drewN m).at hlt
   have hcall := HE.out _ r x m hr (List.mem_of_getElem? hx.out)
   have hd := HR.out
   rw [drop_step hx.out] at hd
   have HD := Lib.hid hd
   have HX : Hid (eqL x l = false → inV (L.drop (k + 1)) l = R) := Lib.hid (fun e => by
    rw [← HD.out]; unfold inV
    have := eqL_no e
    simp [Ne.symm this])
   have HY : Hid (eqL x l = true → R = true) := Lib.hid (fun e => by
    rw [← HD.out]; unfold inV
    have := eqL_yes e
    simp [this])
   clear hx hd
   go_wp2_with fail
   refine hcall.mono ?_
   rintro e w8 ⟨rfl, m8, rfl⟩
   cases hq : eqL x l
   ·have HZ := Lib.hid (HX.out hq)
    clear hq
    go_wp2_with fail
    go_roundw
    case rel => exact ⟨k + 1, m + m8, by omega, by go_num, by simp, HZ⟩
    case measure => simp [intOf]; omega
   ·have HZ := Lib.hid (HY.out hq)
    clear hq
    go_wp2_with fail
    go_ret
    exact ⟨ret_bool HZ.out.symm, _, rfl⟩
  ·have i1 : ¬ (k : Int) < (n : Int) := by omega
   have HZ : Hid (R = false) := Lib.hid (by rw [← HR.out, List.drop_eq_nil_of_le (by have := H.out; omega)]; simp [inV])
   go_wp2_with fail
   go_ret
   exact ⟨ret_bool HZ.out.symm, m, rfl⟩
structure PutI (v : List Int) (L : List (List Int)) (Z Zo Y : Zl) (k : Nat) (pl : Bool) : Prop where
 perm : (Zo ++ Z.drop k).Perm Y
 txt : Zo.map Prod.snd ++ (if pl = true then L.drop k else putV v (L.drop k)) = putV v L
 len : Zo.length ≤ k + pl.toNat
section
variable {v : List Int} {L : List (List Int)} {Z Zo Y : Zl} {k : Nat} {pl : Bool} {z : Value × List Int}
theorem PutI.at (hZ : Z.map Prod.snd = L) (hz : Z[k]? = some z) : L[k]? = some z.2 := by rw [← hZ, List.getElem?_map, hz]; rfl
theorem PutI.step (h : PutI v L Z Zo Y k true) (hZ : Z.map Prod.snd = L) (hz : Z[k]? = some z) : (Zo ++ [z] ++ Z.drop (k + 1)).Perm Y ∧ (Zo ++ [z]).map Prod.snd ++ L.drop (k + 1) = putV v L := by
 have h1 := h.perm
 have h2 := h.txt
 rw [drop_step hz] at h1
 rw [if_pos rfl, drop_step (PutI.at hZ hz)] at h2
 exact ⟨by simpa using h1, by simpa using h2⟩
end
theorem oneC {S : Nat → Prop} {w : World} {r : Value} {l : List Int} (h : RI S w r l) : r.oneCell' = true := by obtain ⟨_, _, rfl⟩ := h.form; rfl
theorem freshRows {A : Nat → Prop} {w0 w w1 : World} {Ps : List Thing} (h : HSx A w0 w Ps) (hw : w1 = w.alloc (.cells #[] 28)) : HSx A w0 w1 (Ps ++ [aV 28 (.slice (some ⟨w.heap.size, 0, none⟩) 0 0) ([] : Zl).unzip.1]) := by
 subst hw
 refine h.add ((Below.refl _ _).alloc (Nat.le_refl _) _) (st_V _ _ _) (F := fun b => b = w.heap.size) ⟨?_, fun b hb => by simpa [Value.ownBlock] using hb.symm⟩ (fun b hb => by subst hb; exact ⟨Nat.le_refl _, by simp⟩)
 exact World.ownsRow_lit (base := 0) (e := 28) (size := 1) w #[] 0 (Nat.zero_le _) (by unfold maxLen; omega) rfl
end Go.Proofs.YtipjomdldjbenaaGreatDoor
