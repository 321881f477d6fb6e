/- All elements of a group with at most 200 elements, by the reference. Condition: sizes up to 2^24. Rows of arrays of four numbers in memory; an array as a list. Condition: at most 2^26 rows. All elements of a group with at most 200 elements, by the program. Condition: sizes up to 2^24. Names of parts, names of groups, sizes, by the program. Condition: sizes up to 2^24; the variable MaxLen holds some number. Names and sizes of groups, by the program. Condition: sizes up to 2^24; the variable MaxLen holds some number. All elements of a group with at most 200 elements, by the program: the list. Condition: sizes up to 2^24; the variable MaxLen holds some number. How many elements are their own inverses, by the program and by the reference. Condition: sizes up to 2^24; for the program, the variable MaxLen holds some number. -/
import Derived.Test.YtipjomdldjbenaaGreatDoorRGIs
import Derived.Test.YtipjomdldjbenaaGreatDoorRGEl
import Derived.Test.YtipjomdldjbenaaGreatDoorRGMrg
import Derived.Test.YtipjomdldjbenaaGreatDoorRGInV
import Derived.Test.YtipjomdldjbenaaGreatDoorRGStar
import Derived.Test.YtipjomdldjbenaaGreatDoorRGKeys
import Derived.Test.YtipjomdldjbenaaGreatDoorRGVec
import Derived.Test.YtipjomdldjbenaaGreatDoorRGKzA
import Derived.Test.YtipjomdldjbenaaGreatDoorRGCell
import Derived.Test.YtipjomdldjbenaaGreatDoorRGSrt
import Derived.Test.YtipjomdldjbenaaGreatDoorRGWsR
import Derived.Test.YtipjomdldjbenaaGreatDoorRGNrm
import Derived.Test.YtipjomdldjbenaaGreatDoorRGStr
import Derived.Lib.SplitLaws
import Derived.Lib.SliceRun
import Derived.Deep.RegionHeld3
import Derived.Deep.RegionWith
namespace Go.Proofs.YtipjomdldjbenaaGreatDoor
open Go.RowKit
set_option maxRecDepth 20000
theorem aBfs_at {c : List (List Int)} {f k : Nat} {out : List (List Int)} {u : List Int} (h : out[k]? = some u) : aBfs c (f + 1) k out = aBfs c f (k + 1) (aRow c u out) := by
 show (match out[k]? with | none => out | some u => aBfs c f (k + 1) (aRow c u out)) = _
 rw [h]
theorem aBfs_end {c : List (List Int)} {f k : Nat} {out : List (List Int)} (h : out.length ≤ k) : aBfs c f k out = out := by
 cases f with
 | zero => rfl
 | succ f => show (match out[k]? with | none => out | some u => aBfs c f (k + 1) (aRow c u out)) = _; rw [List.getElem?_eq_none h]
theorem aRow_step (c : List (List Int)) (u : List Int) (out : List (List Int)) (i : Nat) : (List.range (i + 1)).foldl (aStep c u) out = aStep c u ((List.range i).foldl (aStep c u) out) i := by
 rw [List.range_succ, List.foldl_append]; rfl
set_option maxHeartbeats 8000000 in
theorem allSpec {S : Nat → Prop} {u : Value} {c : List (List Int)} {w : World} (h : RII S w u c) (hF : FinP c) (hs : szP c ≤ 200) (hl : total c ≤ 16777216) :
  Calls Tryz.prog 92 #[u] w fun e w' => ∃ r, e = .returned r ∧ FII (New w w') w' r (elL c) ∧ Below w.heap.size w w' := by
 have mixed : Tryz.prog.follows .mixedOrders = true := by kernel_rfl
 obtain ⟨w1, hw1⟩ : ∃ w1, w1 = w.alloc (.cells #[] 3) := ⟨_, rfl⟩
 obtain ⟨w2, hw2⟩ : ∃ w2, w2 = w1.alloc (.cells #[.slice (some ⟨w.heap.size, 0, none⟩) 0 0] 28) := ⟨_, rfl⟩
 have hs1 := HSx.addI (HS.nil (Below.refl _ w)) (fresh_of (Below.refl _ w) hw1).2 (fresh_of (Below.refl _ w) hw1).1
 have hs2 := HSx.newV1 hs1 _ hw2
 have hs2 : HS w w2 [aI (.slice (some ⟨w.heap.size, 0, none⟩) 0 0) [], aV 28 (.slice (some ⟨w1.heap.size, 0, none⟩) 1 1) [.slice (some ⟨w.heap.size, 0, none⟩) 0 0]] := hs2
 have hs3 := HSx.iToRs' hs2 0 rfl
 have hs3 : HS w w2 [aRs [(.slice (some ⟨w.heap.size, 0, none⟩) 0 0, [])], aV 28 (.slice (some ⟨w1.heap.size, 0, none⟩) 1 1) (([(.slice (some ⟨w.heap.size, 0, none⟩) 0 0, [])] : Zl).map Prod.fst)] := hs3
 have hs4 := (hs3.shutF (Z := [(.slice (some ⟨w.heap.size, 0, none⟩) 0 0, [])]) (v := .slice (some ⟨w1.heap.size, 0, none⟩) 1 1) 1 0 (by decide) rfl rfl).pick [1] (by decide)
 have hs4 : HS w w2 [aF (.slice (some ⟨w1.heap.size, 0, none⟩) 1 1) [[]]] := hs4
 have HW2 := Lib.hid (show w2 = (w.alloc (.cells #[] 3)).alloc (.cells #[.slice (some ⟨w.heap.size, 0, none⟩) 0 0] 28) by rw [hw2, hw1])
 have hz1 : w1.heap.size = w.heap.size + 1 := by rw [hw1]; simp
 rw [hz1] at hs4
 have hc := hF.cart
 have hA0 : AOk c [[]] := ⟨List.pairwise_singleton _ _, fun x hx => by rw [List.mem_singleton] at hx; subst hx; exact nf_nil hc, List.mem_singleton.2 rfl⟩
 have H0 : Hid (AOk c [[]] ∧ ∃ f, 201 ≤ f + 0 ∧ aBfs c f 0 [[]] = elL c) := Lib.hid ⟨hA0, 201, by omega, rfl⟩
 have HCNT := Lib.hid (fun (out : List (List Int)) (ho : AOk c out) => (show out.length ≤ 200 from Nat.le_trans (nf_count hF hs ho.srt.nodup ho.nf) hs))
 have H15 := Lib.hid (fun (x : List Int) (hx : Nf c x) => nf_15 hF hs hx)
 have HROW := Lib.hid (fun (x : List Int) (hx : Nf c x) (m : Nat) (out : List (List Int)) (k : Nat) (hm : m ≤ c.length) (ho : AOk c out) (hk : out[k]? = some x) => aRow_ok hF hx m hm ho hk)
 have HUP := Lib.hid (fun (x : List Int) (hx : Nf c x) (i : Nat) (hi : i < c.length) => up_nf hF hx hi)
 have HNS := Lib.hid (fun (wv : World) (S9 : Nat → Prop) (vv : Value) (x : List Int) (i : Nat) (hi : i < c.length) (hx : Nf c x) (h5 : x.length ≤ 15) (hb : Below w.heap.size w wv) (hv : RI S9 wv vv (x ++ [(i : Int)])) =>
  normalSpec (h.below hb) hv hc (lets_app' hx.lets (fun y hy => by simp at hy; omega)) hl (by simp; omega))
 have hn4 := hc.le
 obtain ⟨aa, ca, rfl⟩ := h.form
 generalize hn : c.length = n at *
 have HN := Lib.hid hn
 clear hs1 hs2 hs3 hw1 hw2 hz1 hF hs hn hc hA0 h
 go_enter Tryz.func92, Tryz.ntmps92
 go_wp2_with fail
 rw [← HW2.out]
 go_loopw [3, 4] (fun oo kk wr => ∃ (k : Nat) (vo : Value) (out : List (List Int)), vo = oo ∧ k ≤ out.length ∧ kk = .int .i64 k ∧ HS w wr [aF vo out] ∧ Hid (AOk c out ∧ ∃ f, 201 ≤ f + k ∧ aBfs c f k out = elL c)) (fun _ kk _ => 201 - (intOf kk).toNat)
 case atStart => exact ⟨0, _, [[]], rfl, Nat.zero_le _, rfl, hs4, H0⟩
 case round =>
  clear hs4 HW2 H0
  obtain ⟨k, vo, out, rfl, hk, rfl, hs, HQ⟩ := hrel
  have h200 := HCNT.out out HQ.out.1
  obtain ⟨ao, co, rfl⟩ := (HS.F hs 0 rfl).read.form
  by_cases hkm : k < out.length
  ·have k1 : (k : Int) < (out.length : Int) := by omega
   obtain ⟨x, hx⟩ : ∃ x, out[k]? = some x := ⟨out[k], List.getElem?_eq_getElem _⟩
   have hxn := HQ.out.1.nf x (List.mem_of_getElem? hx)
   have HX := Lib.hid hxn
   have hx15 := H15.out x hxn
   have HFO : Hid (∃ f, 201 ≤ f + (k + 1) ∧ aBfs c f (k + 1) (aRow c x out) = elL c) := Lib.hid (by
    obtain ⟨_, f, hf, he⟩ := HQ.out
    obtain ⟨g, rfl⟩ : ∃ g, f = g + 1 := ⟨f - 1, by omega⟩
    rw [aBfs_at hx] at he
    exact ⟨g, by omega, he⟩)
   have HR := Lib.hid (fun (i : Nat) (hi : i ≤ n) => HROW.out x hxn i out k hi HQ.out.1 hx)
   have HR0 : Hid ((List.range 0).foldl (aStep c x) out = out) := Lib.hid rfl
   have HXK := Lib.hid hx
   have HEND : Hid ((List.range n).foldl (aStep c x) out = aRow c x out) := Lib.hid (by unfold aRow; rw [HN.out])
   have hs : HS w wr [aF (.slice ao out.length co) ((List.range 0).foldl (aStep c x) out)] := hs
   clear hx hxn
   go_wp2_with fail
   go_loopw [3, 5] (fun oo ii wr => ∃ (i : Nat) (vo : Value), vo = oo ∧ i ≤ n ∧ ii = .int .i64 i ∧ HS w wr [aF vo ((List.range i).foldl (aStep c x) out)]) (fun _ ii _ => n - (intOf ii).toNat)
   case atStart => exact ⟨0, _, rfl, Nat.zero_le _, rfl, hs⟩
   case round =>
    clear hs
    obtain ⟨i, vo, rfl, hi, rfl, hs⟩ := hrel
    obtain ⟨r1, r2, r3, _⟩ := HR.out i hi
    by_cases hin : i < n
    ·have i1 : (i : Int) < (n : Int) := by omega
     have i2 : (0 : Int) ≤ (k : Int) := by omega
     have hST := aRow_step c x out i
     have hgk : ((List.range i).foldl (aStep c x) out)[k]? = some x := by rw [r2 k (Nat.le_refl _)]; exact HXK.out
     generalize (List.range i).foldl (aStep c x) out = O at *
     obtain ⟨ao, co, rfl⟩ := (HS.F hs 0 rfl).read.form
     have hkO := (List.getElem?_eq_some_iff.1 hgk).1
     have hO200 := HCNT.out O r1
     have hO15 : ∀ y ∈ O, y.length ≤ 15 := fun y hy => H15.out y (r1.nf y hy)
     obtain ⟨b3, o3, r3, l3, rfl, hc3, hr3, hl3⟩ := RII.at (HS.F hs 0 rfl).read hkO
     have el : l3 = x := by rw [hgk] at hl3; exact (Option.some.inj hl3.out).symm
     subst el
     have HUN := Lib.hid (HUP.out l3 HX.out i hin)
     have hu15 := H15.out _ HUN.out
     generalize hmO : O.length = mO at *
     have HMO := Lib.hid hmO
     have k2 : (k : Int) < (mO : Int) := by omega
     obtain ⟨a3, c3, rfl⟩ := hr3.form
     obtain ⟨w3, hw3⟩ : ∃ w3, w3 = wr.alloc (.cells #[.int .i64 i] 3) := ⟨_, rfl⟩
     have b3a : Below wr.heap.size wr w3 := by rw [hw3]; exact (Below.refl _ _).alloc (Nat.le_refl _) _
     have hone : RI Any w3 (.slice (some ⟨wr.heap.size, 0, none⟩) 1 1) [(i : Int)] := by rw [hw3]; exact RI.one wr i
     have hs3 := HSx.below hs b3a
     have hcc := concatSpec (hr3.below b3a) hone (by omega) (by simp)
     have HW3 := Lib.hid hw3
     have lb3 : b3 < wr.heap.size := World.block_lt_of_cell? _ _ hc3
     have hc4 := (b3a.cell (p := ⟨b3, o3 + k, none⟩) lb3).trans hc3
     have lb4 : b3 < w3.heap.size := Nat.lt_of_lt_of_le lb3 b3a.size
     have hxl := H15.out l3 HX.out
     generalize hxn : l3.length = xn at *
     clear hw3 hone b3a hr3 hl3 hgk
     go_wp2_with fail
     rw [← HW3.out]
     go_wp2_with fail
     refine hcc.mono ?_
     rintro e w4 ⟨r4, rfl, f4, b4⟩
     have hs4 := HSx.below hs3 b4
     have hnm := HNS.out w4 _ r4 l3 i hin HX.out (by omega) hs4.bl f4.reads
     have hc5 := (b4.cell (p := ⟨b3, o3 + k, none⟩) lb4).trans hc4
     have lb5 : b3 < w4.heap.size := Nat.lt_of_lt_of_le lb4 b4.size
     have HU : Hid (normL c (l3 ++ [(i : Int)]) = upW' c l3 i) := Lib.hid rfl
     rw [HU.out] at hnm
     clear hcc hs3 hc4 f4 b4
     go_wp2_with fail
     refine hnm.mono ?_
     rintro e w5 ⟨r5, rfl, f5, b5⟩
     have hc6 := (b5.cell (p := ⟨b3, o3 + k, none⟩) lb5).trans hc5
     have hs5 := HSx.addI hs4 b5 f5
     have hs5 : HS w w5 [aF (.slice (some ⟨b3, o3, none⟩) mO co) O, aI r5 (upW' c l3 i)] := hs5
     obtain ⟨a5, c5, rfl⟩ := f5.form
     have hr5 := f5.reads
     have hif : aStep c l3 O i = if xn < (upW' c l3 i).length ∧ upW' c l3 i ∉ O then putE (upW' c l3 i) O else O := by unfold aStep; rw [hxn]
     have HIF := Lib.hid (hST.trans hif)
     generalize hU : upW' c l3 i = U at *
     generalize hun : U.length = nu at *
     clear hnm hs4 hc5 f5 b5 hif hST HU
     by_cases hlt : xn < nu
     ·have j1 : (xn : Int) < (nu : Int) := by omega
      have hq := inSpec (HS.F hs5 0 rfl).read hr5 (fun y hy => by have := hO15 y hy; omega) (by omega) (by omega)
      by_cases hmem : U ∈ O
      ·rw [show inV O U = true from decide_eq_true hmem] at hq
       have HFIN : Hid ((List.range (i + 1)).foldl (aStep c l3) out = O) := Lib.hid (by rw [HIF.out, if_neg (fun h => h.2 hmem)])
       clear hmem
       go_wp2_with fail
       refine hq.mono ?_
       rintro e w6 ⟨rfl, m6, rfl⟩
       have hs6 := (HSx.drewN hs5 m6).pick [0] (by decide)
       have hs6 : HS w (w5.drewN m6) [aF (.slice (some ⟨b3, o3, none⟩) mO co) O] := hs6
       clear hq hs5
       go_wp2_with fail
       go_roundw
       case rel => exact ⟨i + 1, _, rfl, by omega, by go_num, by rw [HFIN.out]; exact hs6⟩
       case measure => simp [intOf]; omega
      ·rw [show inV O U = false from decide_eq_false hmem] at hq
       have HFIN : Hid ((List.range (i + 1)).foldl (aStep c l3) out = putE U O) := Lib.hid (by rw [HIF.out, if_pos ⟨hlt, hmem⟩])
       clear hmem
       go_wp2_with fail
       refine hq.mono ?_
       rintro e w6 ⟨rfl, m6, rfl⟩
       have hs6 := HSx.drewN hs5 m6
       generalize w5.drewN m6 = w6 at *
       have hs6 : HS w w6 [aF (.slice (some ⟨b3, o3, none⟩) mO co) O, aI (.slice a5 nu c5) U] := hs6
       obtain ⟨F, hF, hFn, HBK⟩ := hs6.lend 0 rfl
       have hrU : RI Any w6 (.slice a5 nu c5) U := by
        obtain ⟨G, hG, _⟩ := HSx.get hs6 1 rfl
        exact hG.any
       have hcall := putESpec hF hFn hrU (fun y hy => by have := hO15 y hy; omega) (by omega) (by omega)
       have HPC : Hid (PutEC F U O w6 = fun e w' => ∃ r, e = .returned r ∧ HSx F w6 w' [aF r (putE U O)]) := Lib.hid rfl
       rw [HPC.out] at hcall
       clear hq hs5 hF hFn hrU hs6 hr5
       go_wp2_with fail
       refine hcall.mono ?_
       rintro e w7 ⟨r7, rfl, h7⟩
       have hs8 := (HBK.out w7 _ h7).pick [0] (by decide)
       have hs8 : HS w w7 [aF r7 (putE U O)] := hs8
       rw [← HFIN.out] at hs8
       clear hcall h7
       go_wp2_with fail
       go_roundw
       case rel => exact ⟨i + 1, _, rfl, by omega, by go_num, hs8⟩
       case measure => simp [intOf]; omega
     ·have j1 : ¬ (xn : Int) < (nu : Int) := by omega
      have HFIN : Hid ((List.range (i + 1)).foldl (aStep c l3) out = O) := Lib.hid (by rw [HIF.out, if_neg (fun h => hlt h.1)])
      have hs6 := hs5.pick [0] (by decide)
      have hs6 : HS w w5 [aF (.slice (some ⟨b3, o3, none⟩) mO co) O] := hs6
      clear hs5
      go_wp2_with fail
      go_roundw
      case rel => exact ⟨i + 1, _, rfl, by omega, by go_num, by rw [HFIN.out]; exact hs6⟩
      case measure => simp [intOf]; omega
    ·have i1 : ¬ (i : Int) < (n : Int) := by omega
     have hie : i = n := by omega
     have HAK : Hid (AOk c (aRow c x out)) := Lib.hid (by rw [← HEND.out, ← hie]; exact r1)
     have hlen : k + 1 ≤ (aRow c x out).length := by
      rw [← HEND.out, ← hie]
      have := (List.getElem?_eq_some_iff.1 ((r2 k (Nat.le_refl _)).trans HXK.out)).1
      omega
     rw [hie, HEND.out] at hs
     clear hie r1 r2 r3
     go_wp2_with fail
     go_roundw
     case rel => exact ⟨k + 1, _, _, rfl, hlen, by go_num, hs, Lib.hid ⟨HAK.out, HFO.out⟩⟩
     case measure => simp [intOf]; omega
  ·have k1 : ¬ (k : Int) < (out.length : Int) := by omega
   have he : out = elL c := by
    obtain ⟨_, f, _, he⟩ := HQ.out
    rw [aBfs_end (by omega)] at he
    exact he
   have HE := Lib.hid he
   clear he
   go_wp2_with fail
   go_ret
   exact ⟨_, rfl, by rw [← HE.out]; exact HS.F hs 0 rfl, hs.bl⟩
def elOk (c : List (List Int)) : Bool := finB c && decide (szP c ≤ 200)
def elR (c : List (List Int)) : List (List Int) := if elOk c then elL c else []
theorem szP_pos {c : List (List Int)} (h : FinP c) : 1 ≤ szP c := by
 have h1 := h.texts.size
 rw [← h1]
 unfold szN
 have : ∀ (l : List (List UInt8)) (q : Nat), 1 ≤ q → (∀ x ∈ l, ∃ k, k < 12 ∧ x = tyNm k) → 1 ≤ (l.map szB).foldl (· * ·) q := by
  intro l
  induction l with
  | nil => intro q hq _; exact hq
  | cons x l ih =>
   intro q hq hx
   rw [List.map_cons, List.foldl_cons]
   refine ih _ ?_ (fun y hy => hx y (List.mem_cons_of_mem _ hy))
   obtain ⟨k, hk, rfl⟩ := hx x (List.mem_cons_self ..)
   have : ∀ k, k < 12 → 1 ≤ szB (tyNm k) := by decide
   have := this k hk
   exact Nat.mul_pos hq this
 exact this _ _ (Nat.le_refl _) (nmL_ok h)
theorem elOk_fin {c : List (List Int)} (h : elOk c = true) : finB c = true ∧ FinP c ∧ szP c ≤ 200 ∧ szC c = szP c := by
 unfold elOk at h
 rw [Bool.and_eq_true, decide_eq_true_eq] at h
 exact ⟨h.1, finB_p h.1, h.2, by unfold szC; rw [if_pos h.1]⟩
theorem elOk_no {c : List (List Int)} (h : elOk c = false) : szC c = 0 ∨ 200 < szC c := by
 unfold szC
 unfold elOk at h
 split
 ·rename_i hf
  rw [hf, Bool.true_and, decide_eq_false_iff_not] at h
  exact .inr (by omega)
 ·exact .inl rfl
set_option maxHeartbeats 2000000 in
theorem elementsSpec {S : Nat → Prop} {u : Value} {c : List (List Int)} {w : World} (h : RII S w u c) (hl : total c ≤ 16777216) :
  Calls Tryz.prog 49 #[u] w fun e w' => ∃ r, e = .returned (.tuple #[r, .bool (elOk c)]) ∧ FII (New w w') w' r (elR c) ∧ Below w.heap.size w w' := by
 have hsz := sizeSpec h hl
 cases hok : elOk c with
 | false =>
  have HR : Hid (elR c = []) := Lib.hid (by unfold elR; rw [hok]; rfl)
  have hno := elOk_no hok
  obtain ⟨aa, ca, rfl⟩ := h.form
  clear hok h
  generalize szC c = z at *
  rcases hno with rfl | hno
  ·go_enter Tryz.func49, Tryz.ntmps49
   go_wp2_with fail
   refine hsz.mono ?_
   rintro e w1 ⟨rfl, b1⟩
   have hf := FII.empty_of b1 (w1 := w1.alloc (.cells #[] 28)) rfl
   clear hsz
   go_wp2_with fail
   go_ret2
   exact ⟨_, rfl, by rw [HR.out]; exact hf.1, hf.2⟩
  ·have i1 : (200 : Int) < (z : Int) := by omega
   have i2 : ¬ (z : Int) < 1 := by omega
   go_enter Tryz.func49, Tryz.ntmps49
   go_wp2_with fail
   refine hsz.mono ?_
   rintro e w1 ⟨rfl, b1⟩
   have hf := FII.empty_of b1 (w1 := w1.alloc (.cells #[] 28)) rfl
   clear hsz
   go_wp2_with fail
   go_ret2
   exact ⟨_, rfl, by rw [HR.out]; exact hf.1, hf.2⟩
 | true =>
  obtain ⟨h1, h2, h3, h4⟩ := elOk_fin hok
  have HR : Hid (elR c = elL c) := Lib.hid (by unfold elR; rw [hok]; rfl)
  have hpos := szP_pos h2
  rw [h4] at hsz
  have hall := fun (wv : World) (hb : Below w.heap.size w wv) => allSpec (h.below hb) h2 h3 hl
  obtain ⟨aa, ca, rfl⟩ := h.form
  have i1 : ¬ (200 : Int) < (szP c : Int) := by omega
  have i2 : ¬ (szP c : Int) < 1 := by omega
  clear hok h h1 h2 h4
  generalize szP c = z at *
  go_enter Tryz.func49, Tryz.ntmps49
  go_wp2_with fail
  refine hsz.mono ?_
  rintro e w1 ⟨rfl, b1⟩
  have hcall := hall w1 b1
  clear hsz hall
  go_wp2_with fail
  refine hcall.mono ?_
  rintro e w2 ⟨r2, rfl, f2, b2⟩
  go_wp2_with fail
  go_ret2
  exact ⟨_, rfl, by rw [HR.out]; exact f2.mono (fun b hb => ⟨Nat.le_trans b1.size hb.1, hb.2⟩), Keeps.step b1 b2⟩
def cells4 (S : List (List Int)) : List Value := S.flatMap fun l => [.int .i64 (num l 0), .int .i64 (num l 1), .int .i64 (num l 2), .int .i64 (num l 3)]
theorem infoVec : (Tryz.prog.info? 128).map (fun i => (i.zero, i.size, i.bytes)) = some (some (.agg #[.int .i64 0, .int .i64 0, .int .i64 0, .int .i64 0]), 4, 32) := by kernel_rfl
theorem cells4_get : ∀ (S : List (List Int)) (j t : Nat), t < 4 → (cells4 S)[4 * j + t]? = (S[j]?).map fun l => .int .i64 (num l t)
 | [], j, t, _ => by simp [cells4]
 | x :: S, 0, t, ht => by
  have : t = 0 ∨ t = 1 ∨ t = 2 ∨ t = 3 := by omega
  rcases this with rfl | rfl | rfl | rfl <;> simp [cells4]
 | x :: S, j + 1, t, ht => by
  have ih := cells4_get S j t ht
  unfold cells4 at *
  rw [List.flatMap_cons, List.getElem?_append_right (by simp; omega), List.getElem?_cons_succ, ← ih]
  congr 1
  simp; omega
theorem cells4_snoc (S : List (List Int)) (x : List Int) : cells4 (S ++ [x]) = cells4 S ++ [.int .i64 (num x 0), .int .i64 (num x 1), .int .i64 (num x 2), .int .i64 (num x 3)] := by simp [cells4]
abbrev aW (v : Value) (S : List (List Int)) : Thing := fun F w => w.ownsRow 0 128 4 v S.length (cells4 S) ∧ ∀ b, v.ownBlock = some b → F b
theorem st_W (v : Value) (S : List (List Int)) : Steady (aW v S) := fun _ _ _ h k => ⟨own_keep h.1 fun b hb => k b (h.2 b hb) (h.1.lt b hb).2, h.2⟩
section
variable {A : Nat → Prop} {w0 w w' : World} {Ps : List Thing}
theorem HSx.cellW {g n cap : Nat} {S : List (List Int)} (h : HSx A w0 w Ps) (i : Nat) (hi : Ps[i]? = some (aW (.slice (some ⟨g, 0, none⟩) n cap) S)) {j : Nat} {x : List Int} (hx : S[j]? = some x) :
  w.cell? ⟨g, j * 4, none⟩ = some (.int .i64 (num x 0)) ∧ w.cell? ⟨g, j * 4 + 1, none⟩ = some (.int .i64 (num x 1)) ∧ w.cell? ⟨g, j * 4 + 2, none⟩ = some (.int .i64 (num x 2)) ∧ w.cell? ⟨g, j * 4 + 3, none⟩ = some (.int .i64 (num x 3)) := by
 obtain ⟨F, hF, _⟩ := HSx.get h i hi
 have hj := (List.getElem?_eq_some_iff.1 hx).1
 have hn : n = S.length := by
  rcases hF.1.2 with ⟨hv, _⟩ | ⟨_, _, _, hv, _⟩ <;> simp at hv; exact hv.2.1
 subst hn
 have hq : ∀ t, t < 4 → w.cell? ⟨g, j * 4 + t, none⟩ = some (.int .i64 (num x t)) := fun t ht => by
  rw [hF.1.cellAt (j * 4 + t) (by omega), Nat.mul_comm, cells4_get S j t ht, hx]; rfl
 exact ⟨hq 0 (by omega), hq 1 (by omega), hq 2 (by omega), hq 3 (by omega)⟩
theorem HSx.formW {v : Value} {S : List (List Int)} (h : HSx A w0 w Ps) (i : Nat) (hi : Ps[i]? = some (aW v S)) : (∃ a cap, v = .slice a S.length cap) ∧ (0 < S.length → ∃ g cap, v = .slice (some ⟨g, 0, none⟩) S.length cap) := by
 obtain ⟨F, hF, _⟩ := HSx.get h i hi
 rcases hF.1.2 with ⟨rfl, h0⟩ | ⟨g, cap, cur, rfl, _⟩
 ·exact ⟨⟨_, _, by rw [h0]⟩, fun h => by omega⟩
 ·exact ⟨⟨_, _, rfl⟩, fun _ => ⟨g, cap, rfl⟩⟩
theorem freshW (h : HSx A w0 w Ps) {w1 : World} (hw : w1 = w.alloc (.cells #[] 128)) : HSx A w0 w1 (Ps ++ [aW (.slice (some ⟨w.heap.size, 0, none⟩) 0 0) []]) := by
 subst hw
 refine h.add ((Below.refl _ _).alloc (Nat.le_refl _) _) (st_W _ _) (F := fun b => b = w.heap.size) ⟨?_, fun b hb => by simpa [Value.ownBlock] using hb.symm⟩ (fun b hb => by subst hb; exact ⟨Nat.le_refl _, by simp⟩)
 exact World.ownsRow_lit (base := 0) (e := 128) (size := 4) w #[] 0 (Nat.zero_le _) (by unfold maxLen; omega) rfl
theorem oneW (h : HSx A w0 w Ps) (x : List Int) {w1 : World} (hw : w1 = w.alloc (.cells #[.int .i64 (num x 0), .int .i64 (num x 1), .int .i64 (num x 2), .int .i64 (num x 3)] 128)) : HSx A w0 w1 (Ps ++ [aW (.slice (some ⟨w.heap.size, 0, none⟩) 1 1) [x]]) := by
 subst hw
 refine h.add ((Below.refl _ _).alloc (Nat.le_refl _) _) (st_W _ _) (F := fun b => b = w.heap.size) ⟨?_, fun b hb => by simpa [Value.ownBlock] using hb.symm⟩ (fun b hb => by subst hb; exact ⟨Nat.le_refl _, by simp⟩)
 exact World.ownsRow_lit (base := 0) (e := 128) (size := 4) w #[.int .i64 (num x 0), .int .i64 (num x 1), .int .i64 (num x 2), .int .i64 (num x 3)] 1 (Nat.zero_le _) (by unfold maxLen; omega) rfl
variable {ops : Array Oper} {rest : List Oper} {o : Oper} {a : Act} {Q : Exit → Act → World → Prop}
theorem wpList_hsW (hgd : o.guard = none) (s x : Operand)
  (ho : o.op = .call { callee := .builtin .append, args := #[s, x], argTypes := #[130, 130] })
  {v : Value} {S : List (List Int)} {z : List Int} (hs : a.eval s = v) (h : HSx A w0 w Ps) (i : Nat) (hi : Ps[i]? = some (aW v S)) (hnew : ∀ b, v.ownBlock = some b → w0.heap.size ≤ b)
  {H : Nat} (hx : a.eval x = .slice (some ⟨H, 0, none⟩) 1 1) (hc0 : w.cell? ⟨H, 0, none⟩ = some (.int .i64 (num z 0))) (hc1 : w.cell? ⟨H, 1, none⟩ = some (.int .i64 (num z 1)))
  (hc2 : w.cell? ⟨H, 2, none⟩ = some (.int .i64 (num z 2))) (hc3 : w.cell? ⟨H, 3, none⟩ = some (.int .i64 (num z 3))) (hlen : S.length + 1 ≤ 67108864)
  (k : ∀ v' w', HSx A w0 w' (Ps.set i (aW v' (S ++ [z]))) → wpList Tryz.prog ops Q rest (a.put o.dst v') w') : wpList Tryz.prog ops Q (o :: rest) a w := by
 obtain ⟨F0, hf, _⟩ := HSx.get h i hi
 refine wpList_plain hgd fun K hK => wp_appG s x Tryz.underlying130 infoVec rfl (by decide) ho (base := 0) (news := [.int .i64 (num z 0), .int .i64 (num z 1), .int .i64 (num z 2), .int .i64 (num z 3)]) hs hf.1 (Nat.zero_le _) hx rfl ?_ (by intro u hu; simp at hu; rcases hu with rfl | rfl | rfl | rfl <;> rfl) (by omega) (by decide) ?_
 ·intro j u hj
  match j, hj with
  | 0, hj => simp at hj; subst hj; simpa [Addr.add] using hc0
  | 1, hj => simp at hj; subst hj; simpa [Addr.add] using hc1
  | 2, hj => simp at hj; subst hj; simpa [Addr.add] using hc2
  | 3, hj => simp at hj; subst hj; simpa [Addr.add] using hc3
 ·intro v' w' h2 h3 h4
  refine hK _ _ (k v' w' (h.upd i hi (st_W _ _) (below_grownO h.bl h3 hnew) h3.size fun F hF _ => ⟨fun b => v'.ownBlock = some b, ⟨?_, fun b hb => hb⟩, fun b hb => ?_, fun b hl hb => h3.block b hl (fun e => hb (hF.2 b e.symm))⟩))
  ·rw [List.length_append, cells4_snoc]; exact h2
  ·rcases h4 b hb with e | e
   ·exact .inl (hF.2 b e)
   ·exact .inr ⟨e, (h2.lt b hb).2⟩
end
theorem HS.newW {w0 w : World} {Ps : List Thing} {v : Value} {S : List (List Int)} (h : HS w0 w Ps) (i : Nat) (hi : Ps[i]? = some (aW v S)) : ∀ b, v.ownBlock = some b → w0.heap.size ≤ b := fun b hb => by
 obtain ⟨F, hF, hFn⟩ := HSx.get h i hi
 exact (hFn b (hF.2 b hb)).1.elim (fun h => h.elim) id
theorem take_vec {l : List Int} {n : Nat} (hl : l.length = n) (h4 : n ≤ 4) : [num l 0, num l 1, num l 2, num l 3].take n = l := by
 subst hl
 rcases l with _ | ⟨a, _ | ⟨b, _ | ⟨c, _ | ⟨d, _ | ⟨e, l⟩⟩⟩⟩⟩ <;> simp [num] at h4 ⊢
set_option maxHeartbeats 2000000 in
theorem listImpl {l : List Int} {n : Nat} (hl : l.length = n) (h4 : n ≤ 4) (w : World) :
  Calls Tryz.prog 170 #[vec l, .int .i64 n] w fun e w' => ∃ r, e = .returned r ∧ FI (New w w') w' r l ∧ Below w.heap.size w w' := by
 have HT := Lib.hid (take_vec hl h4)
 have hcs : n = 0 ∨ n = 1 ∨ n = 2 ∨ n = 3 ∨ n = 4 := by omega
 clear hl
 unfold vec
 have i1 : (0 : Int) ≤ (n : Int) := by omega
 have i2 : (n : Int) ≤ 4 := by omega
 have i3 : ((n : Int)).toNat = n := by omega
 clear hcs
 generalize num l 0 = x0 at *
 generalize num l 1 = x1 at *
 generalize num l 2 = x2 at *
 generalize num l 3 = x3 at *
 go_enter Tryz.func170, Tryz.ntmps170
 obtain ⟨w1, hw1⟩ : ∃ w1, w1 = w.alloc (.cells #[.int .i64 x0, .int .i64 x1, .int .i64 x2, .int .i64 x3] 128) := ⟨_, rfl⟩
 have hown := (FI.fresh0 w1).1
 have b1 : Below w.heap.size w w1 := by rw [hw1]; exact (Below.refl _ w).alloc (Nat.le_refl _) _
 have b2 : Below w.heap.size w (w1.alloc (.cells #[] 3)) := b1.alloc b1.size _
 have hz : w1.heap.size = w.heap.size + 1 := by rw [hw1]; simp
 have hnews : ∀ (j : Nat) (u : Value), (([.int .i64 x0, .int .i64 x1, .int .i64 x2, .int .i64 x3] : List Value).take n)[j]? = some u → (w1.alloc (.cells #[] 3)).cell? ((⟨w.heap.size, 0, none⟩ : Addr).add j) = some u := fun j u hj => by
  rw [List.getElem?_take] at hj
  split at hj
  ·rw [hw1]
   match j, hj with
   | 0, hj => simp at hj; subst hj; simp only [Addr.add]; go_simp
   | 1, hj => simp at hj; subst hj; simp only [Addr.add]; go_simp
   | 2, hj => simp at hj; subst hj; simp only [Addr.add]; go_simp
   | 3, hj => simp at hj; subst hj; simp only [Addr.add]; go_simp
   | _ + 4, hj => simp at hj
  ·cases hj
 have HNW := Lib.hid hnews
 have HOW := Lib.hid hown
 have HW1 := Lib.hid hw1
 rw [hz] at hown
 have HO2 := Lib.hid hown
 have HLN : Hid ((([.int .i64 x0, .int .i64 x1, .int .i64 x2, .int .i64 x3] : List Value).take n).length = n * 1) := Lib.hid (by rw [List.length_take]; simp; omega)
 have HML : Hid (([.int .i64 x0, .int .i64 x1, .int .i64 x2, .int .i64 x3] : List Value).take n = l.map (Value.int .i64)) := Lib.hid (by rw [← HT.out, List.map_take]; rfl)
 have HNL : Hid (l.length = n) := Lib.hid (by rw [← HT.out, List.length_take]; simp; omega)
 have HZ : Hid (w.heap.size ≤ (w1.alloc (.cells #[] 3)).heap.size) := Lib.hid b2.size
 clear hnews hown hw1 hz
 go_wp2_with (at_builtin; go_must (rw [← HW1.out]; refine wpList_plain rfl fun K hK => wp_appG _ _ Tryz.underlying28 infoInt rfl (by decide) rfl (base := 0) (news := ([.int .i64 x0, .int .i64 x1, .int .i64 x2, .int .i64 x3] : List Value).take n) rfl HO2.out (Nat.zero_le _) rfl HLN.out HNW.out (by intro u hu; have := List.mem_of_mem_take hu; simp at this; rcases this with rfl | rfl | rfl | rfl <;> rfl) (by rw [List.length_nil]; omega) (by decide) ?_))
 intro v' w' h2 h3 h4
 have hfin : FI (New w w') w' v' l ∧ Below w.heap.size w w' := by
  have hb : Below w.heap.size w w' := below_grownO b2 h3 (fun b hb => by simp only [Value.ownBlock, Option.some.injEq] at hb; omega)
  refine ⟨⟨?_, fun b hb => ⟨?_, (h2.lt b hb).2⟩⟩, hb⟩
  ·have := h2
   rw [HML.out] at this
   rw [HNL.out]; exact this
  ·rcases h4 b hb with e | e
   ·simp only [Value.ownBlock, Option.some.injEq] at e; omega
   ·have := b1.size; omega
 clear h2 h3 h4
 refine hK _ _ ?_
 go_wp2_with fail
 go_ret
 exact ⟨_, rfl, hfin.1, hfin.2⟩
end Go.Proofs.YtipjomdldjbenaaGreatDoor
namespace Go.Proofs.YtipjomdldjbenaaGreatDoor
open Go.RowKit
set_option maxRecDepth 20000
abbrev aC4 (b : Nat) (x : List Int) : Thing := fun F w => F b ∧ w.heap[b]? = some (.cells #[.int .i64 (num x 0), .int .i64 (num x 1), .int .i64 (num x 2), .int .i64 (num x 3)] 128 (0, 0))
theorem st_C4 (b : Nat) (x : List Int) : Steady (aC4 b x) := fun _ _ _ h k => ⟨h.1, by rw [k b h.1 (Array.getElem?_eq_some_iff.1 h.2).1]; exact h.2⟩
section
variable {A : Nat → Prop} {w0 w w' : World} {Ps : List Thing}
theorem HSx.cellC4 {b : Nat} {x : List Int} (h : HSx A w0 w Ps) (i : Nat) (hi : Ps[i]? = some (aC4 b x)) : w.cell? ⟨b, 0, none⟩ = some (.int .i64 (num x 0)) ∧ w.cell? ⟨b, 1, none⟩ = some (.int .i64 (num x 1)) ∧ w.cell? ⟨b, 2, none⟩ = some (.int .i64 (num x 2)) ∧ w.cell? ⟨b, 3, none⟩ = some (.int .i64 (num x 3)) := by
 obtain ⟨F, hF, _⟩ := HSx.get h i hi
 exact ⟨by simp [World.cell?, hF.2], by simp [World.cell?, hF.2], by simp [World.cell?, hF.2], by simp [World.cell?, hF.2]⟩
theorem HSx.cellC4at {b : Nat} {x : List Int} (h : HSx A w0 w Ps) (i : Nat) (hi : Ps[i]? = some (aC4 b x)) {t : Nat} (ht : t < 4) : w.cell? ⟨b, t, none⟩ = some (.int .i64 (num x t)) := by
 obtain ⟨h0, h1, h2, h3⟩ := h.cellC4 i hi
 have : t = 0 ∨ t = 1 ∨ t = 2 ∨ t = 3 := by omega
 rcases this with rfl | rfl | rfl | rfl <;> assumption
theorem HSx.newC4 {b : Nat} {x : List Int} (h : HSx A w0 w Ps) (hw : w' = w.alloc (.cells #[.int .i64 (num x 0), .int .i64 (num x 1), .int .i64 (num x 2), .int .i64 (num x 3)] 128)) (hb : b = w.heap.size) : HSx A w0 w' (Ps ++ [aC4 b x]) := by
 subst hw; subst hb
 exact h.add ((Below.refl _ _).alloc (Nat.le_refl _) _) (st_C4 _ _) (F := fun b => b = w.heap.size) ⟨rfl, heap_alloc_new w _⟩ (fun b hb => by subst hb; exact ⟨Nat.le_refl _, by simp⟩)
theorem HSx.only' {v : Value} {l l' : List Int} (h : HSx A w0 w Ps) (i : Nat) (hi : Ps[i]? = some (aI v l)) (hnew : ∀ b, v.ownBlock = some b → w0.heap.size ≤ b)
  (hf : FI (fun b => v.ownBlock = some b) w' v l') (ho : Only (fun b => v.ownBlock = some b) w w') : HSx A w0 w' (Ps.set i (aI v l')) :=
 h.upd i hi (st_I _ _) (h.bl.trans (ho.below hnew)) ho.size_le fun F hF _ => ⟨F, ⟨hf.1, hF.2⟩, fun _ hb => .inl hb, fun b _ hb => ho.block b (fun e => hb (hF.2 b e))⟩
end
theorem reflL_in' (c : List (List Int)) (i : Nat) (x : Int) : ∀ (l : List Int) (k : Nat), InI (reflL c i x l k)
 | [], _ => fun y hy => by simp [reflL] at hy
 | v :: l, k => fun y hy => by
  simp only [reflL, List.mem_cons] at hy
  rcases hy with rfl | hy
  ·unfold wrap64; omega
  ·exact reflL_in' c i x l (k + 1) y hy
theorem refl_in' (c : List (List Int)) (i : Nat) (l : List Int) : InI (refl c i l) := reflL_in' c i _ l 0
def BallC (c : List (List Int)) (w : World) (e : Ending) (w' : World) : Prop := ∃ r q, e = .returned (.tuple #[r, .bool q]) ∧ FII (New w w') w' r (elL c) ∧ Below w.heap.size w w'
set_option maxHeartbeats 16000000 in
theorem ballImpl {S : Nat → Prop} {u : Value} {c : List (List Int)} {w : World} (h : RII S w u c) (hF : FinP c) (hs : szP c ≤ 200) :
  Calls Tryz.prog 128 #[u, .int .i64 60, .int .i64 200] w (BallC c w) := by
 have HRES : Hid (BallC c w = fun e w' => ∃ r q, e = .returned (.tuple #[r, .bool q]) ∧ FII (New w w') w' r (elL c) ∧ Below w.heap.size w w') := Lib.hid rfl
 have mixed : Tryz.prog.follows .mixedOrders = true := by kernel_rfl
 have hmm := @run_makeMap Tryz.prog
 have hcp := hF.cart
 have h4 : c.length ≤ 4 := hcp.le
 have hsq := hcp.sq
 have HREF := Lib.hid (fun (w1 : World) (b1 : Below w.heap.size w w1) (i : Nat) (hi : i < c.length) (vv : Value) (x : List Int) (S9 : Nat → Prop) (hx : FI S9 w1 vv x) (hnew : ∀ b, S9 b → w.heap.size ≤ b) (hxl : x.length = c.length) =>
  reflectedImpl (h.old.below b1) hx (fun b hb hb' => by have h1 := hb.2; have h2 := hnew b hb'; omega) i hi hsq hxl (by omega))
 have HRL := Lib.hid (fun (i : Nat) (x : List Int) => refl_length c i x)
 have HNO := Lib.hid (fun (wv : World) (b1 : Below w.heap.size w wv) (vv : Value) (x : List Int) (m : Nat) (S9 : Nat → Prop) (hx : RI S9 wv vv x) (him : Im c x m) (hm : m ≤ 30) => normalImpl (h.below b1) hx hcp him hm)
 have HFIN := Lib.hid (fun (m : Nat) (out N : List (List Int)) (hq : BlQ c m out N) (hz : N.length = 0) => hq.fin hF hs hz)
 have HOF := Lib.hid (fun (m : Nat) (out N : List (List Int)) (hq : BlQ c m out N) => hq.out_few hF hs)
 have HML := Lib.hid (fun (m : Nat) (out N : List (List Int)) (hq : BlQ c m out N) (hz : N.length ≠ 0) => hq.m_le hF hz)
 have HFW := Lib.hid (fun (m : Nat) (out N : List (List Int)) (hq : BlQ c m out N) => hq.few hF hs)
 have HNX := Lib.hid (fun (m : Nat) (out N : List (List Int)) (hq : BlQ c m out N) (hz : N.length ≠ 0) => hq.next hF hs hz)
 have HST : Hid (BlQ c 0 [[]] [List.replicate c.length 1]) := Lib.hid (BlQ.start hF)
 have HNL := Lib.hid (fun (x : List Int) (hx : Nf c x) => nf_15 hF hs hx)
 obtain ⟨au, cu, rfl⟩ := h.form
 have hl0 : (List.replicate c.length (1 : Int)).length = c.length := by simp
 have HON := Lib.hid (fun (wv : World) => onesImpl (w := wv) c.length (by omega))
 generalize hone : List.replicate c.length (1 : Int) = one at *
 generalize hn : c.length = n at *
 have HN := Lib.hid hn
 have HL0 := Lib.hid hl0
 clear hn hone hl0 hs hF
 -- the list of the empty word
 obtain ⟨w1, hw1⟩ : ∃ w1, w1 = w.alloc (.cells #[] 3) := ⟨_, rfl⟩
 obtain ⟨w2, hw2⟩ : ∃ w2, w2 = w1.alloc (.cells #[.slice (some ⟨w.heap.size, 0, none⟩) 0 0] 28) := ⟨_, rfl⟩
 have hs1 := HSx.addI (HS.nil (Below.refl _ w)) (fresh_of (Below.refl _ w) hw1).2 (fresh_of (Below.refl _ w) hw1).1
 have hs2 := HSx.newV1 hs1 _ hw2
 have hs2 : HS w w2 [aI (.slice (some ⟨w.heap.size, 0, none⟩) 0 0) [], aV 28 (.slice (some ⟨w1.heap.size, 0, none⟩) 1 1) [.slice (some ⟨w.heap.size, 0, none⟩) 0 0]] := hs2
 have hs3 := (HSx.iToRs' hs2 0 rfl).pick [1, 0] (by decide)
 have hs3 : HS w w2 [aV 28 (.slice (some ⟨w1.heap.size, 0, none⟩) 1 1) (([(.slice (some ⟨w.heap.size, 0, none⟩) 0 0, [])] : Zl).map Prod.fst), aRs [(.slice (some ⟨w.heap.size, 0, none⟩) 0 0, [])]] := hs3
 have HW2 := Lib.hid (show w2 = (w.alloc (.cells #[] 3)).alloc (.cells #[.slice (some ⟨w.heap.size, 0, none⟩) 0 0] 28) by rw [hw2, hw1])
 have hz1 : w1.heap.size = w.heap.size + 1 := by rw [hw1]; simp
 rw [hz1] at hs3
 have hcall := HON.out w2
 clear hs1 hs2 hw1 hw2 hz1 HON
 go_enter Tryz.func128, Tryz.ntmps128
 go_wp2_with fail
 rw [← HW2.out]
 refine hcall.mono ?_
 rintro e w3 ⟨r3, rfl, f3, b3⟩
 have hs4 := HSx.below hs3 b3
 have hvc := vectorOfImpl f3.reads (by rw [HL0.out]; exact h4)
 obtain ⟨a3, c3, rfl⟩ := f3.form
 clear hcall hs3 b3 f3
 go_wp2_with fail
 refine hvc.mono ?_
 rintro e w4 ⟨rfl, b4⟩
 have hs5 := HSx.below hs4 b4
 unfold vec
 obtain ⟨w5, hw5⟩ : ∃ w5, w5 = w4.alloc (.cells #[.int .i64 (num one 0), .int .i64 (num one 1), .int .i64 (num one 2), .int .i64 (num one 3)] 128) := ⟨_, rfl⟩
 have hs6 := oneW hs5 one hw5
 have hs6 : HS w w5 [aV 28 (.slice (some ⟨w.heap.size + 1, 0, none⟩) 1 1) (([(.slice (some ⟨w.heap.size, 0, none⟩) 0 0, [])] : Zl).map Prod.fst), aRs [(.slice (some ⟨w.heap.size, 0, none⟩) 0 0, [])], aW (.slice (some ⟨w4.heap.size, 0, none⟩) 1 1) [one]] := hs6
 have HW5 := Lib.hid hw5
 clear hvc hs4 hs5 b4 hw5
 go_wp2_with fail
 rw [← HW5.out]
 generalize w4.heap.size = g4 at *
 generalize hgz : w.heap.size + 1 = gz at *
 have HQ0 : Hid (BlQ c 0 (([(.slice (some ⟨w.heap.size, 0, none⟩) 0 0, [])] : Zl).map Prod.snd) [one]) := Lib.hid HST.out
 go_loopw [8, 9, 10] (fun oo ss ll wr => ∃ (m : Nat) (vo vs : Value) (Z : Zl) (N : List (List Int)), vo = oo ∧ vs = ss ∧ ll = .int .i64 ((m : Int) + 1) ∧ m ≤ 25 ∧ HS w wr [aV 28 vo (Z.map Prod.fst), aRs Z, aW vs N] ∧ Hid (BlQ c m (Z.map Prod.snd) N)) (fun _ _ ll _ => 30 - (intOf ll).toNat)
 case atStart => exact ⟨0, _, _, _, _, rfl, rfl, by go_num, by omega, hs6, HQ0⟩
 case round =>
  clear hs6 HQ0 hgz
  obtain ⟨m, vo, vs, Z, N, rfl, rfl, rfl, hm25, hs, HQ⟩ := hrel
  have hfo := HOF.out _ _ _ HQ.out
  have hfn := HFW.out _ _ _ HQ.out
  rw [List.length_map] at hfo
  have j1 : (m : Int) + 1 ≤ 60 := by omega
  by_cases hz : N.length = 0
  ·have hfin := HFIN.out _ _ _ HQ.out hz
   obtain ⟨⟨a9, c9, rfl⟩, _⟩ := hs.formW 2 rfl
   have hs7 : HS w wr [aF vo (Z.map Prod.snd)] := ((HSx.shutF hs (Z := Z) (v := vo) 0 1 (by decide) rfl rfl).pick [0] (by decide))
   rw [hfin] at hs7
   rw [hz]
   clear hfin hs
   go_wp2_with fail
   go_ret2
   rw [HRES.out]
   exact ⟨_, _, rfl, HS.F hs7 0 rfl, hs7.bl⟩
  ·have hm24 := HML.out _ _ _ HQ.out hz
   obtain ⟨HQ2, hlim, hndN⟩ := HNX.out _ _ _ HQ.out hz
   have HQN := Lib.hid HQ2
   have HND := Lib.hid hndN
   obtain ⟨_, hg⟩ := hs.formW 2 rfl
   obtain ⟨gs, cs, rfl⟩ := hg (by omega)
   have hN0 : (0 : Int) < (N.length : Int) := by omega
   have hN0e : 0 < N.length := by omega
   clear HQ2 hndN hg
   -- a set and the next shell
   obtain ⟨w6, hw6⟩ : ∃ w6, w6 = wr.alloc (.map #[] 0) := ⟨_, rfl⟩
   have hs6 := HSx.newSet hs 128 n hw6
   obtain ⟨w7, hw7⟩ : ∃ w7, w7 = w6.alloc (.cells #[] 128) := ⟨_, rfl⟩
   have hs7 := freshW hs6 hw7
   have hz6 : w6.heap.size = wr.heap.size + 1 := by rw [hw6]; simp
   rw [hz6] at hs7
   have hs7 : HS w w7 [aV 28 vo (Z.map Prod.fst), aRs Z, aW (.slice (some ⟨gs, 0, none⟩) N.length cs) N, aS 128 wr.heap.size n ((N.take 0).foldl (bRowV c) []), aW (.slice (some ⟨wr.heap.size + 1, 0, none⟩) 0 0) ((N.take 0).foldl (bRowV c) [])] := hs7
   have HW7 := Lib.hid (show w7 = (wr.alloc (.map #[] 0)).alloc (.cells #[] 128) by rw [hw7, hw6])
   have hmb : w.heap.size ≤ wr.heap.size := hs.bl.size
   have HNXL := Lib.hid (fun k (hk : k ≤ N.length) => bNx_len (c := c) N k hk)
   have HNXS := Lib.hid (fun k x (hx : N[k]? = some x) => bNx_step (c := c) hx)
   have HNXE : Hid ((N.take N.length).foldl (bRowV c) [] = bNext c N) := Lib.hid (by rw [List.take_of_length_le (Nat.le_refl _)]; rfl)
   have HIM := Lib.hid HQ.out.shl
   rw [HN.out] at HNXL HNXS
   generalize hln : N.length = ln at *
   have HLN := Lib.hid hln
   clear hs hs6 hw6 hw7 hz6 hln
   go_wp2_with fail
   rw [← HW7.out]
   clear hN0 hN0e j1 hz
   generalize wr.heap.size = mb at *
   go_loopw [12, 42] (fun nn kk wr => ∃ (k : Nat) (vn : Value), vn = nn ∧ k ≤ ln ∧ kk = .int .i64 k ∧ HS w wr [aV 28 vo (Z.map Prod.fst), aRs Z, aW (.slice (some ⟨gs, 0, none⟩) ln cs) N, aS 128 mb n ((N.take k).foldl (bRowV c) []), aW vn ((N.take k).foldl (bRowV c) [])]) (fun _ kk _ => ln - (intOf kk).toNat)
   case atStart => exact ⟨0, _, rfl, Nat.zero_le _, rfl, hs7⟩
   case round =>
    clear hs7 HW7
    obtain ⟨k, vn, rfl, hk, rfl, hs⟩ := hrel
    by_cases hkl : k < ln
    ·have k1 : (k : Int) < (ln : Int) := by omega
     have k2 : (0 : Int) ≤ (k : Int) := by omega
     obtain ⟨x, hx⟩ : ∃ x, N[k]? = some x := ⟨N[k]'(by rw [HLN.out]; exact hkl), List.getElem?_eq_getElem _⟩
     obtain ⟨q0, q1, q2, q3⟩ := hs.cellW 2 rfl hx
     have him := (HIM.out.im x (List.mem_of_getElem? hx)).1
     have HXL : Hid (x.length = n) := Lib.hid (by rw [him.len, HN.out])
     have hstep := HNXS.out k x hx
     have hlen0 := HNXL.out k hk
     generalize (N.take k).foldl (bRowV c) [] = N0 at *
     have hkn : k * n ≤ 200 * 4 := Nat.mul_le_mul (by omega) h4
     obtain ⟨w8, hw8⟩ : ∃ w8, w8 = wr.alloc (.cells #[.int .i64 (num x 0), .int .i64 (num x 1), .int .i64 (num x 2), .int .i64 (num x 3)] 128) := ⟨_, rfl⟩
     have hs8 := HSx.newC4 (x := x) hs hw8 rfl
     have hs8 : HS w w8 [aV 28 vo (Z.map Prod.fst), aRs Z, aW (.slice (some ⟨gs, 0, none⟩) ln cs) N, aS 128 mb n ((List.range 0).foldl (bStepV c x) N0), aW vn ((List.range 0).foldl (bStepV c x) N0), aC4 wr.heap.size x] := hs8
     have HW8 := Lib.hid hw8
     have HBL := Lib.hid (fun i => bRow_len (c := c) x N0 i)
     have HBS := Lib.hid (fun i => bRow_step c x N0 i)
     have HX := Lib.hid hx
     have HSTP := Lib.hid hstep
     clear hs hw8 him hx hstep
     go_wp2_with fail
     rw [← HW8.out]
     generalize wr.heap.size = gx at *
     go_loopw [12, 48] (fun nn ii wr => ∃ (i : Nat) (vn : Value), vn = nn ∧ i ≤ n ∧ ii = .int .i64 i ∧ HS w wr [aV 28 vo (Z.map Prod.fst), aRs Z, aW (.slice (some ⟨gs, 0, none⟩) ln cs) N, aS 128 mb n ((List.range i).foldl (bStepV c x) N0), aW vn ((List.range i).foldl (bStepV c x) N0), aC4 gx x]) (fun _ ii _ => n - (intOf ii).toNat)
     case atStart => exact ⟨0, _, rfl, Nat.zero_le _, rfl, hs8⟩
     case round =>
      clear hs8 HW8
      obtain ⟨i, vn, rfl, hi, rfl, hs⟩ := hrel
      by_cases hin : i < n
      ·have i1 : (i : Int) < (n : Int) := by omega
       have i2 : (0 : Int) ≤ (i : Int) := by omega
       have i3 : (i : Int) < 4 := by omega
       have i4 : i < 4 := by omega
       obtain ⟨c0, c1, c2, c3⟩ := hs.cellC4 5 rfl
       have ci := hs.cellC4at 5 rfl (t := i) (by omega)
       have hbl := HBL.out i
       have hbs := HBS.out i
       generalize hM : (List.range i).foldl (bStepV c x) N0 = M at *
       clear hM
       by_cases hneg : num x i < 0
       ·have HB2 : Hid ((List.range (i + 1)).foldl (bStepV c x) N0 = M) := Lib.hid (by rw [hbs]; unfold bStepV; rw [if_pos hneg])
        clear hbs
        go_wp2_with fail
        go_roundw
        case rel => exact ⟨i + 1, _, rfl, by omega, by go_num, by rw [HB2.out]; exact hs⟩
        case measure => simp [intOf]; omega
       ·have hst : (List.range (i + 1)).foldl (bStepV c x) N0 = if refl c i x ∈ M then M else M ++ [refl c i x] := by rw [hbs]; unfold bStepV; rw [if_neg hneg]
        have HST := Lib.hid hst
        have hli := listImpl HXL.out h4 wr
        unfold vec at hli
        clear hbs hst
        go_wp2_with fail
        refine hli.mono ?_
        rintro e w9 ⟨r9, rfl, f9, b9⟩
        obtain ⟨a9, c9, hr9⟩ := f9.form
        rw [HXL.out] at hr9
        subst hr9
        have hs9 := HSx.addI hs b9 f9
        have hs9 : HS w w9 [aV 28 vo (Z.map Prod.fst), aRs Z, aW (.slice (some ⟨gs, 0, none⟩) ln cs) N, aS 128 mb n M, aW vn M, aC4 gx x, aI (.slice a9 n c9) x] := hs9
        have hrf := HREF.out w9 hs9.bl i hin (.slice a9 n c9) x _ ((f9.own).mono (fun b hb => hb.2)) (fun b hb => Nat.le_trans hs.bl.size (f9.2 b hb).1) HXL.out
        have HNW : Hid (∀ b, (Value.slice a9 n c9).ownBlock = some b → w.heap.size ≤ b) := Lib.hid (fun b hb => Nat.le_trans hs.bl.size (f9.2 b hb).1)
        clear hs f9 b9 hli c0 c1 c2 c3 ci
        go_wp2_with fail
        refine hrf.mono ?_
        rintro e w10 ⟨rfl, f10, o10⟩
        have hs10 := hs9.only' 6 rfl HNW.out f10 o10
        have hs10 : HS w w10 [aV 28 vo (Z.map Prod.fst), aRs Z, aW (.slice (some ⟨gs, 0, none⟩) ln cs) N, aS 128 mb n M, aW vn M, aC4 gx x, aI (.slice a9 n c9) (refl c i x)] := hs10
        have HXR : Hid ((refl c i x).length = n) := Lib.hid (by rw [HRL.out, HXL.out])
        have hvc := vectorOfImpl f10.reads (by rw [HXR.out]; exact h4)
        clear hs9 f10 o10 hrf
        go_wp2_with fail
        refine hvc.mono ?_
        rintro e w11 ⟨rfl, b11⟩
        have hs11 := (HSx.below hs10 b11).pick [0, 1, 2, 3, 4, 5] (by decide)
        have hs11 : HS w w11 [aV 28 vo (Z.map Prod.fst), aRs Z, aW (.slice (some ⟨gs, 0, none⟩) ln cs) N, aS 128 mb n M, aW vn M, aC4 gx x] := hs11
        obtain ⟨w12, hw12⟩ : ∃ w12, w12 = w11.alloc (.cells #[.int .i64 (num (refl c i x) 0), .int .i64 (num (refl c i x) 1), .int .i64 (num (refl c i x) 2), .int .i64 (num (refl c i x) 3)] 128) := ⟨_, rfl⟩
        have hs12 := hs11.alloc (.cells #[.int .i64 (num (refl c i x) 0), .int .i64 (num (refl c i x) 1), .int .i64 (num (refl c i x) 2), .int .i64 (num (refl c i x) 3)] 128)
        rw [← hw12] at hs12
        have hs12 : HS w w12 [aV 28 vo (Z.map Prod.fst), aRs Z, aW (.slice (some ⟨gs, 0, none⟩) ln cs) N, aS 128 mb n M, aW vn M, aC4 gx x] := hs12
        have k0 : w12.cell? ⟨w11.heap.size, 0, none⟩ = some (.int .i64 (num (refl c i x) 0)) := by rw [hw12]; go_simp
        have k1 : w12.cell? ⟨w11.heap.size, 1, none⟩ = some (.int .i64 (num (refl c i x) 1)) := by rw [hw12]; go_simp
        have k2 : w12.cell? ⟨w11.heap.size, 2, none⟩ = some (.int .i64 (num (refl c i x) 2)) := by rw [hw12]; go_simp
        have k3 : w12.cell? ⟨w11.heap.size, 3, none⟩ = some (.int .i64 (num (refl c i x) 3)) := by rw [hw12]; go_simp
        have hs13 := HSx.newC4 (x := refl c i x) hs11 hw12 rfl
        have hs13 : HS w w12 [aV 28 vo (Z.map Prod.fst), aRs Z, aW (.slice (some ⟨gs, 0, none⟩) ln cs) N, aS 128 mb n M, aW vn M, aC4 gx x, aC4 w11.heap.size (refl c i x)] := hs13
        have HW12 := Lib.hid hw12
        have hin4 : InI (refl c i x) := refl_in' c i x
        have hlz5 : M.length < 67108864 := by omega
        clear hs10 hvc b11 hs11 hw12
        unfold vec
        by_cases hmem : refl c i x ∈ M
        ·have HMEM := Lib.hid hmem
         have HB2 : Hid ((List.range (i + 1)).foldl (bStepV c x) N0 = M) := Lib.hid (by rw [HST.out, if_pos hmem])
         clear hmem
         go_wp2_with (at_lookup; go_must (rw [← HW12.out]; refine wpList_setYes rfl _ _ rfl rfl hs12 3 rfl HXR.out hin4 rfl HMEM ?_))
         go_roundw
         case rel => exact ⟨i + 1, _, rfl, by omega, by go_num, by rw [HB2.out]; exact hs12⟩
         case measure => simp [intOf]; omega
        ·have HMEM := Lib.hid hmem
         have HB2 : Hid ((List.range (i + 1)).foldl (bStepV c x) N0 = M ++ [refl c i x]) := Lib.hid (by rw [HST.out, if_neg hmem])
         clear hmem hs12
         go_wp2_with (first | (at_lookup; go_must (rw [← HW12.out]; refine wpList_setNo rfl _ _ rfl rfl hs13 3 rfl HXR.out hin4 rfl HMEM ?_)) | (at_mapUpdate; go_must (refine wpList_setPut rfl _ _ _ rfl rfl hs13 3 rfl hmb h4 hlz5 HXR.out hin4 rfl rfl ?_)))
         intro w14 hs14
         have hs14 : HS w w14 [aV 28 vo (Z.map Prod.fst), aRs Z, aW (.slice (some ⟨gs, 0, none⟩) ln cs) N, aS 128 mb n (M ++ [refl c i x]), aW vn M, aC4 gx x, aC4 w11.heap.size (refl c i x)] := hs14
         obtain ⟨d0, d1, d2, d3⟩ := hs14.cellC4 6 rfl
         obtain ⟨w15, hw15⟩ : ∃ w15, w15 = w14.alloc (.cells #[.int .i64 (num (refl c i x) 0), .int .i64 (num (refl c i x) 1), .int .i64 (num (refl c i x) 2), .int .i64 (num (refl c i x) 3)] 128) := ⟨_, rfl⟩
         have hs15 := hs14.alloc (.cells #[.int .i64 (num (refl c i x) 0), .int .i64 (num (refl c i x) 1), .int .i64 (num (refl c i x) 2), .int .i64 (num (refl c i x) 3)] 128)
         rw [← hw15] at hs15
         have hs15 : HS w w15 [aV 28 vo (Z.map Prod.fst), aRs Z, aW (.slice (some ⟨gs, 0, none⟩) ln cs) N, aS 128 mb n (M ++ [refl c i x]), aW vn M, aC4 gx x, aC4 w11.heap.size (refl c i x)] := hs15
         have e0 : w15.cell? ⟨w14.heap.size, 0, none⟩ = some (.int .i64 (num (refl c i x) 0)) := by rw [hw15]; go_simp
         have e1 : w15.cell? ⟨w14.heap.size, 1, none⟩ = some (.int .i64 (num (refl c i x) 1)) := by rw [hw15]; go_simp
         have e2 : w15.cell? ⟨w14.heap.size, 2, none⟩ = some (.int .i64 (num (refl c i x) 2)) := by rw [hw15]; go_simp
         have e3 : w15.cell? ⟨w14.heap.size, 3, none⟩ = some (.int .i64 (num (refl c i x) 3)) := by rw [hw15]; go_simp
         have HW15 := Lib.hid hw15
         have HNV := Lib.hid (HS.newW hs15 4 rfl)
         have hlm : M.length + 1 ≤ 67108864 := by omega
         clear hw15 hs14 hs13 hlz5 hin4 k0 k1 k2 k3
         go_wp2_with (at_builtin; go_must (rw [← HW15.out]; refine wpList_hsW rfl _ _ rfl rfl hs15 4 rfl HNV.out rfl e0 e1 e2 e3 hlm ?_))
         intro v16 w16 hs16
         have hs17 := hs16.pick [0, 1, 2, 3, 4, 5] (by decide)
         have hs17 : HS w w16 [aV 28 vo (Z.map Prod.fst), aRs Z, aW (.slice (some ⟨gs, 0, none⟩) ln cs) N, aS 128 mb n (M ++ [refl c i x]), aW v16 (M ++ [refl c i x]), aC4 gx x] := hs17
         rw [← HB2.out] at hs17
         clear hs15 hs16 e0 e1 e2 e3 d0 d1 d2 d3
         go_wp2_with fail
         go_roundw
         case rel => exact ⟨i + 1, _, rfl, by omega, by go_num, hs17⟩
         case measure => simp [intOf]; omega
      ·have i1 : ¬ (i : Int) < (n : Int) := by omega
       have hie : i = n := by omega
       rw [hie, ← HSTP.out] at hs
       have hs9 := hs.pick [0, 1, 2, 3, 4] (by decide)
       have hs9 : HS w wr [aV 28 vo (Z.map Prod.fst), aRs Z, aW (.slice (some ⟨gs, 0, none⟩) ln cs) N, aS 128 mb n ((N.take (k + 1)).foldl (bRowV c) []), aW vn ((N.take (k + 1)).foldl (bRowV c) [])] := hs9
       clear hs hie
       go_wp2_with fail
       go_roundw
       case rel => exact ⟨k + 1, _, rfl, by omega, by go_num, hs9⟩
       case measure => simp [intOf]; omega
    ·have k1 : ¬ (k : Int) < (ln : Int) := by omega
     have hke : k = ln := by omega
     rw [hke, HNXE.out] at hs
     clear hke
     have hs0 := hs.pick [0, 1, 4] (by decide)
     have hs0 : HS w wr [aV 28 vo (Z.map Prod.fst), aRs Z, aW vn (bNext c N)] := hs0
     clear hs
     obtain ⟨⟨ao, co, rfl⟩, _⟩ := hs0.formV 0 rfl
     obtain ⟨⟨an, cn, rfl⟩, hgn⟩ := hs0.formW 2 rfl
     have HGN := Lib.hid hgn
     have hzl : (Z.map Prod.fst).length = Z.length := by simp
     have hzl2 : (Z.map Prod.snd).length = Z.length := by simp
     rw [hzl2] at hlim
     rw [hzl] at hs0 ⊢
     generalize hzn : Z.length = zn at *
     have HZN := Lib.hid hzn
     generalize hN2 : bNext c N = N2 at *
     generalize hl2 : N2.length = l2 at *
     have HL2 := Lib.hid hl2
     have i7 : ¬ (200 : Int) < (zn : Int) + (l2 : Int) := by omega
     obtain ⟨w8, hw8⟩ : ∃ w8, w8 = wr.alloc (.cells #[] 28) := ⟨_, rfl⟩
     have hs8 := freshRows hs0 hw8
     have hs8 := hs8.add (Below.refl _ _) (st_Rs []) (F := NoB) ⟨fun x hx => by simp at hx, List.Pairwise.nil⟩ (fun b hb => hb.elim)
     have hs8 : HS w w8 [aV 28 (.slice ao zn co) (Z.map Prod.fst), aRs Z, aW (.slice an l2 cn) N2, aV 28 (.slice (some ⟨wr.heap.size, 0, none⟩) 0 0) (([] : Zl).map Prod.fst), aRs []] := hs8
     have HW8 := Lib.hid hw8
     have HY0 : Hid (([] : Zl).map Prod.snd = (N2.take 0).map (nf c 30)) := Lib.hid rfl
     clear hs0 hw8 hzl hzl2 hzn hN2 hl2 hgn hlim
     go_wp2_with fail
     rw [← HW8.out]
     go_loopw [18, 88] (fun ww kk wr => ∃ (k gw cw : Nat) (Y : Zl), ww = .slice (some ⟨gw, 0, none⟩) k cw ∧ k ≤ l2 ∧ kk = .int .i64 k ∧ HS w wr [aV 28 (.slice ao zn co) (Z.map Prod.fst), aRs Z, aW (.slice an l2 cn) N2, aV 28 (.slice (some ⟨gw, 0, none⟩) k cw) (Y.map Prod.fst), aRs Y] ∧ Hid (Y.map Prod.snd = (N2.take k).map (nf c 30))) (fun _ kk _ => l2 - (intOf kk).toNat)
     case atStart => exact ⟨0, _, _, [], rfl, Nat.zero_le _, rfl, hs8, HY0⟩
     case round =>
      clear hs8 HW8 HY0
      obtain ⟨k, gw, cw, Y, rfl, hk, rfl, hs, HY⟩ := hrel
      have hyl : Y.length = k := by
       have := congrArg List.length HY.out
       rw [List.length_map, List.length_map, List.length_take, HL2.out] at this
       omega
      by_cases hkl : k < l2
      ·have k1 : (k : Int) < (l2 : Int) := by omega
       have k2 : (0 : Int) ≤ (k : Int) := by omega
       obtain ⟨gn, cn2, en⟩ := HGN.out (by omega)
       simp only [Value.slice.injEq] at en
       obtain ⟨rfl, _, rfl⟩ := en
       obtain ⟨x, hx⟩ : ∃ x, N2[k]? = some x := ⟨N2[k]'(by rw [HL2.out]; exact hkl), List.getElem?_eq_getElem _⟩
       obtain ⟨q0, q1, q2, q3⟩ := hs.cellW 2 rfl hx
       have himx := (HQN.out.shl.im x (List.mem_of_getElem? hx)).1
       have HXL : Hid (x.length = n) := Lib.hid (by rw [himx.len, HN.out])
       have HIMX := Lib.hid himx
       have HY2 : Hid (Y.map Prod.snd ++ [nf c 30 x] = (N2.take (k + 1)).map (nf c 30)) := Lib.hid (by rw [HY.out, take_step hx, List.map_append]; rfl)
       have hs9 := hs.alloc (.cells #[.int .i64 (num x 0), .int .i64 (num x 1), .int .i64 (num x 2), .int .i64 (num x 3)] 128)
       obtain ⟨w9, hw9⟩ : ∃ w9, w9 = wr.alloc (.cells #[.int .i64 (num x 0), .int .i64 (num x 1), .int .i64 (num x 2), .int .i64 (num x 3)] 128) := ⟨_, rfl⟩
       rw [← hw9] at hs9
       have k0 : w9.cell? ⟨wr.heap.size, 0, none⟩ = some (.int .i64 (num x 0)) := by rw [hw9]; go_simp
       have k1' : w9.cell? ⟨wr.heap.size, 1, none⟩ = some (.int .i64 (num x 1)) := by rw [hw9]; go_simp
       have k2' : w9.cell? ⟨wr.heap.size, 2, none⟩ = some (.int .i64 (num x 2)) := by rw [hw9]; go_simp
       have k3 : w9.cell? ⟨wr.heap.size, 3, none⟩ = some (.int .i64 (num x 3)) := by rw [hw9]; go_simp
       have HW9 := Lib.hid hw9
       have hli := listImpl HXL.out h4 w9
       unfold vec at hli
       clear hs himx hx hw9
       go_wp2_with fail
       rw [← HW9.out]
       go_wp2_with fail
       refine hli.mono ?_
       rintro e w10 ⟨r10, rfl, f10, b10⟩
       have hs10 := HSx.below hs9 b10
       have hno := HNO.out w10 hs10.bl r10 x (m + 1) _ f10.reads HIMX.out (by omega)
       clear hli hs9 f10 b10 k0 k1' k2' k3 q0 q1 q2 q3
       go_wp2_with fail
       refine hno.mono ?_
       rintro e w11 ⟨r11, rfl, f11, b11⟩
       have hs11 := HSx.addI hs10 b11 f11
       obtain ⟨a11, c11, rfl⟩ := f11.form
       have hone11 : (Value.slice a11 (nf c 30 x).length c11).oneCell' = true := oneC f11.reads
       generalize (nf c 30 x).length = nx at *
       obtain ⟨w12, hw12⟩ : ∃ w12, w12 = w11.alloc (.cells #[.slice a11 nx c11] 28) := ⟨_, rfl⟩
       have hs12 := hs11.alloc (.cells #[.slice a11 nx c11] 28)
       rw [← hw12] at hs12
       have hs12 : HS w w12 [aV 28 (.slice ao zn co) (Z.map Prod.fst), aRs Z, aW (.slice (some ⟨gn, 0, none⟩) l2 cn) N2, aV 28 (.slice (some ⟨gw, 0, none⟩) k cw) (Y.map Prod.fst), aRs Y, aI (.slice a11 nx c11) (nf c 30 x)] := hs12
       have hc12 : w12.cell? ⟨w11.heap.size, 0, none⟩ = some (.slice a11 nx c11) := by rw [hw12]; go_simp
       have HW12 := Lib.hid hw12
       have HNV := Lib.hid (HS.newV hs12 3 rfl)
       have HYL : Hid ((Y.map Prod.fst).length + 1 ≤ 67108864) := Lib.hid (by rw [List.length_map]; omega)
       clear hno hs10 hs11 f11 b11 hw12
       go_wp2_with (at_builtin; go_must (rw [← HW12.out]; refine wpList_hsRow rfl _ _ rfl rfl hs12 3 rfl HNV.out rfl hc12 hone11 HYL.out ?_))
       intro v13 w13 hs13 _
       have hs14 := (hs13.moreS 4 5 (by decide) rfl rfl (Z' := Y ++ [(.slice a11 nx c11, nf c 30 x)]) (List.perm_append_singleton _ _)).pick [0, 1, 2, 3, 4] (by decide)
       have hs14 : HS w w13 [aV 28 (.slice ao zn co) (Z.map Prod.fst), aRs Z, aW (.slice (some ⟨gn, 0, none⟩) l2 cn) N2, aV 28 v13 ((Y ++ [(Value.slice a11 nx c11, nf c 30 x)]).map Prod.fst), aRs (Y ++ [(Value.slice a11 nx c11, nf c 30 x)])] := by
        have e : (Y ++ [(Value.slice a11 nx c11, nf c 30 x)]).map Prod.fst = Y.map Prod.fst ++ [Value.slice a11 nx c11] := by simp
        rw [e]; exact hs14
       have HY3 : Hid ((Y ++ [(Value.slice a11 nx c11, nf c 30 x)]).map Prod.snd = (N2.take (k + 1)).map (nf c 30)) := Lib.hid (by rw [List.map_append]; exact HY2.out)
       have hyl3 : ((Y ++ [(Value.slice a11 nx c11, nf c 30 x)]).map Prod.fst).length = k + 1 := by simp [hyl]
       obtain ⟨_, hg13⟩ := hs14.formV 3 rfl
       obtain ⟨g13, c13, rfl⟩ := hg13 (by omega)
       rw [hyl3] at hs14 ⊢
       clear hs12 hs13 hc12 hyl3 hg13
       generalize Y ++ [(Value.slice a11 nx c11, nf c 30 x)] = Y3 at *
       go_wp2_with fail
       go_roundw
       case rel => exact ⟨k + 1, _, _, _, rfl, by omega, by go_num, hs14, HY3⟩
       case measure => simp [intOf]; omega
      ·have k1 : ¬ (k : Int) < (l2 : Int) := by omega
       have hke : k = l2 := by omega
       subst hke
       have HY4 : Hid (Y.map Prod.snd = N2.map (nf c 30)) := Lib.hid (by rw [HY.out, List.take_of_length_le (by rw [HL2.out]; exact Nat.le_refl _)])
       have HYLE : Hid (∀ z ∈ Y, z.2.length ≤ 26) := Lib.hid (fun z hz => by
        have h1 : z.2 ∈ Y.map Prod.snd := List.mem_map.2 ⟨z, hz, rfl⟩
        rw [HY4.out] at h1
        obtain ⟨v9, hv9, e9⟩ := List.mem_map.1 h1
        have := (HQN.out.shl.im v9 hv9).2
        rw [← e9]; omega)
       have hsrt := hs.sortWords (Z := Y) (v := .slice (some ⟨gw, 0, none⟩) k cw) (n := 26) 3 4 (by decide) rfl rfl (HS.newV hs 3 rfl) HYLE.out (by omega) (by omega)
       clear hs
       go_wp2_with fail
       refine hsrt.mono ?_
       rintro e w9 ⟨rfl, Y2, hp, hsr, hs9⟩
       have hs9 : HS w w9 [aV 28 (.slice ao zn co) (Z.map Prod.fst), aRs Z, aW (.slice an k cn) N2, aV 28 (.slice (some ⟨gw, 0, none⟩) k cw) (Y2.map Prod.fst), aRs Y2] := hs9
       have HPT : Hid (Y2.map Prod.snd = putsE (N2.map (nf c 30))) := Lib.hid (by
        refine sorted_putsE ?_ (hsr.imp (fun h => by omega)) HND.out
        rw [← HY4.out]
        exact hp.map _)
       have hy2l : (Y2.map Prod.fst).length = k := by rw [List.length_map, hp.length_eq, hyl]
       have hone2 : ∀ u ∈ Y2.map Prod.fst, u.oneCell' = true := fun u hu => by
        obtain ⟨z, hz, rfl⟩ := List.mem_map.1 hu
        obtain ⟨F, hF, _⟩ := HSx.get hs9 4 rfl
        exact oneC (hF.1 z hz).reads
       have hlen9 : (Z.map Prod.fst).length + k ≤ 67108864 := by rw [List.length_map, HZN.out]; omega
       have HNV := Lib.hid (HS.newV hs9 0 rfl)
       have HO2 := Lib.hid hone2
       have HY2L := Lib.hid hy2l
       clear hsrt hp hsr hone2 hy2l
       go_wp2_with (at_builtin; go_must (refine wpList_hsRows rfl _ _ rfl rfl hs9 0 3 rfl rfl HY2L.out HNV.out rfl HO2.out hlen9 ?_))
       intro v10 w10 hs10 _
       have hs11 := ((HSx.bothS hs10 1 4 (by decide) rfl rfl).pick [0, 1, 2] (by decide))
       have hs11 : HS w w10 [aV 28 v10 ((Z ++ Y2).map Prod.fst), aRs (Z ++ Y2), aW (.slice an k cn) N2] := by rw [List.map_append]; exact hs11
       have HQ3 : Hid (BlQ c (m + 1) ((Z ++ Y2).map Prod.snd) N2) := Lib.hid (by rw [List.map_append, HPT.out]; exact HQN.out)
       clear hs9 hs10
       generalize Z ++ Y2 = Z3 at *
       go_wp2_with fail
       go_roundw
       case rel => exact ⟨m + 1, _, _, Z3, N2, rfl, rfl, by go_num, by omega, hs11, HQ3⟩
       case measure => simp [intOf]; omega
end Go.Proofs.YtipjomdldjbenaaGreatDoor
namespace Go.Proofs.YtipjomdldjbenaaGreatDoor
open Go.RowKit
set_option maxRecDepth 20000
theorem tcImpl_all : ∀ k, k < 12 → ∀ w : World, Calls Tryz.prog 185 #[.string (bs (tyNm k))] w (TcP k w)
 | 0, _, w => tcImpl0 w
 | 1, _, w => tcImpl1 w
 | 2, _, w => tcImpl2 w
 | 3, _, w => tcImpl3 w
 | 4, _, w => tcImpl4 w
 | 5, _, w => tcImpl5 w
 | 6, _, w => tcImpl6 w
 | 7, _, w => tcImpl7 w
 | 8, _, w => tcImpl8 w
 | 9, _, w => tcImpl9 w
 | 10, _, w => tcImpl10 w
 | 11, _, w => tcImpl11 w
 | _ + 12, h, _ => absurd h (by omega)
set_option maxHeartbeats 1000000 in
theorem sizeType0 (w : World) : Calls Tryz.prog 143 #[.string ⟨#[65, 49]⟩] w fun e w' => e = .returned (.int .i64 2) ∧ Below w.heap.size w w' := by
 go_enter Tryz.func143, Tryz.ntmps143
 go_wp2_with fail
 go_ret
 exact ⟨rfl, Below.refl _ _⟩
set_option maxHeartbeats 1000000 in
theorem sizeType1 (w : World) : Calls Tryz.prog 143 #[.string ⟨#[65, 50]⟩] w fun e w' => e = .returned (.int .i64 6) ∧ Below w.heap.size w w' := by
 go_enter Tryz.func143, Tryz.ntmps143
 go_wp2_with fail
 go_ret
 exact ⟨rfl, Below.refl _ _⟩
set_option maxHeartbeats 1000000 in
theorem sizeType2 (w : World) : Calls Tryz.prog 143 #[.string ⟨#[65, 51]⟩] w fun e w' => e = .returned (.int .i64 24) ∧ Below w.heap.size w w' := by
 go_enter Tryz.func143, Tryz.ntmps143
 go_wp2_with fail
 go_ret
 exact ⟨rfl, Below.refl _ _⟩
set_option maxHeartbeats 1000000 in
theorem sizeType3 (w : World) : Calls Tryz.prog 143 #[.string ⟨#[65, 52]⟩] w fun e w' => e = .returned (.int .i64 120) ∧ Below w.heap.size w w' := by
 go_enter Tryz.func143, Tryz.ntmps143
 go_wp2_with fail
 go_ret
 exact ⟨rfl, Below.refl _ _⟩
set_option maxHeartbeats 1000000 in
theorem sizeType4 (w : World) : Calls Tryz.prog 143 #[.string ⟨#[66, 50]⟩] w fun e w' => e = .returned (.int .i64 8) ∧ Below w.heap.size w w' := by
 go_enter Tryz.func143, Tryz.ntmps143
 go_wp2_with fail
 go_ret
 exact ⟨rfl, Below.refl _ _⟩
set_option maxHeartbeats 1000000 in
theorem sizeType5 (w : World) : Calls Tryz.prog 143 #[.string ⟨#[66, 51]⟩] w fun e w' => e = .returned (.int .i64 48) ∧ Below w.heap.size w w' := by
 go_enter Tryz.func143, Tryz.ntmps143
 go_wp2_with fail
 go_ret
 exact ⟨rfl, Below.refl _ _⟩
set_option maxHeartbeats 1000000 in
theorem sizeType6 (w : World) : Calls Tryz.prog 143 #[.string ⟨#[66, 52]⟩] w fun e w' => e = .returned (.int .i64 384) ∧ Below w.heap.size w w' := by
 go_enter Tryz.func143, Tryz.ntmps143
 go_wp2_with fail
 go_ret
 exact ⟨rfl, Below.refl _ _⟩
set_option maxHeartbeats 1000000 in
theorem sizeType7 (w : World) : Calls Tryz.prog 143 #[.string ⟨#[67, 51]⟩] w fun e w' => e = .returned (.int .i64 48) ∧ Below w.heap.size w w' := by
 go_enter Tryz.func143, Tryz.ntmps143
 go_wp2_with fail
 go_ret
 exact ⟨rfl, Below.refl _ _⟩
set_option maxHeartbeats 1000000 in
theorem sizeType8 (w : World) : Calls Tryz.prog 143 #[.string ⟨#[67, 52]⟩] w fun e w' => e = .returned (.int .i64 384) ∧ Below w.heap.size w w' := by
 go_enter Tryz.func143, Tryz.ntmps143
 go_wp2_with fail
 go_ret
 exact ⟨rfl, Below.refl _ _⟩
set_option maxHeartbeats 1000000 in
theorem sizeType9 (w : World) : Calls Tryz.prog 143 #[.string ⟨#[68, 52]⟩] w fun e w' => e = .returned (.int .i64 192) ∧ Below w.heap.size w w' := by
 go_enter Tryz.func143, Tryz.ntmps143
 go_wp2_with fail
 go_ret
 exact ⟨rfl, Below.refl _ _⟩
set_option maxHeartbeats 1000000 in
theorem sizeType10 (w : World) : Calls Tryz.prog 143 #[.string ⟨#[70, 52]⟩] w fun e w' => e = .returned (.int .i64 1152) ∧ Below w.heap.size w w' := by
 go_enter Tryz.func143, Tryz.ntmps143
 go_wp2_with fail
 go_ret
 exact ⟨rfl, Below.refl _ _⟩
set_option maxHeartbeats 1000000 in
theorem sizeType11 (w : World) : Calls Tryz.prog 143 #[.string ⟨#[71, 50]⟩] w fun e w' => e = .returned (.int .i64 12) ∧ Below w.heap.size w w' := by
 go_enter Tryz.func143, Tryz.ntmps143
 go_wp2_with fail
 go_ret
 exact ⟨rfl, Below.refl _ _⟩
theorem sizeType_all : ∀ k, k < 12 → ∀ w : World, Calls Tryz.prog 143 #[.string (bs (tyNm k))] w fun e w' => e = .returned (.int .i64 (szB (tyNm k))) ∧ Below w.heap.size w w'
 | 0, _, w => sizeType0 w
 | 1, _, w => sizeType1 w
 | 2, _, w => sizeType2 w
 | 3, _, w => sizeType3 w
 | 4, _, w => sizeType4 w
 | 5, _, w => sizeType5 w
 | 6, _, w => sizeType6 w
 | 7, _, w => sizeType7 w
 | 8, _, w => sizeType8 w
 | 9, _, w => sizeType9 w
 | 10, _, w => sizeType10 w
 | 11, _, w => sizeType11 w
 | _ + 12, h, _ => absurd h (by omega)
def HasM (w : World) : Prop := ∃ m : Int, w.cell? ⟨0, 0, none⟩ = some (.int .i64 m)
theorem HasM.below {w w' : World} (h : HasM w) (hb : Below w.heap.size w w') : HasM w' := by
 obtain ⟨m, hm⟩ := h
 exact ⟨m, (hb.cell (p := ⟨0, 0, none⟩) (World.block_lt_of_cell? _ _ hm)).trans hm⟩
theorem bs_inv (x : ByteArray) : bs x.data.toList = x := by
 apply ByteArray.ext
 simp [bs]
theorem splitB_bs (t sp : List UInt8) (h1 : 1 ≤ sp.length) : Lib.splitB (bs sp) 0 (Lib.countB (bs t) (bs sp)) (bs t) = (Lib.split t sp).map bs ∧ (Lib.split t sp).length = Lib.countB (bs t) (bs sp) + 1 := by
 have hd := Lib.splitB_data (bs sp) 0 (Lib.countB (bs t) (bs sp)) (bs t)
 have e : Lib.splitK (bs sp).data.toList 0 (Lib.countB (bs t) (bs sp)) (bs t).data.toList = Lib.split t sp := by
  unfold Lib.split Lib.countB
  rw [bs_data, bs_data]
 rw [e] at hd
 have hl := Lib.splitB_all (bs sp) (by rw [bs_size]; exact h1) 0 _ (bs t) rfl
 refine ⟨?_, by rw [← hd, List.length_map, hl]⟩
 rw [← hd, List.map_map]
 conv => lhs; rw [← List.map_id (Lib.splitB (bs sp) 0 (Lib.countB (bs t) (bs sp)) (bs t))]
 exact List.map_congr_left (fun x _ => (bs_inv x).symm)
def TxAt (w : World) (b : Nat) (l : List (List UInt8)) : Prop := ∀ (j : Nat) (x : List UInt8), l[j]? = some x → w.cell? ⟨b, j, none⟩ = some (.string (bs x))
theorem TxAt.below {w w' : World} {b : Nat} {l : List (List UInt8)} (h : TxAt w b l) (hb : Below w.heap.size w w') : TxAt w' b l := fun j x hx =>
 (hb.cell (p := ⟨b, j, none⟩) (World.block_lt_of_cell? _ _ (h j x hx))).trans (h j x hx)
theorem splitImpl {t sp : List UInt8} {w : World} (hm : HasM w) (ht : t.length ≤ 1048576) (h1 : 1 ≤ sp.length) :
  Calls Tryz.prog 142 #[.string (bs t), .string (bs sp)] w fun e w' => e = .returned (.slice (some ⟨w.heap.size, 0, none⟩) (Lib.split t sp).length (Lib.split t sp).length) ∧ TxAt w' w.heap.size (Lib.split t sp) ∧ Below w.heap.size w w' := by
 obtain ⟨m, hm⟩ := hm
 obtain ⟨e1, e2⟩ := splitB_bs t sp h1
 refine (Tryz.strings_Split (bs t) (bs sp) m w (by rw [bs_size]; omega) hm (by rw [bs_size]; exact h1)).mono ?_
 rintro e w' ⟨rfl, rfl⟩
 refine ⟨by rw [e2], fun j x hx => ?_, (Below.refl _ w).alloc (Nat.le_refl _) _⟩
 rw [e1]
 unfold World.cell?
 rw [World.alloc]
 simp [hx]
def typeTx : List UInt8 := [65, 49, 32, 65, 50, 32, 65, 51, 32, 65, 52, 32, 66, 50, 32, 66, 51, 32, 66, 52, 32, 67, 51, 32, 67, 52, 32, 68, 52, 32, 70, 52, 32, 71, 50, 32, 65, 49, 126, 32, 65, 50, 126, 32, 65, 51, 126, 32, 67, 50, 126, 32, 71, 50, 126]
theorem typeTx_split : Lib.split typeTx [32] = tyN ++ [[65, 49, 126], [65, 50, 126], [65, 51, 126], [67, 50, 126], [71, 50, 126]] := by decide +kernel
theorem typeTx_at {k : Nat} (hk : k < 12) : (Lib.split typeTx [32])[k]? = some (tyNm k) := by
 rw [typeTx_split, List.getElem?_append_left (by exact hk)]
 unfold tyNm
 have : k < tyN.length := hk
 rw [List.getElem?_eq_getElem this]; rfl
set_option maxHeartbeats 1000000 in
theorem connImpl {S : Nat → Prop} {u : Value} {c : List (List Int)} {w : World} (h : RII S w u c) (hc : isC c = true) (hl : total c ≤ 16777216) (h1 : (partsP c).length = 1) :
  Calls Tryz.prog 184 #[u] w fun e w' => e = .returned (.bool true) ∧ Below w.heap.size w w' := by
 have hp := partsImpl h hc hl
 obtain ⟨aa, ca, rfl⟩ := h.form
 go_enter Tryz.func184, Tryz.ntmps184
 go_wp2_with fail
 refine hp.mono ?_
 rintro e w1 ⟨r1, rfl, f1, b1⟩
 obtain ⟨a1, c1, rfl⟩ := f1.any.form
 rw [List.length_map, h1]
 clear hp f1
 go_wp2_with fail
 go_ret
 exact ⟨rfl, b1⟩
set_option maxHeartbeats 4000000 in
theorem namePartImpl {S : Nat → Prop} {u : Value} {a : List (List Int)} {k : Nat} {w : World} (h : RII S w u a) (hm : HasM w) (ha : isC a = true) (h1 : (partsP a).length = 1) (hla : total a ≤ 16777216) (hk : nmK isoI a = some k) (hk12 : k < 12) :
  Calls Tryz.prog 145 #[u] w fun e w' => e = .returned (.string (bs (tyNm k))) ∧ Below w.heap.size w w' := by
 have mixed : Tryz.prog.follows .mixedOrders = true := by kernel_rfl
 obtain ⟨hyes, hno⟩ := nmK_before hk
 have HISO := Lib.hid (fun (wv : World) (S9 : Nat → Prop) (vv : Value) (j : Nat) (hj : j < 12) (hb : Below w.heap.size w wv) (hx : RII S9 wv vv (tyMx j)) =>
  isoImpl (h.below hb) hx ha (tyMx_isC j hj) hla (by
   obtain ⟨q1, q2⟩ := tyMx_sq j hj
   exact Nat.le_trans (total_leN q1 q2) (by omega)))
 have hco := connImpl h ha hla h1
 have HSP := Lib.hid (fun (wv : World) (hb : Below w.heap.size w wv) => splitImpl (t := typeTx) (sp := [32]) (hm.below hb) (by decide) (by decide))
 have hl17 : (Lib.split typeTx [32]).length = 17 := by rw [typeTx_split]; rfl
 rw [hl17] at HSP
 have HTX := Lib.hid (fun (j : Nat) (hj : j < 12) => typeTx_at hj)
 have HY := Lib.hid hyes
 have HN := Lib.hid hno
 obtain ⟨aa, ca, rfl⟩ := h.form
 generalize a.length = na at *
 generalize Lib.split typeTx [32] = T at *
 clear hyes hno h hk hl17 h1
 go_enter Tryz.func145, Tryz.ntmps145
 go_wp2_with fail
 refine hco.mono ?_
 rintro e w1 ⟨rfl, b1⟩
 clear hco
 go_wp2_with fail
 refine (HSP.out w1 b1).mono ?_
 rintro e w2 ⟨rfl, c2, b2⟩
 have hb2 := Keeps.step b1 b2
 clear b2
 generalize w1.heap.size = g at *
 go_wp2_with fail
 go_loopw [14] (fun jj wr => ∃ j : Nat, j ≤ k ∧ jj = .int .i64 j ∧ TxAt wr g T ∧ Below w.heap.size w wr) (fun jj _ => k - (intOf jj).toNat)
 case atStart => exact ⟨0, Nat.zero_le _, rfl, c2, hb2⟩
 case round =>
  clear c2 hb2
  obtain ⟨j, hj, rfl, hc, hb⟩ := hrel
  have j1 : (j : Int) < 17 := by omega
  have j2 : (0 : Int) ≤ (j : Int) := by omega
  have j3 : j < 17 := by omega
  have hcj := hc j _ (HTX.out j (by omega))
  have htc := tcImpl_all j (by omega) wr
  generalize hnm : tyNm j = nm at *
  have HNM := Lib.hid hnm
  clear hnm
  go_wp2_with fail
  refine htc.mono ?_
  rintro e w2 ⟨r2, rfl, f2, b2⟩
  have hb2 := Keeps.step hb b2
  have hc2 := hc.below b2
  have hiso := HISO.out w2 _ r2 j (by omega) hb2 f2.read
  clear htc f2 b2 hcj
  by_cases hjk : j = k
  ·subst hjk
   rw [HY.out] at hiso
   go_wp2_with fail
   refine hiso.mono ?_
   rintro e w3 ⟨r3, rfl, b3⟩
   have hb3 := Keeps.step hb2 b3
   clear hiso b3
   go_wp2_with fail
   go_ret
   exact ⟨by rw [HNM.out]; rfl, hb3⟩
  ·rw [HN.out j (by omega)] at hiso
   go_wp2_with fail
   refine hiso.mono ?_
   rintro e w3 ⟨r3, rfl, b3⟩
   have hb3 := Keeps.step hb2 b3
   have hc3 := hc2.below b3
   clear hiso b3
   go_wp2_with fail
   go_roundw
   case rel => exact ⟨j + 1, by omega, by go_num, hc3, hb3⟩
   case measure => simp [intOf]; omega
def svL (l : List (List UInt8)) : List Value := l.map fun x => Value.string (bs x)
theorem svL_snoc (l : List (List UInt8)) (x : List UInt8) : svL (l ++ [x]) = svL l ++ [.string (bs x)] := by simp [svL]
theorem svL_len (l : List (List UInt8)) : (svL l).length = l.length := by simp [svL]
theorem HS.texts {w0 w : World} {Ps : List Thing} {v : Value} {l : List (List UInt8)} (h : HS w0 w Ps) (i : Nat) (hi : Ps[i]? = some (aV 9 v (svL l))) : FS (New w0 w) w v l := by
 obtain ⟨F, hF, hFn⟩ := HSx.get h i hi
 have h1 := hF.1
 rw [svL_len] at h1
 exact ⟨h1, fun b hb => by have := hFn b (hF.2 b hb); exact ⟨this.1.elim (fun h => h.elim) id, this.2⟩⟩
theorem HS.addTx {w0 w w' : World} {Ps : List Thing} {v : Value} {l : List (List UInt8)} (h : HS w0 w Ps) (hb : Below w.heap.size w w') (f : FS (New w w') w' v l) : HS w0 w' (Ps ++ [aV 9 v (svL l)]) :=
 HSx.add h hb (st_V _ _ _) (F := New w w') ⟨by rw [svL_len]; exact f.1, f.2⟩ (fun _ h => h)
set_option maxHeartbeats 4000000 in
theorem nameImpl {S : Nat → Prop} {u : Value} {c : List (List Int)} {w : World} (h : RII S w u c) (hm : HasM w) (hf : FinP c) (hl : total c ≤ 16777216) :
  Calls Tryz.prog 118 #[u] w fun e w' => e = .returned (.string (bs (nmT c))) ∧ Below w.heap.size w w' := by
 have mixed : Tryz.prog.follows .mixedOrders = true := by kernel_rfl
 have hc := hf.cart
 have hC := isC_iff.2 hc
 obtain ⟨hps, hnm⟩ := hf.names
 have hok := hf.texts
 have HPT := Lib.hid (fun (wv : World) (hb : Below w.heap.size w wv) => partsImpl (h.below hb) hC hl)
 have h4 := hc.le
 have HSUB := Lib.hid (fun (wv : World) (S9 : Nat → Prop) (vv : Value) (p : List Nat) (hp : p ∈ partsP c) (hb : Below w.heap.size w wv) (hx : RI S9 wv vv (iL p)) =>
  pickedImpl (h.below hb) hx hc.sq (hok.part p hp).pts h4 (by
   have h1 := (hok.part p hp).car
   have h2 := (isC_iff.1 h1).le
   rw [(pickN_sq c p).1] at h2
   simp; omega))
 have HNAME := Lib.hid (fun (wv : World) (S9 : Nat → Prop) (vv : Value) (p : List Nat) (hp : p ∈ partsP c) (hb : Below w.heap.size w wv) (hx : RII S9 wv vv (pickN c p)) => (show ∃ nm : List UInt8, nm.length = 2 ∧ nmOf (pickN c p) = nm ∧ Calls Tryz.prog 145 #[vv] wv fun e w' => e = .returned (.string (bs nm)) ∧ Below wv.heap.size wv w' from by
  obtain ⟨k, hk, h1, h2⟩ := hnm p hp
  have hq := (pickN_sq c p)
  have hle := (isC_iff.1 (hok.part p hp).car).le
  refine ⟨tyNm k, tyNm_len k hk, by unfold nmOf; rw [h1]; rfl, namePartImpl hx (hm.below hb) (hok.part p hp).car (hok.part p hp).one ?_ h1 hk⟩
  rw [hq.1] at hle
  exact Nat.le_trans (total_leN (A := 4) (B := 4) (by rw [hq.1]; exact hle) (fun x hx9 => by rw [hq.2 x hx9]; exact hle)) (by omega)))
 have HL4 : Hid ((partsP c).length ≤ 4) := Lib.hid (by have := hok.few; unfold nmL at this; rwa [List.length_map] at this)
 have HST := Lib.hid (fun (i : Nat) (p : List Nat) (hp : (partsP c)[i]? = some p) => (show (nmL c).take (i + 1) = (nmL c).take i ++ [nmOf (pickN c p)] from take_step (nmL_at hp)))
 have HJE : Hid ((nmL c).take (partsP c).length = nmL c) := Lib.hid (List.take_of_length_le (by unfold nmL; rw [List.length_map]; exact Nat.le_refl _))
 have HJN := Lib.hid (fun (wv : World) (S9 : Nat → Prop) (vv : Value) (hx : FS S9 wv vv (nmL c)) => joinTexts hx (sp := [120]) (by have := hok.few; omega) (fun x hx9 => by
  obtain ⟨k, hk, rfl⟩ := nmL_ok hf x hx9
  have := tyNm_len k hk
  omega) (by decide))
 have HEQ : Hid (jn [120] (nmL c) = nmT c) := Lib.hid rfl
 obtain ⟨aa, ca, rfl⟩ := h.form
 have f0 : FS (New w (w.alloc (.cells #[] 9))) (w.alloc (.cells #[] 9)) (.slice (some ⟨w.heap.size, 0, none⟩) 0 0) [] := FS.empty (Below.refl _ w)
 have hs0 : HS w (w.alloc (.cells #[] 9)) [aV 9 (.slice (some ⟨w.heap.size, 0, none⟩) 0 0) (svL [])] := HS.addTx (HS.nil (Below.refl _ w)) ((Below.refl _ w).alloc (Nat.le_refl _) _) f0
 have b0 : Below w.heap.size w (w.alloc (.cells #[] 9)) := (Below.refl _ w).alloc (Nat.le_refl _) _
 clear hps hnm hok hC hf hc h4
 go_enter Tryz.func118, Tryz.ntmps118
 go_wp2_with fail
 refine (HPT.out _ b0).mono ?_
 rintro e w1 ⟨r1, rfl, f1, b1⟩
 have hr1 := f1.any
 have hs1 := HSx.addR hs0 b1 f1
 obtain ⟨a1, c1, rfl⟩ := hr1.form
 rw [List.length_map] at hr1 ⊢
 have hs1 : HS w w1 [aV 9 (.slice (some ⟨w.heap.size, 0, none⟩) 0 0) (svL ((nmL c).take 0)), aR (.slice a1 ((partsP c).map iL).length c1) ((partsP c).map iL)] := hs1
 rw [List.length_map] at hs1
 generalize hP : partsP c = P at *
 generalize hmm : P.length = m at *
 have HM := Lib.hid hmm
 have hm4 := HL4.out
 clear hmm f1 hP f0 b0 b1 HPT hs0 hr1
 generalize nmL c = NL at *
 go_wp2_with fail
 go_loopw [3, 10] (fun oo ii wr => ∃ (i : Nat) (vo : Value), vo = oo ∧ i ≤ m ∧ ii = .int .i64 i ∧ HS w wr [aV 9 vo (svL (NL.take i)), aR (.slice a1 m c1) (P.map iL)]) (fun _ ii _ => m - (intOf ii).toNat)
 case atStart => exact ⟨0, _, rfl, Nat.zero_le _, rfl, hs1⟩
 case round =>
  clear hs1
  obtain ⟨i, vo, rfl, hi, rfl, hs⟩ := hrel
  have hb := HSx.bl hs
  by_cases him : i < m
  ·have i1 : (i : Int) < (m : Int) := by omega
   have i2 : (0 : Int) ≤ (i : Int) := by omega
   have hr := (HS.R hs 1 rfl).any
   obtain ⟨b3, o3, r3, l3, rfl, hc3, hr3, hl3⟩ := RII.at hr him
   obtain ⟨p, hp⟩ : ∃ p, P[i]? = some p := ⟨P[i]'(by rw [HM.out]; exact him), List.getElem?_eq_getElem _⟩
   have el : l3 = iL p := by
    have := hl3.out
    rw [List.getElem?_map, hp] at this
    exact (Option.some.inj this).symm
   subst el
   have hpm := List.mem_of_getElem? hp
   have hsub := HSUB.out wr _ r3 p hpm hb hr3
   have hname := fun (wv : World) (S9 : Nat → Prop) (vv : Value) (hb9 : Below w.heap.size w wv) (hx : RII S9 wv vv (pickN c p)) => HNAME.out wv S9 vv p hpm hb9 hx
   have hst := HST.out i p hp
   rw [subL_pick] at hsub
   have hlen : (svL (NL.take i)).length + 1 ≤ 67108864 := by rw [svL_len, List.length_take]; omega
   clear hl3 hpm hp hr3
   go_wp2_with fail
   refine hsub.mono ?_
   rintro e w2 ⟨r2, rfl, f2, b2⟩
   have hb2 := Keeps.step hb b2
   have hs2 := HSx.below hs b2
   obtain ⟨nm, hn2, hnm, hcall⟩ := hname w2 _ r2 hb2 f2.reads
   rw [hnm] at hst
   clear hsub hname hr b2 f2 hnm hs hb
   go_wp2_with fail
   refine hcall.mono ?_
   rintro e w3 ⟨rfl, d3⟩
   have hs3 := HSx.below hs2 d3
   obtain ⟨w4, hw4⟩ : ∃ w4, w4 = w3.alloc (.cells #[.string (bs nm)] 9) := ⟨_, rfl⟩
   have hs4 := hs3.alloc (.cells #[.string (bs nm)] 9)
   rw [← hw4] at hs4
   have hs4 : HS w w4 [aV 9 vo (svL (NL.take i)), aR (.slice (some ⟨b3, o3, none⟩) m c1) (P.map iL)] := hs4
   have hcm : w4.cell? ⟨w3.heap.size, 0, none⟩ = some (.string (bs nm)) := by rw [hw4]; go_simp
   have HW4 := Lib.hid hw4
   have HNV := Lib.hid (HS.newV hs4 0 rfl)
   have hone : (Value.string (bs nm)).oneCell' = true := rfl
   clear hcall d3 hs2 hc3 hs3 hw4 hb2
   go_wp2_with (at_builtin; go_must (rw [← HW4.out]; refine wpList_hsV rfl _ _ (by kernel_rfl) infoStr rfl (by omega) rfl rfl hs4 0 rfl HNV.out rfl hcm hone hlen ?_))
   intro v5 w5 hs5 _
   rw [← svL_snoc, ← hst] at hs5
   have hs5 : HS w w5 [aV 9 v5 (svL (NL.take (i + 1))), aR (.slice (some ⟨b3, o3, none⟩) m c1) (P.map iL)] := hs5
   clear hcm hs4
   go_wp2_with fail
   go_roundw
   case rel => exact ⟨i + 1, _, rfl, by omega, by go_num, hs5⟩
   case measure => simp [intOf]; omega
  ·have i1 : ¬ (i : Int) < (m : Int) := by omega
   have hie : i = m := by omega
   rw [hie, HJE.out] at hs
   have hjn := HJN.out wr _ vo (HS.texts hs 0 rfl)
   rw [HEQ.out] at hjn
   clear hie
   go_wp2_with fail
   refine hjn.mono ?_
   rintro e w9 ⟨rfl, b9⟩
   go_wp2_with fail
   go_ret
   exact ⟨rfl, Keeps.step hb b9⟩
set_option maxHeartbeats 4000000 in
theorem sizeNameImpl {t : List UInt8} {l : List (List UInt8)} (ht : t.length ≤ 1048576) (hcut : Lib.split t [120] = l) (h4 : l.length ≤ 4) (hnm : ∀ x ∈ l, ∃ k, k < 12 ∧ x = tyNm k) {w : World} (hm : HasM w) :
  Calls Tryz.prog 117 #[.string (bs t)] w fun e w' => e = .returned (.int .i64 (szN l)) ∧ Below w.heap.size w w' := by
 have mixed : Tryz.prog.follows .mixedOrders = true := by kernel_rfl
 have hcs := splitImpl (sp := [120]) hm ht (by decide)
 rw [hcut] at hcs
 have HST := Lib.hid (fun (i : Nat) (x : List UInt8) (hx : l[i]? = some x) => szN_step hx)
 have HLE := Lib.hid (szN_le hnm)
 have HNM := Lib.hid hnm
 have H0 : Hid (szN (l.take 0) = 1) := Lib.hid rfl
 have HE : Hid (szN (l.take l.length) = szN l) := Lib.hid (by rw [List.take_of_length_le (Nat.le_refl _)])
 clear hcut ht hnm hm
 generalize hm : l.length = m at *
 have HM := Lib.hid hm
 clear hm
 go_enter Tryz.func117, Tryz.ntmps117
 go_wp2_with fail
 refine hcs.mono ?_
 rintro e w1 ⟨rfl, c1, b1⟩
 have i0 : ¬ (4 : Int) < (m : Int) := by omega
 clear hcs
 go_wp2_with fail
 go_loopw [4, 14] (fun pp ii wr => ∃ i : Nat, i ≤ m ∧ pp = .int .i64 (szN (l.take i)) ∧ ii = .int .i64 i ∧ TxAt wr w.heap.size l ∧ Below w.heap.size w wr) (fun _ ii _ => m - (intOf ii).toNat)
 case atStart => exact ⟨0, Nat.zero_le _, by rw [H0.out]; rfl, rfl, c1, b1⟩
 case round =>
  clear c1 b1
  obtain ⟨i, hi, rfl, rfl, hc, hb⟩ := hrel
  have hle := HLE.out i hi
  by_cases him : i < m
  ·have i1 : (i : Int) < (m : Int) := by omega
   have i2 : (0 : Int) ≤ (i : Int) := by omega
   obtain ⟨x, hx⟩ : ∃ x, l[i]? = some x := ⟨l[i]'(by rw [HM.out]; exact him), List.getElem?_eq_getElem _⟩
   have hcell := hc i x hx
   have hst := HST.out i x hx
   obtain ⟨k, hk, rfl⟩ := HNM.out x (List.mem_of_getElem? hx)
   have hle3 : szN (l.take i) ≤ 1528823808 := Nat.le_trans hle (Nat.le_trans (Nat.pow_le_pow_right (by decide) (show i ≤ 3 by omega)) (by decide))
   have hszk := szB_le k hk
   have hcall := sizeType_all k hk wr
   have HV := Lib.hid hst
   have hpr : szN (l.take i) * szB (tyNm k) ≤ 1528823808 * 1152 := Nat.mul_le_mul hle3 hszk
   clear hx hle hst
   generalize szB (tyNm k) = z at *
   generalize tyNm k = nm at *
   generalize szN (l.take i) = q at *
   go_wp2_with fail
   refine hcall.mono ?_
   rintro e w2 ⟨rfl, b2⟩
   have hb2 := Keeps.step hb b2
   have hc2 := hc.below b2
   have hqz : (q : Int) * (z : Int) = ((q * z : Nat) : Int) := by simp
   have hw : wrap64 ((q : Int) * (z : Int)) = ((q * z : Nat) : Int) := by
    rw [hqz]; unfold wrap64; omega
   have hw2 : IntKind.i64.wrap ((q : Int) * (z : Int)) = ((q * z : Nat) : Int) := by
    rw [hqz]; exact IntWalk.i64_in _ (by omega)
   clear hqz
   clear hcall b2 hcell
   go_wp2_with fail
   go_roundw
   case rel => exact ⟨i + 1, by omega, by rw [HV.out]; simp, by go_num, hc2, hb2⟩
   case measure => simp [intOf]; omega
  ·have i1 : ¬ (i : Int) < (m : Int) := by omega
   have hie : i = m := by omega
   have HEE : Hid (szN (l.take i) = szN l) := Lib.hid (by rw [hie]; exact HE.out)
   clear hie hle
   generalize szN (l.take i) = q at *
   go_wp2_with fail
   go_ret
   exact ⟨by rw [← HEE.out]; rfl, hb⟩
set_option maxHeartbeats 2000000 in
theorem sizeImpl {S : Nat → Prop} {u : Value} {c : List (List Int)} {w : World} (h : RII S w u c) (hm : HasM w) (hl : total c ≤ 16777216) :
  Calls Tryz.prog 82 #[u] w fun e w' => e = .returned (.int .i64 (szC c)) ∧ Below w.heap.size w w' := by
 have mixed : Tryz.prog.follows .mixedOrders = true := by kernel_rfl
 have hfin := isFiniteImpl h hl
 cases hf : finB c with
 | false =>
  have HZ : Hid (szC c = 0) := Lib.hid (by unfold szC; rw [hf]; rfl)
  rw [hf] at hfin
  clear hf
  obtain ⟨aa, ca, rfl⟩ := h.form
  go_enter Tryz.func82, Tryz.ntmps82
  go_wp2_with fail
  refine hfin.mono ?_
  rintro e w1 ⟨rfl, b1⟩
  go_wp2_with fail
  go_ret
  exact ⟨by rw [HZ.out]; rfl, b1⟩
 | true =>
  have hF := finB_p hf
  have HZ : Hid (szN (nmL c) = szC c) := Lib.hid (by unfold szC; rw [hf, if_pos rfl]; exact hF.texts.size)
  rw [hf] at hfin
  have HNA := Lib.hid (fun (wv : World) (hb : Below w.heap.size w wv) => nameImpl (h.below hb) (hm.below hb) hF hl)
  have HSZ := Lib.hid (fun (wv : World) (hb : Below w.heap.size w wv) => sizeNameImpl (w := wv) (t := nmT c) (l := nmL c) (by have := hF.texts.len; omega) hF.texts.cutI hF.texts.few (nmL_ok hF) (hm.below hb))
  clear hf hF
  obtain ⟨aa, ca, rfl⟩ := h.form
  clear h
  go_enter Tryz.func82, Tryz.ntmps82
  go_wp2_with fail
  refine hfin.mono ?_
  rintro e w1 ⟨rfl, b1⟩
  clear hfin
  go_wp2_with fail
  refine (HNA.out w1 b1).mono ?_
  rintro e w2 ⟨rfl, b2⟩
  have hb2 := Keeps.step b1 b2
  clear HNA
  go_wp2_with fail
  refine (HSZ.out w2 hb2).mono ?_
  rintro e w3 ⟨rfl, b3⟩
  go_wp2_with fail
  go_ret
  exact ⟨by rw [← HZ.out]; rfl, Keeps.step hb2 b3⟩
theorem elL_pos {c : List (List Int)} (h : FinP c) (hs : szP c ≤ 200) : 0 < (elL c).length := by
 have h1 := ((el_ok h hs).2 []).2 (nf_nil h.cart)
 exact List.length_pos_of_mem h1
theorem FII.some {S : Nat → Prop} {w : World} {v : Value} {L : List (List Int)} (h : FII S w v L) (hl : 0 < L.length) : ∃ g cap, v = .slice (some ⟨g, 0, none⟩) L.length cap := by
 obtain ⟨vs, h1, _⟩ := h
 rcases h1.2 with ⟨_, h0⟩ | ⟨g, cap, cur, hv, _⟩
 ·omega
 ·exact ⟨g, cap, hv⟩
def ElC (c : List (List Int)) (w : World) (e : Ending) (w' : World) : Prop := ∃ r, e = .returned r ∧ FII (New w w') w' r (elR c) ∧ (elOk c = false → r = .slice none 0 0) ∧ Below w.heap.size w w'
theorem FII.nil0 (W w : World) : FII (New W w) w (.slice none 0 0) [] :=
 ⟨[], World.ownsRow_nil _ _ _ _, rfl, fun b hb => by (cases hb), fun j r x hx => by simp at hx, fun i j a b x y hij hi => by simp at hi⟩
set_option maxHeartbeats 2000000 in
theorem elementsNil {S : Nat → Prop} {u : Value} {c : List (List Int)} {w : World} (h : RII S w u c) (hm : HasM w) (hl : total c ≤ 16777216) :
  Calls Tryz.prog 94 #[u] w (ElC c w) := by
 have HRES : Hid (ElC c w = fun e w' => ∃ r, e = .returned r ∧ FII (New w w') w' r (elR c) ∧ (elOk c = false → r = .slice none 0 0) ∧ Below w.heap.size w w') := Lib.hid rfl
 have hfin := isFiniteImpl h hl
 have HSZ := Lib.hid (fun (wv : World) (hb : Below w.heap.size w wv) => sizeImpl (h.below hb) (hm.below hb) hl)
 cases hf : finB c with
 | false =>
  have hok : elOk c = false := by unfold elOk; rw [hf]; rfl
  have HR : Hid (elR c = []) := Lib.hid (by unfold elR; rw [hok]; rfl)
  rw [hf] at hfin
  obtain ⟨aa, ca, rfl⟩ := h.form
  clear hf hok h
  go_enter Tryz.func94, Tryz.ntmps94
  go_wp2_with fail
  refine hfin.mono ?_
  rintro e w1 ⟨rfl, b1⟩
  go_wp2_with fail
  go_ret
  rw [HRES.out]
  exact ⟨_, rfl, by rw [HR.out]; exact FII.nil0 _ _, fun _ => rfl, b1⟩
 | true =>
  have hF := finB_p hf
  have hszc : szC c = szP c := by unfold szC; rw [if_pos hf]
  rw [hf] at hfin
  rw [hszc] at HSZ
  by_cases h2 : szP c ≤ 200
  ·have hok : elOk c = true := by unfold elOk; rw [hf, decide_eq_true h2]; rfl
   have HR : Hid (elR c = elL c) := Lib.hid (by unfold elR; rw [hok]; rfl)
   have HOK := Lib.hid hok
   have hball := Lib.hid (fun (wv : World) (hb : Below w.heap.size w wv) => ballImpl (h.below hb) hF h2)
   have HBC : Hid (∀ wv, BallC c wv = fun e w' => ∃ r q, e = .returned (.tuple #[r, .bool q]) ∧ FII (New wv w') w' r (elL c) ∧ Below wv.heap.size wv w') := Lib.hid (fun wv => rfl)
   obtain ⟨aa, ca, rfl⟩ := h.form
   have i1 : ¬ (200 : Int) < (szP c : Int) := by omega
   clear hf hok h hF hszc
   generalize szP c = z at *
   go_enter Tryz.func94, Tryz.ntmps94
   go_wp2_with fail
   refine hfin.mono ?_
   rintro e w1 ⟨rfl, b1⟩
   have hsz := HSZ.out w1 b1
   clear hfin HSZ
   go_wp2_with fail
   refine hsz.mono ?_
   rintro e w2 ⟨rfl, b2⟩
   have hb2 := Keeps.step b1 b2
   have hbl := hball.out w2 hb2
   rw [HBC.out] at hbl
   clear hsz hball
   go_wp2_with fail
   refine hbl.mono ?_
   rintro e w3 ⟨r3, q3, rfl, f3, b3⟩
   clear hbl
   go_wp2_with fail
   go_ret
   rw [HRES.out]
   exact ⟨_, rfl, by rw [HR.out]; exact f3.mono (fun b hb => ⟨Nat.le_trans hb2.size hb.1, hb.2⟩), (fun e => by rw [HOK.out] at e; cases e), Keeps.step hb2 b3⟩
  ·have hok : elOk c = false := by unfold elOk; rw [hf, decide_eq_false h2]; rfl
   have HR : Hid (elR c = []) := Lib.hid (by unfold elR; rw [hok]; rfl)
   obtain ⟨aa, ca, rfl⟩ := h.form
   have i1 : (200 : Int) < (szP c : Int) := by omega
   clear hf hok h hF hszc h2
   generalize szP c = z at *
   go_enter Tryz.func94, Tryz.ntmps94
   go_wp2_with fail
   refine hfin.mono ?_
   rintro e w1 ⟨rfl, b1⟩
   have hsz := HSZ.out w1 b1
   clear hfin HSZ
   go_wp2_with fail
   refine hsz.mono ?_
   rintro e w2 ⟨rfl, b2⟩
   have hb2 := Keeps.step b1 b2
   clear hsz
   go_wp2_with fail
   go_ret
   rw [HRES.out]
   exact ⟨_, rfl, by rw [HR.out]; exact FII.nil0 _ _, fun _ => rfl, hb2⟩
set_option maxHeartbeats 2000000 in
theorem elementsImpl {S : Nat → Prop} {u : Value} {c : List (List Int)} {w : World} (h : RII S w u c) (hm : HasM w) (hl : total c ≤ 16777216) :
  Calls Tryz.prog 52 #[u] w fun e w' => ∃ r, e = .returned (.tuple #[r, .bool (elOk c)]) ∧ FII (New w w') w' r (elR c) ∧ Below w.heap.size w w' := by
 have hel := elementsNil h hm hl
 have HRES : Hid (ElC c w = fun e w' => ∃ r, e = .returned r ∧ FII (New w w') w' r (elR c) ∧ (elOk c = false → r = .slice none 0 0) ∧ Below w.heap.size w w') := Lib.hid rfl
 rw [HRES.out] at hel
 have hsn := fun (w : World) (a : Option Addr) (n k n' k' : Nat) => Lib.run_eql_slice_nil (P := Tryz.prog) w 22 28 a n k n' k' Tryz.underlying22
 obtain ⟨aa, ca, rfl⟩ := h.form
 clear h
 cases hok : elOk c with
 | false =>
  have HR : Hid (elR c = []) := Lib.hid (by unfold elR; rw [hok]; rfl)
  have HOK := Lib.hid hok
  clear hok
  go_enter Tryz.func52, Tryz.ntmps52
  go_wp2_with fail
  refine hel.mono ?_
  rintro e w1 ⟨r1, rfl, _, hn, b1⟩
  have hr1 := hn HOK.out
  subst hr1
  have hf := FII.empty_of b1 (w1 := w1.alloc (.cells #[] 28)) rfl
  clear hel hn
  go_wp2_with fail
  go_ret2
  exact ⟨_, rfl, by rw [HR.out]; exact hf.1, hf.2⟩
 | true =>
  obtain ⟨_, h2, h3, _⟩ := elOk_fin hok
  have HR : Hid (elR c = elL c) := Lib.hid (by unfold elR; rw [hok]; rfl)
  have hpos := elL_pos h2 h3
  clear hok h2 h3
  go_enter Tryz.func52, Tryz.ntmps52
  go_wp2_with fail
  refine hel.mono ?_
  rintro e w1 ⟨r1, rfl, f1, _, b1⟩
  rw [HR.out] at f1
  obtain ⟨g, cap, rfl⟩ := FII.some f1 hpos
  clear hel hpos
  go_wp2_with fail
  go_ret2
  exact ⟨_, rfl, by rw [HR.out]; exact f1, b1⟩
set_option maxHeartbeats 2000000 in
theorem reverseSpec {S : Nat → Prop} {v : Value} {l : List Int} {w : World} (h : RI S w v l) (hl : l.length ≤ 1048576) :
  Calls Tryz.prog 51 #[v] w fun e w' => ∃ r, e = .returned r ∧ FI (New w w') w' r l.reverse ∧ Below w.heap.size w w' := by
 have mixed : Tryz.prog.follows .mixedOrders = true := by kernel_rfl
 obtain ⟨w1, hw1⟩ : ∃ w1, w1 = w.alloc (.cells #[] 3) := ⟨_, rfl⟩
 have hs1 := HSx.addI (HS.nil (Below.refl _ w)) (fresh_of (Below.refl _ w) hw1).2 (fresh_of (Below.refl _ w) hw1).1
 have hs1 : HS w w1 [aI (.slice (some ⟨w.heap.size, 0, none⟩) 0 0) (l.reverse.take 0)] := hs1
 have HW1 := Lib.hid hw1
 obtain ⟨a, cap, rfl⟩ := h.form
 generalize hn : l.length = n at *
 have HN := Lib.hid hn
 clear hw1 hn
 go_enter Tryz.func51, Tryz.ntmps51
 go_wp2_with fail
 rw [← HW1.out]
 go_loopw [3, 4] (fun oo ii wr => ∃ (k : Nat) (vo : Value), vo = oo ∧ k ≤ n ∧ ii = .int .i64 ((n : Int) - 1 - k) ∧ HS w wr [aI vo (l.reverse.take k)]) (fun _ ii _ => (intOf ii + 1).toNat)
 case atStart => exact ⟨0, _, rfl, Nat.zero_le _, by go_num, hs1⟩
 case round =>
  clear hs1 HW1
  obtain ⟨k, vo, rfl, hk, rfl, hs⟩ := hrel
  by_cases hkn : k < n
  ·obtain ⟨j, hj⟩ : ∃ j, n = j + 1 + k := ⟨n - 1 - k, by omega⟩
   have e1 : (n : Int) - 1 - (k : Int) = (j : Int) := by omega
   have i1 : (0 : Int) ≤ (j : Int) := by omega
   have hjn : j < n := by omega
   have i2 : (j : Int) < (n : Int) := by omega
   obtain ⟨b3, o3, x, rfl, hc3, hx⟩ := RI.at (h.below hs.bl) hjn
   have hst : l.reverse.take (k + 1) = l.reverse.take k ++ [x] := take_step (by rw [List.getElem?_reverse (by rw [HN.out]; omega), show l.length - 1 - k = j by rw [HN.out]; omega]; exact hx.out)
   have HST := Lib.hid hst
   obtain ⟨w2, hw2⟩ : ∃ w2, w2 = wr.alloc (.cells #[.int .i64 x] 3) := ⟨_, rfl⟩
   have hs2 := hs.alloc (.cells #[.int .i64 x] 3)
   rw [← hw2] at hs2
   have hs2 : HS w w2 [aI vo (l.reverse.take k)] := hs2
   have hc2 : w2.cell? ⟨wr.heap.size, 0, none⟩ = some (.int .i64 x) := by rw [hw2]; go_simp
   have HW2 := Lib.hid hw2
   have hlen : (l.reverse.take k).length + 1 ≤ 67108864 := by rw [List.length_take]; omega
   have e2 : (n : Int) - 1 - ((k + 1 : Nat) : Int) = (j : Int) - 1 := by omega
   rw [e1]
   clear hs hst hw2 hx e1 hj
   go_wp2_with (at_builtin; go_must (rw [← HW2.out]; refine wpList_hsI rfl _ _ rfl rfl hs2 0 rfl rfl hc2 hlen ?_))
   intro v3 w3 hs3
   have hs3 : HS w w3 [aI v3 (l.reverse.take (k + 1))] := by rw [HST.out]; exact hs3
   clear hs2 hc2
   go_wp2_with fail
   go_roundw
   case rel => exact ⟨k + 1, _, rfl, by omega, by rw [e2], hs3⟩
   case measure => simp [intOf]
  ·have hke : k = n := by omega
   have e1 : (n : Int) - 1 - (k : Int) = -1 := by omega
   have HE : Hid (l.reverse.take k = l.reverse) := Lib.hid (List.take_of_length_le (by rw [List.length_reverse, HN.out]; omega))
   rw [HE.out] at hs
   rw [e1]
   clear e1 hke
   go_wp2_with fail
   go_ret
   obtain ⟨F, hF, hFn⟩ := HSx.get hs 0 rfl
   exact ⟨_, rfl, hF.mono (fun b hb => by have := hFn b hb; exact ⟨this.1.elim (fun h => h.elim) id, this.2⟩), hs.bl⟩
end Go.Proofs.YtipjomdldjbenaaGreatDoor
