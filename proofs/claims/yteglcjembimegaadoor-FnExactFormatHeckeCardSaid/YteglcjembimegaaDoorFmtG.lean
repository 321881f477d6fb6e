/- Elements of the algebra as text. Condition: sizes up to 2^20. -/
import Derived.Test.YteglcjembimegaaDoorFmtQ
import Derived.Test.YteglcjembimegaaDoorFmtI
import Derived.Test.YteglcjembimegaaDoorFmtV
import Derived.Test.YteglcjembimegaaDoorLawTerm
namespace Go.Proofs.YteglcjembimegaaDoor
open Go.RowKit
set_option maxRecDepth 20000

/-- A term. -/
def fmtT (x : Trm) : List UInt8 := [40] ++ fmtP x.2 ++ [41] ++ fmtWd x.1
def fmtHk (L : List Trm) : List UInt8 := if L = [] then [48] else jn [32, 43, 32] (L.map fmtT)
def TOk (L : List Trm) : Prop := ∀ x ∈ L, InL x.1 ∧ InL x.2 ∧ x.1.length ≤ 1048576 ∧ x.2.length ≤ 1048576
theorem fmtP_len {l : List Int} (h : InL l) (hl : l.length ≤ 1048576) : (fmtP l).length ≤ 47185920 := by
  have := pT_len h l.length hl
  unfold fmtP
  split
  · simp
  · omega
theorem fmtTs_len {L : List Trm} (h : TOk L) : ∀ x ∈ L.map fmtT, x.length ≤ 48234500 := by
  intro x hx
  obtain ⟨y, hy, rfl⟩ := List.mem_map.1 hx
  obtain ⟨_, h2, h3, h4⟩ := h y hy
  have h5 := fmtP_len h2 h4
  have h6 := fmtWd_len (l := y.1)
  unfold fmtT
  simp
  omega
theorem sz1 (a : UInt8) : (ByteArray.mk #[a]).size = 1 := rfl
theorem sz3 (a b c : UInt8) : (ByteArray.mk #[a, b, c]).size = 3 := rfl

set_option maxHeartbeats 1000000 in
theorem formatHeckeSpec {S : Nat → Prop} {v : Value} {L : List Trm} {w : World} (h : RT S w v L) (hi : TOk L) (hl : L.length ≤ 1048576) :
    Calls Tryd.prog 11 #[v] w fun e w' => e = .returned (.string (bs (fmtHk L))) ∧ Below w.heap.size w w' := by
  obtain ⟨a, cap, rfl⟩ := h.form
  have HI := Lib.hid hi
  have HST := Lib.hid (fun (k : Nat) (x : Trm) (hx : L[k]? = some x) => (show jn [32, 43, 32] ((L.map fmtT).take (k + 1)) = if k = 0 then fmtT x else jn [32, 43, 32] ((L.map fmtT).take k) ++ ([32, 43, 32] ++ fmtT x) from by
    rw [take_step (L := L.map fmtT) (k := k) (x := fmtT x) (by rw [List.getElem?_map, hx]; rfl), jn_snoc]
    have hk : k < L.length := (List.getElem?_eq_some_iff.1 hx).1
    by_cases h0 : k = 0
    · subst h0; simp
    · rw [if_neg h0, if_neg]
      intro e
      have := congrArg List.length e
      rw [List.length_take, List.length_map, List.length_nil] at this
      omega))
  have HF := Lib.hid (show (L = [] → fmtHk L = [48]) ∧ (L ≠ [] → fmtHk L = jn [32, 43, 32] ((L.map fmtT).take L.length) ∧ jn [32, 43, 32] ((L.map fmtT).take L.length) ≠ []) from by
    refine ⟨fun e => by unfold fmtHk; rw [if_pos e], fun e => ?_⟩
    have e2 : (L.map fmtT).take L.length = L.map fmtT := List.take_of_length_le (by simp)
    refine ⟨by unfold fmtHk; rw [if_neg e, e2], ?_⟩
    rw [e2]
    cases L with
    | nil => exact absurd rfl e
    | cons x r =>
      intro e3
      have := congrArg List.length e3
      simp [jn, Lib.join_cons, fmtT] at this)
  have H0 : Hid (jn [32, 43, 32] ((L.map fmtT).take 0) = []) := Lib.hid rfl
  have HLL : Hid (∀ k, (jn [32, 43, 32] ((L.map fmtT).take k)).length ≤ k * 48234503) := Lib.hid (fun k => by
    exact jn_take_len [32, 43, 32] 48234500 48234503 rfl (L.map fmtT) (fmtTs_len hi) k)
  generalize hm : L.length = m at *
  have HM := Lib.hid hm
  clear hm hi
  generalize fmtHk L = res at *
  have HE : Hid (bs [] = ⟨#[]⟩) := Lib.hid rfl
  go_enter Tryd.func11, Tryd.ntmps11
  go_wp2_with fail
  go_loopw [3, 4] (fun s j wr => ∃ (k : Nat), k ≤ m ∧ j = .int .i64 k ∧ s = .string (bs (jn [32, 43, 32] ((L.map fmtT).take k))) ∧ Below w.heap.size w wr) (fun _ j _ => m - (intOf j).toNat)
  case atStart => exact ⟨0, Nat.zero_le _, rfl, by rw [H0.out, HE.out], Below.refl _ _⟩
  case round =>
    obtain ⟨k, hk, rfl, rfl, hb⟩ := hrel
    by_cases h1 : k < m
    · obtain ⟨b, o, r, r', x, e8, hc, hc', ⟨hr, hr'⟩, hx⟩ := (h.below hb).at h1
      subst e8
      obtain ⟨ax, cx, rfl⟩ := hr.form
      obtain ⟨ay, cy, rfl⟩ := hr'.form
      have i1 : (k : Int) < (m : Int) := by omega
      obtain ⟨hx1, hx2, hx3, hx4⟩ := HI.out x (List.mem_of_getElem? hx.out)
      have hst := HST.out k x hx.out
      have hlk := HLL.out k
      have hpz : (bs (fmtP x.2)).size ≤ 47185920 := by rw [bs_size]; exact fmtP_len hx2 hx4
      have hwz : (bs (fmtWd x.1)).size ≤ 1048577 := by rw [bs_size]; exact Nat.le_trans fmtWd_len (by omega)
      generalize jn [32, 43, 32] ((L.map fmtT).take k) = A at *
      generalize hA' : jn [32, 43, 32] ((L.map fmtT).take (k + 1)) = A' at *
      have HA' := Lib.hid hA'
      clear hA'
      have g0 := fun y : GW wr => y.cell hc
      have g1 := fun y : GW wr => y.cell hc'
      have hla : (bs A).size ≤ 50577534877696 := by rw [bs_size]; omega
      by_cases h0 : k = 0
      · rw [if_pos h0] at hst
        have hA : A = [] := List.eq_nil_of_length_eq_zero (by omega)
        clear hlk
        have HAA : Hid (bs A ++ ⟨#[40]⟩ ++ bs (fmtP x.2) ++ ⟨#[41]⟩ ++ bs (fmtWd x.1) = bs A') := Lib.hid (by
          rw [show (⟨#[40]⟩ : ByteArray) = bs [40] from rfl, show (⟨#[41]⟩ : ByteArray) = bs [41] from rfl]
          simp only [bs_app]
          rw [hst, hA]
          unfold fmtT
          simp)
        have c0 : ¬ 9223372036854775807 < (bs A).size + (ByteArray.mk #[40]).size := by first | omega | (simp only [ByteArray.size_append, sz1, sz3]; omega)
        have c1 : ¬ 9223372036854775807 < (bs A).size + 1 := by first | omega | (simp only [ByteArray.size_append, sz1, sz3]; omega)
        have c2 : ¬ 9223372036854775807 < (bs A ++ ⟨#[40]⟩).size + (bs (fmtP x.2)).size := by first | omega | (simp only [ByteArray.size_append, sz1, sz3]; omega)
        have c3 : ¬ 9223372036854775807 < (bs A ++ ⟨#[40]⟩ ++ bs (fmtP x.2)).size + (ByteArray.mk #[41]).size := by first | omega | (simp only [ByteArray.size_append, sz1, sz3]; omega)
        have c4 : ¬ 9223372036854775807 < (bs A ++ ⟨#[40]⟩ ++ bs (fmtP x.2)).size + 1 := by first | omega | (simp only [ByteArray.size_append, sz1, sz3]; omega)
        have c5 : ¬ 9223372036854775807 < (bs A ++ ⟨#[40]⟩ ++ bs (fmtP x.2) ++ ⟨#[41]⟩).size + (bs (fmtWd x.1)).size := by first | omega | (simp only [ByteArray.size_append, sz1, sz3]; omega)
        have c6 : ¬ 9223372036854775807 < (bs A).size + 1 := by omega
        have c7 : ¬ 9223372036854775807 < (bs A).size + 1 + (bs (fmtP x.2)).size := by omega
        have c8 : ¬ 9223372036854775807 < (bs A).size + 1 + (bs (fmtP x.2)).size + 1 := by omega
        have c9 : ¬ 9223372036854775807 < (bs A).size + 1 + (bs (fmtP x.2)).size + 1 + (bs (fmtWd x.1)).size := by omega
        have i2 : ¬ 0 < (k : Int) := by omega
        clear hst h0 hA
        go_wp2_with fail
        refine region_grow (by kernel_rfl) (by kernel_rfl) ?_
        repeat (go_big_quiet_step ((first | (rename_i y; go_at_call 24; exact Calls.grow y (formatPolySpec (hr'.below y.le) hx2 hx4)) | (rename_i y; go_at_call 25; exact Calls.grow y (formatWordSpec (hr.below y.le) hx1 hx3)))))
        refine wpQuiet_nil ?_
        intro w8 hb8
        go_wp2_with fail
        go_roundw
        case rel => exact ⟨k + 1, by omega, by go_num, by rw [HAA.out, ← HA'.out], Keeps.step hb hb8⟩
        case measure => simp [intOf]; omega
      · rw [if_neg h0] at hst
        clear hlk
        have HAA : Hid (bs A ++ ⟨#[32, 43, 32]⟩ ++ ⟨#[40]⟩ ++ bs (fmtP x.2) ++ ⟨#[41]⟩ ++ bs (fmtWd x.1) = bs A') := Lib.hid (by
          rw [show (⟨#[40]⟩ : ByteArray) = bs [40] from rfl, show (⟨#[41]⟩ : ByteArray) = bs [41] from rfl]
          rw [show (⟨#[32, 43, 32]⟩ : ByteArray) = bs [32, 43, 32] from rfl]
          simp only [bs_app]
          rw [hst]
          unfold fmtT
          simp)
        have d0 : ¬ 9223372036854775807 < (bs A).size + (ByteArray.mk #[32, 43, 32]).size := by first | omega | (simp only [ByteArray.size_append, sz1, sz3]; omega)
        have d0' : ¬ 9223372036854775807 < (bs A).size + 3 := by first | omega | (simp only [ByteArray.size_append, sz1, sz3]; omega)
        have c0 : ¬ 9223372036854775807 < (bs A ++ ⟨#[32, 43, 32]⟩).size + (ByteArray.mk #[40]).size := by first | omega | (simp only [ByteArray.size_append, sz1, sz3]; omega)
        have c1 : ¬ 9223372036854775807 < (bs A ++ ⟨#[32, 43, 32]⟩).size + 1 := by first | omega | (simp only [ByteArray.size_append, sz1, sz3]; omega)
        have c2 : ¬ 9223372036854775807 < (bs A ++ ⟨#[32, 43, 32]⟩ ++ ⟨#[40]⟩).size + (bs (fmtP x.2)).size := by first | omega | (simp only [ByteArray.size_append, sz1, sz3]; omega)
        have c3 : ¬ 9223372036854775807 < (bs A ++ ⟨#[32, 43, 32]⟩ ++ ⟨#[40]⟩ ++ bs (fmtP x.2)).size + (ByteArray.mk #[41]).size := by first | omega | (simp only [ByteArray.size_append, sz1, sz3]; omega)
        have c4 : ¬ 9223372036854775807 < (bs A ++ ⟨#[32, 43, 32]⟩ ++ ⟨#[40]⟩ ++ bs (fmtP x.2)).size + 1 := by first | omega | (simp only [ByteArray.size_append, sz1, sz3]; omega)
        have c5 : ¬ 9223372036854775807 < (bs A ++ ⟨#[32, 43, 32]⟩ ++ ⟨#[40]⟩ ++ bs (fmtP x.2) ++ ⟨#[41]⟩).size + (bs (fmtWd x.1)).size := by first | omega | (simp only [ByteArray.size_append, sz1, sz3]; omega)
        have c6 : ¬ 9223372036854775807 < (bs A).size + 3 + 1 := by omega
        have c7 : ¬ 9223372036854775807 < (bs A).size + 3 + 1 + (bs (fmtP x.2)).size := by omega
        have c8 : ¬ 9223372036854775807 < (bs A).size + 3 + 1 + (bs (fmtP x.2)).size + 1 := by omega
        have c9 : ¬ 9223372036854775807 < (bs A).size + 3 + 1 + (bs (fmtP x.2)).size + 1 + (bs (fmtWd x.1)).size := by omega
        have i2 : 0 < (k : Int) := by omega
        clear hst h0
        go_wp2_with fail
        refine region_grow (by kernel_rfl) (by kernel_rfl) ?_
        repeat (go_big_quiet_step ((first | (rename_i y; go_at_call 24; exact Calls.grow y (formatPolySpec (hr'.below y.le) hx2 hx4)) | (rename_i y; go_at_call 25; exact Calls.grow y (formatWordSpec (hr.below y.le) hx1 hx3)))))
        refine wpQuiet_nil ?_
        intro w8 hb8
        go_wp2_with fail
        go_roundw
        case rel => exact ⟨k + 1, by omega, by go_num, by rw [HAA.out, ← HA'.out], Keeps.step hb hb8⟩
        case measure => simp [intOf]; omega
    · have hkm : k = m := by omega
      have i1 : ¬ (k : Int) < (m : Int) := by omega
      rw [hkm]
      clear hkm
      by_cases h0 : L = []
      · have HR : Hid (bs res = ⟨#[48]⟩) := Lib.hid (by rw [HF.out.1 h0]; rfl)
        have hz : jn [32, 43, 32] ((L.map fmtT).take m) = [] := by rw [h0]; simp [jn, Lib.join_nil]
        rw [hz, HE.out]
        clear hz
        go_wp2_with fail
        go_ret
        rw [HR.out]
        exact ⟨rfl, hb⟩
      · obtain ⟨e1, e2⟩ := HF.out.2 h0
        have HR : Hid (res = jn [32, 43, 32] ((L.map fmtT).take m)) := Lib.hid e1
        have c1 := bs_ne e2
        clear e1 e2
        go_wp2_with fail
        go_ret
        rw [HR.out]
        exact ⟨rfl, hb⟩

end Go.Proofs.YteglcjembimegaaDoor
