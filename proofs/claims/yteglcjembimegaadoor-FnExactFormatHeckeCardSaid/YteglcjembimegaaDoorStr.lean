/- Numbers as text, by the program and by the reference. Condition: Go's int. -/
import Derived.Test.YteglcjembimegaaDoorBase
import Derived.Test.YteglcjembimegaaDoorShelf
import Derived.Lib.LaidTab
import Derived.Lib.AppendIntMem
import Derived.Lib.ItoaLen
import Derived.Laws.IdiomStrings
namespace Go.Proofs.YteglcjembimegaaDoor
open Go.RowKit
set_option maxRecDepth 20000

/-- A text as a value. -/
def bs (l : List UInt8) : ByteArray := ⟨l.toArray⟩

/-- The digits of u ahead of acc, and nothing for nought. -/
def digs : Nat → Nat → List UInt8 → List UInt8
  | 0, _, acc => acc
  | f + 1, u, acc => if u = 0 then acc else digs f (u / 10) (UInt8.ofNat (48 + u % 10) :: acc)
theorem digs_zero (f : Nat) (acc : List UInt8) : digs f 0 acc = acc := by cases f <;> simp [digs]
theorem digs_eq : ∀ (f u : Nat) (acc : List UInt8), u ≠ 0 → u < 10 ^ f → digs f u acc = Lib.decDigits u ++ acc
  | 0, u, acc, h0, h => by simp at h; omega
  | f + 1, u, acc, h0, h => by
    unfold digs
    rw [if_neg h0]
    by_cases h10 : u < 10
    · rw [show u / 10 = 0 by omega, digs_zero, Lib.decDigits_one h10, show u % 10 = u by omega]
      rfl
    · rw [digs_eq f (u / 10) _ (by omega) (by rw [Nat.pow_succ] at h; omega)]
      conv => rhs; rw [Lib.decDigits, dif_neg h10]
      simp

/-- A block of one byte as a text. -/
theorem conv1 (w : World) (x : Int) (k : Nat) (h : x = ((48 + k : Nat) : Int)) (hk : k < 100) :
    Sem.run Tryd.prog (convert 54 9 (Value.slice (some ⟨w.heap.size, 0, none⟩) 1 1)) (w.alloc (Obj.cells #[Value.int IntKind.u8 x] 5)) = .ok (.string (bs [UInt8.ofNat (48 + k)])) (w.alloc (Obj.cells #[Value.int IntKind.u8 x] 5)) := by
  subst h
  refine run_convert_bytes_back (w.alloc (Obj.cells #[Value.int IntKind.u8 ((48 + k : Nat) : Int)] 5)) 54 9 5 ⟨w.heap.size, 0, none⟩ 1 [UInt8.ofNat (48 + k)] Tryd.underlying54 Tryd.underlying5 Tryd.underlying9 ?_
  intro j hj
  obtain rfl : j = 0 := by simpa using hj
  have e : (UInt8.ofNat (48 + k)).toNat = 48 + k := by simp; omega
  show _ = some (Value.int IntKind.u8 (((UInt8.ofNat (48 + k)).toNat : Nat) : Int))
  rw [e]
  go_simp

theorem bs_size (a : List UInt8) : (bs a).size = a.length := by simp [bs, ByteArray.size]
theorem bs_app (a b : List UInt8) : bs a ++ bs b = bs (a ++ b) := by
  apply ByteArray.ext
  simp [bs]
theorem tmod10 (m : Int) : (¬ m.tmod 10 < 0 → m.tmod 10 = ((m.natAbs % 10 : Nat) : Int)) ∧ (m.tmod 10 < 0 → m.tmod 10 = -((m.natAbs % 10 : Nat) : Int)) := by
  rcases Int.natAbs_eq m with h | h
  · have e : m.tmod 10 = ((m.natAbs % 10 : Nat) : Int) := by
      conv => lhs; rw [h]
      exact (Int.ofNat_tmod m.natAbs 10).symm
    exact ⟨fun _ => e, fun h => by omega⟩
  · have e : m.tmod 10 = -((m.natAbs % 10 : Nat) : Int) := by
      conv => lhs; rw [h]
      rw [Int.neg_tmod]
      exact congrArg _ (Int.ofNat_tmod m.natAbs 10).symm
    exact ⟨fun h => by omega, fun _ => e⟩
theorem tdiv10 (m : Int) : (m.tdiv 10).natAbs = m.natAbs / 10 := by rw [Int.natAbs_tdiv]; rfl

set_option maxHeartbeats 1000000 in
theorem formatIntSpec {n : Int} {w : World} (h : -9223372036854775808 ≤ n ∧ n ≤ 9223372036854775807) :
    Calls Tryd.prog 17 #[.int .i64 n] w fun e w' => e = .returned (.string (bs (Lib.itoa n))) ∧ Below w.heap.size w w' := by
  by_cases h0 : n = 0
  · subst h0
    go_enter Tryd.func17, Tryd.ntmps17
    go_wp2_with fail
    go_ret
    exact ⟨by unfold bs Lib.itoa; rw [if_neg (by decide), show (0 : Int).toNat = 0 from rfl, Lib.decDigits_one (by decide)]; rfl, Below.refl _ _⟩
  · have i0 : (n == 0) = false := beq_eq_false_iff_ne.2 h0
    have hd := digs_eq 20 n.natAbs [] (by omega) (by omega)
    rw [List.append_nil] at hd
    have HR : Hid (Lib.itoa n = if n < 0 then 45 :: digs 20 n.natAbs [] else digs 20 n.natAbs []) := Lib.hid (by
      unfold Lib.itoa
      rw [hd]
      by_cases hn : n < 0
      · rw [if_pos hn, if_pos hn]
      · rw [if_neg hn, if_neg hn, show n.toNat = n.natAbs by omega])
    have HN := Lib.hid h0
    generalize Lib.itoa n = res at *
    clear hd h0
    go_enter Tryd.func17, Tryd.ntmps17
    go_wp2_with fail
    go_loopw [0, 3] (fun x s wr => ∃ (f : Nat) (m : Int) (acc : List UInt8), x = .int .i64 m ∧ s = .string (bs acc) ∧ acc.length + f ≤ 20 ∧ m.natAbs < 10 ^ f ∧ (-9223372036854775808 ≤ m ∧ m ≤ 9223372036854775807) ∧ Hid (digs f m.natAbs acc = digs 20 n.natAbs []) ∧ Below w.heap.size w wr) (fun x _ _ => (intOf x).natAbs)
    case atStart => exact ⟨20, n, [], rfl, rfl, by simp, by omega, h, Lib.hid rfl, Below.refl _ _⟩
    case round =>
      obtain ⟨f, m, acc, rfl, rfl, hf, hm, hm2, HD, hb⟩ := hrel
      by_cases hm0 : m = 0
      · subst hm0
        have hD : acc = digs 20 n.natAbs [] := by rw [← HD.out, show (0 : Int).natAbs = 0 from rfl, digs_zero]
        have HD2 := Lib.hid hD
        clear HD hD
        by_cases hn : n < 0
        · have HR2 : Hid (res = 45 :: acc) := Lib.hid (by rw [HR.out, if_pos hn, HD2.out])
          have hd : decide (n < 0) = true := decide_eq_true hn
          have c1 : ¬ 9223372036854775807 < 1 + (bs acc).size := by rw [bs_size]; omega
          have c2 : ¬ 9223372036854775807 < (ByteArray.mk #[45]).size + (bs acc).size := by rw [bs_size]; simp [ByteArray.size]; omega
          rw [hd]
          go_wp2_with fail
          go_ret
          exact ⟨by rw [HR2.out]; exact congrArg (fun b => Ending.returned (Value.string b)) (bs_app [45] acc), hb⟩
        · have HR2 : Hid (res = acc) := Lib.hid (by rw [HR.out, if_neg hn, HD2.out])
          have hd : decide (n < 0) = false := decide_eq_false hn
          rw [hd]
          go_wp2_with fail
          go_ret
          exact ⟨by rw [HR2.out]; rfl, hb⟩
      · have i1 : (m != 0) = true := by simpa using hm0
        obtain ⟨k, hk⟩ : ∃ k : Nat, m.natAbs % 10 = k := ⟨_, rfl⟩
        obtain ⟨g, rfl⟩ : ∃ g, f = g + 1 := ⟨f - 1, by
          rcases Nat.eq_zero_or_pos f with rfl | h
          · rw [Nat.pow_zero] at hm; omega
          · omega⟩
        have HD3 : Hid (digs g (m.tdiv 10).natAbs ((48 + UInt8.ofNat k) :: acc) = digs 20 n.natAbs []) := Lib.hid (by
          rw [← HD.out, tdiv10]
          conv => rhs; unfold digs
          rw [if_neg (by omega), hk]
          rw [UInt8.ofNat_add]
          rfl)
        have hdm := tdiv10 m
        have hg : (m.tdiv 10).natAbs < 10 ^ g := by rw [tdiv10]; rw [Nat.pow_succ] at hm; omega
        have HB : Hid (bs [48 + UInt8.ofNat k] ++ bs acc = bs ((48 + UInt8.ofNat k) :: acc)) := Lib.hid (bs_app _ _)
        have HDM := Lib.hid hdm
        have c1 : ¬ 9223372036854775807 < (bs [48 + UInt8.ofNat k]).size + (bs acc).size := by rw [bs_size, bs_size]; simp; omega
        have hf2 : acc.length + 1 + g ≤ 20 := by omega
        clear hdm
        have hk9 : k ≤ 9 := by omega
        have HK := Lib.hid hk
        have hcv := conv1 wr (48 + (k : Int)) k (by omega) (by omega)
        by_cases hmn : m.tmod 10 < 0
        · have i2 : m.tmod 10 = -(k : Int) := by rw [(tmod10 m).2 hmn, hk]
          have i3 : -(k : Int) < 0 := by omega
          clear hk hmn
          go_wp2_with fail
          go_roundw
          case rel => exact ⟨g, m.tdiv 10, (48 + UInt8.ofNat k) :: acc, rfl, by rw [HB.out], by simp; omega, hg, by have := HDM.out; omega, HD3, hb.alloc hb.size _⟩
          case measure => have := HDM.out; show (m.tdiv 10).natAbs < m.natAbs; omega
        · have i2 : m.tmod 10 = (k : Int) := by rw [(tmod10 m).1 hmn, hk]
          have i3 : ¬ (k : Int) < 0 := by omega
          clear hk hmn
          go_wp2_with fail
          go_roundw
          case rel => exact ⟨g, m.tdiv 10, (48 + UInt8.ofNat k) :: acc, rfl, by rw [HB.out], by simp; omega, hg, by have := HDM.out; omega, HD3, hb.alloc hb.size _⟩
          case measure => have := HDM.out; show (m.tdiv 10).natAbs < m.natAbs; omega
end Go.Proofs.YteglcjembimegaaDoor
