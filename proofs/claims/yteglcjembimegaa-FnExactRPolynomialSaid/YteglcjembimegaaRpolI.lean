/- Shifts by one by the program; the order of elements by the reference. -/
import Derived.Test.YteglcjembimegaaRpol
import Derived.Test.YteglcjembimegaaNormals
namespace Go.Proofs.Yteglcjembimegaa
open Go.RowKit
set_option maxRecDepth 20000

set_option maxHeartbeats 1000000 in
theorem shiftImpl {S : Nat → Prop} {v : Value} {l : List Int} {w : World} (h : RI S w v l) (hl : l.length ≤ 8388608) :
    Calls Try.prog 126 #[v, .int .i64 1] w fun e w' => ∃ r, e = .returned r ∧ FI (New w w') w' r (shI l) ∧ Below w.heap.size w w' := by
  obtain ⟨i0, hi, hz0, hz1, hz2⟩ := info_parts infoInt
  have HLE := trim_le l
  have HSH : Hid (shI l = if trim l = [] then [] else 0 :: trim l) := Lib.hid rfl
  generalize shI l = res at *
  go_enter Try.func126, Try.ntmps126
  go_wp2_with fail
  refine (trimPolyImpl h (by omega)).mono ?_
  rintro e w1 ⟨r1, rfl, f1, b1⟩
  generalize trim l = t at *
  obtain ⟨a1, c1, rfl⟩ := f1.reads.form
  by_cases h0 : t.length = 0
  · have i1 : ((t.length : Int) == 0) = true := beq_iff_eq.2 (by omega)
    have ht : t = [] := List.eq_nil_of_length_eq_zero h0
    have hr := HSH.out
    rw [if_pos ht, ← ht] at hr
    have HR : Hid (t = res) := Lib.hid hr.symm
    clear HSH hr ht h0
    go_wp2_with fail
    go_ret
    rw [HR.out] at f1
    have := HR.out
    subst this
    exact ⟨_, rfl, f1, b1⟩
  · have i1 : ((t.length : Int) == 0) = false := beq_eq_false_iff_ne.2 (by omega)
    have hr := HSH.out
    rw [if_neg (fun e => h0 (by rw [e]; rfl))] at hr
    have HR : Hid (0 :: t = res) := Lib.hid hr.symm
    clear HSH hr h0
    go_wp2_with (at_make; refine wpList_make_full _ rfl _ _ 23 rfl w1.heap.size 3 i0 (.int .i64 0) 1 Try.underlying23 hi hz0 hz1 _ _ _ _ 1 rfl rfl rfl rfl ?hb ?hm ?hs ?_)
    case hb => first | (rw [hz2]; omega) | omega
    case hm => unfold maxLen; omega
    case hs => exact Nat.le_refl _
    intro w2 hown hgr
    have hb1 : Below w.heap.size w w2 := b1.grown hgr (Nat.le_trans b1.size (Nat.le_refl _)) (by simp)
    have hb2 : Below w1.heap.size w1 w2 := (Below.refl _ w1).grown hgr (Nat.le_refl _) (by simp)
    have hf1 : FI (New w w2) w2 (.slice (some ⟨w1.heap.size, 0, none⟩) 1 1) (List.replicate 1 0) := (FI.of_row hown (Nat.le_refl _) (by simp) (by simp [toList_madeCells_one, Value.cells])).mono (fun b hb => ⟨Nat.le_trans b1.size hb.1, hb.2⟩)
    clear hgr hi hz0 hz1 hz2 hown
    have f2 := f1.reads.below hb2
    go_wp2_with (at_builtin; go_must (refine wpList_app (W := w) rfl _ _ rfl rfl hf1 hb1 rfl f2 ?_ ?_))
    · simp; omega
    · intro v3 w3 f3 b3 _
      rw [HR.out] at f3
      go_wp2_with fail
      go_ret
      exact ⟨_, rfl, f3, b3⟩

theorem nfl_lets {c : List (List Int)} (hc : CartanP c) : ∀ (m : Nat) {mu : List Int}, Im c mu m → m ≤ 30 → Lets c.length (nf c 30 mu)
  | m, mu, h, hm => by
    cases e : firstN mu with
    | none => rw [nf_end e]; intro x hx; simp at hx
    | some i =>
      obtain ⟨m', rfl, h1, h2⟩ := nf_turn hc h hm e
      have ih := nfl_lets hc m' h1 (by omega)
      have hi := firstN_lt e
      have hl : mu.length = c.length := h.1
      rw [h2]
      intro x hx
      rcases List.mem_cons.1 hx with rfl | hx
      · omega
      · exact ih x hx
theorem nfl_eq {c : List (List Int)} (hc : CartanP c) {mu : List Int} {m : Nat} (h : Im c mu m) (hm : m ≤ 28) {i : Nat} (hi : i < c.length) : (num mu i < 0 → (nf c 30 (refl c i mu)).length < (nf c 30 mu).length) ∧ (¬ num mu i < 0 → ¬ (nf c 30 (refl c i mu)).length < (nf c 30 mu).length) := by
  have key : ∀ {nu : List Int} {k : Nat}, Im c nu k → k ≤ 29 → num nu i < 0 → (nf c 30 (refl c i nu)).length < (nf c 30 nu).length := by
    intro nu k hk hk2 hneg
    have hl := nfl_le hc hk (by omega)
    have hlt : Lets c.length (nf c 30 nu) := nfl_lets hc k hk (by omega)
    have him := image_im hc hlt (by omega)
    rw [nf_image hc k hk hk2] at him
    obtain ⟨m', h1, h2⟩ := him.back hc (by omega) (i := i) (x := num nu i) (by have := hk.1; simp [num, this, hi]) hneg
    have := nfl_le hc h2 (by omega)
    omega
  refine ⟨key h (by omega), fun hn => ?_⟩
  have h2 := h.step hc (by omega) hi
  have h3 := key h2 (by omega) (by
    rw [h.refl_num hc (by omega) hi hi]
    unfold Cox.sW
    rw [hc.car.diag i hi]
    have := h.num_ne hc hi
    omega)
  rw [h.turn_two hc (by omega) hi] at h3
  omega
end Go.Proofs.Yteglcjembimegaa
