/- A reflected weight has the same dominant form, and off the walls the other parity. Plain. Condition: weights within the bounds of Wt. -/
import Derived.Test.YtdboknhjbjibjaaJGOrbP
import Derived.Test.YtdboknhjbjibjaaJReg
namespace Go.Proofs.Ytdboknhjbjibjaa
open Go.RowKit
set_option maxRecDepth 20000

section
variable {c T : List (List Int)}
theorem dm_len (hT : Cor c T) (hc : CartanP c) : ∀ (m : Nat) {v : List Int}, DomS c T v m → ∃ w, Cox.Lets c.length w ∧ dmL c v = actN c w v ∧ w.length = (nf c 30 v).length
  | m, v, h => by
    cases e : firstN v with
    | none => exact ⟨[], fun _ h => by simp at h, by rw [dm_end e]; rfl, by rw [nf_end e]; rfl⟩
    | some i =>
      obtain ⟨_, _, _, h2⟩ := (down_dom hT hc).turn v _ i h e
      have e1 := dm_turn (down_dom hT hc) h e
      obtain ⟨m', rfl, h3⟩ := h.back hT hc e
      have hi : i < c.length := by have := firstN_lt e; rw [h.1.len] at this; exact this
      obtain ⟨w, a1, a2, a3⟩ := dm_len hT hc m' h3
      refine ⟨w ++ [i], Cox.lets_app a1 (fun j hj => by rw [List.mem_singleton] at hj; subst hj; exact hi), by rw [e1, a2, actN_app]; rfl, by rw [h2]; simp [a3]⟩
theorem actN_back (hT : Cor c T) (hc : CartanP c) {v : List Int} (h : Wt c T v) : ∀ {w : List Nat}, Cox.Lets c.length w → actN c w.reverse (actN c w v) = v
  | [], _ => rfl
  | i :: w, hw => by
    have hi : i < c.length := hw i (List.mem_cons_self ..)
    have hw' : Cox.Lets c.length w := fun j hj => hw j (List.mem_cons_of_mem _ hj)
    rw [List.reverse_cons, actN_app]
    show actN c w.reverse (refl c i (refl c i (actN c w v))) = v
    rw [wt_two hT hc (wt_act hT hc h hw').1 hi]
    exact actN_back hT hc h hw'
theorem dots_same (hT : Cor c T) (hc : CartanP c) {v : List Int} (h : Wt c T v) {i : Nat} (hi : i < c.length) : dmL c (refl c i v) = dmL c v := dm_same hT hc h ((Rch.refl c v).step hi)
theorem dots_par (hT : Cor c T) (hc : CartanP c) {v : List Int} (h : Wt c T v) {i : Nat} (hi : i < c.length) (hz : ¬ (0 : Int) ∈ dmL c v) : ((nf c 30 (refl c i v)).length + (nf c 30 v).length) % 2 = 1 := by
  obtain ⟨w1, a1, a2, a3⟩ := dm_len hT hc _ (show DomS c T v _ from ⟨h, rfl⟩)
  obtain ⟨w2, b1, b2, b3⟩ := dm_len hT hc _ (show DomS c T (refl c i v) _ from ⟨h.step hT hc hi, rfl⟩)
  obtain ⟨d1, d2⟩ := dm_ok' hT hc h
  have hd := d2.wt hT hc h
  have hv := actN_back hT hc h a1
  rw [← a2] at hv
  rw [dots_same hT hc h hi] at b2
  have hW : Cox.Lets c.length (w2 ++ (i :: w1.reverse)) := Cox.lets_app b1 (fun j hj => by
    rcases List.mem_cons.1 hj with e | hj
    · subst e; exact hi
    · exact a1 j (by simpa using hj))
  have hfix : actN c (w2 ++ (i :: w1.reverse)) (dmL c v) = dmL c v := by
    rw [actN_app]
    show actN c w2 (refl c i (actN c w1.reverse (dmL c v))) = dmL c v
    rw [hv, ← b2]
  have hev := Cox.reg_even hc.car hW (m := num (dmL c v)) (fun k hk => by
    have h0 := dom_num d1 k
    have hkl : k < (dmL c v).length := by rw [hd.len]; exact hk
    have hn : num (dmL c v) k = (dmL c v)[k] := num_at (List.getElem?_eq_getElem hkl)
    have h1 : num (dmL c v) k ≠ 0 := fun e => hz (by rw [← e, hn]; exact List.getElem_mem hkl)
    omega) (fun k hk => by rw [← (wt_act hT hc hd hW).2 k hk, hfix])
  simp only [List.length_append, List.length_cons, List.length_reverse] at hev
  omega
end
end Go.Proofs.Ytdboknhjbjibjaa
