/- Words' actions on weights, and the dot action. Condition: sizes up to 2^24. -/
import Derived.Test.YtkgjecabigdnoaaJAct
namespace Go.Proofs.Ytkgjecabigdnoaa
open Go.RowKit
set_option maxRecDepth 20000

theorem act_step {c : List (List Int)} {w : List Int} {v : List Int} {k : Nat} {x : Int} (h : w[k]? = some x) : act c (w.drop k) v = refl c x.toNat (act c (w.drop (k + 1)) v) := by
  rw [drop_step h]; rfl
theorem lets_at {n : Nat} {w : List Int} (h : Lets n w) {k : Nat} {x : Int} (hx : w[k]? = some x) : ∃ i : Nat, x = (i : Int) ∧ i < n := by
  obtain ⟨h0, h1⟩ := h x (List.mem_of_getElem? hx)
  exact ⟨x.toNat, by omega, by omega⟩

set_option maxHeartbeats 1000000 in
theorem actedImpl {S S' S'' : Nat → Prop} {u z v : Value} {c : List (List Int)} {l l' : List Int} {w : World} {n : Nat} (h : RII S w u c) (h' : RI S' w z l) (h'' : RI S'' w v l') (hsq : Sq c n) (hle : Lets n l) (hlv : l'.length = n) (hn0 : n ≤ 16777216) (hl' : l.length ≤ 16777216) :
    Calls Try.prog 108 #[u, z, v] w fun e w' => ∃ r, e = .returned r ∧ FI (New w w') w' r (act c l l') ∧ Below w.heap.size w w' := by
  have h := h.old
  obtain ⟨a, cap, rfl⟩ := h.form
  obtain ⟨a', cap', rfl⟩ := h'.form
  obtain ⟨a'', cap'', rfl⟩ := h''.form
  have HA0 : Hid (act c (l.drop l.length) l' = l') := Lib.hid (by simp [act])
  have HR : Hid (act c (l.drop 0) l' = act c l l') := Lib.hid (by simp)
  have HLE := Lib.hid hle
  have HS := Lib.hid hsq
  have HV := Lib.hid hlv
  generalize hm : l.length = m at *
  have HM := Lib.hid hm
  clear hm
  have hcn : c.length = n := hsq.len
  rw [hcn] at h ⊢
  rw [hlv] at h'' ⊢
  clear hsq hlv hcn
  go_enter Try.func108, Try.ntmps108
  obtain ⟨f1, b1⟩ := fresh_of (w := w) (Below.refl _ w) rfl
  go_wp2_with (at_builtin; go_must (refine wpList_app (W := w) rfl _ _ rfl rfl f1 b1 rfl (h''.below b1) ?_ ?_))
  · have := HV.out; simp; omega
  · intro v1 w2 f2 b2 _
    clear b1 f1 h''
    have h0 := h.below b2
    have hz := h'.below b2
    have hz := hz.old
    have hD : ∀ b, Bt 0 w.heap.size b → ¬ New w w2 b := fun b hb hb' => by have := hb.2; have := hb'.1; omega
    have f2 : FI (New w w2) w2 v1 (act c (l.drop m) l') := by rw [HA0.out]; exact f2
    have hzl : RI (Bt 0 w.heap.size) w2 (.slice a' m cap') l := h'.old.below b2
    clear h h' hz
    go_wp2_with fail
    go_loopw [8] (fun j wr => ∃ (k : Nat), k ≤ m ∧ j = .int .i64 ((k : Int) - 1) ∧ FI (New w w2) wr v1 (act c (l.drop k) l') ∧ Only (New w w2) w2 wr) (fun j _ => (intOf j + 1).toNat)
    case atStart => exact ⟨m, Nat.le_refl _, by go_num, f2, Only.refl _ _⟩
    case round =>
      obtain ⟨k, hk, rfl, hf, ho⟩ := hrel
      rcases k with _ | k
      · go_wp2_with fail
        go_ret
        exact ⟨_, rfl, (by rw [← HR.out]; exact hf.mono (fun b hb => ⟨hb.1, by rw [ho.size]; exact hb.2⟩)), b2.trans (ho.below (fun b hb => hb.1))⟩
      · obtain ⟨b, o, x, rfl, hc, hx⟩ := (hzl.only ho hD).at (j := k) (by omega)
        obtain ⟨i, rfl, hi⟩ := lets_at HLE.out hx.out
        have e1 : ((k + 1 : Nat) : Int) - 1 = (k : Int) := by omega
        rw [e1]
        have hlen : (act c (l.drop (k + 1)) l').length = n := by rw [act_length]; exact HV.out
        have HST : Hid (act c (l.drop k) l' = refl c i (act c (l.drop (k + 1)) l')) := Lib.hid (by rw [act_step hx.out]; rfl)
        go_wp2_with fail
        refine (reflectedImpl (h0.only ho hD) hf hD i hi HS.out hlen hn0).mono ?_
        rintro e w3 ⟨rfl, f3, o3⟩
        go_wp2_with fail
        go_roundw
        case rel => exact ⟨k, by omega, by go_num, by rw [HST.out]; exact f3, ho.trans o3⟩
        case measure => simp [intOf]

theorem FI.head {S : Nat → Prop} {w : World} {a : Option Addr} {n cap : Nat} {l : List Int} (h : FI S w (.slice a n cap) l) (h0 : 0 < n) : ∃ g, a = some ⟨g, 0, none⟩ ∧ S g ∧ l.length = n := by
  obtain ⟨a', cap', hv⟩ := h.form
  simp only [Value.slice.injEq] at hv
  obtain ⟨rfl, rfl, rfl⟩ := hv
  rcases h.1.2 with ⟨_, h1⟩ | ⟨g, cap', cur, hv, _⟩
  · omega
  · simp only [Value.slice.injEq, true_and] at hv
    exact ⟨g, hv.1, h.2 g (by rw [hv.1]; rfl), rfl⟩
theorem FI.cell {S : Nat → Prop} {w : World} {g n cap : Nat} {l : List Int} (h : FI S w (.slice (some ⟨g, 0, none⟩) n cap) l) {k : Nat} {x : Int} (hx : l[k]? = some x) (hk : k < n) : w.cell? ⟨g, k, none⟩ = some (.int .i64 x) := by
  have hA : RI Any w (.slice (some ⟨g, 0, none⟩) n cap) l := h.any
  obtain ⟨b, o, y, e, hc, hy⟩ := RI.at hA hk
  simp only [Option.some.injEq, Addr.mk.injEq, and_true] at e
  obtain ⟨rfl, rfl⟩ := e
  have := hy.out
  rw [hx] at this
  simp only [Option.some.injEq] at this
  subst this
  simpa using hc
theorem FI.froz {S : Nat → Prop} {w : World} {g n cap : Nat} {l : List Int} (h : FI S w (.slice (some ⟨g, 0, none⟩) n cap) l) (hl : l.length = n) (k : Nat) : w.frozen? ⟨g, k, none⟩ = false := by
  subst hl; exact h.1.frozenAt k
theorem FI.put {S : Nat → Prop} {w : World} {g n cap : Nat} {l : List Int} (h : FI S w (.slice (some ⟨g, 0, none⟩) n cap) l) (hl : l.length = n) (k : Nat) (x : Int) : FI S (w.setCell ⟨g, k, none⟩ (.int .i64 x)) (.slice (some ⟨g, 0, none⟩) n cap) (l.set k x) := by
  subst hl
  refine ⟨?_, h.2⟩
  have := (h.1.stored k (.int .i64 x)).1
  rw [← List.map_set] at this
  rw [List.length_set]
  exact this

theorem map_step {f : Int → Int} {l : List Int} {k : Nat} {x : Int} (h : l[k]? = some x) : ((l.take k).map f ++ l.drop k).set k (f x) = (l.take (k + 1)).map f ++ l.drop (k + 1) := by
  have hk : k < l.length := (List.getElem?_eq_some_iff.1 h).1
  have e1 : ((l.take k).map f).length = k := by simp; omega
  rw [List.set_append_right _ _ (by rw [e1]; exact Nat.le_refl _), e1, drop_step h, take_step h]
  simp
theorem map_at {f : Int → Int} {l : List Int} {k : Nat} {x : Int} (h : l[k]? = some x) : ((l.take k).map f ++ l.drop k)[k]? = some x := by
  have hk : k < l.length := (List.getElem?_eq_some_iff.1 h).1
  have e1 : ((l.take k).map f).length = k := by simp; omega
  rw [List.getElem?_append_right (by rw [e1]; exact Nat.le_refl _), e1, drop_step h]
  simp
theorem map_len {f : Int → Int} {l : List Int} {k : Nat} : ((l.take k).map f ++ l.drop k).length = l.length := by simp; omega

def less1 (x : Int) : Int := wrap64 (x - 1)

end Go.Proofs.Ytkgjecabigdnoaa
