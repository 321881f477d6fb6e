/- The normal forms of all elements of a group with at most 200 elements: how many there are. Plain lists. -/
import Derived.Test.YtipjomdldjbenaaJElC
import Derived.Test.YtipjomdldjbenaaJGFin
import Derived.Test.YtipjomdldjbenaaJGOrbP
namespace Go.Proofs.Ytipjomdldjbenaa
open Go.RowKit
set_option maxRecDepth 20000

def vec64 (n a : Nat) : List Int := (List.range n).map fun k => (dg64 a k : Int) - 32
theorem vec64_len (n a : Nat) : (vec64 n a).length = n := by unfold vec64; simp
theorem num_vec64 {n a k : Nat} (hk : k < n) : num (vec64 n a) k = (dg64 a k : Int) - 32 := num_range hk
theorem rho_vec {n : Nat} (hn : n ≤ 4) : vec64 n (rhoC n) = List.replicate n 1 := by
  have : n = 0 ∨ n = 1 ∨ n = 2 ∨ n = 3 ∨ n = 4 := by omega
  rcases this with rfl | rfl | rfl | rfl | rfl <;> decide +kernel
theorem dg64_lt (a k : Nat) : dg64 a k < 64 := Nat.mod_lt _ (by omega)
theorem offN_ent {c : List (List Int)} (hc : CartanP c) {k i : Nat} (hk : k < c.length) (hi : i < c.length) (h : k ≠ i) : (offN c k i : Int) = -(ent c k i) := by
  have := hc.car.off k i hk hi h
  unfold offN
  rw [if_neg h]
  omega
theorem okUp_dg {c : List (List Int)} {a i : Nat} (h : okUp c a i = true) (h1 : 33 ≤ dg64 a i) {k : Nat} (hk : k < c.length) : dg64 (upC c a i) k = if k = i then 64 - dg64 a i else dg64 a k + (dg64 a i - 32) * offN c k i := by
  unfold okUp at h
  rw [Bool.or_eq_true] at h
  rcases h with h | h
  · have := Nat.le_of_ble_eq_true h; omega
  · exact Nat.eq_of_beq_eq_true (List.all_eq_true.1 h k (List.mem_range.2 hk))
theorem up_vec {c : List (List Int)} (hc : CartanP c) {a i m : Nat} (h : okUp c a i = true) (h1 : 33 ≤ dg64 a i) (hi : i < c.length) (him : Im c (vec64 c.length a) m) (hm : m ≤ 30) : vec64 c.length (upC c a i) = refl c i (vec64 c.length a) := by
  refine num_ext (n := c.length) (vec64_len _ _) (by rw [refl_length, vec64_len]) fun k hk => ?_
  obtain ⟨hl, w, hw, hwl, hn⟩ := him
  rw [num_vec64 hk, okUp_dg h h1 hk, refl_exact hc hl hw (by omega) hn hi hk]
  unfold Cox.sW
  rw [← hn k hk, ← hn i hi, num_vec64 hk, num_vec64 hi]
  have hd := dg64_lt a i
  by_cases e : k = i
  · subst e
    rw [if_pos rfl, hc.car.diag k hk]
    omega
  · rw [if_neg e]
    have ho := offN_ent hc hk hi e
    rw [Int.natCast_add, Int.natCast_mul, ho, Int.natCast_sub (by omega), Int.mul_neg]
    have e2 : ((32 : Nat) : Int) = 32 := rfl
    rw [e2]
    omega
section
variable {c : List (List Int)}
theorem shell_in (c : List (List Int)) : ∀ (f m j : Nat), m < f → ∀ a ∈ shellN c (j + m), a ∈ shellsF c f (shellN c j)
  | 0, _, _, h, _, _ => by omega
  | f + 1, 0, j, _, a, ha => List.mem_append_left _ ha
  | f + 1, m + 1, j, h, a, ha => by
    refine List.mem_append_right _ ?_
    exact shell_in c f m (j + 1) (by omega) a (by rw [show j + 1 + m = j + (m + 1) by omega]; exact ha)
theorem in_shell (c : List (List Int)) : ∀ (f j : Nat), ∀ a ∈ shellsF c f (shellN c j), ∃ m, m < f ∧ a ∈ shellN c (j + m)
  | 0, _, a, ha => by simp [shellsF] at ha
  | f + 1, j, a, ha => by
    rcases List.mem_append.1 ha with ha | ha
    · exact ⟨0, by omega, ha⟩
    · obtain ⟨m, hm, h⟩ := in_shell c f (j + 1) a ha
      exact ⟨m + 1, by omega, by rw [show j + (m + 1) = j + 1 + m by omega]; exact h⟩
theorem shell_elV {m a : Nat} (hm : m ≤ 24) (ha : a ∈ shellN c m) : a ∈ elV c := shell_in c 25 m 0 (by omega) a (by rw [Nat.zero_add]; exact ha)
/-- All numbers of the shells are images. -/
theorem shell_im (hc : CartanP c) (hk : CodeOk c) : ∀ (m : Nat), m ≤ 24 → ∀ a ∈ shellN c m, Im c (vec64 c.length a) m
  | 0, _, a, ha => by
    rw [shellN, List.mem_singleton] at ha
    subst ha
    rw [rho_vec hc.le]
    exact ⟨by simp, [], fun i hi => by simp at hi, rfl, fun k hk => by simp [num, Cox.aW, Cox.one, hk]⟩
  | m + 1, hm, b, hb => by
    rw [shellN, List.mem_flatMap] at hb
    obtain ⟨a, ha, hb⟩ := hb
    have ih := shell_im hc hk m (by omega) a ha
    unfold kids at hb
    obtain ⟨i, hi, hb⟩ := List.mem_filterMap.1 hb
    have hi := List.mem_range.1 hi
    split at hb
    · rename_i hkd
      simp only [Option.some.injEq] at hb
      subst hb
      unfold kidB at hkd
      rw [Bool.and_eq_true] at hkd
      rw [up_vec hc (hk.up a (shell_elV (by omega) ha) i hi) (Nat.le_of_ble_eq_true hkd.1) hi ih (by omega)]
      exact ih.step hc (by omega) hi
    · cases hb
theorem Im.wt (h : FinP c) {v : List Int} {m : Nat} (him : Im c v m) : Wt c (cors c) v := by
  obtain ⟨hl, w, hw, _, hn⟩ := him
  have h0 : Wt c (cors c) (List.replicate c.length 1) := wt_start h.cor (by simp) (fun x hx => by have := (List.mem_replicate.1 hx).2; omega)
  obtain ⟨h1, h2⟩ := wt_act h.cor h.cart h0 hw
  have e : v = actN c w (List.replicate c.length 1) := num_ext hl h1.len fun k hk => by
    rw [hn k hk, h2 k hk]
    exact Cox.aW_congr h.cart.car (fun j hj => by simp [Cox.one, num, hj]) hw k hk
  rw [e]; exact h1
theorem nf_24 (h : FinP c) {v : List Int} {m : Nat} (him : Im c v m) : (nf c 30 v).length ≤ 24 := by
  have hd : DomS c (cors c) v (negs c (cors c) v) := ⟨him.wt h, rfl⟩
  exact Nat.le_trans (nf_len (down_dom h.cor h.cart) _ hd) (hd.le h.cor)
/-- Every image is among them. -/
theorem shell_all (h : FinP c) (hk : CodeOk c) : ∀ (m : Nat) {v : List Int} {m' : Nat}, Im c v m' → m' ≤ 29 → (nf c 30 v).length = m → ∃ a ∈ shellN c m, vec64 c.length a = v
  | 0, v, m', him, hm', hl => by
    have hc := h.cart
    have e : firstN v = none := by
      cases e : firstN v with
      | none => rfl
      | some i =>
        obtain ⟨_, _, _, h2⟩ := nf_turn hc him (by omega) e
        rw [h2] at hl; simp at hl
    exact ⟨rhoC c.length, by simp [shellN], by rw [rho_vec hc.le, him.ones hc e]⟩
  | m + 1, v, m', him, hm', hl => by
    have hc := h.cart
    cases e : firstN v with
    | none => rw [nf_end e] at hl; simp at hl
    | some i =>
      obtain ⟨m1, e1, h1, h2⟩ := nf_turn hc him (by omega) e
      rw [h2] at hl
      have hi : i < c.length := by have := firstN_lt e; rw [him.len] at this; exact this
      obtain ⟨a, ha, hv⟩ := shell_all h hk m h1 (by omega) (by simpa using hl)
      have h24 := nf_24 h him
      rw [h2] at h24
      have hm24 : m + 1 ≤ 24 := by simp at h24 hl; omega
      have hback := him.turn_two hc (by omega) hi
      have hnv : num v i < 0 := num_first e
      have hda : 33 ≤ dg64 a i := by
        have hneg : num (refl c i v) i = -(num v i) := by
          obtain ⟨hl', w, hw, hwl, hn⟩ := him
          rw [refl_exact hc hl' hw (by omega) hn hi hi, Cox.sW_self hc.car hi, ← hn i hi]
        rw [← hv, num_vec64 hi] at hneg
        omega
      have ima : Im c (vec64 c.length a) m1 := by rw [hv]; exact h1
      have hup := up_vec hc (hk.up a (shell_elV (by omega) ha) i hi) hda hi ima (by omega)
      rw [hv, hback] at hup
      refine ⟨upC c a i, ?_, hup⟩
      rw [shellN, List.mem_flatMap]
      refine ⟨a, ha, ?_⟩
      unfold kids
      refine List.mem_filterMap.2 ⟨i, List.mem_range.2 hi, ?_⟩
      rw [if_pos]
      unfold kidB
      rw [Bool.and_eq_true]
      refine ⟨Nat.ble_eq_true_of_le hda, List.all_eq_true.2 fun k hk' => Nat.ble_eq_true_of_le ?_⟩
      have hki := List.mem_range.1 hk'
      obtain ⟨x, hx, _, hpos⟩ := firstN_some e
      have hkl : k < v.length := by rw [him.len]; omega
      have h3 := hpos k hki v[k] (List.getElem?_eq_getElem hkl)
      have h4 := him.ne hc (List.getElem_mem hkl)
      have h5 : num v k = v[k] := by simp [num, hkl]
      have h6 : (dg64 (upC c a i) k : Int) - 32 = v[k] := by rw [← h5, ← num_vec64 (n := c.length) (by omega), hup]
      omega
/-- Normal forms. -/
structure Nf (c : List (List Int)) (x : List Int) : Prop where
  lets : Lets c.length x
  le : x.length ≤ 24
  nf : normL c x = x
theorem Nf.im (hc : CartanP c) {x : List Int} (h : Nf c x) : Im c (image c x) x.length := image_im hc h.lets (by have := h.le; omega)
theorem Nf.inj {x y : List Int} (hx : Nf c x) (hy : Nf c y) (e : image c x = image c y) : x = y := by
  rw [← hx.nf, ← hy.nf]
  unfold normL
  rw [e]
/-- Each image has its normal form. -/
theorem Im.nf (h : FinP c) {v : List Int} {m : Nat} (him : Im c v m) (hm : m ≤ 29) : Nf c (nf c 30 v) := by
  refine ⟨nf_lets (down_im h.cart) m ⟨him, by omega⟩, nf_24 h him, ?_⟩
  unfold normL
  rw [nf_image h.cart m him hm]
theorem nodup_mapi {α β : Type} {f : α → β} : ∀ {l : List α}, (∀ x ∈ l, ∀ y ∈ l, f x = f y → x = y) → l.Nodup → (l.map f).Nodup := fun {_} h hn => nodup_map h hn
theorem inj_of_map {α β : Type} {f : α → β} : ∀ {l : List α}, (l.map f).Nodup → ∀ {x y : α}, x ∈ l → y ∈ l → f x = f y → x = y
  | [], _, _, _, hx, _, _ => by cases hx
  | a :: l, h, x, y, hx, hy, e => by
    rw [List.map_cons, List.nodup_cons] at h
    rcases List.mem_cons.1 hx with rfl | hx' <;> rcases List.mem_cons.1 hy with rfl | hy'
    · rfl
    · exact (h.1 (List.mem_map.2 ⟨y, hy', e.symm⟩)).elim
    · exact (h.1 (List.mem_map.2 ⟨x, hx', e⟩)).elim
    · exact inj_of_map h.2 hx' hy' e
/-- There are no more than the size of the group. -/
theorem nf_count (h : FinP c) (hs : szP c ≤ 200) {l : List (List Int)} (hn : l.Nodup) (hl : ∀ x ∈ l, Nf c x) : l.length ≤ szP c := by
  have hk := h.code hs
  have h1 : (l.map (image c)).Nodup := nodup_mapi (fun x hx y hy e => (hl x hx).inj (hl y hy) e) hn
  have h2 : ∀ v ∈ l.map (image c), v ∈ (elV c).map (vec64 c.length) := fun v hv => by
    obtain ⟨x, hx, rfl⟩ := List.mem_map.1 hv
    have hx := hl x hx
    have hi := hx.im h.cart
    obtain ⟨a, ha, e⟩ := shell_all h hk _ hi (by have := hx.le; omega) rfl
    have hle := nf_24 h hi
    exact List.mem_map.2 ⟨a, shell_elV hle ha, e⟩
  have h3 := nd_le h1 h2
  rw [List.length_map, List.length_map, hk.len] at h3
  exact h3
theorem mod64 (a : Nat) : ∀ n, a % 64 ^ n = sumN (fun k => dg64 a k * 64 ^ k) n
  | 0 => by simp [sumN, Nat.mod_one]
  | n + 1 => by
    have h := mod64 a n
    simp only [sumN]
    rw [← h, Nat.pow_succ, Nat.mod_mul]
    unfold dg64
    rw [Nat.mul_comm (64 ^ n)]
/-- .. and no fewer, where that is at most 24: a list of all of them is as long as the group is great. -/
theorem nf_exact (h : FinP c) (hs : szP c ≤ 24) {l : List (List Int)} (hn : l.Nodup) (hl : ∀ x, x ∈ l ↔ Nf c x) : l.length = szP c := by
  have hk := h.code (by omega)
  refine Nat.le_antisymm (nf_count h (by omega) hn (fun x hx => (hl x).1 hx)) ?_
  have hV : ((elV c).map (vec64 c.length)).Nodup := by
    have h1 := hk.nd hs
    refine nodup_mapi (fun a ha b hb e => ?_) (List.Pairwise.of_map _ (fun a b hab e => hab (by rw [e])) h1)
    have e2 : a % 64 ^ c.length = b % 64 ^ c.length := by
      rw [mod64, mod64]
      refine mk_congr fun k hk => ?_
      have := num_vec64 (a := a) hk
      rw [e, num_vec64 hk] at this
      rw [show dg64 a k = dg64 b k by omega]
    exact inj_of_map h1 ha hb e2
  have h1 : (((elV c).map (vec64 c.length)).map (Proofs.Ytipjomdldjbenaa.nf c 30)).Nodup := by
    refine nodup_mapi (fun v hv v' hv' e => ?_) hV
    obtain ⟨a, ha, rfl⟩ := List.mem_map.1 hv
    obtain ⟨b, hb, rfl⟩ := List.mem_map.1 hv'
    obtain ⟨m, hm, ha⟩ := in_shell c 25 0 a ha
    obtain ⟨m', hm', hb⟩ := in_shell c 25 0 b hb
    rw [Nat.zero_add] at ha hb
    have i1 := shell_im h.cart hk m (by omega) a ha
    have i2 := shell_im h.cart hk m' (by omega) b hb
    rw [← nf_image h.cart m i1 (by omega), ← nf_image h.cart m' i2 (by omega), e]
  have h2 : ∀ x ∈ ((elV c).map (vec64 c.length)).map (Proofs.Ytipjomdldjbenaa.nf c 30), x ∈ l := fun x hx => by
    obtain ⟨v, hv, rfl⟩ := List.mem_map.1 hx
    obtain ⟨a, ha, rfl⟩ := List.mem_map.1 hv
    obtain ⟨m, hm, ha⟩ := in_shell c 25 0 a ha
    rw [Nat.zero_add] at ha
    exact (hl _).2 ((shell_im h.cart hk m (by omega) a ha).nf h (by omega))
  have h3 := nd_le h1 h2
  rw [List.length_map, List.length_map, hk.len] at h3
  exact h3
end
end Go.Proofs.Ytipjomdldjbenaa
