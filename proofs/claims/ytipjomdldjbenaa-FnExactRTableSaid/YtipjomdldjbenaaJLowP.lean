/- The elements below a word: the reference's search, cover by cover, and the program's, letter by letter, find the same. Plain lists. Condition: words of at most 15 letters. -/
import Derived.Test.YtipjomdldjbenaaJLowC
import Derived.Test.YtipjomdldjbenaaJElE
namespace Go.Proofs.Ytipjomdldjbenaa
open Go.RowKit
set_option maxRecDepth 20000

section
variable {c : List (List Int)}
/-- An element that a part of the word w makes up. -/
def PtL (c : List (List Int)) (m w : List Int) : Prop := ∃ z : List Int, z.Sublist w ∧ image c z = m
theorem lets_subL {n : Nat} {z w : List Int} (h : Lets n w) (hz : z.Sublist w) : Lets n z := fun x hx => h x (hz.subset hx)
theorem toN_len (z : List Int) : (toN z).length = z.length := by simp [toN]
theorem toN_sub {z w : List Int} (h : z.Sublist w) : (toN z).Sublist (toN w) := h.map _
theorem sub_toN {y : List Nat} {w : List Int} (h : y.Sublist (toN w)) : ∃ z : List Int, z.Sublist w ∧ toN z = y := by
  obtain ⟨z, h1, h2⟩ := List.sublist_map_iff.1 h
  exact ⟨z, h1, h2.symm⟩
theorem img_eqv (hc : CartanP c) {x y : List Int} (hx : Lets c.length x) (hy : Lets c.length y) (lx : x.length ≤ 30) (ly : y.length ≤ 30) : Cox.Eqv c.length (ent c) (toN x) (toN y) ↔ image c x = image c y := by
  have n1 := image_num hc hx lx
  have n2 := image_num hc hy ly
  constructor
  · intro h
    exact num_ext (image_len hc hx lx) (image_len hc hy ly) (fun k hk => by rw [n1 k hk, n2 k hk, h.m])
  · intro h
    exact Cox.same_eqv hc.car (toN_lets hx) (toN_lets hy) (fun k hk => by rw [← n1 k hk, ← n2 k hk, h])
theorem len_red (hc : CartanP c) {x : List Int} (hx : Lets c.length x) (lx : x.length ≤ 24) (hl : (normL c x).length = x.length) : Cox.Red c.length (ent c) (toN x) := fun u hu he => by
  rw [toN_len]
  by_cases hu30 : u.length ≤ 30
  · have him : Im c (image c x) u.length := ⟨image_len hc hx (by omega), u, hu, rfl, fun k hk => by rw [image_num hc hx (by omega) k hk, he.m]⟩
    have := nf_len (down_im hc) u.length ⟨him, hu30⟩
    unfold normL at hl
    omega
  · omega
theorem norm_is (hc : CartanP c) {x : List Int} (hx : Lets c.length x) (lx : x.length ≤ 24) : Nf c (normL c x) ∧ image c (normL c x) = image c x := by
  have e := nf_image hc x.length (image_im hc hx (by omega)) (by omega)
  have h1 := normL_lets hc hx (by omega)
  have h2 := normL_le hc hx (by omega)
  exact ⟨⟨h1, by omega, by show nf c 30 (image c (nf c 30 (image c x))) = normL c x; rw [e]; rfl⟩, e⟩
theorem red_len (hc : CartanP c) {x : List Int} (hx : Lets c.length x) (lx : x.length ≤ 24) (hr : Cox.Red c.length (ent c) (toN x)) : (normL c x).length = x.length := by
  obtain ⟨h1, h2⟩ := norm_is hc hx lx
  have := hr (toN (normL c x)) (toN_lets h1.lets) ((img_eqv hc hx h1.lets (by omega) (by have := h1.le; omega)).2 h2.symm)
  rw [toN_len, toN_len] at this
  have := normL_le hc hx (by omega)
  omega
theorem Nf.red (hc : CartanP c) {x : List Int} (h : Nf c x) : Cox.Red c.length (ent c) (toN x) := len_red hc h.lets h.le (by rw [h.nf])
/-- The elements below w. -/
structure Blw (c : List (List Int)) (w y : List Int) : Prop where
  nf : Nf c y
  part : PtL c (image c y) w
theorem Blw.le (hc : CartanP c) {w y : List Int} (hw : Lets c.length w) (lw : w.length ≤ 24) (h : Blw c w y) : y.length ≤ w.length := by
  obtain ⟨z, z1, z2⟩ := h.part
  have hz := lets_subL hw z1
  have := z1.length_le
  have h2 := normL_le hc hz (by omega)
  unfold normL at h2
  rw [z2] at h2
  have h3 := h.nf.nf
  unfold normL at h3
  rw [h3] at h2
  omega
/-- Parts carry over to another word of the element. -/
theorem part_over (hc : CartanP c) {w y z : List Int} (hw : Lets c.length w) (lw : w.length ≤ 24) (hy : Lets c.length y) (ly : y.length ≤ 24) (hr : Cox.Red c.length (ent c) (toN w)) (he : image c y = image c w) (hz : z.Sublist w) : PtL c (image c z) y := by
  have hzl := lets_subL hw hz
  have lz := hz.length_le
  obtain ⟨z', s1, s2, s3⟩ := Cox.red_sub hc.car (toN_lets hzl)
  obtain ⟨y', t1, t2⟩ := Cox.part_any hc.car (toN_lets hw) hr (toN w).length (s1.trans (toN_sub hz)) s2 (by omega) (toN y) (toN_lets hy) ((img_eqv hc hy hw (by omega) (by omega)).2 he)
  obtain ⟨u, u1, rfl⟩ := sub_toN t1
  have := u1.length_le
  exact ⟨u, u1, (img_eqv hc (lets_subL hy u1) hzl (by omega) (by omega)).1 (t2.trans s3)⟩
theorem Blw.down (hc : CartanP c) {w y z : List Int} (hw : Lets c.length w) (lw : w.length ≤ 24) (h : Blw c w y) (hz : z.Sublist y) : Blw c w (normL c z) := by
  have hzl := lets_subL h.nf.lets hz
  have := hz.length_le
  have hle := h.nf.le
  obtain ⟨n1, n2⟩ := norm_is hc hzl (by omega)
  obtain ⟨y1, p1, p2⟩ := h.part
  have := p1.length_le
  obtain ⟨z', q1, q2⟩ := part_over hc h.nf.lets hle (lets_subL hw p1) (by omega) (h.nf.red hc) p2 hz
  exact ⟨n1, z', q1.trans p1, by rw [n2, q2]⟩
theorem sub_erase {α : Type} : ∀ {z l : List α}, z.Sublist l → z.length + 1 = l.length → ∃ k, k < l.length ∧ z = l.eraseIdx k
  | _, _, List.Sublist.slnil, h => by simp at h
  | z, a :: l, List.Sublist.cons _ hs, h => ⟨0, by simp, by simpa using hs.eq_of_length_le (by simp at h; omega)⟩
  | _ :: z, a :: l, List.Sublist.cons_cons _ hs, h => by
    obtain ⟨k, h1, h2⟩ := sub_erase hs (by simpa using h)
    exact ⟨k + 1, by simp; omega, by simp [h2]⟩

/-! Covers, by the reference. -/
def covF (c : List (List Int)) (x : List Int) (out : List (List Int)) (k : Nat) : List (List Int) := if (normL c (x.eraseIdx k)).length + 1 = x.length then putE (normL c (x.eraseIdx k)) out else out
def covL (c : List (List Int)) (x : List Int) : List (List Int) := (List.range x.length).foldl (covF c x) []
theorem mem_covF {x y : List Int} : ∀ (m : Nat), y ∈ (List.range m).foldl (covF c x) [] ↔ ∃ k, k < m ∧ (normL c (x.eraseIdx k)).length + 1 = x.length ∧ y = normL c (x.eraseIdx k)
  | 0 => by simp
  | m + 1 => by
    rw [List.range_succ, List.foldl_append]
    show y ∈ covF c x ((List.range m).foldl (covF c x) []) m ↔ _
    unfold covF
    have ih := mem_covF (x := x) (y := y) m
    unfold covF at ih
    by_cases h : (normL c (x.eraseIdx m)).length + 1 = x.length
    · rw [if_pos h, mem_putE, ih]
      constructor
      · rintro (rfl | ⟨k, h1, h2⟩)
        · exact ⟨m, by omega, h, rfl⟩
        · exact ⟨k, by omega, h2⟩
      · rintro ⟨k, h1, h2, h3⟩
        rcases Nat.lt_or_ge k m with h4 | h4
        · exact .inr ⟨k, h4, h2, h3⟩
        · have : k = m := by omega
          subst this
          exact .inl h3
    · rw [if_neg h, ih]
      constructor
      · rintro ⟨k, h1, h2⟩; exact ⟨k, by omega, h2⟩
      · rintro ⟨k, h1, h2, h3⟩
        rcases Nat.lt_or_ge k m with h4 | h4
        · exact ⟨k, h4, h2, h3⟩
        · have : k = m := by omega
          subst this
          exact absurd h2 h
theorem mem_covL {x y : List Int} : y ∈ covL c x ↔ ∃ k, k < x.length ∧ (normL c (x.eraseIdx k)).length + 1 = x.length ∧ y = normL c (x.eraseIdx k) := mem_covF _
theorem putE_len (v : List Int) : ∀ l : List (List Int), (putE v l).length ≤ l.length + 1
  | [] => by simp [putE]
  | x :: l => by
    have := putE_len v l
    unfold putE
    split
    · simp
    · split
      · simp
      · simp; omega
theorem covF_len {x : List Int} : ∀ (m : Nat), ((List.range m).foldl (covF c x) []).length ≤ m
  | 0 => by simp
  | m + 1 => by
    rw [List.range_succ, List.foldl_append]
    show (covF c x ((List.range m).foldl (covF c x) []) m).length ≤ m + 1
    have := covF_len (x := x) m
    unfold covF at this ⊢
    split
    · have := putE_len (normL c (x.eraseIdx m)) ((List.range m).foldl (covF c x) [])
      unfold covF at this
      omega
    · omega
/-- The reference's search. -/
def loRow : List (List Int) → List (List Int) → Option (List (List Int))
  | [], q => some q
  | y :: l, q => if y ∈ q then loRow l q else if 200 ≤ q.length then none else loRow l (q ++ [y])
def loBfs (c : List (List Int)) : Nat → Nat → List (List Int) → Option (List (List Int))
  | 0, _, q => some q
  | f + 1, k, q => match q[k]? with
    | none => some q
    | some x => match loRow (covL c x) q with
      | none => none
      | some q' => loBfs c f (k + 1) q'
def lowS (c : List (List Int)) (w : List Int) : Option (List (List Int)) := loBfs c 201 0 [w]
/-- There are too many of them. -/
def Many (T : List Int → Prop) : Prop := ∃ l : List (List Int), l.Nodup ∧ 200 < l.length ∧ ∀ x ∈ l, T x
theorem loRow_ok {T : List Int → Prop} : ∀ {l q : List (List Int)}, q.Nodup → (∀ x ∈ q, T x) → (∀ x ∈ l, T x) → q.length ≤ 200 →
    match loRow l q with
    | none => Many T
    | some q' => q'.Nodup ∧ (∀ x ∈ q', T x) ∧ q'.length ≤ 200 ∧ (∀ x ∈ l, x ∈ q') ∧ ∃ r, q' = q ++ r
  | [], q, h1, h2, _, h4 => ⟨h1, h2, h4, fun _ hx => by simp at hx, [], by simp⟩
  | y :: l, q, h1, h2, h3, h4 => by
    unfold loRow
    by_cases hy : y ∈ q
    · rw [if_pos hy]
      have ih := loRow_ok (l := l) h1 h2 (fun x hx => h3 x (List.mem_cons_of_mem _ hx)) h4
      cases e : loRow l q with
      | none => rw [e] at ih; exact ih
      | some q' =>
        rw [e] at ih
        obtain ⟨a1, a2, a3, a4, r, a5⟩ := ih
        refine ⟨a1, a2, a3, fun x hx => ?_, r, a5⟩
        rcases List.mem_cons.1 hx with rfl | hx
        · rw [a5]; exact List.mem_append_left _ hy
        · exact a4 x hx
    · rw [if_neg hy]
      have hn : (q ++ [y]).Nodup := List.nodup_append.2 ⟨h1, by simp, fun a ha b hb => by simp at hb; subst hb; exact fun e => hy (e ▸ ha)⟩
      have hT : ∀ x ∈ q ++ [y], T x := fun x hx => by
        rcases List.mem_append.1 hx with hx | hx
        · exact h2 x hx
        · simp at hx; subst hx; exact h3 x (by simp)
      by_cases hl : 200 ≤ q.length
      · rw [if_pos hl]
        exact ⟨q ++ [y], hn, by simp; omega, hT⟩
      · rw [if_neg hl]
        have ih := loRow_ok (l := l) hn hT (fun x hx => h3 x (List.mem_cons_of_mem _ hx)) (by simp; omega)
        cases e : loRow l (q ++ [y]) with
        | none => rw [e] at ih; exact ih
        | some q' =>
          rw [e] at ih
          obtain ⟨a1, a2, a3, a4, r, a5⟩ := ih
          refine ⟨a1, a2, a3, fun x hx => ?_, y :: r, by rw [a5]; simp⟩
          rcases List.mem_cons.1 hx with rfl | hx
          · rw [a5]; simp
          · exact a4 x hx
theorem loBfs_ok {T : List Int → Prop} (hT : ∀ x, T x → ∀ y ∈ covL c x, T y) {s : List Int} : ∀ (f k : Nat) {q : List (List Int)}, 201 ≤ f + k → k ≤ q.length → q.Nodup → (∀ x ∈ q, T x) → q.length ≤ 200 → s ∈ q →
    (∀ (j : Nat) (x : List Int), j < k → q[j]? = some x → ∀ y ∈ covL c x, y ∈ q) →
    match loBfs c f k q with
    | none => Many T
    | some q' => q'.Nodup ∧ (∀ x ∈ q', T x) ∧ q'.length ≤ 200 ∧ s ∈ q' ∧ ∀ x ∈ q', ∀ y ∈ covL c x, y ∈ q'
  | 0, k, q, h1, h2, _, _, h5, _, _ => by omega
  | f + 1, k, q, h1, h2, h3, h4, h5, h6, h7 => by
    unfold loBfs
    cases e : q[k]? with
    | none =>
      have hk : q.length ≤ k := List.getElem?_eq_none_iff.1 e
      refine ⟨h3, h4, h5, h6, fun x hx y hy => ?_⟩
      obtain ⟨j, hj⟩ := List.getElem?_of_mem hx
      have := (List.getElem?_eq_some_iff.1 hj).1
      exact h7 j x (by omega) hj y hy
    | some x =>
      have hk : k < q.length := (List.getElem?_eq_some_iff.1 e).1
      have hr := loRow_ok (l := covL c x) (q := q) h3 h4 (hT x (h4 x (List.mem_of_getElem? e))) h5
      show match (match loRow (covL c x) q with | none => none | some q' => loBfs c f (k + 1) q') with | none => Many T | some q' => _
      cases e2 : loRow (covL c x) q with
      | none => rw [e2] at hr; exact hr
      | some q' =>
        rw [e2] at hr
        obtain ⟨a1, a2, a3, a4, r, a5⟩ := hr
        refine loBfs_ok hT f (k + 1) (by omega) (by rw [a5]; simp; omega) a1 a2 a3 (by rw [a5]; exact List.mem_append_left _ h6) (fun j z hj hz y hy => ?_)
        rcases Nat.lt_or_ge j k with h | h
        · rw [a5, List.getElem?_append_left (by omega)] at hz
          rw [a5]
          exact List.mem_append_left _ (h7 j z h hz y hy)
        · have : j = k := by omega
          subst this
          rw [a5, List.getElem?_append_left hk, e, Option.some.injEq] at hz
          subst hz
          exact a4 y hy
/-- A list that holds w and the covers of what it holds has all elements below w. -/
theorem low_reach (hc : CartanP c) {q : List (List Int)} (hq : ∀ x ∈ q, ∀ y ∈ covL c x, y ∈ q) {u : List Int} (hu : Nf c u) : ∀ (m : Nat) {v : List Int}, v.length ≤ m → Nf c v → v ∈ q → PtL c (image c u) v → u ∈ q := by
  intro m
  induction m with
  | zero =>
    intro v hm hv hvq hp
    obtain ⟨z, z1, z2⟩ := hp
    have hv0 : v = [] := List.eq_nil_of_length_eq_zero (by omega)
    subst hv0
    have hz0 : z = [] := by simpa using z1
    subst hz0
    rw [hu.inj hv z2.symm]
    exact hvq
  | succ m ih =>
    intro v hm hv hvq hp
    obtain ⟨z, z1, z2⟩ := hp
    have lv := hv.le
    have lz := z1.length_le
    have hzl := lets_subL hv.lets z1
    obtain ⟨z', s1, s2, s3⟩ := Cox.red_sub hc.car (toN_lets hzl)
    obtain ⟨x, x1, rfl⟩ := sub_toN s1
    have lx := x1.length_le
    have hxl := lets_subL hzl x1
    have ex : image c x = image c u := by rw [← z2]; exact (img_eqv hc hxl hzl (by omega) (by omega)).1 s3
    by_cases hlt : x.length < v.length
    · obtain ⟨y, y1, y2, y3, x', t1, t2⟩ := Cox.part_cover hc.car (toN_lets hv.lets) (hv.red hc) (toN v).length (toN_sub (x1.trans z1)) s2 (by rw [toN_len, toN_len]; exact hlt) (by omega)
      obtain ⟨d, d1, rfl⟩ := sub_toN y1
      rw [toN_len, toN_len] at y2
      obtain ⟨x2, e1, rfl⟩ := sub_toN t1
      have ld := d1.length_le
      have lx2 := e1.length_le
      have hdl := lets_subL hv.lets d1
      have hx2l := lets_subL hdl e1
      have ex2 : image c x2 = image c u := by rw [← ex]; exact (img_eqv hc hx2l hxl (by omega) (by omega)).1 t2
      obtain ⟨k, k1, k2⟩ := sub_erase d1 y2
      have hlen := red_len hc hdl (by omega) y3
      obtain ⟨n1, n2⟩ := norm_is hc hdl (by omega)
      have hcov : normL c d ∈ covL c v := mem_covL.2 ⟨k, k1, by rw [← k2]; omega, by rw [k2]⟩
      have hp2 := part_over hc hdl (by omega) n1.lets n1.le y3 n2 e1
      rw [ex2] at hp2
      exact ih (by omega) n1 (hq v hvq _ hcov) hp2
    · have hxv : x = v := (x1.trans z1).eq_of_length_le (by omega)
      subst hxv
      rw [hu.inj hv ex.symm]
      exact hvq
theorem lowS_ok (hc : CartanP c) {w : List Int} (hw : Nf c w) :
    match lowS c w with
    | none => Many (Blw c w)
    | some q => q.Nodup ∧ q.length ≤ 200 ∧ ∀ x, x ∈ q ↔ Blw c w x := by
  have hself : Blw c w w := ⟨hw, w, List.Sublist.refl _, rfl⟩
  have h := loBfs_ok (c := c) (T := Blw c w) (fun x hx y hy => by
    obtain ⟨k, k1, k2, rfl⟩ := mem_covL.1 hy
    exact hx.down hc hw.lets hw.le (List.eraseIdx_sublist x k)) (s := w) 201 0 (q := [w]) (by omega) (by simp) (by simp) (fun x hx => by simp at hx; subst hx; exact hself) (by simp) (by simp) (fun j x hj => by omega)
  unfold lowS
  cases e : loBfs c 201 0 [w] with
  | none => rw [e] at h; exact h
  | some q =>
    rw [e] at h
    obtain ⟨a1, a2, a3, a4, a5⟩ := h
    exact ⟨a1, a3, fun x => ⟨a2 x, fun hx => low_reach hc a5 hx.nf w.length (Nat.le_refl _) hw a4 hx.part⟩⟩

/-! The program's search. -/
def liF (c : List (List Int)) (i : Int) (out : List (List Int)) (x : List Int) : List (List Int) := if normL c (x ++ [i]) ∈ out then out else out ++ [normL c (x ++ [i])]
def liBfs (c : List (List Int)) : List Int → List (List Int) → Option (List (List Int))
  | [], out => some out
  | i :: w, out => if 200 < (out.foldl (liF c i) out).length then none else liBfs c w (out.foldl (liF c i) out)
def lowI (c : List (List Int)) (w : List Int) : Option (List (List Int)) := liBfs c w [[]]
theorem liF_nd {i : Int} {out : List (List Int)} {x : List Int} (h : out.Nodup) : (liF c i out x).Nodup := by
  unfold liF
  split
  · exact h
  · rename_i hn
    exact List.nodup_append.2 ⟨h, by simp, fun a ha b hb => by simp at hb; subst hb; exact fun e => hn (e ▸ ha)⟩
theorem mem_liF {i : Int} {out : List (List Int)} {x y : List Int} : y ∈ liF c i out x ↔ y ∈ out ∨ y = normL c (x ++ [i]) := by
  unfold liF
  split
  · rename_i h
    exact ⟨.inl, fun h' => h'.elim id (fun e => e ▸ h)⟩
  · simp
theorem liRow_ok {i : Int} : ∀ {X out : List (List Int)}, out.Nodup → (X.foldl (liF c i) out).Nodup ∧ ∀ y, y ∈ X.foldl (liF c i) out ↔ y ∈ out ∨ ∃ x ∈ X, y = normL c (x ++ [i])
  | [], out, h => ⟨h, fun y => by simp⟩
  | x :: X, out, h => by
    obtain ⟨h1, h2⟩ := liRow_ok (X := X) (liF_nd (c := c) (i := i) (x := x) h)
    refine ⟨h1, fun y => ?_⟩
    rw [List.foldl_cons, h2, mem_liF]
    simp only [List.mem_cons, exists_eq_or_imp]
    exact ⟨fun h => h.elim (fun h => h.elim .inl (fun e => .inr (.inl e))) (fun h => .inr (.inr h)), fun h => h.elim (fun h => .inl (.inl h)) (fun h => h.elim (fun e => .inl (.inr e)) .inr)⟩
theorem blw_snoc (hc : CartanP c) {pre : List Int} {i : Int} (hp : Lets c.length pre) (hi : Lets c.length [i]) (lp : pre.length ≤ 23) {y : List Int} : Blw c (pre ++ [i]) y ↔ Blw c pre y ∨ ∃ x, Blw c pre x ∧ y = normL c (x ++ [i]) := by
  constructor
  · intro h
    obtain ⟨z, z1, z2⟩ := h.part
    obtain ⟨a, b, rfl, ha, hb⟩ := List.sublist_append_iff.1 z1
    rcases List.sublist_cons_iff.1 hb with hb | ⟨r, rfl, hr⟩
    · have : b = [] := by simpa using hb
      subst this
      exact .inl ⟨h.nf, a, ha, by simpa using z2⟩
    · have : r = [] := by simpa using hr
      subst this
      have hal := lets_subL hp ha
      have la := ha.length_le
      obtain ⟨n1, n2⟩ := norm_is hc hal (by omega)
      refine .inr ⟨normL c a, ⟨n1, a, ha, n2.symm⟩, ?_⟩
      have ln := normL_le hc hal (by omega)
      have e := image_app hc n1.lets hal hi (by simp; omega) (by simp; omega) n2
      rw [← h.nf.nf]
      unfold normL
      rw [← z2]
      exact congrArg (nf c 30) e.symm
  · rintro (h | ⟨x, hx, rfl⟩)
    · obtain ⟨z, z1, z2⟩ := h.part
      exact ⟨h.nf, z, z1.trans (List.sublist_append_left _ _), z2⟩
    · obtain ⟨z, z1, z2⟩ := hx.part
      have hzl := lets_subL hp z1
      have lz := z1.length_le
      have lx := hx.le hc hp (by omega)
      obtain ⟨n1, n2⟩ := norm_is hc (lets_app' hx.nf.lets hi) (by simp; omega)
      exact ⟨n1, z ++ [i], z1.append (List.Sublist.refl _), by rw [n2]; exact image_app hc hzl hx.nf.lets hi (by simp; omega) (by simp; omega) z2⟩
theorem liBfs_ok (hc : CartanP c) : ∀ (w : List Int) {pre : List Int} {out : List (List Int)}, Lets c.length (pre ++ w) → (pre ++ w).length ≤ 24 → out.Nodup → out.length ≤ 200 → (∀ y, y ∈ out ↔ Blw c pre y) →
    match liBfs c w out with
    | none => Many (Blw c (pre ++ w))
    | some o => o.Nodup ∧ o.length ≤ 200 ∧ ∀ y, y ∈ o ↔ Blw c (pre ++ w) y
  | [], pre, out, _, _, h1, h2, h3 => by rw [List.append_nil]; exact ⟨h1, h2, h3⟩
  | i :: w, pre, out, hl, hn, h1, h2, h3 => by
    have e : pre ++ i :: w = (pre ++ [i]) ++ w := by simp
    have hp : Lets c.length pre := fun x hx => hl x (by simp [hx])
    have hi : Lets c.length [i] := fun x hx => hl x (by simp at hx; simp [hx])
    have lp : pre.length ≤ 23 := by simp at hn; omega
    obtain ⟨r1, r2⟩ := liRow_ok (c := c) (i := i) (X := out) h1
    have r3 : ∀ y, y ∈ out.foldl (liF c i) out ↔ Blw c (pre ++ [i]) y := fun y => by
      rw [r2, blw_snoc hc hp hi lp, h3]
      exact ⟨fun h => h.elim .inl (fun ⟨x, hx, e⟩ => .inr ⟨x, (h3 x).1 hx, e⟩), fun h => h.elim .inl (fun ⟨x, hx, e⟩ => .inr ⟨x, (h3 x).2 hx, e⟩)⟩
    unfold liBfs
    rw [e] at hl hn ⊢
    by_cases hb : 200 < (out.foldl (liF c i) out).length
    · rw [if_pos hb]
      refine ⟨_, r1, hb, fun x hx => ?_⟩
      have := (r3 x).1 hx
      obtain ⟨z, z1, z2⟩ := this.part
      exact ⟨this.nf, z, z1.trans (List.sublist_append_left _ _), z2⟩
    · rw [if_neg hb]
      exact liBfs_ok hc w hl hn r1 (by omega) r3
theorem blw_nil (hc : CartanP c) {y : List Int} : y ∈ [([] : List Int)] ↔ Blw c [] y := by
  constructor
  · intro h
    simp at h
    subst h
    exact ⟨nf_nil hc, [], List.Sublist.refl _, rfl⟩
  · intro h
    have := h.le hc (fun x hx => by simp at hx) (by simp)
    simp at this
    simp [this]
theorem lowI_ok (hc : CartanP c) {w : List Int} (hw : Nf c w) :
    match lowI c w with
    | none => Many (Blw c w)
    | some q => q.Nodup ∧ q.length ≤ 200 ∧ ∀ x, x ∈ q ↔ Blw c w x := by
  have := liBfs_ok hc w (pre := []) (out := [[]]) (by simpa using hw.lets) (by simpa using hw.le) (by simp) (by simp) (fun y => blw_nil hc)
  rw [List.nil_append] at this
  exact this
theorem many_not {T : List Int → Prop} (hm : Many T) {q : List (List Int)} (hl : q.length ≤ 200) (hq : ∀ x, T x → x ∈ q) : False := by
  obtain ⟨l, h1, h2, h3⟩ := hm
  have := nd_le h1 (fun x hx => hq x (h3 x hx))
  omega
/-- Both searches tell the same, and find the same. -/
theorem low_same (hc : CartanP c) {w : List Int} (hw : Nf c w) : ((lowS c w).isSome = (lowI c w).isSome) ∧ ∀ q o, lowS c w = some q → lowI c w = some o → (∀ x, x ∈ q ↔ x ∈ o) := by
  have h1 := lowS_ok hc hw
  have h2 := lowI_ok hc hw
  cases e1 : lowS c w with
  | none =>
    rw [e1] at h1
    cases e2 : lowI c w with
    | none => exact ⟨rfl, fun q o h => by cases h⟩
    | some o => rw [e2] at h2; exact (many_not h1 h2.2.1 (fun x hx => (h2.2.2 x).2 hx)).elim
  | some q =>
    rw [e1] at h1
    cases e2 : lowI c w with
    | none => rw [e2] at h2; exact (many_not h2 h1.2.1 (fun x hx => (h1.2.2 x).2 hx)).elim
    | some o =>
      rw [e2] at h2
      refine ⟨rfl, fun q' o' hq ho x => ?_⟩
      cases hq; cases ho
      rw [h1.2.2, h2.2.2]
end
end Go.Proofs.Ytipjomdldjbenaa
