/- Lists of numbers as text. Condition: sizes up to 2^24. -/
import Derived.Test.YteglcjembimegaaDoorStr
import Derived.Test.YteglcjembimegaaDoorAppB
import Derived.Lib.Join
namespace Go.Proofs.YteglcjembimegaaDoor
open Go.RowKit
set_option maxRecDepth 20000

theorem infoStr : (Tryd.prog.info? 9).map (fun i => (i.zero, i.size, i.bytes)) = some (some (.string ⟨#[]⟩), 1, 16) := by kernel_rfl

/-- A slice of texts that owns its row, a block of S. -/
def FS (S : Nat → Prop) (w : World) (v : Value) (l : List (List UInt8)) : Prop := w.ownsRow 0 9 1 v l.length (l.map fun x => Value.string (bs x)) ∧ ∀ b, v.ownBlock = some b → S b
theorem FS.of_row {B : Nat} {w w' : World} {v : Value} {l : List (List UInt8)} {n : Nat} {xs : List Value} (h : w'.ownsRow B 9 1 v n xs) (hB : w.heap.size ≤ B) (hn : n = l.length) (hx : xs = l.map fun x => Value.string (bs x)) : FS (New w w') w' v l := by
  subst hn hx
  exact ⟨own_base h (Nat.zero_le _), fun b hb => by have := h.lt b hb; exact ⟨by omega, this.2⟩⟩
theorem FS.below {S : Nat → Prop} {w w' : World} {v : Value} {l : List (List UInt8)} (h : FS S w v l) (hb : Below w.heap.size w w') : FS S w' v l :=
  ⟨own_keep h.1 (fun b hv => hb.block b (h.1.lt b hv).2), h.2⟩
theorem FS.grow {W w w' : World} {v : Value} {l : List (List UInt8)} (h : FS (New W w) w v l) (hb : Below w.heap.size w w') : FS (New W w') w' v l :=
  ⟨(h.below hb).1, fun b hv => ⟨(h.2 b hv).1, Nat.lt_of_lt_of_le (h.2 b hv).2 hb.size⟩⟩
theorem FS.form {S : Nat → Prop} {w : World} {v : Value} {l : List (List UInt8)} (h : FS S w v l) : ∃ a cap, v = .slice a l.length cap := by
  rcases h.1.2 with ⟨rfl, h0⟩ | ⟨g, cap, cur, rfl, _⟩
  · exact ⟨none, 0, by rw [h0]⟩
  · exact ⟨_, cap, rfl⟩
theorem FS.empty {W w : World} (hb : Below W.heap.size W w) : FS (New W (w.alloc (.cells #[] 9))) (w.alloc (.cells #[] 9)) (.slice (some ⟨w.heap.size, 0, none⟩) 0 0) [] := by
  have := FS.of_row (w := w) (l := []) (World.ownsRow_lit (base := w.heap.size) (e := 9) (size := 1) w #[] 0 (Nat.le_refl _) (by unfold maxLen; omega) rfl) (Nat.le_refl _) rfl rfl
  exact ⟨this.1, fun b h => ⟨Nat.le_trans hb.size (this.2 b h).1, (this.2 b h).2⟩⟩
theorem FS.cells {S : Nat → Prop} {w : World} {g n cap : Nat} {l : List (List UInt8)} (h : FS S w (.slice (some ⟨g, 0, none⟩) n cap) l) (hn : n = l.length) : ∀ (j : Nat) x, (l.map bs)[j]? = some x → w.cell? ⟨g, 0 + j, none⟩ = some (.string x) := by
  intro j x hj
  subst hn
  rw [List.getElem?_map] at hj
  obtain ⟨y, hy, rfl⟩ := Option.map_eq_some_iff.1 hj
  have hl : j < l.length := (List.getElem?_eq_some_iff.1 hy).1
  have := h.1.cellAt j (by omega)
  rw [Nat.zero_add, this, List.getElem?_map, hy]
  rfl

section
variable {w : World} {ops : Array Oper} {rest : List Oper} {o : Oper} {a : Act} {Q : Exit → Act → World → Prop}
/-- append(v, y) at the operation itself: y a text in a block of its own. -/
theorem wp_appStr {W : World} {K : Act → World → Prop} (s x : Operand)
    (ho : o.op = .call { callee := .builtin .append, args := #[s, x], argTypes := #[44, 44] })
    {v : Value} {l : List (List UInt8)} {y : List UInt8} (hs : a.eval s = v) (hf : FS (New W w) w v l) (hb : Below W.heap.size W w)
    {H : Nat} (hx : a.eval x = .slice (some ⟨H, 0, none⟩) 1 1) (hc : w.cell? ⟨H, 0, none⟩ = some (.string (bs y))) (hlen : l.length + 1 ≤ 67108864)
    (h : ∀ v' w', FS (New W w') w' v' (l ++ [y]) → Below W.heap.size W w' → w.grownBy w' v.ownBlock → K (a.put o.dst v') w') : o.wp Tryd.prog a w K Q := by
  obtain ⟨i0, hi, hz0, hz1, hz2⟩ := info_parts infoStr
  obtain ⟨hown, hS⟩ := hf
  have hown' : w.ownsRow W.heap.size 9 1 v l.length (l.map fun x => Value.string (bs x)) := by
    refine ⟨hown.1, ?_⟩
    rcases hown.2 with h | ⟨g, cap, cur, hv, _, r⟩
    · exact .inl h
    · exact .inr ⟨g, cap, cur, hv, (hS g (by rw [hv]; rfl)).1, r⟩
  refine wp_append_own w s x 44 ho W.heap.size 9 i0 (.string ⟨#[]⟩) 1 16 Tryd.underlying44 hi hz0 hz1 hz2 rfl (by decide) v l.length (l.map fun x => Value.string (bs x)) hs hown' ⟨H, 0, none⟩ 1 1 [.string (bs y)] hx rfl ?_ ?_ ?_ ?_ hb.size ?_
  · intro j u hj
    match j, hj with
    | 0, hj => simp at hj; subst hj; simpa [Addr.add] using hc
  · intro u hu; simp at hu; subst hu; rfl
  · unfold maxLen; omega
  · omega
  · intro v' w' h1 h2 _
    exact h v' w' (FS.of_row h1 (Nat.le_refl _) (by simp) (by simp)) (hb.grown h2 hb.size (fun k hk => (hS k hk).1)) h2
theorem step_appStr {W : World} {K : Act → World → Prop} {E : Prop} (hgd : o.guard = none) (s x : Operand)
    (ho : o.op = .call { callee := .builtin .append, args := #[s, x], argTypes := #[44, 44] })
    {v : Value} {l : List (List UInt8)} {y : List UInt8} (hs : a.eval s = v) (hf : FS (New W w) w v l) (hb : Below W.heap.size W w)
    {H : Nat} (hx : a.eval x = .slice (some ⟨H, 0, none⟩) 1 1) (hc : w.cell? ⟨H, 0, none⟩ = some (.string (bs y))) (hlen : l.length + 1 ≤ 67108864)
    (h : ∀ v' w', FS (New W w') w' v' (l ++ [y]) → Below W.heap.size W w' → w.grownBy w' v.ownBlock → K (a.put o.dst v') w') :
    if Region.wanted o (yielded ops a.tmps) = true then Oper.wp Tryd.prog o a w K Q else E := by
  have hw : Region.wanted o (yielded ops a.tmps) = true := by simp [Region.wanted, hgd]
  rw [if_pos hw]
  exact wp_appStr s x ho hs hf hb hx hc hlen h
theorem wpList_appStr {W : World} (hgd : o.guard = none) (s x : Operand)
    (ho : o.op = .call { callee := .builtin .append, args := #[s, x], argTypes := #[44, 44] })
    {v : Value} {l : List (List UInt8)} {y : List UInt8} (hs : a.eval s = v) (hf : FS (New W w) w v l) (hb : Below W.heap.size W w)
    {H : Nat} (hx : a.eval x = .slice (some ⟨H, 0, none⟩) 1 1) (hc : w.cell? ⟨H, 0, none⟩ = some (.string (bs y))) (hlen : l.length + 1 ≤ 67108864)
    (h : ∀ v' w', FS (New W w') w' v' (l ++ [y]) → Below W.heap.size W w' → w.grownBy w' v.ownBlock → wpList Tryd.prog ops Q rest (a.put o.dst v') w') : wpList Tryd.prog ops Q (o :: rest) a w :=
  wpList_plain hgd fun K hK => wp_appStr s x ho hs hf hb hx hc hlen fun v' w' h1 h2 h3 => hK _ _ (h v' w' h1 h2 h3)
end

/-- Texts with a sign between them. -/
abbrev jn (sep : List UInt8) (xs : List (List UInt8)) : List UInt8 := Lib.join xs sep
theorem jn_snoc (sep : List UInt8) (xs : List (List UInt8)) (y : List UInt8) : jn sep (xs ++ [y]) = if xs = [] then y else jn sep xs ++ (sep ++ y) := by
  cases xs with
  | nil => simp [Lib.join_one]
  | cons x r =>
    rw [if_neg (by simp)]
    simp only [jn, List.cons_append, Lib.join_cons, Lib.joinTail]
    simp
theorem jn_len (sep : List UInt8) (m : Nat) : ∀ xs : List (List UInt8), (∀ x ∈ xs, x.length ≤ m) → (jn sep xs).length ≤ xs.length * (m + sep.length)
  | [], _ => by simp [jn, Lib.join_nil]
  | x :: r, h => by
    have h1 := h x (by simp)
    have h2 : ((r.map (sep ++ ·)).flatten).length ≤ r.length * (m + sep.length) := by
      clear h1
      induction r with
      | nil => simp
      | cons y r ih =>
        have h3 := h y (by simp)
        have := ih (fun z hz => h z (by rcases List.mem_cons.1 hz with rfl | hz <;> simp [*]))
        simp only [List.map_cons, List.flatten_cons, List.length_append, List.length_cons] at this ⊢
        rw [Nat.add_mul]
        omega
    simp only [jn, Lib.join_cons, Lib.joinTail, List.length_append, List.length_cons]
    rw [Nat.add_mul]
    omega

theorem tab_step {w w' : World} {B : Nat} (h : Lib.TabBelow Tryd.prog B w "internal/strconv.uint64pow10" .u64 Lib.pow10Tab) (hb : Below B w w') : Lib.TabBelow Tryd.prog B w' "internal/strconv.uint64pow10" .u64 Lib.pow10Tab := h.on hb
/-- The table of powers of ten, and whatever is done from block B on. -/
abbrev Tab (B : Nat) (w : World) : Prop := Lib.TabBelow Tryd.prog B w "internal/strconv.uint64pow10" .u64 Lib.pow10Tab
theorem grow_below {w : World} {k : Nat} {os : Array Obj} : Below w.heap.size w (Go.Sort.grow (w.drewN k) os) := Lib.below_grow _ w (Nat.le_refl _) k os

set_option maxHeartbeats 1000000 in
theorem formatIntImpl {n : Int} {w : World} {B : Nat} (h : -9223372036854775808 ≤ n ∧ n ≤ 9223372036854775807) (ht : Tab B w) :
    Calls Tryd.prog 20 #[.int .i64 n] w fun e w' => e = .returned (.string (bs (Lib.itoa n))) ∧ Below w.heap.size w w' := by
  have hc := Tryd.strconv_Itoa n h.1 h.2 w ht.here
  go_enter Tryd.func20, Tryd.ntmps20
  go_wp2_with fail
  refine hc.mono ?_
  rintro e w1 ⟨rfl, k, os, rfl⟩
  go_wp2_with fail
  go_ret
  exact ⟨rfl, grow_below⟩

/-- Numbers of Go's int. -/
abbrev InL (l : List Int) : Prop := ∀ x ∈ l, -9223372036854775808 ≤ x ∧ x ≤ 9223372036854775807
theorem bs_data (x : List UInt8) : (bs x).data.toList = x := by simp [bs]
theorem itoas_len (l : List Int) (h : InL l) : ∀ x ∈ l.map Lib.itoa, x.length ≤ 21 := by
  intro x hx
  obtain ⟨y, hy, rfl⟩ := List.mem_map.1 hx
  exact Lib.itoa_length_le y (h y hy).1 (h y hy).2
theorem map_take_step {α β : Type} (f : α → β) {l : List α} {k : Nat} {x : α} (h : l[k]? = some x) : (l.take (k + 1)).map f = (l.take k).map f ++ [f x] := by rw [take_step h]; simp

set_option maxHeartbeats 1000000 in
theorem joinTexts {S : Nat → Prop} {w : World} {v : Value} {xs : List (List UInt8)} {sp : List UInt8} (h : FS S w v xs) (hl : xs.length ≤ 1048576) (hm : ∀ x ∈ xs, x.length ≤ 67108864) (hs : sp.length ≤ 64) :
    Calls Tryd.prog 21 #[v, .string (bs sp)] w fun e w' => e = .returned (.string (bs (jn sp xs))) ∧ Below w.heap.size w w' := by
  rcases h.1.2 with ⟨rfl, h0⟩ | ⟨g, cap, cur, rfl, _, hg, hnc, hcm, _⟩
  · have : xs = [] := List.eq_nil_of_length_eq_zero h0
    subst this
    refine (Tryd.strings_Join_none none 0 (bs sp) w).mono ?_
    rintro e w' ⟨rfl, rfl⟩
    exact ⟨rfl, Below.refl _ _⟩
  · have hlen := jn_len sp 67108864 xs hm
    have hmul : xs.length * (67108864 + sp.length) ≤ 1048576 * 67108928 := Nat.mul_le_mul hl (by omega)
    have e1 : (xs.map bs).map (fun x => x.data.toList) = xs := by
      rw [List.map_map]
      conv => rhs; rw [← List.map_id xs]
      exact List.map_congr_left (fun x _ => bs_data x)
    have hc := Tryd.strings_Join g 0 cap (xs.map bs) (bs sp) w (h.cells rfl) (Array.getElem?_eq_some_iff.1 hg).1 (by simp; omega) (by simpa using hnc) (by rw [e1, bs_data]; have : (Lib.join xs sp).length ≤ _ := hlen; omega)
    rw [e1, bs_data, List.length_map] at hc
    exact hc

set_option maxHeartbeats 1000000 in
theorem joinIntsImpl {S : Nat → Prop} {v : Value} {l : List Int} {sp : List UInt8} {w : World} {B : Nat} (h : RI S w v l) (hi : InL l) (hl : l.length ≤ 1048576) (hs : sp.length ≤ 64) (ht : Tab B w) (hB : B ≤ w.heap.size) :
    Calls Tryd.prog 32 #[v, .string (bs sp)] w fun e w' => e = .returned (.string (bs (jn sp (l.map Lib.itoa)))) ∧ Below w.heap.size w w' := by
  obtain ⟨a, cap, rfl⟩ := h.form
  have HI := Lib.hid hi
  have HT := Lib.hid ht
  have HJ := Lib.hid (itoas_len l hi)
  have HST := Lib.hid (fun (k : Nat) (x : Int) (hx : l[k]? = some x) => take_step (L := l.map Lib.itoa) (k := k) (x := Lib.itoa x) (by rw [List.getElem?_map, hx]; rfl))
  have H0 : Hid ((l.map Lib.itoa).take 0 = []) := Lib.hid rfl
  have HN : Hid ((l.map Lib.itoa).take l.length = l.map Lib.itoa) := Lib.hid (List.take_of_length_le (by simp))
  have HLL : Hid (∀ k, ((l.map Lib.itoa).take k).length ≤ k) := Lib.hid (fun k => by simp; omega)
  have HML : Hid ((l.map Lib.itoa).length = l.length) := Lib.hid (by simp)
  generalize hm : l.length = m at *
  have HM := Lib.hid hm
  clear hm hi ht
  go_enter Tryd.func32, Tryd.ntmps32
  go_wp2_with fail
  have f1 := FS.empty (Below.refl _ w)
  have b1 : Below w.heap.size w (w.alloc (.cells #[] 9)) := (Below.refl _ w).alloc (Nat.le_refl _) _
  generalize w.alloc (.cells #[] 9) = w1 at *
  rw [← H0.out] at f1
  go_loopw [5, 11] (fun zz j wr => ∃ (k : Nat) (z : Value), z = zz ∧ k ≤ m ∧ j = .int .i64 k ∧ FS (New w wr) wr z ((l.map Lib.itoa).take k) ∧ Below w.heap.size w wr) (fun _ j _ => m - (intOf j).toNat)
  case atStart => exact ⟨0, _, rfl, Nat.zero_le _, rfl, f1, b1⟩
  case round =>
    obtain ⟨k, z, rfl, hk, rfl, hf, hb⟩ := hrel
    by_cases h1 : k < m
    · obtain ⟨b, o, x, e8, hcx, hx⟩ := (h.below hb).at h1
      subst e8
      have i1 : (k : Int) < (m : Int) := by omega
      have hx' : x ∈ l := List.mem_of_getElem? hx.out
      go_wp2_with fail
      refine (formatIntImpl (HI.out x hx') (HT.out.on (hb.mono hB))).mono ?_
      rintro e w2 ⟨rfl, b2⟩
      have hf2 := hf.grow b2
      have b02 := Keeps.step hb b2
      have bb : Below w2.heap.size w2 (w2.alloc (.cells #[.string (bs (Lib.itoa x))] 9)) := (Below.refl _ _).alloc (Nat.le_refl _) _
      go_wp2_with (at_builtin; go_must (refine wpList_appStr (W := w) (y := Lib.itoa x) rfl _ _ rfl rfl (hf2.grow bb) (Keeps.step b02 bb) rfl (by go_simp) ?_ ?_))
      · have := HLL.out k; omega
      · intro v7 w7 f7 b7 _
        rw [← HST.out k x hx.out] at f7
        go_wp2_with fail
        go_roundw
        case rel => exact ⟨k + 1, _, rfl, by omega, by go_num, f7, b7⟩
        case measure => simp [intOf]; omega
    · have hkm : k = m := by omega
      have i1 : ¬ (k : Int) < (m : Int) := by omega
      rw [hkm, HN.out] at hf
      clear hkm
      go_wp2_with fail
      refine (joinTexts hf (by rw [HML.out]; omega) (fun x hx => by have := HJ.out x hx; omega) hs).mono ?_
      rintro e w3 ⟨rfl, b3⟩
      go_wp2_with fail
      go_ret
      exact ⟨rfl, Keeps.step hb b3⟩

/-- Numbers with commas between them. -/
def fmtW (l : List Int) : List UInt8 := jn [44] (l.map Lib.itoa)
theorem fmtW_len {l : List Int} (h : InL l) : (fmtW l).length ≤ l.length * 22 := by
  have := jn_len [44] 21 (l.map Lib.itoa) (itoas_len l h)
  simpa [fmtW] using this

set_option maxHeartbeats 1000000 in
theorem formatWeightImpl {S : Nat → Prop} {v : Value} {l : List Int} {w : World} {B : Nat} (h : RI S w v l) (hi : InL l) (hl : l.length ≤ 1048576) (ht : Tab B w) (hB : B ≤ w.heap.size) :
    Calls Tryd.prog 19 #[v] w fun e w' => e = .returned (.string (bs (fmtW l))) ∧ Below w.heap.size w w' := by
  have hc := joinIntsImpl (sp := [44]) h hi hl (by decide) ht hB
  have e : bs [44] = ⟨#[44]⟩ := rfl
  rw [e] at hc
  obtain ⟨a, cap, rfl⟩ := h.form
  go_enter Tryd.func19, Tryd.ntmps19
  go_wp2_with fail
  refine hc.mono ?_
  rintro e w1 ⟨rfl, b1⟩
  go_wp2_with fail
  go_ret
  exact ⟨rfl, b1⟩
end Go.Proofs.YteglcjembimegaaDoor
