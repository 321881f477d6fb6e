/- Plain lemmas of the seat: what it means that a slice value reads as a list, that it survives new memory, and that a slice of the call's own is such a one. No condition. -/
import Derived.Test.YtkgjecabigdnoaaRows
import Derived.WalkKit
import Derived.WalkSpells
import Derived.WalkLawsBesides
import Derived.BigQuiet
import Derived.Deep.QuietTactic
import Derived.Lib.Hide
import Derived.Laws.AppendOwnNone
namespace Go.Proofs.Ytkgjecabigdnoaa
open Go.RowKit
set_option maxRecDepth 20000

/-- What a world keeps: nothing but draws, or blocks beyond B. -/
abbrev Keeps (w w' : World) : Prop := Below w.heap.size w w'

theorem Keeps.step {a b c : World} (h : Below a.heap.size a b) (k : Below b.heap.size b c) : Below a.heap.size a c :=
  h.trans (k.mono h.size)

theorem below_cells {B : Nat} {w w' : World} (hb : Below B w w') :
    (∀ b o, b < B → w'.cell? ⟨b, o, none⟩ = w.cell? ⟨b, o, none⟩) :=
  fun b o h => hb.cell (p := ⟨b, o, none⟩) h

/-- Block b bears cells of type e. -/
def Tag : Option TypeId → World → Nat → Prop
  | none, _, _ => True
  | some e, w, b => ∃ cur fz, w.heap[b]? = some (.cells cur e fz)

/-- A slice value v reads in w as the list L: every element by R, its head's block in S and of cells of type e. -/
def RL {α : Type} (e : Option TypeId) (S : Nat → Prop) (R : World → Value → α → Prop) (w : World) (v : Value) (L : List α) : Prop :=
  ∃ a cap, v = .slice a L.length cap ∧ (L.length ≤ cap ∧ cap ≤ maxLen) ∧ (L = [] ∨ ∃ b o, a = some ⟨b, o, none⟩ ∧ S b ∧ Tag e w b ∧ ∀ j x, L[j]? = some x → ∃ r, w.cell? ⟨b, o + j, none⟩ = some r ∧ R w r x)

/-- .. of elements that are two cells each. -/
def RL2 {α : Type} (e : Option TypeId) (S : Nat → Prop) (R : World → Value → Value → α → Prop) (w : World) (v : Value) (L : List α) : Prop :=
  ∃ a cap, v = .slice a L.length cap ∧ (L.length ≤ cap ∧ cap ≤ maxLen) ∧ (L = [] ∨ ∃ b o, a = some ⟨b, o, none⟩ ∧ S b ∧ Tag e w b ∧
    ∀ j x, L[j]? = some x → ∃ r r', w.cell? ⟨b, o + j * 2, none⟩ = some r ∧ w.cell? ⟨b, o + j * 2 + 1, none⟩ = some r' ∧ R w r r' x)

theorem Tag.keep {e : Option TypeId} {w w' : World} {b : Nat} (h : Tag e w b) (hb : b < w.heap.size → w'.heap[b]? = w.heap[b]?) : Tag e w' b := by
  cases e with
  | none => trivial
  | some e =>
  obtain ⟨cur, fz, h⟩ := h
  exact ⟨cur, fz, by rw [hb (Array.getElem?_eq_some_iff.1 h).1]; exact h⟩

def RInt (_ : World) (r : Value) (n : Int) : Prop := r = .int .i64 n
abbrev RI (S : Nat → Prop) := RL (some 3) S RInt
abbrev RII (S : Nat → Prop) := RL (some 24) S (RI S)
abbrev Any : Nat → Prop := fun _ => True
/-- The blocks that came between two worlds. -/
abbrev Bt (lo hi : Nat) : Nat → Prop := fun b => lo ≤ b ∧ b < hi
abbrev New (w w' : World) : Nat → Prop := Bt w.heap.size w'.heap.size

theorem RL.nil {α : Type} {e : Option TypeId} {S : Nat → Prop} {R : World → Value → α → Prop} {w : World} (a : Option Addr) (cap : Nat) (hc : cap ≤ maxLen) : RL e S R w (.slice a 0 cap) ([] : List α) :=
  ⟨a, cap, rfl, ⟨Nat.zero_le _, hc⟩, .inl rfl⟩

theorem RL2.nil {α : Type} {e : Option TypeId} {S : Nat → Prop} {R : World → Value → Value → α → Prop} {w : World} (a : Option Addr) (cap : Nat) (hc : cap ≤ maxLen) : RL2 e S R w (.slice a 0 cap) ([] : List α) :=
  ⟨a, cap, rfl, ⟨Nat.zero_le _, hc⟩, .inl rfl⟩

theorem RL.mono {α : Type} {e : Option TypeId} {S S' : Nat → Prop} {R R' : World → Value → α → Prop} {w : World} {v : Value} {L : List α} (h : RL e S R w v L)
    (hS : ∀ b, S b → S' b) (hR : ∀ r x, R w r x → R' w r x) : RL e S' R' w v L := by
  obtain ⟨a, cap, hv, hcap, h⟩ := h
  refine ⟨a, cap, hv, hcap, ?_⟩
  rcases h with h | ⟨b, o, ha, hs, ht, h⟩
  · exact .inl h
  · exact .inr ⟨b, o, ha, hS b hs, ht, fun j x hx => let ⟨r, h1, h2⟩ := h j x hx; ⟨r, h1, hR _ _ h2⟩⟩

theorem RL.keep {α : Type} {e : Option TypeId} {S : Nat → Prop} {R : World → Value → α → Prop} {w w' : World} {v : Value} {L : List α} (h : RL e S R w v L)
    (hb : ∀ b, S b → b < w.heap.size → w'.heap[b]? = w.heap[b]?) (hR : ∀ r x, R w r x → R w' r x) : RL e S R w' v L := by
  obtain ⟨a, cap, hv, hcap, h⟩ := h
  refine ⟨a, cap, hv, hcap, ?_⟩
  rcases h with h | ⟨b, o, ha, hs, ht, h⟩
  · exact .inl h
  · refine .inr ⟨b, o, ha, hs, ht.keep (hb b hs), fun j x hx => ?_⟩
    obtain ⟨r, h1, h2⟩ := h j x hx
    refine ⟨r, ?_, hR _ _ h2⟩
    have hlt := World.block_lt_of_cell? w _ h1
    rw [World.cell?_of_block (w := w) (hb b hs hlt)]
    exact h1

theorem RI.keep {S : Nat → Prop} {w w' : World} {v : Value} {L : List Int} (h : RI S w v L)
    (hb : ∀ b, S b → b < w.heap.size → w'.heap[b]? = w.heap[b]?) : RI S w' v L := RL.keep h hb (fun _ _ h => h)

theorem RII.keep {S : Nat → Prop} {w w' : World} {v : Value} {L : List (List Int)} (h : RII S w v L)
    (hb : ∀ b, S b → b < w.heap.size → w'.heap[b]? = w.heap[b]?) : RII S w' v L := RL.keep h hb (fun _ _ h => RI.keep h hb)

theorem RI.below {S : Nat → Prop} {w w' : World} {v : Value} {L : List Int} (h : RI S w v L) (hb : Below w.heap.size w w') : RI S w' v L :=
  RI.keep h fun b _ hl => hb.block b hl

theorem RII.below {S : Nat → Prop} {w w' : World} {v : Value} {L : List (List Int)} (h : RII S w v L) (hb : Below w.heap.size w w') : RII S w' v L :=
  RII.keep h fun b _ hl => hb.block b hl

theorem RI.drewN {S : Nat → Prop} {w : World} {v : Value} {L : List Int} (h : RI S w v L) (n : Nat) : RI S (w.drewN n) v L :=
  RI.keep h fun _ _ _ => rfl

theorem RII.drewN {S : Nat → Prop} {w : World} {v : Value} {L : List (List Int)} (h : RII S w v L) (n : Nat) : RII S (w.drewN n) v L :=
  RII.keep h fun _ _ _ => rfl

theorem RI.drew {S : Nat → Prop} {w : World} {v : Value} {L : List Int} (h : RI S w v L) : RI S w.drew v L := RI.keep h fun _ _ _ => rfl
theorem RII.drew {S : Nat → Prop} {w : World} {v : Value} {L : List (List Int)} (h : RII S w v L) : RII S w.drew v L := RII.keep h fun _ _ _ => rfl

theorem RL.old {α : Type} {e : Option TypeId} {S : Nat → Prop} {R R' : World → Value → α → Prop} {w : World} {v : Value} {L : List α} (h : RL e S R w v L) (hR : ∀ r x, R w r x → R' w r x) : RL e (Bt 0 w.heap.size) R' w v L := by
  obtain ⟨a, cap, hv, hcap, h⟩ := h
  refine ⟨a, cap, hv, hcap, ?_⟩
  rcases h with h | ⟨b, o, ha, hs, ht, h⟩
  · exact .inl h
  · by_cases hL : L = []
    · exact .inl hL
    · obtain ⟨x, hx⟩ : ∃ x, L[0]? = some x := ⟨L[0]'(List.length_pos_iff.2 hL), List.getElem?_eq_getElem _⟩
      obtain ⟨r, h1, _⟩ := h 0 x hx
      refine .inr ⟨b, o, ha, ⟨Nat.zero_le _, World.block_lt_of_cell? w _ h1⟩, ht, fun j x hx => ?_⟩
      obtain ⟨r, h1, h2⟩ := h j x hx
      exact ⟨r, h1, hR _ _ h2⟩
theorem RL2.old {α : Type} {e : Option TypeId} {S : Nat → Prop} {R R' : World → Value → Value → α → Prop} {w : World} {v : Value} {L : List α} (h : RL2 e S R w v L) (hR : ∀ r r' x, R w r r' x → R' w r r' x) : RL2 e (Bt 0 w.heap.size) R' w v L := by
  obtain ⟨a, cap, hv, hcap, h⟩ := h
  refine ⟨a, cap, hv, hcap, ?_⟩
  rcases h with h | ⟨b, o, ha, hs, ht, h⟩
  · exact .inl h
  · by_cases hL : L = []
    · exact .inl hL
    · obtain ⟨x, hx⟩ : ∃ x, L[0]? = some x := ⟨L[0]'(List.length_pos_iff.2 hL), List.getElem?_eq_getElem _⟩
      obtain ⟨r, r', h1, _⟩ := h 0 x hx
      refine .inr ⟨b, o, ha, ⟨Nat.zero_le _, World.block_lt_of_cell? w _ h1⟩, ht, fun j x hx => ?_⟩
      obtain ⟨r, r', h1, h1', h2⟩ := h j x hx
      exact ⟨r, r', h1, h1', hR _ _ _ h2⟩
theorem RI.old {S : Nat → Prop} {w : World} {v : Value} {L : List Int} (h : RI S w v L) : RI (Bt 0 w.heap.size) w v L := RL.old h (fun _ _ h => h)
theorem RII.old {S : Nat → Prop} {w : World} {v : Value} {L : List (List Int)} (h : RII S w v L) : RII (Bt 0 w.heap.size) w v L := RL.old h (fun _ _ h => RI.old h)

theorem RI.any {S : Nat → Prop} {w : World} {v : Value} {L : List Int} (h : RI S w v L) : RI Any w v L := RL.mono h (fun _ _ => trivial) (fun _ _ h => h)
theorem RII.any {S : Nat → Prop} {w : World} {v : Value} {L : List (List Int)} (h : RII S w v L) : RII Any w v L := RL.mono h (fun _ _ => trivial) (fun _ _ h => RI.any h)

/-- Element j of a slice of numbers that the walk reads. -/
theorem RL.atI {e : Option TypeId} {S : Nat → Prop} {w : World} {a : Option Addr} {n cap : Nat} {L : List Int} (h : RL e S RInt w (.slice a n cap) L) {j : Nat} (hj : j < n) :
    ∃ b o x, a = some ⟨b, o, none⟩ ∧ w.cell? ⟨b, o + j, none⟩ = some (.int .i64 x) ∧ Hid (L[j]? = some x) := by
  obtain ⟨a', cap', hv, _, h⟩ := h
  simp only [Value.slice.injEq] at hv
  obtain ⟨rfl, rfl, rfl⟩ := hv
  rcases h with h | ⟨b, o, ha, _, _, h⟩
  · subst h; simp at hj
  · obtain ⟨r, h1, h2⟩ := h j L[j] (by simp [hj])
    exact ⟨b, o, L[j], ha, by rw [h1]; exact congrArg some h2, Lib.hid (by simp [hj])⟩
theorem RI.at {S : Nat → Prop} {w : World} {a : Option Addr} {n cap : Nat} {L : List Int} (h : RI S w (.slice a n cap) L) {j : Nat} (hj : j < n) :
    ∃ b o x, a = some ⟨b, o, none⟩ ∧ w.cell? ⟨b, o + j, none⟩ = some (.int .i64 x) ∧ Hid (L[j]? = some x) := RL.atI h hj

/-- Element j of a slice of one-cell elements. -/
theorem RL.at1 {α : Type} {e : Option TypeId} {S : Nat → Prop} {R : World → Value → α → Prop} {w : World} {a : Option Addr} {n cap : Nat} {L : List α} (h : RL e S R w (.slice a n cap) L) {j : Nat} (hj : j < n) :
    ∃ b o r l, a = some ⟨b, o, none⟩ ∧ w.cell? ⟨b, o + j, none⟩ = some r ∧ R w r l ∧ Hid (L[j]? = some l) := by
  obtain ⟨a', cap', hv, _, h⟩ := h
  simp only [Value.slice.injEq] at hv
  obtain ⟨rfl, rfl, rfl⟩ := hv
  rcases h with h | ⟨b, o, ha, _, _, h⟩
  · subst h; simp at hj
  · obtain ⟨r, h1, h2⟩ := h j L[j] (by simp [hj])
    exact ⟨b, o, r, L[j], ha, h1, h2, Lib.hid (by simp [hj])⟩
theorem RII.at {S : Nat → Prop} {w : World} {a : Option Addr} {n cap : Nat} {L : List (List Int)} (h : RII S w (.slice a n cap) L) {j : Nat} (hj : j < n) :
    ∃ b o r l, a = some ⟨b, o, none⟩ ∧ w.cell? ⟨b, o + j, none⟩ = some r ∧ RI S w r l ∧ Hid (L[j]? = some l) := RL.at1 h hj

/-- What came in to a law, of whatever blocks: numbers; lists of numbers. -/
abbrev RI0 := RL none Any RInt
abbrev RII0 := RL none Any RI0
theorem RI0.below {w w' : World} {v : Value} {L : List Int} (h : RI0 w v L) (hb : Below w.heap.size w w') : RI0 w' v L :=
  RL.keep h (fun b _ hl => hb.block b hl) (fun _ _ h => h)
theorem RII0.below {w w' : World} {v : Value} {L : List (List Int)} (h : RII0 w v L) (hb : Below w.heap.size w w') : RII0 w' v L :=
  RL.keep h (fun b _ hl => hb.block b hl) (fun _ _ h => RI0.below h hb)
theorem RI0.at {w : World} {a : Option Addr} {n cap : Nat} {L : List Int} (h : RI0 w (.slice a n cap) L) {j : Nat} (hj : j < n) :
    ∃ b o x, a = some ⟨b, o, none⟩ ∧ w.cell? ⟨b, o + j, none⟩ = some (.int .i64 x) ∧ Hid (L[j]? = some x) := RL.atI h hj
theorem RII0.at {w : World} {a : Option Addr} {n cap : Nat} {L : List (List Int)} (h : RII0 w (.slice a n cap) L) {j : Nat} (hj : j < n) :
    ∃ b o r l, a = some ⟨b, o, none⟩ ∧ w.cell? ⟨b, o + j, none⟩ = some r ∧ RI0 w r l ∧ Hid (L[j]? = some l) := RL.at1 h hj

theorem RL.form {α : Type} {e : Option TypeId} {S : Nat → Prop} {R : World → Value → α → Prop} {w : World} {v : Value} {L : List α} (h : RL e S R w v L) : ∃ a cap, v = .slice a L.length cap :=
  let ⟨a, cap, hv, _⟩ := h
  ⟨a, cap, hv⟩

theorem RL.small {α : Type} {e : Option TypeId} {S : Nat → Prop} {R : World → Value → α → Prop} {w : World} {v : Value} {L : List α} (h : RL e S R w v L) : L.length ≤ maxLen :=
  let ⟨_, _, _, hc, _⟩ := h
  Nat.le_trans hc.1 hc.2

theorem RL2.small {α : Type} {e : Option TypeId} {S : Nat → Prop} {R : World → Value → Value → α → Prop} {w : World} {v : Value} {L : List α} (h : RL2 e S R w v L) : L.length ≤ maxLen :=
  let ⟨_, _, _, hc, _⟩ := h
  Nat.le_trans hc.1 hc.2

theorem RL2.form {α : Type} {e : Option TypeId} {S : Nat → Prop} {R : World → Value → Value → α → Prop} {w : World} {v : Value} {L : List α} (h : RL2 e S R w v L) : ∃ a cap, v = .slice a L.length cap :=
  let ⟨a, cap, hv, _⟩ := h
  ⟨a, cap, hv⟩

theorem RL2.mono {α : Type} {e : Option TypeId} {S S' : Nat → Prop} {R R' : World → Value → Value → α → Prop} {w : World} {v : Value} {L : List α} (h : RL2 e S R w v L)
    (hS : ∀ b, S b → S' b) (hR : ∀ r r' x, R w r r' x → R' w r r' x) : RL2 e S' R' w v L := by
  obtain ⟨a, cap, hv, hcap, h⟩ := h
  refine ⟨a, cap, hv, hcap, ?_⟩
  rcases h with h | ⟨b, o, ha, hs, ht, h⟩
  · exact .inl h
  · exact .inr ⟨b, o, ha, hS b hs, ht, fun j x hx => let ⟨r, r', h1, h1', h2⟩ := h j x hx; ⟨r, r', h1, h1', hR _ _ _ h2⟩⟩

theorem RL2.keep {α : Type} {e : Option TypeId} {S : Nat → Prop} {R : World → Value → Value → α → Prop} {w w' : World} {v : Value} {L : List α} (h : RL2 e S R w v L)
    (hb : ∀ b, S b → b < w.heap.size → w'.heap[b]? = w.heap[b]?) (hR : ∀ r r' x, R w r r' x → R w' r r' x) : RL2 e S R w' v L := by
  obtain ⟨a, cap, hv, hcap, h⟩ := h
  refine ⟨a, cap, hv, hcap, ?_⟩
  rcases h with h | ⟨b, o, ha, hs, ht, h⟩
  · exact .inl h
  · refine .inr ⟨b, o, ha, hs, ht.keep (hb b hs), fun j x hx => ?_⟩
    obtain ⟨r, r', h1, h1', h2⟩ := h j x hx
    have hlt := World.block_lt_of_cell? w _ h1
    refine ⟨r, r', ?_, ?_, hR _ _ _ h2⟩
    · rw [World.cell?_of_block (w := w) (hb b hs hlt)]; exact h1
    · rw [World.cell?_of_block (w := w) (hb b hs hlt)]; exact h1'

theorem RL2.at {α : Type} {e : Option TypeId} {S : Nat → Prop} {R : World → Value → Value → α → Prop} {w : World} {a : Option Addr} {n cap : Nat} {L : List α} (h : RL2 e S R w (.slice a n cap) L) {j : Nat} (hj : j < n) :
    ∃ b o r r' x, a = some ⟨b, o, none⟩ ∧ w.cell? ⟨b, o + j * 2, none⟩ = some r ∧ w.cell? ⟨b, o + j * 2 + 1, none⟩ = some r' ∧ R w r r' x ∧ Hid (L[j]? = some x) := by
  obtain ⟨a', cap', hv, _, h⟩ := h
  simp only [Value.slice.injEq] at hv
  obtain ⟨rfl, rfl, rfl⟩ := hv
  rcases h with h | ⟨b, o, ha, _, _, h⟩
  · subst h; simp at hj
  · obtain ⟨r, r', h1, h1', h2⟩ := h j L[j] (by simp [hj])
    exact ⟨b, o, r, r', L[j], ha, h1, h1', h2, Lib.hid (by simp [hj])⟩

/-- A row of the call's own, its cells read as the elements: it reads as the list. -/
theorem RL.of_own {α : Type} {e : TypeId} {S : Nat → Prop} {R : World → Value → α → Prop} {w : World} {B : Nat} {v : Value} {n : Nat} {xs : List Value} {L : List α}
    (h : w.ownsRow B e 1 v n xs) (hn : n = L.length) (hS : ∀ b, v.ownBlock = some b → B ≤ b → S b) (hR : ∀ (j : Nat) (x : α) (r : Value), L[j]? = some x → xs[j]? = some r → R w r x) : RL (some e) S R w v L := by
  subst hn
  have hlen := h.1
  rcases h.2 with ⟨rfl, h0⟩ | ⟨g, cap, cur, hv, hb, hg, hc⟩
  · have : L = [] := List.eq_nil_of_length_eq_zero h0
    subst this
    exact RL.nil _ _ (by unfold maxLen; omega)
  · subst hv
    refine ⟨_, _, rfl, ⟨hc.1, hc.2.1⟩, .inr ⟨g, 0, rfl, hS g rfl hb, ⟨cur, (0, 0), hg⟩, fun j x hx => ?_⟩⟩
    have hj : j < L.length := by
      rcases Nat.lt_or_ge j L.length with h | h
      · exact h
      · rw [List.getElem?_eq_none h] at hx; cases hx
    have hjx : j < xs.length := by rw [hlen]; omega
    refine ⟨xs[j], ?_, hR j x _ hx (by simp [hjx])⟩
    have := h.cells (g := g) rfl j xs[j] (by simp [hjx])
    have hadd : (⟨g, 0, none⟩ : Addr).add j = ⟨g, j, none⟩ := by unfold Addr.add; split <;> simp_all
    rw [hadd] at this
    simpa using this


/-- A slice of numbers that owns its row, a block of S. -/
def FI (S : Nat → Prop) (w : World) (v : Value) (l : List Int) : Prop := w.ownsRow 0 3 1 v l.length (l.map (Value.int .i64)) ∧ ∀ b, v.ownBlock = some b → S b

theorem FI.read {S : Nat → Prop} {w : World} {v : Value} {l : List Int} (h : FI S w v l) : RI (fun b => S b ∧ v.ownBlock = some b) w v l :=
  RL.of_own h.1 rfl (fun b h1 _ => ⟨h.2 b h1, h1⟩) (fun j x r hx hr => by simp [hx] at hr; exact hr.symm)

theorem FI.any {S : Nat → Prop} {w : World} {v : Value} {l : List Int} (h : FI S w v l) : RI Any w v l := RI.any h.read
theorem FI.reads {S : Nat → Prop} {w : World} {v : Value} {l : List Int} (h : FI S w v l) : RI S w v l := RL.mono h.read (fun _ h => h.1) (fun _ _ h => h)

/-- What a call of its own row gives: a fresh slice. -/
theorem FI.of_row {w w' : World} {B : Nat} {v : Value} {l : List Int} {n : Nat} {xs : List Value} (h : w'.ownsRow B 3 1 v n xs) (hB : w.heap.size ≤ B) (hn : n = l.length) (hx : xs = l.map (Value.int .i64)) : FI (New w w') w' v l := by
  subst hn
  subst hx
  refine ⟨?_, fun b hb => ?_⟩
  · refine ⟨h.1, ?_⟩
    rcases h.2 with h | ⟨g, cap, cur, hv, _, r⟩
    · exact .inl h
    · exact .inr ⟨g, cap, cur, hv, Nat.zero_le _, r⟩
  · obtain ⟨h1, h2⟩ := h.lt b hb
    exact ⟨by omega, h2⟩

theorem FI.mono {S S' : Nat → Prop} {w : World} {v : Value} {l : List Int} (h : FI S w v l) (hS : ∀ b, S b → S' b) : FI S' w v l := ⟨h.1, fun b hb => hS b (h.2 b hb)⟩

theorem own_keep {B : Nat} {w w' : World} {e : TypeId} {s n : Nat} {v : Value} {xs : List Value} (h : w.ownsRow B e s v n xs) (hb : ∀ b, v.ownBlock = some b → w'.heap[b]? = w.heap[b]?) : w'.ownsRow B e s v n xs := by
  refine ⟨h.1, ?_⟩
  rcases h.2 with h | ⟨g, cap, cur, hv, hg, hh, r⟩
  · exact .inl h
  · exact .inr ⟨g, cap, cur, hv, hg, by rw [hb g (by rw [hv]; rfl)]; exact hh, r⟩

theorem own_below {B : Nat} {w w' : World} {e : TypeId} {s n : Nat} {v : Value} {xs : List Value} (h : w.ownsRow B e s v n xs) (hb : Below w.heap.size w w') : w'.ownsRow B e s v n xs :=
  own_keep h fun b hv => hb.block b (h.lt b hv).2

theorem FI.keep {S : Nat → Prop} {w w' : World} {v : Value} {l : List Int} (h : FI S w v l) (hb : ∀ b, v.ownBlock = some b → w'.heap[b]? = w.heap[b]?) : FI S w' v l := ⟨own_keep h.1 hb, h.2⟩
theorem FI.below {S : Nat → Prop} {w w' : World} {v : Value} {l : List Int} (h : FI S w v l) (hb : Below w.heap.size w w') : FI S w' v l := ⟨own_below h.1 hb, h.2⟩

theorem FI.form {S : Nat → Prop} {w : World} {v : Value} {l : List Int} (h : FI S w v l) : ∃ a cap, v = .slice a l.length cap := h.any.form

theorem FI.set {S : Nat → Prop} {w : World} {v : Value} {l : List Int} (h : FI S w v l) {g j : Nat} (x : Value) (hg : ¬ S g) : FI S (w.setCell ⟨g, j, none⟩ x) v l :=
  h.keep fun b hb => heap_setCell_other w ⟨g, j, none⟩ b x (fun e => by have := h.2 b hb; rw [e] at this; exact hg this)

theorem RI.set {S : Nat → Prop} {w : World} {v : Value} {l : List Int} (h : RI S w v l) {g j : Nat} (x : Value) (hg : ¬ S g) : RI S (w.setCell ⟨g, j, none⟩ x) v l :=
  h.keep fun b hb _ => heap_setCell_other w ⟨g, j, none⟩ b x (fun e => by rw [e] at hb; exact hg hb)

theorem size_setCell (w : World) (a : Addr) (x : Value) : (w.setCell a x).heap.size = w.heap.size := by simp [World.setCell]

/-- Only blocks of S have been written, none is new. -/
structure Only (S : Nat → Prop) (w w' : World) : Prop where
  os : w'.os = w.os
  tape : w'.tape = w.tape
  output : w'.output = w.output
  size : w'.heap.size = w.heap.size
  block : ∀ b, ¬ S b → w'.heap[b]? = w.heap[b]?

theorem Only.refl (S : Nat → Prop) (w : World) : Only S w w := ⟨rfl, rfl, rfl, rfl, fun _ _ => rfl⟩
theorem Only.trans {S : Nat → Prop} {a b c : World} (h : Only S a b) (k : Only S b c) : Only S a c :=
  ⟨k.os.trans h.os, k.tape.trans h.tape, k.output.trans h.output, k.size.trans h.size, fun i hi => (k.block i hi).trans (h.block i hi)⟩
theorem Only.mono {S S' : Nat → Prop} {a b : World} (h : Only S a b) (hS : ∀ b, S b → S' b) : Only S' a b := ⟨h.os, h.tape, h.output, h.size, fun i hi => h.block i (fun hs => hi (hS i hs))⟩
theorem Only.drewN {S : Nat → Prop} {a b : World} (h : Only S a b) (n : Nat) : Only S a (b.drewN n) := ⟨h.os, h.tape, h.output, h.size, h.block⟩
theorem Only.setCell {S : Nat → Prop} {a b : World} (h : Only S a b) {g j : Nat} (hg : S g) (u : Value) : Only S a (b.setCell ⟨g, j, none⟩ u) :=
  h.trans ⟨rfl, rfl, rfl, by simp [World.setCell], fun i hi => heap_setCell_other b ⟨g, j, none⟩ i u (fun e => by subst e; exact hi hg)⟩
theorem Only.below {S : Nat → Prop} {B : Nat} {w w' : World} (h : Only S w w') (hS : ∀ b, S b → B ≤ b) : Below B w w' :=
  ⟨h.os, h.tape, h.output, by rw [h.size]; exact Nat.le_refl _, fun b hb => h.block b (fun hs => by have := hS b hs; omega)⟩
theorem Only.size_le {S : Nat → Prop} {w w' : World} (h : Only S w w') : w.heap.size ≤ w'.heap.size := by rw [h.size]; exact Nat.le_refl _
theorem Only.size_ge {S : Nat → Prop} {w w' : World} (h : Only S w w') : w'.heap.size ≤ w.heap.size := by rw [h.size]; exact Nat.le_refl _
theorem RI.only {S S' : Nat → Prop} {w w' : World} {v : Value} {L : List Int} (h : RI S w v L) (k : Only S' w w') (hd : ∀ b, S b → ¬ S' b) : RI S w' v L := RI.keep h fun b hs _ => k.block b (hd b hs)
theorem RII.only {S S' : Nat → Prop} {w w' : World} {v : Value} {L : List (List Int)} (h : RII S w v L) (k : Only S' w w') (hd : ∀ b, S b → ¬ S' b) : RII S w' v L := RII.keep h fun b hs _ => k.block b (hd b hs)
theorem FI.only {S S' : Nat → Prop} {w w' : World} {v : Value} {L : List Int} (h : FI S w v L) (k : Only S' w w') (hd : ∀ b, S b → ¬ S' b) : FI S w' v L := FI.keep h fun b hs => k.block b (hd b (h.2 b hs))

theorem own_base {B B' : Nat} {w : World} {e : TypeId} {s n : Nat} {v : Value} {xs : List Value} (h : w.ownsRow B e s v n xs) (hb : B' ≤ B) : w.ownsRow B' e s v n xs := by
  refine ⟨h.1, ?_⟩
  rcases h.2 with h | ⟨g, cap, cur, hv, hg, r⟩
  · exact .inl h
  · exact .inr ⟨g, cap, cur, hv, by omega, r⟩

/-- The cell of a row of the call's own. -/
theorem own_cell {B : Nat} {w : World} {e : TypeId} {g n cap : Nat} {xs : List Value} (h : w.ownsRow B e 1 (.slice (some ⟨g, 0, none⟩) n cap) n xs) {j : Nat} (hj : j < n) :
    ∃ y, w.cell? ⟨g, j, none⟩ = some y ∧ Hid (xs[j]? = some y) := by
  have hc := h.cellAt j (by omega)
  have hlen := h.1
  have hx : j < xs.length := by omega
  exact ⟨xs[j], by rw [hc]; simp [hx], Lib.hid (by simp [hx])⟩

theorem ret_int {k : IntKind} {a b : Int} (h : a = b) : Ending.returned (.int k a) = .returned (.int k b) := by rw [h]
theorem ret_bool {a b : Bool} (h : a = b) : Ending.returned (.bool a) = .returned (.bool b) := by rw [h]

theorem take_step {α : Type} {L : List α} {k : Nat} {x : α} (h : L[k]? = some x) : L.take (k + 1) = L.take k ++ [x] := by
  rw [List.take_add_one, h]; rfl

theorem drop_step {α : Type} {L : List α} {k : Nat} {x : α} (h : L[k]? = some x) : L.drop k = x :: L.drop (k + 1) := by
  have hk : k < L.length := by
    rcases Nat.lt_or_ge k L.length with h' | h'
    · exact h'
    · rw [List.getElem?_eq_none h'] at h; cases h
  rw [List.getElem?_eq_getElem hk] at h
  rw [List.drop_eq_getElem_cons hk]
  simp only [Option.some.injEq] at h
  rw [h]

theorem cell_setCell_off (w : World) (g j i : Nat) (x : Value) (h : i ≠ j) : (w.setCell ⟨g, j, none⟩ x).cell? ⟨g, i, none⟩ = w.cell? ⟨g, i, none⟩ :=
  World.cell?_setCell_other _ _ _ _ (fun e => h (by injection e with _ e1 _; exact e1.symm))

theorem below_same {w w' : World} (h : w = w') : Below w.heap.size w w' := by rw [← h]; exact Below.refl _ _
theorem dr1 {w : World} {a : Nat} : ∃ m, w.drewN a = w.drewN m := ⟨a, rfl⟩
theorem dr2 {w : World} {a b : Nat} : ∃ m, (w.drewN a).drewN b = w.drewN m := ⟨a + b, by simp⟩
theorem dr3 {w : World} {a b c : Nat} : ∃ m, ((w.drewN a).drewN b).drewN c = w.drewN m := ⟨a + b + c, by simp⟩
theorem dr0 {w : World} : ∃ m, w = w.drewN m := ⟨0, rfl⟩

theorem cell_alloc {w : World} {b o : Nat} {v : Value} (h : w.cell? ⟨b, o, none⟩ = some v) (X : Obj) : (w.alloc X).cell? ⟨b, o, none⟩ = some v := by
  have hlt := World.block_lt_of_cell? w _ h
  rw [World.cell?_of_block (w := w) (a := ⟨b, o, none⟩) (Below.heap_alloc w X b hlt)]
  exact h

theorem below_quiet {w w' : World} (h : ∃ m, w' = w.drewN m) : Below w.heap.size w w' := by
  obtain ⟨m, rfl⟩ := h
  exact below_drewN (Below.refl _ w) m

theorem take_fill {α : Type} {L : List α} {n k : Nat} {x z : α} (h : L[k]? = some x) (hk : k < n) : (L.take k ++ List.replicate (n - k) z).set k x = L.take (k + 1) ++ List.replicate (n - (k + 1)) z := by
  have hkl : k < L.length := by
    rcases Nat.lt_or_ge k L.length with h' | h'
    · exact h'
    · rw [List.getElem?_eq_none h'] at h; cases h
  have hlen : (L.take k).length = k := by simp; omega
  obtain ⟨m, hm⟩ : ∃ m, n - k = m + 1 := ⟨n - k - 1, by omega⟩
  rw [hm, show n - (k + 1) = m by omega, List.replicate_succ, List.set_append_right _ _ (by rw [hlen]; exact Nat.le_refl _), hlen, take_step h]
  simp

theorem fill_at {α : Type} {L : List α} {n k : Nat} {z : α} (hL : L.length = n) (hk : k < n) : (L.take k ++ List.replicate (n - k) z)[k]? = some z := by
  have hlen : (L.take k).length = k := by simp; omega
  rw [List.getElem?_append_right (by rw [hlen]; exact Nat.le_refl _), hlen]
  simp [List.getElem?_replicate]; omega

theorem fill_len {α : Type} {L : List α} {n k : Nat} {z : α} (hL : L.length = n) (hk : k ≤ n) : (L.take k ++ List.replicate (n - k) z).length = n := by simp; omega

theorem made_two (a b : Value) (n j : Nat) (hj : j < n * 2) : (madeCells #[a, b] (n * 2)).toList[j]? = some (if j % 2 = 0 then a else b) := by
  simp [madeCells, hj]
  split <;> rename_i h
  · simp [h]
  · have : j % 2 = 1 := by omega
    simp [this]

theorem infoInt : (Try.prog.info? 3).map (fun i => (i.zero, i.size, i.bytes)) = some (some (.int .i64 0), 1, 8) := by kernel_rfl
theorem infoInts : (Try.prog.info? 24).map (fun i => (i.zero, i.size, i.bytes)) = some (some (.slice none 0 0), 1, 24) := by kernel_rfl

end Go.Proofs.Ytkgjecabigdnoaa
