/- Plain lemmas of the seat: what it means that a slice value reads as a list, that it survives new memory, and that a slice of the call's own is such a one. No condition. -/
import Derived.Test.YtdgphhbgedfkfaaRows
import Derived.WalkKit
import Derived.WalkSpells
import Derived.WalkLawsBesides
import Derived.BigQuiet
import Derived.Deep.QuietTactic
import Derived.Lib.Hide
import Derived.Laws.AppendOwnNone
namespace Go.Proofs.Ytdgphhbgedfkfaa
open Go.RowKit

/-- What a world keeps: nothing but draws, or blocks beyond B. -/
abbrev Keeps (w w' : World) : Prop := Below w.heap.size w w'

theorem Keeps.step {a b c : World} (h : Below a.heap.size a b) (k : Below b.heap.size b c) : Below a.heap.size a c :=
  h.trans (k.mono h.size)

theorem below_cells {B : Nat} {w w' : World} (hb : Below B w w') :
    (∀ b o, b < B → w'.cell? ⟨b, o, none⟩ = w.cell? ⟨b, o, none⟩) :=
  fun b o h => hb.cell (p := ⟨b, o, none⟩) h

/-- A slice value v reads in w as the list L: every element by R, its head's block in S. -/
def RL {α : Type} (S : Nat → Prop) (R : World → Value → α → Prop) (w : World) (v : Value) (L : List α) : Prop :=
  ∃ a cap, v = .slice a L.length cap ∧ L.length ≤ cap ∧ (L = [] ∨ ∃ b o, a = some ⟨b, o, none⟩ ∧ S b ∧ ∀ j x, L[j]? = some x → ∃ r, w.cell? ⟨b, o + j, none⟩ = some r ∧ R w r x)

/-- .. of elements that are two cells each. -/
def RL2 {α : Type} (S : Nat → Prop) (R : World → Value → Value → α → Prop) (w : World) (v : Value) (L : List α) : Prop :=
  ∃ a cap, v = .slice a L.length cap ∧ L.length ≤ cap ∧ (L = [] ∨ ∃ b o, a = some ⟨b, o, none⟩ ∧ S b ∧
    ∀ j x, L[j]? = some x → ∃ r r', w.cell? ⟨b, o + j * 2, none⟩ = some r ∧ w.cell? ⟨b, o + j * 2 + 1, none⟩ = some r' ∧ R w r r' x)

def RInt (_ : World) (r : Value) (n : Int) : Prop := r = .int .i64 n
abbrev RI (S : Nat → Prop) := RL S RInt
abbrev RII (S : Nat → Prop) := RL S (RI S)
abbrev Any : Nat → Prop := fun _ => True

theorem RL.nil {α : Type} {S : Nat → Prop} {R : World → Value → α → Prop} {w : World} (a : Option Addr) (cap : Nat) : RL S R w (.slice a 0 cap) ([] : List α) :=
  ⟨a, cap, rfl, Nat.zero_le _, .inl rfl⟩

theorem RL2.nil {α : Type} {S : Nat → Prop} {R : World → Value → Value → α → Prop} {w : World} (a : Option Addr) (cap : Nat) : RL2 S R w (.slice a 0 cap) ([] : List α) :=
  ⟨a, cap, rfl, Nat.zero_le _, .inl rfl⟩

theorem RL.mono {α : Type} {S S' : Nat → Prop} {R R' : World → Value → α → Prop} {w : World} {v : Value} {L : List α} (h : RL S R w v L)
    (hS : ∀ b, S b → S' b) (hR : ∀ r x, R w r x → R' w r x) : RL S' R' w v L := by
  obtain ⟨a, cap, hv, hcap, h⟩ := h
  refine ⟨a, cap, hv, hcap, ?_⟩
  rcases h with h | ⟨b, o, ha, hs, h⟩
  · exact .inl h
  · exact .inr ⟨b, o, ha, hS b hs, fun j x hx => let ⟨r, h1, h2⟩ := h j x hx; ⟨r, h1, hR _ _ h2⟩⟩

theorem RL.keep {α : Type} {S : Nat → Prop} {R : World → Value → α → Prop} {w w' : World} {v : Value} {L : List α} (h : RL S R w v L)
    (hb : ∀ b, S b → b < w.heap.size → w'.heap[b]? = w.heap[b]?) (hR : ∀ r x, R w r x → R w' r x) : RL S R w' v L := by
  obtain ⟨a, cap, hv, hcap, h⟩ := h
  refine ⟨a, cap, hv, hcap, ?_⟩
  rcases h with h | ⟨b, o, ha, hs, h⟩
  · exact .inl h
  · refine .inr ⟨b, o, ha, hs, fun j x hx => ?_⟩
    obtain ⟨r, h1, h2⟩ := h j x hx
    refine ⟨r, ?_, hR _ _ h2⟩
    have hlt := World.block_lt_of_cell? w _ h1
    rw [World.cell?_of_block (w := w) (hb b hs hlt)]
    exact h1

theorem RI.keep {S : Nat → Prop} {w w' : World} {v : Value} {L : List Int} (h : RI S w v L)
    (hb : ∀ b, S b → b < w.heap.size → w'.heap[b]? = w.heap[b]?) : RI S w' v L := RL.keep h hb (fun _ _ h => h)

theorem RII.keep {S : Nat → Prop} {w w' : World} {v : Value} {L : List (List Int)} (h : RII S w v L)
    (hb : ∀ b, S b → b < w.heap.size → w'.heap[b]? = w.heap[b]?) : RII S w' v L := RL.keep h hb (fun _ _ h => RI.keep h hb)

theorem RI.below {S : Nat → Prop} {w w' : World} {v : Value} {L : List Int} (h : RI S w v L) (hb : Below w.heap.size w w') : RI S w' v L :=
  RI.keep h fun b _ hl => hb.block b hl

theorem RII.below {S : Nat → Prop} {w w' : World} {v : Value} {L : List (List Int)} (h : RII S w v L) (hb : Below w.heap.size w w') : RII S w' v L :=
  RII.keep h fun b _ hl => hb.block b hl

theorem RI.drewN {S : Nat → Prop} {w : World} {v : Value} {L : List Int} (h : RI S w v L) (n : Nat) : RI S (w.drewN n) v L :=
  RI.keep h fun _ _ _ => rfl

theorem RII.drewN {S : Nat → Prop} {w : World} {v : Value} {L : List (List Int)} (h : RII S w v L) (n : Nat) : RII S (w.drewN n) v L :=
  RII.keep h fun _ _ _ => rfl

theorem RI.any {S : Nat → Prop} {w : World} {v : Value} {L : List Int} (h : RI S w v L) : RI Any w v L := RL.mono h (fun _ _ => trivial) (fun _ _ h => h)
theorem RII.any {S : Nat → Prop} {w : World} {v : Value} {L : List (List Int)} (h : RII S w v L) : RII Any w v L := RL.mono h (fun _ _ => trivial) (fun _ _ h => RI.any h)

/-- Element j of a slice of numbers that the walk reads. -/
theorem RI.at {S : Nat → Prop} {w : World} {a : Option Addr} {n cap : Nat} {L : List Int} (h : RI S w (.slice a n cap) L) {j : Nat} (hj : j < n) :
    ∃ b o x, a = some ⟨b, o, none⟩ ∧ w.cell? ⟨b, o + j, none⟩ = some (.int .i64 x) ∧ Hid (L[j]? = some x) := by
  obtain ⟨a', cap', hv, _, h⟩ := h
  simp only [Value.slice.injEq] at hv
  obtain ⟨rfl, rfl, rfl⟩ := hv
  rcases h with h | ⟨b, o, ha, _, h⟩
  · subst h; simp at hj
  · obtain ⟨r, h1, h2⟩ := h j L[j] (by simp [hj])
    exact ⟨b, o, L[j], ha, by rw [h1]; exact congrArg some h2, Lib.hid (by simp [hj])⟩

/-- Row j of a slice of slices of numbers that the walk reads. -/
theorem RII.at {S : Nat → Prop} {w : World} {a : Option Addr} {n cap : Nat} {L : List (List Int)} (h : RII S w (.slice a n cap) L) {j : Nat} (hj : j < n) :
    ∃ b o r l, a = some ⟨b, o, none⟩ ∧ w.cell? ⟨b, o + j, none⟩ = some r ∧ RI S w r l ∧ Hid (L[j]? = some l) := by
  obtain ⟨a', cap', hv, _, h⟩ := h
  simp only [Value.slice.injEq] at hv
  obtain ⟨rfl, rfl, rfl⟩ := hv
  rcases h with h | ⟨b, o, ha, _, h⟩
  · subst h; simp at hj
  · obtain ⟨r, h1, h2⟩ := h j L[j] (by simp [hj])
    exact ⟨b, o, r, L[j], ha, h1, h2, Lib.hid (by simp [hj])⟩

theorem RL.form {α : Type} {S : Nat → Prop} {R : World → Value → α → Prop} {w : World} {v : Value} {L : List α} (h : RL S R w v L) : ∃ a cap, v = .slice a L.length cap :=
  let ⟨a, cap, hv, _⟩ := h
  ⟨a, cap, hv⟩

theorem RL2.form {α : Type} {S : Nat → Prop} {R : World → Value → Value → α → Prop} {w : World} {v : Value} {L : List α} (h : RL2 S R w v L) : ∃ a cap, v = .slice a L.length cap :=
  let ⟨a, cap, hv, _⟩ := h
  ⟨a, cap, hv⟩

theorem RL2.mono {α : Type} {S S' : Nat → Prop} {R R' : World → Value → Value → α → Prop} {w : World} {v : Value} {L : List α} (h : RL2 S R w v L)
    (hS : ∀ b, S b → S' b) (hR : ∀ r r' x, R w r r' x → R' w r r' x) : RL2 S' R' w v L := by
  obtain ⟨a, cap, hv, hcap, h⟩ := h
  refine ⟨a, cap, hv, hcap, ?_⟩
  rcases h with h | ⟨b, o, ha, hs, h⟩
  · exact .inl h
  · exact .inr ⟨b, o, ha, hS b hs, fun j x hx => let ⟨r, r', h1, h1', h2⟩ := h j x hx; ⟨r, r', h1, h1', hR _ _ _ h2⟩⟩

theorem RL2.keep {α : Type} {S : Nat → Prop} {R : World → Value → Value → α → Prop} {w w' : World} {v : Value} {L : List α} (h : RL2 S R w v L)
    (hb : ∀ b, S b → b < w.heap.size → w'.heap[b]? = w.heap[b]?) (hR : ∀ r r' x, R w r r' x → R w' r r' x) : RL2 S R w' v L := by
  obtain ⟨a, cap, hv, hcap, h⟩ := h
  refine ⟨a, cap, hv, hcap, ?_⟩
  rcases h with h | ⟨b, o, ha, hs, h⟩
  · exact .inl h
  · refine .inr ⟨b, o, ha, hs, fun j x hx => ?_⟩
    obtain ⟨r, r', h1, h1', h2⟩ := h j x hx
    have hlt := World.block_lt_of_cell? w _ h1
    refine ⟨r, r', ?_, ?_, hR _ _ _ h2⟩
    · rw [World.cell?_of_block (w := w) (hb b hs hlt)]; exact h1
    · rw [World.cell?_of_block (w := w) (hb b hs hlt)]; exact h1'

theorem RL2.at {α : Type} {S : Nat → Prop} {R : World → Value → Value → α → Prop} {w : World} {a : Option Addr} {n cap : Nat} {L : List α} (h : RL2 S R w (.slice a n cap) L) {j : Nat} (hj : j < n) :
    ∃ b o r r' x, a = some ⟨b, o, none⟩ ∧ w.cell? ⟨b, o + j * 2, none⟩ = some r ∧ w.cell? ⟨b, o + j * 2 + 1, none⟩ = some r' ∧ R w r r' x ∧ Hid (L[j]? = some x) := by
  obtain ⟨a', cap', hv, _, h⟩ := h
  simp only [Value.slice.injEq] at hv
  obtain ⟨rfl, rfl, rfl⟩ := hv
  rcases h with h | ⟨b, o, ha, _, h⟩
  · subst h; simp at hj
  · obtain ⟨r, r', h1, h1', h2⟩ := h j L[j] (by simp [hj])
    exact ⟨b, o, r, r', L[j], ha, h1, h1', h2, Lib.hid (by simp [hj])⟩

/-- A row of the call's own, its cells read as the elements: it reads as the list. -/
theorem RL.of_own {α : Type} {S : Nat → Prop} {R : World → Value → α → Prop} {w : World} {B : Nat} {e : TypeId} {v : Value} {n : Nat} {xs : List Value} {L : List α}
    (h : w.ownsRow B e 1 v n xs) (hn : n = L.length) (hS : ∀ b, v.ownBlock = some b → B ≤ b → S b) (hR : ∀ (j : Nat) (x : α) (r : Value), L[j]? = some x → xs[j]? = some r → R w r x) : RL S R w v L := by
  subst hn
  have hlen := h.1
  rcases h.2 with ⟨rfl, h0⟩ | ⟨g, cap, cur, hv, hb, hg, hc⟩
  · have : L = [] := List.eq_nil_of_length_eq_zero h0
    subst this
    exact RL.nil _ _
  · subst hv
    refine ⟨_, _, rfl, hc.1, .inr ⟨g, 0, rfl, hS g rfl hb, fun j x hx => ?_⟩⟩
    have hj : j < L.length := by
      rcases Nat.lt_or_ge j L.length with h | h
      · exact h
      · rw [List.getElem?_eq_none h] at hx; cases hx
    have hjx : j < xs.length := by rw [hlen]; omega
    refine ⟨xs[j], ?_, hR j x _ hx (by simp [hjx])⟩
    have := h.cells (g := g) rfl j xs[j] (by simp [hjx])
    have hadd : (⟨g, 0, none⟩ : Addr).add j = ⟨g, j, none⟩ := by unfold Addr.add; split <;> simp_all
    rw [hadd] at this
    simpa using this

/-- A fresh slice of numbers: a row of the call's own, from block B on. -/
abbrev FI (B : Nat) (w : World) (v : Value) (l : List Int) : Prop := w.ownsRow B 3 1 v l.length (l.map (Value.int .i64))

theorem FI.read {B : Nat} {w : World} {v : Value} {l : List Int} (h : FI B w v l) : RI (fun b => B ≤ b ∧ v.ownBlock = some b) w v l :=
  RL.of_own h rfl (fun _ h1 h2 => ⟨h2, h1⟩) (fun j x r hx hr => by simp [hx] at hr; exact hr.symm)

theorem FI.any {B : Nat} {w : World} {v : Value} {l : List Int} (h : FI B w v l) : RI Any w v l := RI.any h.read

theorem own_keep {B : Nat} {w w' : World} {e : TypeId} {s n : Nat} {v : Value} {xs : List Value} (h : w.ownsRow B e s v n xs) (hb : ∀ b, v.ownBlock = some b → w'.heap[b]? = w.heap[b]?) : w'.ownsRow B e s v n xs := by
  refine ⟨h.1, ?_⟩
  rcases h.2 with h | ⟨g, cap, cur, hv, hg, hh, r⟩
  · exact .inl h
  · exact .inr ⟨g, cap, cur, hv, hg, by rw [hb g (by rw [hv]; rfl)]; exact hh, r⟩

theorem own_below {B : Nat} {w w' : World} {e : TypeId} {s n : Nat} {v : Value} {xs : List Value} (h : w.ownsRow B e s v n xs) (hb : Below w.heap.size w w') : w'.ownsRow B e s v n xs :=
  own_keep h fun b hv => hb.block b (h.lt b hv).2

theorem FI.below {B : Nat} {w w' : World} {v : Value} {l : List Int} (h : FI B w v l) (hb : Below w.heap.size w w') : FI B w' v l := own_below h hb

theorem own_base {B B' : Nat} {w : World} {e : TypeId} {s n : Nat} {v : Value} {xs : List Value} (h : w.ownsRow B e s v n xs) (hb : B' ≤ B) : w.ownsRow B' e s v n xs := by
  refine ⟨h.1, ?_⟩
  rcases h.2 with h | ⟨g, cap, cur, hv, hg, r⟩
  · exact .inl h
  · exact .inr ⟨g, cap, cur, hv, by omega, r⟩

/-- The cell of a row of the call's own. -/
theorem own_cell {B : Nat} {w : World} {e : TypeId} {g n cap : Nat} {xs : List Value} (h : w.ownsRow B e 1 (.slice (some ⟨g, 0, none⟩) n cap) n xs) {j : Nat} (hj : j < n) :
    ∃ y, w.cell? ⟨g, j, none⟩ = some y ∧ Hid (xs[j]? = some y) := by
  have hc := h.cellAt j (by omega)
  have hlen := h.1
  have hx : j < xs.length := by omega
  exact ⟨xs[j], by rw [hc]; simp [hx], Lib.hid (by simp [hx])⟩

theorem ret_int {k : IntKind} {a b : Int} (h : a = b) : Ending.returned (.int k a) = .returned (.int k b) := by rw [h]
theorem ret_bool {a b : Bool} (h : a = b) : Ending.returned (.bool a) = .returned (.bool b) := by rw [h]

theorem take_step {α : Type} {L : List α} {k : Nat} {x : α} (h : L[k]? = some x) : L.take (k + 1) = L.take k ++ [x] := by
  rw [List.take_add_one, h]; rfl

theorem drop_step {α : Type} {L : List α} {k : Nat} {x : α} (h : L[k]? = some x) : L.drop k = x :: L.drop (k + 1) := by
  have hk : k < L.length := by
    rcases Nat.lt_or_ge k L.length with h' | h'
    · exact h'
    · rw [List.getElem?_eq_none h'] at h; cases h
  rw [List.getElem?_eq_getElem hk] at h
  rw [List.drop_eq_getElem_cons hk]
  simp only [Option.some.injEq] at h
  rw [h]

theorem below_quiet {w w' : World} (h : ∃ m, w' = w.drewN m) : Below w.heap.size w w' := by
  obtain ⟨m, rfl⟩ := h
  exact below_drewN (Below.refl _ w) m

theorem infoInt : (Try.prog.info? 3).map (fun i => (i.zero, i.size, i.bytes)) = some (some (.int .i64 0), 1, 8) := by kernel_rfl
theorem infoInts : (Try.prog.info? 22).map (fun i => (i.zero, i.size, i.bytes)) = some (some (.slice none 0 0), 1, 24) := by kernel_rfl

end Go.Proofs.Ytdgphhbgedfkfaa
