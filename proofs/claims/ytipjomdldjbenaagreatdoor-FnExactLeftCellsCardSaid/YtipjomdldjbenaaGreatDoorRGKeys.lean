/- Keys of maps: short lists of numbers. No condition. A map from short lists of numbers to truth values, that tells which of them have been met. No condition. -/
import Derived.Test.YtipjomdldjbenaaGreatDoorRGVec
import Derived.Test.YtipjomdldjbenaaGreatDoorRGRp
import Derived.Test.YtipjomdldjbenaaGreatDoorRGOp
import Derived.Maps.OwnSet
import Derived.Maps.OwnOps
import Derived.DeepKeys4
import Derived.Test.YtipjomdldjbenaaGreatDoorRGHeap
namespace Go.Proofs.YtipjomdldjbenaaGreatDoor
open Go.RowKit
set_option maxRecDepth 20000
theorem num_in {a : List Int} (h : InI a) (k : Nat) : I64 (num a k) := by
 unfold num
 cases e : a[k]? with
 | none => decide
 | some x =>
  have := h x (List.mem_of_getElem? e)
  exact Go.WalkArith.wf_i64 (by simp; omega)
theorem num4_inj {a a' : List Int} (h : num a 0 = num a' 0 ∧ num a 1 = num a' 1 ∧ num a 2 = num a' 2 ∧ num a 3 = num a' 3) (hl : a.length = a'.length) (h4 : a.length ≤ 4) : a = a' := by
 obtain ⟨h0, h1, h2, h3⟩ := h
 rcases a with _ | ⟨a, _ | ⟨b, _ | ⟨c, _ | ⟨d, _ | ⟨e, l⟩⟩⟩⟩⟩ <;> rcases a' with _ | ⟨a', _ | ⟨b', _ | ⟨c', _ | ⟨d', _ | ⟨e', l'⟩⟩⟩⟩⟩ <;> simp [num] at * <;> simp_all
def RD (v : Value) : Option (DataW Value × List MemPlace) := some (.held v, [])
section
variable {w w' : World}
end
end Go.Proofs.YtipjomdldjbenaaGreatDoor
namespace Go.Proofs.YtipjomdldjbenaaGreatDoor
open Go.RowKit
open Go.Maps (Keyed)
set_option maxRecDepth 20000
theorem keyed1 : Keyed Tryz.prog 128 := Keyed.of_law (Go.deep_law_laid laidOut (m := 5) (by decide) (k := 128) (of_decide_eq_true (by kernel_rfl)) (by kernel_rfl) (by kernel_rfl))
def keyB1 (a : List Int) : Lit := .string (keyBytes [.int .i64 (num a 0), .int .i64 (num a 1), .int .i64 (num a 2), .int .i64 (num a 3)])
theorem keyOf1 {a : List Int} (ha : InI a) : keyOf Tryz.prog 128 (vec a) = some (keyB1 a) := by
 have a0 := num_in ha 0
 have a1 := num_in ha 1
 have a2 := num_in ha 2
 have a3 := num_in ha 3
 unfold vec keyB1
 generalize num a 0 = x0 at *
 generalize num a 1 = x1 at *
 generalize num a 2 = x2 at *
 generalize num a 3 = x3 at *
 have cs1 : Tryz.prog.cellsOf 128 = 4 := by kernel_rfl
 have cs0 : Tryz.prog.cellsOf 3 = 1 := by kernel_rfl
 have hk : Tryz.prog.keyType 128 = true := by kernel_rfl
 obtain ⟨d, hd⟩ : ∃ d, Tryz.prog.types.size + 1 = d + 2 := ⟨Tryz.prog.types.size - 1, by have : 1 ≤ Tryz.prog.types.size := of_decide_eq_true (by kernel_rfl); omega⟩
 have h0 : ∀ x : Int, I64 x → Tryz.prog.keyLits (d + 1) 3 [.int .i64 x] = some [.int .i64 x] := fun x hx => by
  simp [Program.keyLits, Tryz.underlying3]; exact hx
 have h1 : Tryz.prog.keyLits (d + 2) 128 [.int .i64 x0, .int .i64 x1, .int .i64 x2, .int .i64 x3] = some [.int .i64 x0, .int .i64 x1, .int .i64 x2, .int .i64 x3] := by
  unfold Program.keyLits
  simp [Tryz.underlying128, cs1, cs0, show List.range 4 = [0, 1, 2, 3] from rfl, h0 _ a0, h0 _ a1, h0 _ a2, h0 _ a3]
 unfold keyOf
 rw [hd]
 simp [Tryz.underlying128, hk, Value.formed, cs1, Value.cells, h1]
theorem keyB1_inj {a a' : List Int} (ha : InI a) (ha' : InI a') (h : keyB1 a = keyB1 a') (h1 : a.length = a'.length) (h3 : a.length ≤ 4) : a = a' := by
 have := keyed1.inj (keyOf1 ha) (by rw [h]; exact keyOf1 ha')
 simp [vec] at this
 exact num4_inj ⟨this.1, this.2.1, this.2.2.1, this.2.2.2⟩ h1 h3
def SetD (n : Nat) (L : List (List Int)) (D : DataW Value) : Prop := ∀ a : List Int, a.length = n → InI a → D.atKey (keyB1 a) (.held (.bool false)) = .held (.bool (decide (a ∈ L)))
abbrev aS (t : TypeId) (mb n : Nat) (L : List (List Int)) : Thing := fun F w => F mb ∧ ∃ D m, m ≤ L.length ∧ w.ownsMap Tryz.prog t RD mb m D ∧ SetD n L D
theorem st_S (t : TypeId) (mb n : Nat) (L : List (List Int)) : Steady (aS t mb n L) := fun F w w' h k => by
 obtain ⟨h1, D, m, h2, h3, h4⟩ := h
 refine ⟨h1, D, m, h2, ?_, h4⟩
 obtain ⟨es, clock, hb, r⟩ := h3
 exact ⟨es, clock, by rw [k mb h1 (Array.getElem?_eq_some_iff.1 hb).1]; exact hb, r⟩
section
variable {A : Nat → Prop} {w0 w w' : World} {Ps : List Thing}
theorem SetD.empty (n : Nat) : SetD n [] (.map []) := fun a _ _ => by simp [DataW.atKey]
theorem HSx.newSet (h : HSx A w0 w Ps) (t : TypeId) (n : Nat) {w1 : World} (hw : w1 = w.alloc (.map #[] 0)) : HSx A w0 w1 (Ps ++ [aS t w.heap.size n []]) := by
 subst hw
 exact h.add ((Below.refl _ _).alloc (Nat.le_refl _) _) (st_S _ _ _ _) (F := fun b => b = w.heap.size) ⟨rfl, _, 0, Nat.le_refl _, World.ownsMap_made _ _ _ _, SetD.empty n⟩ (fun b hb => by subst hb; exact ⟨Nat.le_refl _, by simp⟩)
theorem SetD.put {n : Nat} {L : List (List Int)} {D : DataW Value} {p : List Int} (h : SetD n L D) (hm : Maps.IsMap D) (hk : WideAt.IsKeyLit (keyB1 p)) (hn : n ≤ 4) (hp : p.length = n) (hpi : InI p) : SetD n (L ++ [p]) (D.put (keyB1 p) (.held (.bool true))) := fun a ha hai => by
 by_cases he : keyB1 a = keyB1 p
 ·have e := keyB1_inj hai hpi he (by rw [ha, hp]) (by rw [ha]; exact hn)
  subst e
  rw [Maps.atKey_put_same hm hk]
  simp
 ·rw [Maps.atKey_put_other he, h a ha hai]
  have : a ≠ p := fun e => he (by rw [e])
  simp [this]
section
variable {ops : Array Oper} {rest : List Oper} {o : Oper} {a : Act} {Q : Exit → Act → World → Prop} {tm t mb n : Nat} {L : List (List Int)}
theorem wpList_setAt (hg : o.guard = none) (mo x : Operand) (hop : o.op = Op.lookup 131 mo x false) (hm : a.eval mo = .map (some mb)) (h : HSx A w0 w Ps) (i : Nat) (hi : Ps[i]? = some (aS 128 mb n L)) {p : List Int} (hp : p.length = n) (hpi : InI p) (hx : a.eval x = vec p)
  (k : wpList Tryz.prog ops Q rest (a.put o.dst (.bool (decide (p ∈ L)))) w) : wpList Tryz.prog ops Q (o :: rest) a w := by
 obtain ⟨F, ⟨_, D, m, _, hown, hD⟩, _⟩ := HSx.get h i hi
 refine wpList_plain hg fun K' hK' => ?_
 obtain ⟨v, ps, hrun, hv⟩ := hown.lookup keyed1 Tryz.underlying131 (z := .bool false) (by kernel_rfl) (zd := .held (.bool false)) (zp := []) rfl (keyOf1 hpi)
 rw [hD p hp hpi] at hv
 simp only [RD, Option.some.injEq, Prod.mk.injEq, DataW.held.injEq] at hv
 obtain ⟨rfl, _⟩ := hv
 unfold Oper.wp
 simp only [execOp, hop, hm, hx, Sem.run_bind, Sem.run_pure, Result.andThen_ok, hrun]
 exact hK' _ _ k
theorem wpList_setYes (hg : o.guard = none) (mo x : Operand) (hop : o.op = Op.lookup 131 mo x false) (hm : a.eval mo = .map (some mb)) (h : HSx A w0 w Ps) (i : Nat) (hi : Ps[i]? = some (aS 128 mb n L)) {p : List Int} (hp : p.length = n) (hpi : InI p) (hx : a.eval x = vec p) (hmem : Hid (p ∈ L))
  (k : wpList Tryz.prog ops Q rest (a.put o.dst (.bool true)) w) : wpList Tryz.prog ops Q (o :: rest) a w := wpList_setAt hg mo x hop hm h i hi hp hpi hx (by rw [decide_eq_true hmem.out]; exact k)
theorem wpList_setNo (hg : o.guard = none) (mo x : Operand) (hop : o.op = Op.lookup 131 mo x false) (hm : a.eval mo = .map (some mb)) (h : HSx A w0 w Ps) (i : Nat) (hi : Ps[i]? = some (aS 128 mb n L)) {p : List Int} (hp : p.length = n) (hpi : InI p) (hx : a.eval x = vec p) (hmem : Hid (p ∉ L))
  (k : wpList Tryz.prog ops Q rest (a.put o.dst (.bool false)) w) : wpList Tryz.prog ops Q (o :: rest) a w := wpList_setAt hg mo x hop hm h i hi hp hpi hx (by rw [decide_eq_false hmem.out]; exact k)
theorem wpList_setPut (hg : o.guard = none) (mo x y : Operand) (hop : o.op = Op.mapUpdate 131 mo x y) (hm : a.eval mo = .map (some mb)) (h : HSx A w0 w Ps) (i : Nat) (hi : Ps[i]? = some (aS 128 mb n L)) (hnew : w0.heap.size ≤ mb) (hn : n ≤ 4) (hlen : L.length < 67108864) {p : List Int} (hp : p.length = n) (hpi : InI p) (hx : a.eval x = vec p) (hy : a.eval y = .bool true)
  (k : ∀ w', HSx A w0 w' (Ps.set i (aS 128 mb n (L ++ [p]))) → wpList Tryz.prog ops Q rest (a.put o.dst undef) w') : wpList Tryz.prog ops Q (o :: rest) a w := by
 obtain ⟨F, ⟨_, D, m, hmL, hown, hD⟩, _⟩ := HSx.get h i hi
 refine wpList_plain hg fun K' hK' => ?_
 obtain ⟨w', hrun, ho, hgr⟩ := hown.update (val := .bool true) (d := .held (.bool true)) (ps := []) keyed1 Tryz.underlying131 (by unfold maxLen; omega) (keyOf1 hpi) rfl
 have hk := k w' (h.upd i hi (st_S _ _ _ _) (h.bl.grown hgr h.bl.size (fun b hb => by simp only [Option.some.injEq] at hb; omega)) hgr.size fun F' hF' _ => ⟨F', ⟨hF'.1, _, m + 1, by simp; omega, ho, hD.put hown.isMap (keyed1.key (keyOf1 hpi)) hn hp hpi⟩, fun b hb => .inl hb, fun b hl hb => hgr.block b hl (fun e => by simp only [Option.some.injEq] at e; subst e; exact hb hF'.1)⟩)
 unfold Oper.wp
 simp only [execOp, hop, hm, hx, hy, Sem.run_bind, Sem.run_pure, Result.andThen_ok, hrun]
 exact hK' _ _ hk
end
end
end Go.Proofs.YtipjomdldjbenaaGreatDoor
