/- Maps keyed by the texts of words: what they tell of each word. No condition. -/
import Derived.Test.YtipjomdldjbenaaJFwd
import Derived.Test.YtipjomdldjbenaaJGHeap
import Derived.Test.YtipjomdldjbenaaJGKeys
namespace Go.Proofs.Ytipjomdldjbenaa
open Go.RowKit
open Go.Maps (Keyed)
set_option maxRecDepth 20000

theorem keyedS : Keyed Try.prog 9 := Go.Maps.string_keyed Try.underlying9
def keyW (x : List Int) : Lit := .string (bs (fmtWd x)).data.toList
theorem keyOfS {x : List Int} (hl : x.length ≤ 1048576) : keyOf Try.prog 9 (.string (bs (fmtWd x))) = some (keyW x) := by
  have h1 : (bs (fmtWd x)).size ≤ maxLen := by rw [bs_size]; have := fmtWd_len (l := x); unfold maxLen; omega
  exact Go.WideMaps.keyOf_string_mk Try.underlying9 h1
theorem keyW_inj {x y : List Int} (hx : OkW x) (hy : OkW y) (h : keyW x = keyW y) : x = y := by
  unfold keyW at h
  simp only [Lit.string.injEq, bs_data] at h
  exact fmtWd_inj hx hy h
/-- What a map tells of words. -/
def MapD (z : Value) (f : List Int → Value) (D : DataW Value) : Prop := ∀ x : List Int, OkW x → x.length ≤ 1048576 → D.atKey (keyW x) (.held z) = .held (f x)
/-- Block mb is such a map, of at most m entries. -/
abbrev aM (z : Value) (mb m : Nat) (f : List Int → Value) : Thing := fun F w => F mb ∧ ∃ D m', m' ≤ m ∧ w.ownsMap Try.prog 9 RD mb m' D ∧ MapD z f D
theorem st_M (z : Value) (mb m : Nat) (f : List Int → Value) : Steady (aM z mb m f) := fun F w w' h k => by
  obtain ⟨h1, D, m', h2, h3, h4⟩ := h
  refine ⟨h1, D, m', h2, ?_, h4⟩
  obtain ⟨es, clock, hb, r⟩ := h3
  exact ⟨es, clock, by rw [k mb h1 (Array.getElem?_eq_some_iff.1 hb).1]; exact hb, r⟩

section
variable {A : Nat → Prop} {w0 w w' : World} {Ps : List Thing}
theorem HSx.newMap (h : HSx A w0 w Ps) (z : Value) {w1 : World} (hw : w1 = w.alloc (.map #[] 0)) : HSx A w0 w1 (Ps ++ [aM z w.heap.size 0 (fun _ => z)]) := by
  subst hw
  exact h.add ((Below.refl _ _).alloc (Nat.le_refl _) _) (st_M _ _ _ _) (F := fun b => b = w.heap.size) ⟨rfl, _, 0, Nat.le_refl _, World.ownsMap_made _ _ _ _, fun x _ _ => by simp [DataW.atKey]⟩ (fun b hb => by subst hb; exact ⟨Nat.le_refl _, by simp⟩)
/-- A map with one entry more. -/
def putF (f : List Int → Value) (p : List Int) (v : Value) : List Int → Value := fun x => if x = p then v else f x
theorem MapD.put {z v : Value} {f : List Int → Value} {D : DataW Value} {p : List Int} (h : MapD z f D) (hm : Maps.IsMap D) (hk : WideAt.IsKeyLit (keyW p)) (hp : OkW p) : MapD z (putF f p v) (D.put (keyW p) (.held v)) := fun x hx hl => by
  unfold putF
  by_cases he : keyW x = keyW p
  · have e := keyW_inj hx hp he
    subst e
    rw [Maps.atKey_put_same hm hk, if_pos rfl]
  · rw [Maps.atKey_put_other he, h x hx hl, if_neg (fun e => he (by rw [e]))]
/-- The look into the map, as the machine carries it out. -/
theorem HSx.mapRun {z : Value} {mb m : Nat} {f : List Int → Value} (h : HSx A w0 w Ps) (i : Nat) (hi : Ps[i]? = some (aM z mb m f)) {tm e : TypeId} (ht : Try.prog.underlying tm = some (.map 9 e)) (hz : ∀ w, (zeroValue e).run Try.prog w = .ok z w) {p : List Int} (hp : OkW p) (hl : p.length ≤ 1048576) :
    (Go.Instr.lookup tm (.map (some mb)) (.string (bs (fmtWd p))) false).run Try.prog w = .ok (f p) w := by
  obtain ⟨F, ⟨_, D, m, _, hown, hD⟩, _⟩ := HSx.get h i hi
  obtain ⟨v, ps, hrun, hv⟩ := hown.lookup keyedS ht (z := z) (hz w) (zd := .held z) (zp := []) rfl (keyOfS hl)
  rw [hD p hp hl] at hv
  simp only [RD, Option.some.injEq, Prod.mk.injEq, DataW.held.injEq] at hv
  obtain ⟨rfl, _⟩ := hv
  exact hrun
section
variable {ops : Array Oper} {rest : List Oper} {o : Oper} {a : Act} {Q : Exit → Act → World → Prop} {tm e : TypeId} {z : Value} {mb m : Nat} {f : List Int → Value}
/-- 'm[key]', without 'ok'. -/
theorem wpList_mapAt (hg : o.guard = none) (mo x : Operand) (hop : o.op = Op.lookup tm mo x false) (hm : a.eval mo = .map (some mb)) (h : HSx A w0 w Ps) (i : Nat) (hi : Ps[i]? = some (aM z mb m f)) (ht : Try.prog.underlying tm = some (.map 9 e)) (hz : ∀ w, (zeroValue e).run Try.prog w = .ok z w)
    {p : List Int} (hp : OkW p) (hl : p.length ≤ 1048576) (hx : a.eval x = .string (bs (fmtWd p)))
    (k : wpList Try.prog ops Q rest (a.put o.dst (f p)) w) : wpList Try.prog ops Q (o :: rest) a w := by
  refine wpList_plain hg fun K' hK' => ?_
  have hrun := h.mapRun i hi ht hz hp hl
  unfold Oper.wp
  simp only [execOp, hop, hm, hx, Sem.run_bind, Sem.run_pure, Result.andThen_ok, hrun]
  exact hK' _ _ k
/-- 'm[key] = v'. -/
theorem wpList_mapPut (hg : o.guard = none) (mo x y : Operand) (hop : o.op = Op.mapUpdate tm mo x y) (hm : a.eval mo = .map (some mb)) (h : HSx A w0 w Ps) (i : Nat) (hi : Ps[i]? = some (aM z mb m f)) (hnew : w0.heap.size ≤ mb) (hlen : m < 67108864) (ht : Try.prog.underlying tm = some (.map 9 e))
    {p : List Int} (hp : OkW p) (hl : p.length ≤ 1048576) (hx : a.eval x = .string (bs (fmtWd p))) {v : Value} (hy : a.eval y = v)
    (k : ∀ w', HSx A w0 w' (Ps.set i (aM z mb (m + 1) (putF f p v))) → wpList Try.prog ops Q rest (a.put o.dst undef) w') : wpList Try.prog ops Q (o :: rest) a w := by
  obtain ⟨F, ⟨_, D, m1, hmL, hown, hD⟩, _⟩ := HSx.get h i hi
  refine wpList_plain hg fun K' hK' => ?_
  obtain ⟨w', hrun, ho, hgr⟩ := hown.update (val := v) (d := .held v) (ps := []) keyedS ht (by unfold maxLen; omega) (keyOfS hl) rfl
  have hk := k w' (h.upd i hi (st_M _ _ _ _) (h.bl.grown hgr h.bl.size (fun b hb => by simp only [Option.some.injEq] at hb; omega)) hgr.size fun F' hF' _ => ⟨F', ⟨hF'.1, _, m1 + 1, by omega, ho, hD.put hown.isMap (keyedS.key (keyOfS hl)) hp⟩, fun b hb => .inl hb, fun b hl hb => hgr.block b hl (fun e => by simp only [Option.some.injEq] at e; subst e; exact hb hF'.1)⟩)
  unfold Oper.wp
  simp only [execOp, hop, hm, hx, hy, Sem.run_bind, Sem.run_pure, Result.andThen_ok, hrun]
  exact hK' _ _ hk
/-- .. and nothing but the map's block has turned. -/
theorem wpList_mapPutG (hg : o.guard = none) (mo x y : Operand) (hop : o.op = Op.mapUpdate tm mo x y) (hm : a.eval mo = .map (some mb)) (h : HSx A w0 w Ps) (i : Nat) (hi : Ps[i]? = some (aM z mb m f)) (hnew : w0.heap.size ≤ mb) (hlen : m < 67108864) (ht : Try.prog.underlying tm = some (.map 9 e))
    {p : List Int} (hp : OkW p) (hl : p.length ≤ 1048576) (hx : a.eval x = .string (bs (fmtWd p))) {v : Value} (hy : a.eval y = v)
    (k : ∀ w', HSx A w0 w' (Ps.set i (aM z mb (m + 1) (putF f p v))) → w.grownBy w' (some mb) → wpList Try.prog ops Q rest (a.put o.dst undef) w') : wpList Try.prog ops Q (o :: rest) a w := by
  obtain ⟨F, ⟨_, D, m1, hmL, hown, hD⟩, _⟩ := HSx.get h i hi
  refine wpList_plain hg fun K' hK' => ?_
  obtain ⟨w', hrun, ho, hgr⟩ := hown.update (val := v) (d := .held v) (ps := []) keyedS ht (by unfold maxLen; omega) (keyOfS hl) rfl
  have hk := k w' (h.upd i hi (st_M _ _ _ _) (h.bl.grown hgr h.bl.size (fun b hb => by simp only [Option.some.injEq] at hb; omega)) hgr.size fun F' hF' _ => ⟨F', ⟨hF'.1, _, m1 + 1, by omega, ho, hD.put hown.isMap (keyedS.key (keyOfS hl)) hp⟩, fun b hb => .inl hb, fun b hl hb => hgr.block b hl (fun e => by simp only [Option.some.injEq] at e; subst e; exact hb hF'.1)⟩) hgr
  unfold Oper.wp
  simp only [execOp, hop, hm, hx, hy, Sem.run_bind, Sem.run_pure, Result.andThen_ok, hrun]
  exact hK' _ _ hk
/-- .. in a literal. -/
theorem wpList_mapIns (hg : o.guard = none) (mo x y : Operand) (hop : o.op = Op.insert tm mo x y) (hm : a.eval mo = .map (some mb)) (h : HSx A w0 w Ps) (i : Nat) (hi : Ps[i]? = some (aM z mb m f)) (hnew : w0.heap.size ≤ mb) (hlen : m < 67108864) (ht : Try.prog.underlying tm = some (.map 9 e))
    {p : List Int} (hp : OkW p) (hl : p.length ≤ 1048576) (hx : a.eval x = .string (bs (fmtWd p))) {v : Value} (hy : a.eval y = v)
    (k : ∀ w', HSx A w0 w' (Ps.set i (aM z mb (m + 1) (putF f p v))) → wpList Try.prog ops Q rest (a.put o.dst undef) w') : wpList Try.prog ops Q (o :: rest) a w := by
  obtain ⟨F, ⟨_, D, m1, hmL, hown, hD⟩, _⟩ := HSx.get h i hi
  refine wpList_plain hg fun K' hK' => ?_
  obtain ⟨w', hrun, ho, hgr⟩ := hown.update (val := v) (d := .held v) (ps := []) keyedS ht (by unfold maxLen; omega) (keyOfS hl) rfl
  have hk := k w' (h.upd i hi (st_M _ _ _ _) (h.bl.grown hgr h.bl.size (fun b hb => by simp only [Option.some.injEq] at hb; omega)) hgr.size fun F' hF' _ => ⟨F', ⟨hF'.1, _, m1 + 1, by omega, ho, hD.put hown.isMap (keyedS.key (keyOfS hl)) hp⟩, fun b hb => .inl hb, fun b hl hb => hgr.block b hl (fun e => by simp only [Option.some.injEq] at e; subst e; exact hb hF'.1)⟩)
  unfold Oper.wp
  simp only [execOp, hop, hm, hx, hy, Sem.run_bind, Sem.run_pure, Result.andThen_ok, hrun]
  exact hK' _ _ hk
end
/-- A block of cells is no map's block. -/
theorem HSx.mapOff {z : Value} {mb m : Nat} {f : List Int → Value} (h : HSx A w0 w Ps) (i : Nat) (hi : Ps[i]? = some (aM z mb m f)) {g j : Nat} {u : Value} (hc : w.cell? ⟨g, j, none⟩ = some u) : g ≠ mb := fun e => by
  subst e
  obtain ⟨F, ⟨_, D, m1, _, hown, _⟩, _⟩ := HSx.get h i hi
  obtain ⟨es, clock, hb, _⟩ := hown
  unfold World.cell? at hc
  simp [hb] at hc
end
end Go.Proofs.Ytipjomdldjbenaa
