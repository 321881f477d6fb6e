/- Cartan matrices: what words do to roots, coroots and weights; the signs of roots; exchange. Plain: no program. -/
import Derived.Test.YtallmimhfmaapaaGreatDoorJGCart
namespace Go.Proofs.YtallmimhfmaapaaGreatDoor.Cox
def dotN (f g : Nat → Int) : Nat → Int
 | 0 => 0
 | n + 1 => dotN f g n + f n * g n
structure Car (n : Nat) (c : Nat → Nat → Int) : Prop where
 diag : ∀ i, i < n → c i i = 2
 off : ∀ i j, i < n → j < n → i ≠ j → -3 ≤ c i j ∧ c i j ≤ 0
 zero : ∀ i j, i < n → j < n → c i j = 0 → c j i = 0
def tr (c : Nat → Nat → Int) : Nat → Nat → Int := fun i j => c j i
theorem Car.tr {n : Nat} {c : Nat → Nat → Int} (h : Car n c) : Car n (tr c) := ⟨h.diag, fun i j hi hj hn => h.off j i hj hi (fun e => hn e.symm), fun i j hi hj => h.zero j i hj hi⟩
def e (i : Nat) : Nat → Int := fun j => if j = i then 1 else 0
def sR (n : Nat) (c : Nat → Nat → Int) (i : Nat) (r : Nat → Int) : Nat → Int := fun j => r j - dotN (c i) r n * e i j
def sW (c : Nat → Nat → Int) (i : Nat) (m : Nat → Int) : Nat → Int := fun k => m k - m i * c k i
def aR (n : Nat) (c : Nat → Nat → Int) : List Nat → (Nat → Int) → (Nat → Int)
 | [], r => r
 | i :: w, r => sR n c i (aR n c w r)
def aW (c : Nat → Nat → Int) : List Nat → (Nat → Int) → (Nat → Int)
 | [], m => m
 | i :: w, m => sW c i (aW c w m)
def Lets (n : Nat) (w : List Nat) : Prop := ∀ i ∈ w, i < n
theorem dotN_add (f g h : Nat → Int) (a b : Int) : ∀ n, dotN f (fun k => a * g k + b * h k) n = a * dotN f g n + b * dotN f h n
 | 0 => by simp [dotN]
 | n + 1 => by
  simp only [dotN, dotN_add f g h a b n]
  rw [Int.mul_add, Int.mul_add, Int.mul_add, Int.mul_left_comm (f n) a, Int.mul_left_comm (f n) b]
  omega
theorem dotN_comm (f g : Nat → Int) : ∀ n, dotN f g n = dotN g f n
 | 0 => rfl
 | n + 1 => by simp only [dotN, dotN_comm f g n, Int.mul_comm]
theorem zGJ (f g h : Nat → Int) (b : Int) (n : Nat) : dotN f (fun k => g k - b * h k) n = dotN f g n - b * dotN f h n := by
 have := dotN_add f g h 1 (-b) n
 rw [show (fun k => g k - b * h k) = (fun k => 1 * g k + -b * h k) from funext fun k => by rw [Int.one_mul, Int.neg_mul]; omega, this, Int.one_mul, Int.neg_mul]
 omega
theorem zK0 (f : Nat → Int) (i : Nat) : ∀ n, n ≤ i → dotN f (e i) n = 0
 | 0, _ => rfl
 | n + 1, h => by
  simp only [dotN, zK0 f i n (by omega), e]
  rw [if_neg (by omega)]
  simp
theorem dotN_e (f : Nat → Int) (i : Nat) : ∀ n, i < n → dotN f (e i) n = f i
 | 0, h => by omega
 | n + 1, h => by
  simp only [dotN]
  by_cases hn : n = i
  ·subst hn
   rw [zK0 f n n (zRy _)]
   simp [e]
  ·rw [dotN_e f i n (by omega)]
   have : e i n = 0 := by unfold e; rw [if_neg hn]
   simp [this]
theorem dotN_congr {f g h : Nat → Int} : ∀ {n : Nat}, (∀ k, k < n → g k = h k) → dotN f g n = dotN f h n
 | 0, _ => rfl
 | n + 1, hh => by
  simp only [dotN, dotN_congr (n := n) (fun k hk => hh k (by omega)), hh n (by omega)]
section
variable {n : Nat} {c : Nat → Nat → Int}
theorem sR_two (h : Car n c) {i : Nat} (hi : i < n) (r : Nat → Int) : sR n c i (sR n c i r) = r := by
 funext k
 have : dotN (c i) (sR n c i r) n = - dotN (c i) r n := by
  unfold sR
  rw [zGJ, dotN_e _ _ _ hi, h.diag i hi]
  omega
 show sR n c i r k - dotN (c i) (sR n c i r) n * e i k = r k
 rw [this, Int.neg_mul]
 simp only [sR]
 omega
theorem sW_two (h : Car n c) {i : Nat} (hi : i < n) (m : Nat → Int) : sW c i (sW c i m) = m := by
 funext k
 simp only [sW, h.diag i hi]
 rw [show m i - m i * 2 = - m i by omega, Int.neg_mul]
 omega
theorem wt_adj {i : Nat} (x m : Nat → Int) (hi : i < n) : dotN (sR n (tr c) i x) m n = dotN x (sW c i m) n := by
 have h1 : dotN (sR n (tr c) i x) m n = dotN x m n - dotN (tr c i) x n * m i := by
  rw [dotN_comm]
  unfold sR
  rw [zGJ, dotN_comm, dotN_e _ _ _ hi]
 have h2 : dotN x (sW c i m) n = dotN x m n - m i * dotN x (fun k => c k i) n := by
  unfold sW
  rw [zGJ]
 rw [h1, h2, Int.mul_comm, dotN_comm x (fun k => c k i)]
 rfl
def wt (n : Nat) (c : Nat → Nat → Int) (r : Nat → Int) : Nat → Int := fun k => dotN (c k) r n
theorem dotN_scale (f g : Nat → Int) (a : Int) (n : Nat) : dotN f (fun k => a * g k) n = a * dotN f g n := by
 have := dotN_add f g g a 0 n
 simpa using this
end
end Go.Proofs.YtallmimhfmaapaaGreatDoor.Cox
namespace Go.Proofs.YtallmimhfmaapaaGreatDoor.Cox
structure St where
 a : Int
 b : Int
 a' : Int
 b' : Int
deriving DecidableEq
def Coh4 (x : St) : Prop := (0 ≤ x.a ∧ 0 ≤ x.b ∧ 0 ≤ x.a' ∧ 0 ≤ x.b') ∨ (x.a ≤ 0 ∧ x.b ≤ 0 ∧ x.a' ≤ 0 ∧ x.b' ≤ 0)
instance (x : St) : Decidable (Coh4 x) := by unfold Coh4; infer_instance
end Go.Proofs.YtallmimhfmaapaaGreatDoor.Cox
namespace Go.Proofs.YtallmimhfmaapaaGreatDoor.Cox
section
variable {n : Nat} {c : Nat → Nat → Int}
def one : Nat → Int := fun _ => 1
theorem dotN_zero {x f : Nat → Int} {n : Nat} (h : ∀ k, k < n → x k = 0) : dotN x f n = 0 := by
 rw [dotN_comm, dotN_congr (h := fun k => 0 * 0) (fun k hk => by rw [h k hk]; rfl)]
 have := dotN_add f (fun _ => 0) (fun _ => 0) 0 0 n
 simpa using this
theorem zJF {w : List Nat} (h : Lets n w) : Lets n w.reverse := fun i hi => h i (by simpa using hi)
end
end Go.Proofs.YtallmimhfmaapaaGreatDoor.Cox
namespace Go.Proofs.YtallmimhfmaapaaGreatDoor
open Go.RowKit
set_option maxRecDepth 20000
def zAO : List Int → Option Nat
 | [] => none
 | x :: xs => if x < 0 then some 0 else (zAO xs).map (· + 1)
theorem zD8 : ∀ {v : List Int} {i : Nat}, zAO v = some i → ∃ x, v[i]? = some x ∧ x < 0 ∧ ∀ j, j < i → ∀ y, v[j]? = some y → 0 ≤ y
 | [], _, h => by simp [zAO] at h
 | x :: xs, i, h => by
  unfold zAO at h
  by_cases hx : x < 0
  ·simp [hx] at h; subst h; exact ⟨x, rfl, hx, fun j hj => by omega⟩
  ·simp [hx] at h
   obtain ⟨k, hk, rfl⟩ := h
   obtain ⟨y, h1, h2, h3⟩ := zD8 hk
   refine ⟨y, by simpa using h1, h2, fun j hj z hz => ?_⟩
   cases j with
   | zero => simp at hz; omega
   | succ j => exact h3 j (by omega) z (by simpa using hz)
theorem zDx {v : List Int} {i : Nat} (h : zAO v = some i) : i < v.length := by
 obtain ⟨x, h1, _⟩ := zD8 h
 exact (zRw h1).1
def nf (c : List (List Int)) : Nat → List Int → List Int
 | 0, _ => []
 |f + 1, v => match zAO v with
  | none => []
  | some i => (i : Int) :: nf c f (refl c i v)
theorem CartanP.car {c : List (List Int)} (h : CartanP c) : Cox.Car c.length (ent c) := by
 refine ⟨fun i hi => ?_, fun i j hi hj hn => ?_, fun i j hi hj h0 => ?_⟩
 ·have := h.ok i i hi hi
  simpa [okE] using this
 ·have := h.ok i j hi hj
  simp [okE, hn] at this
  exact this.1
 ·by_cases hn : i = j
  ·subst hn; exact h0
  ·have := h.ok i j hi hj
   simp [okE, hn] at this
   have := this.2
   rw [h0] at this
   simpa using this
theorem zLj {x : Int} (h1 : -9223372036854775808 ≤ x) (h2 : x ≤ 9223372036854775807) : wrap64 x = x := by
 unfold wrap64
 omega
theorem zOx {c : List (List Int)} {i : Nat} {v : List Int} {k : Nat} (hk : k < v.length) : num (refl c i v) k = wrap64 (num v k - wrap64 (num v i * ent c k i)) := by
 have key : ∀ (x : Int) (l : List Int) (o k : Nat), k < l.length → num (zAk c i x l o) k = wrap64 (num l k - wrap64 (x * ent c (o + k) i)) := by
  intro x l
  induction l with
  | nil => intro o k hk; simp at hk
  | cons y ys ih =>
   intro o k hk
   cases k with
   | zero => simp [zAk, num]
   | succ k =>
    have := ih (o + 1) k (by simpa using hk)
    simp only [num, zAk, List.getElem?_cons_succ] at this ⊢
    rw [this, show o + 1 + k = o + (k + 1) by omega]
 have := key (num v i) v 0 k hk
 rw [Nat.zero_add] at this
 exact this
theorem zJW {c : List (List Int)} {v : List Int} (e : zAO v = none) : nf c 30 v = [] := by simp [nf, e]
section
variable {w : World} {ops : Array Oper} {rest : List Oper} {o : Oper} {a : Act} {Q : Exit → Act → World → Prop}
theorem FI.of_rowB {w' : World} {B : Nat} {v : Value} {l : List Int} {n : Nat} {xs : List Value} (h : w'.ownsRow B 3 1 v n xs) (hn : n = l.length) (hx : xs = l.map (Value.int .i64)) : FI (Bt B w'.heap.size) w' v l := by
 subst hn
 subst hx
 refine ⟨zCX h (Nat.zero_le _), fun b hb => ?_⟩
 obtain ⟨h1, h2⟩ := h.lt b hb
 exact ⟨h1, h2⟩
theorem zKm {S : Nat → Prop} {B : Nat} (hgd : o.guard = none) (s x : Operand)
  (ho : o.op = .call { callee := .builtin .append, args := #[s, x], argTypes := #[23, 23] })
  {v : Value} {l l2 : List Int} (hs : a.eval s = v) (hf : FI (Bt B w.heap.size) w v l) (hB : B ≤ w.heap.size)
  {sa : Option Addr} {m c : Nat} (hx : a.eval x = .slice sa m c) (hr : RI S w (.slice sa m c) l2) (hlen : l.length + l2.length ≤ 67108864)
  (h : ∀ v' w', FI (Bt B w'.heap.size) w' v' (l ++ l2) → Below B w w' → w.grownBy w' v.ownBlock → wpList Tryz.prog ops Q rest (a.put o.dst v') w') : wpList Tryz.prog ops Q (o :: rest) a w := by
 obtain ⟨i0, hi, hz0, hz1, hz2⟩ := info_parts zBO
 obtain ⟨hown, hS⟩ := hf
 obtain ⟨a', cap', hv, hcap, hcase⟩ := hr
 simp only [Value.slice.injEq] at hv
 obtain ⟨rfl, rfl, rfl⟩ := hv
 have hown' : w.ownsRow B 3 1 v l.length (l.map (Value.int .i64)) := by
  refine ⟨hown.1, ?_⟩
  rcases hown.2 with h | ⟨g, cap, cur, hv, _, r⟩
  ·exact .inl h
  ·exact .inr ⟨g, cap, cur, hv, (hS g (by rw [hv]; rfl)).1, r⟩
 have fin : ∀ v' w', w'.ownsRow B 3 1 v' (l.length + l2.length) (l.map (Value.int .i64) ++ l2.map (Value.int .i64)) → w.grownBy w' v.ownBlock → wpList Tryz.prog ops Q rest (a.put o.dst v') w' := by
  intro v' w' h1 h2
  have hb' : Below B w w' := (Below.refl B w).grown h2 hB (fun k hk => (hS k hk).1)
  exact h v' w' (FI.of_rowB h1 (by simp) (by simp)) hb' h2
 cases sa with
 | none =>
  have h0 : l2 = [] := by
   rcases hcase with h | ⟨b, o, ha, _⟩
   ·exact h
   ·cases ha
  subst h0
  have hrun := zBz (w := w) B 23 o.type 3 i0 1 Tryz.underlying23 hi v l.length c _ hown'
  have fin' := fin v w (by simpa using hown') (World.grownBy.refl _ _)
  clear fin h hS hown
  refine wpList_plain hgd fun K hK => ?_
  unfold Oper.wp
  rw [show ([] : List Int).length = 0 from rfl] at hx
  simp [execOp, ho, resolve, invoke, builtin, hs, hx, hrun, Result.andThen]
  exact hK _ _ fin'
 | some ad =>
  refine wpList_append_own w hgd s x 23 ho B 3 i0 (.int .i64 0) 1 8 Tryz.underlying23 hi hz0 hz1 hz2 rfl (by decide) v l.length (l.map (Value.int .i64)) hs hown' ad l2.length c (l2.map (Value.int .i64)) hx (by simp) ?_ ?_ ?_ ?_ hB (fun v' w' h1 h2 _ => fin v' w' h1 h2)
  ·intro j u hj
   rcases hcase with h | ⟨b, o, ha, _, _, hc⟩
   ·subst h; simp at hj
   ·simp only [Option.some.injEq] at ha
    subst ha
    rw [List.getElem?_map] at hj
    obtain ⟨x, hx1, hx2⟩ := Option.map_eq_some_iff.1 hj
    obtain ⟨r, h1, h2⟩ := hc j x hx1
    have hadd : (⟨b, o, none⟩ : Addr).add j = ⟨b, o + j, none⟩ := by unfold Addr.add; split <;> simp_all
    rw [hadd, h1, ← hx2]
    exact congrArg some h2
  ·intro u hu
   obtain ⟨x, _, rfl⟩ := List.mem_map.1 hu
   rfl
  ·unfold maxLen; omega
  ·omega
end
end Go.Proofs.YtallmimhfmaapaaGreatDoor
namespace Go.Proofs.YtallmimhfmaapaaGreatDoor
open Go.RowKit
set_option maxRecDepth 20000
set_option maxHeartbeats 8000000
theorem zFy {v : List Int} {k : Nat} {x : Int} (h : v[k]? = some x) (hx : ¬ x < 0) : zAO (v.drop k) = (zAO (v.drop (k + 1))).map (· + 1) := by
 rw [zAE h]; simp [zAO, hx]
theorem zGq {v : List Int} {k : Nat} {x : Int} (h : v[k]? = some x) (hx : x < 0) : zAO (v.drop k) = some 0 := by
 rw [zAE h]; simp [zAO, hx]
def lenV : Value → Nat
 | .slice _ n _ => n
 | _ => 0
def fd (v : List Int) : Int := match zAO v with
 | none => -1
 | some i => i
theorem zGL {S : Nat → Prop} {v : Value} {l : List Int} {w : World} (h : RI S w v l) (hl : l.length ≤ 16777216) :
  Calls Tryz.prog 110 #[v] w fun e w' => e = .returned (.int .i64 (fd l)) ∧ w' = w := by
 obtain ⟨a, cap, rfl⟩ := h.form
 have HR : Hid ((zAO (l.drop 0)).map (· + 0) = zAO l) := zRt (by simp)
 have HE : Hid (zAO (l.drop l.length) = none) := zRt (by simp [zAO])
 have HF : Hid (∀ i, zAO l = some i → fd l = i) := zRt (by intro i h; simp [fd, h])
 have HG : Hid (zAO l = none → fd l = -1) := zRt (by intro h; simp [fd, h])
 generalize fd l = res at *
 generalize hn : l.length = n at *
 have HN := zRt hn
 clear hn
 go_enter Tryz.func110, Tryz.ntmps110
 go_wp2_with fail
 go_loop [7] (fun j => ∃ (k : Nat), k ≤ n ∧ j = .int .i64 k ∧ Hid ((zAO (l.drop k)).map (· + k) = zAO l)) (fun j => n - (intOf j).toNat)
 case atStart => exact ⟨0, Nat.zero_le _, rfl, HR⟩
 case round =>
  obtain ⟨k, hk, rfl, HK⟩ := hrel
  by_cases hlt : k < n
  ·obtain ⟨b, o, x, rfl, hc, hx⟩ := h.at hlt
   by_cases hx0 : x < 0
   ·have e0 : Hid (res = (k : Int)) := zRt (HF.out k (by rw [← HK.out, zGq hx.out hx0]; simp))
    go_wp2_with fail
    go_ret
    exact ⟨zAV e0.out.symm, rfl⟩
   ·have HK2 : Hid ((zAO (l.drop (k + 1))).map (· + (k + 1)) = zAO l) := zRt (by
     rw [← HK.out, zFy hx.out hx0, Option.map_map]
     congr 1
     funext j
     simp only [Function.comp_apply]
     omega)
    go_wp2_with fail
    go_round
    case rel => exact ⟨k + 1, by omega, by go_num, HK2⟩
    case measure => simp [intOf]; omega
  ·have hkn : k = n := by omega
   have e0 : Hid (res = -1) := zRt (HG.out (by rw [← HK.out, hkn, HE.out]; rfl))
   go_wp2_with fail
   go_ret
   exact ⟨zAV e0.out.symm, rfl⟩
end Go.Proofs.YtallmimhfmaapaaGreatDoor
