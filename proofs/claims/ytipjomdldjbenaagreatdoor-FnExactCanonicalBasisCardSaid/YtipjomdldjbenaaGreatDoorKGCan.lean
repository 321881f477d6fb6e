/- The sum of the polynomials below an element as an element of the algebra: by the reference. Condition: sizes up to 2^24. The sum of all polynomials below an element as terms, by the program. Condition: sizes up to 2^24. -/
import Derived.Test.YtipjomdldjbenaaGreatDoorKGKzB
import Derived.Test.YtipjomdldjbenaaGreatDoorKGColl
import Derived.Test.YtipjomdldjbenaaGreatDoorKPutS
import Derived.Test.YtipjomdldjbenaaGreatDoorKGKzE
/-! The sum of the polynomials below an element as an element of the algebra: by the reference. Condition: sizes up to 2^24. -/
namespace Go.Proofs.YtipjomdldjbenaaGreatDoor
open Go.RowKit
set_option maxRecDepth 20000

theorem put_last {w p : List Int} : ∀ {h acc : List Trm}, (∀ t ∈ h, 0 < cmpW w t.1) → h.foldl (stepP w p) (acc, false) = (acc ++ h, false)
  | [], acc, _ => by simp
  | t :: h, acc, hh => by
    have h1 := hh t (List.mem_cons_self ..)
    rw [List.foldl_cons]
    have : stepP w p (acc, false) t = (acc ++ [t], false) := by unfold stepP; rw [if_neg (by omega), if_neg (fun h => by omega)]
    rw [this, put_last (fun s hs => hh s (List.mem_cons_of_mem _ hs)), List.append_assoc]; rfl
theorem put_end {w p : List Int} {h : List Trm} (hh : ∀ t ∈ h, 0 < cmpW w t.1) : endP w p (putF w p h) = h ++ one1 w p := by
  unfold putF
  rw [put_last hh]
  simp [endP]
/-- The terms of the elements before the n-th. -/
def caL (E : List (List Int)) (P : Nat → List Int) : Nat → List Trm
  | 0 => []
  | n + 1 => caL E P n ++ one1 (getE E n) (P n)
theorem caL_mem {E : List (List Int)} {P : Nat → List Int} : ∀ {n : Nat} {t : Trm}, t ∈ caL E P n → ∃ u, u < n ∧ t = (getE E u, P u)
  | n + 1, t, h => by
    rcases List.mem_append.1 h with h | h
    · obtain ⟨u, h1, h2⟩ := caL_mem h
      exact ⟨u, by omega, h2⟩
    · unfold one1 at h
      split at h
      · simp at h
      · rw [List.mem_singleton] at h; exact ⟨n, by omega, h⟩
theorem caL_len {E : List (List Int)} {P : Nat → List Int} : ∀ n, (caL E P n).length ≤ n
  | 0 => by simp [caL]
  | n + 1 => by
    have := caL_len (E := E) (P := P) n
    have := one1_len (getE E n) (P n)
    show (caL E P n ++ one1 (getE E n) (P n)).length ≤ _
    rw [List.length_append]; omega
theorem caL_step {E : List (List Int)} (hs : SrtE E) {P : Nat → List Int} {n : Nat} (hn : n < E.length) : endP (getE E n) (P n) (putF (getE E n) (P n) (caL E P n)) = caL E P (n + 1) := by
  rw [put_end (fun t ht => ?_)]
  · rfl
  · obtain ⟨u, hu, rfl⟩ := caL_mem ht
    have h1 := List.pairwise_iff_getElem.1 hs u n (by omega) hn hu
    show 0 < cmpW (getE E n) (getE E u)
    rw [getE_at (List.getElem?_eq_getElem (show u < E.length by omega)), getE_at (List.getElem?_eq_getElem hn), cw_swap]
    omega
def caV (c : List (List Int)) (v : List Int) : List Trm := if klOk c v then caL (elL c) (lookR (klT c) (ixN c v)) (elL c).length else []
theorem freshT {w w1 : World} (hw : w1 = w.alloc (.cells #[] 73)) : FT (New w w1) w1 (.slice (some ⟨w.heap.size, 0, none⟩) 0 0) [] ∧ Below w.heap.size w w1 := by
  subst hw
  exact ⟨FC.of_row (w := w) (World.ownsRow_lit (base := w.heap.size) (e := 73) (size := 2) w #[] 0 (Nat.le_refl _) (by unfold maxLen; omega) rfl) (Nat.le_refl _) (by simp [flatT]) (fun j r x hr hx => by simp at hr), (Below.refl _ _).alloc (Nat.le_refl _) _⟩
set_option maxHeartbeats 4000000 in
theorem canSpec {S S' : Nat → Prop} {x z : Value} {c : List (List Int)} {v : List Int} {w : World} (h : RII S w x c) (h2 : RI S' w z v) (hl : total c ≤ 16777216) (hl2 : v.length ≤ 16777216) :
    Calls Tryz.prog 39 #[x, z] w fun e w' => ∃ r, e = .returned (.tuple #[r, .bool (klOk c v)]) ∧ FT (New w w') w' r (caV c v) ∧ Below w.heap.size w w' := by
  have mixed : Tryz.prog.follows .mixedOrders = true := by kernel_rfl
  have hrow := klRowSpec h h2 hl hl2
  have HRD := Lib.hid (fun (wv : World) (hb : Below w.heap.size w wv) => readySpec (h.below hb) hl)
  obtain ⟨aa, ca, rfl⟩ := h.form
  obtain ⟨az, cz, rfl⟩ := h2.form
  cases hok : klOk c v with
  | false =>
    have HR : Hid (caV c v = []) := Lib.hid (by unfold caV; rw [hok]; rfl)
    rw [hok] at hrow
    clear hok h h2
    go_enter Tryz.func39, Tryz.ntmps39
    go_wp2_with fail
    refine hrow.mono ?_
    rintro e w1 ⟨r1, rfl, f1, b1⟩
    obtain ⟨hf, hb⟩ := freshT (w := w1) rfl
    clear hrow f1
    go_wp2_with fail
    go_ret2
    exact ⟨_, rfl, by rw [HR.out]; exact hf.mono (fun b hb => ⟨Nat.le_trans b1.size hb.1, hb.2⟩), Keeps.step b1 hb⟩
  | true =>
    obtain ⟨hk, _, K, _⟩ := klOk_parts hok
    have hsrt := (el_ok K.fin (by have := K.sz; omega)).1
    have HR : Hid (caV c v = caL (elL c) (lookR (klT c) (ixN c v)) (elL c).length) := Lib.hid (by unfold caV; rw [hok, if_pos rfl])
    have hke : kE c = elL c := by unfold kE; rw [hk]; rfl
    have HKL : Hid (∀ u, u < (elL c).length → (klR c v)[u]? = some (lookR (klT c) (ixN c v) u)) := Lib.hid (fun u hu => by unfold klR; rw [hok, if_pos rfl, List.getElem?_map, List.getElem?_range hu]; rfl)
    have HKN : Hid ((klR c v).length = (elL c).length) := Lib.hid (by unfold klR; rw [hok, if_pos rfl]; simp)
    have HEL : Hid (∀ u, u < (elL c).length → (elL c)[u]? = some (getE (elL c) u) ∧ (getE (elL c) u).length ≤ 24) := Lib.hid (fun u hu => by obtain ⟨y, h1, h2, _, h4⟩ := K.at hu; rw [getE_at h1]; exact ⟨h1, h4⟩)
    have HPL : Hid (∀ u, (lookR (klT c) (ixN c v) u).length ≤ 25) := Lib.hid (fun u => by
      have h3 : (lookR (klT c) (ixN c v) u).length ≤ lenE (elL c) (ixN c v) + 1 := (K.rows _ (Nat.le_refl _)).len (ixN c v) u
      have h4 := K.tab.deep (ixN c v)
      omega)
    have HPI : Hid (∀ u, InI (lookR (klT c) (ixN c v) u)) := Lib.hid (fun u => (K.rows _ (Nat.le_refl _)).ini (ixN c v) u)
    have HST := Lib.hid (fun (n : Nat) (hn : n < (elL c).length) => caL_step hsrt (P := lookR (klT c) (ixN c v)) hn)
    have hN24 := K.few
    have hpos := K.pos
    rw [hok] at hrow
    rw [hk, hke] at HRD
    generalize caV c v = res at *
    generalize klR c v = RR at *
    generalize lookR (klT c) (ixN c v) = P at *
    generalize elL c = E at *
    clear hok h h2 K hk hke hsrt
    generalize hN : E.length = N at *
    have HN := Lib.hid hN
    clear hN
    have HTS : Hid (∀ n, n ≤ N → ∀ t ∈ caL E P n, t.1.length ≤ 1048576 ∧ t.2.length ≤ 1048576 ∧ InI t.2) := Lib.hid (fun n hn t ht => by
      obtain ⟨u, hu, rfl⟩ := caL_mem ht
      exact ⟨by have := (HEL.out u (by omega)).2; show (getE E u).length ≤ _; omega, by have := HPL.out u; show (P u).length ≤ _; omega, HPI.out u⟩)
    go_enter Tryz.func39, Tryz.ntmps39
    go_wp2_with fail
    refine hrow.mono ?_
    rintro e w1 ⟨r1, rfl, f1, b1⟩
    have hrd := HRD.out w1 b1
    clear hrow HRD
    go_wp2_with fail
    refine hrd.mono ?_
    rintro e w2 ⟨r2, rfl, f2, b2⟩
    have hb2 := Keeps.step b1 b2
    have f12 := f1.below b2
    obtain ⟨bE, oE, cE, rfl⟩ := RL.head f2.any (by rw [HN.out]; exact hpos)
    obtain ⟨bR, oR, cR, rfl⟩ := RL.head f12 (by rw [HKN.out]; exact hpos)
    have HRR := Lib.hid (fun (wv : World) (hb : Below w2.heap.size w2 wv) => f12.below hb)
    have HEE := Lib.hid (fun (wv : World) (hb : Below w2.heap.size w2 wv) => f2.any.below hb)
    rw [HN.out, HKN.out]
    obtain ⟨w3, hw3⟩ : ∃ w3, w3 = w2.alloc (.cells #[] 73) := ⟨_, rfl⟩
    obtain ⟨hf3, hb3⟩ := freshT hw3
    have hf3 : FT (New w2 w3) w3 (.slice (some ⟨w2.heap.size, 0, none⟩) 0 0) (caL E P 0) := hf3
    have HW3 := Lib.hid hw3
    clear hrd f1 f2 f12 b1 b2 hw3
    go_wp2_with fail
    rw [← HW3.out]
    go_loopw [10, 11] (fun pp uu wr => ∃ (u : Nat) (vp : Value), vp = pp ∧ u ≤ N ∧ uu = .int .i64 u ∧ FT (New w2 wr) wr vp (caL E P u) ∧ Below w2.heap.size w2 wr) (fun _ uu _ => N - (intOf uu).toNat)
    case atStart => exact ⟨0, _, rfl, Nat.zero_le _, rfl, hf3, hb3⟩
    case round =>
      clear hf3 hb3
      obtain ⟨u, vp, rfl, hu, rfl, hf, hb⟩ := hrel
      by_cases huN : u < N
      · have i1 : (u : Int) < (N : Int) := by omega
        have i2 : (0 : Int) ≤ (u : Int) := by omega
        have HS1 := Lib.hid (HST.out u huN)
        have hbd : Below w2.heap.size w2 wr.drew := hb.drew
        have hfr := (FT.any hf).below (Below.refl _ wr).drew
        obtain ⟨a1, c1, hq1, hp1⟩ := RII.get (HRR.out wr.drew hbd) (HKL.out u huN)
        obtain ⟨a2, c2, he1, hp2⟩ := RII.get (HEE.out wr.drew hbd) (HEL.out u huN).1
        have hpl := HPL.out u
        have hgl := (HEL.out u huN).2
        have hput := putSpec hfr hp2 hp1 (by have := caL_len (E := E) (P := P) u; omega) (HTS.out u (by omega)) (by omega) (by omega) (HPI.out u)
        rw [HS1.out] at hput
        clear HS1 hp1 hp2 hf hfr
        generalize hpn : (P u).length = pn at *
        generalize hgn : (getE E u).length = gn at *
        clear hpn hgn
        go_wp2_with fail
        go_region_held3 (fun w' => w'.cell? ⟨bR, oR + u, none⟩ = some (.slice a1 pn c1) ∧ w'.cell? ⟨bE, oE + u, none⟩ = some (.slice a2 gn c2)) (first | go_keep | exact ⟨q1, q2⟩ | exact ⟨hq1, he1⟩) (first
          | (go_at_call 78; refine hput.mono ?_; rintro e w4 ⟨r4, rfl, f4, b4⟩; have q1 := cell_belowS b4 hq1; have q2 := cell_belowS b4 he1))
        have hf4 : FT (New w2 w4) w4 r4 (caL E P (u + 1)) := f4.mono (fun b hb' => ⟨Nat.le_trans hbd.size hb'.1, hb'.2⟩)
        have hb4 := Keeps.step hbd b4
        clear hput hq1 he1 q1 q2 f4 b4 hbd hb
        go_wp2_with fail
        go_roundw
        case rel => exact ⟨u + 1, r4, rfl, by omega, by go_num, hf4, hb4⟩
        case measure => simp [intOf]; omega
      · have i1 : ¬ (u : Int) < (N : Int) := by omega
        have hue : u = N := by omega
        rw [hue, ← HR.out] at hf
        have hfi := hf.mono (S' := New w wr) (fun b hb => ⟨Nat.le_trans hb2.size hb.1, hb.2⟩)
        have hbl := Keeps.step hb2 hb
        clear hue hf
        go_wp2_with fail
        go_ret2
        exact ⟨_, rfl, hfi, hbl⟩
end Go.Proofs.YtipjomdldjbenaaGreatDoor

/-! The sum of all polynomials below an element as terms, by the program. Condition: sizes up to 2^24. -/
namespace Go.Proofs.YtipjomdldjbenaaGreatDoor
open Go.RowKit
set_option maxRecDepth 20000

/-- Which words and polynomials make up the terms, in their order. -/
def idK (P : Nat → List Int) : Nat → List (Nat × Bool)
  | 0 => []
  | k + 1 => idK P k ++ (if P k = [] then [] else [(k, false), (k, true)])
theorem idK_lt {P : Nat → List Int} : ∀ {k : Nat} {x : Nat × Bool}, x ∈ idK P k → x.1 < k
  | k + 1, x, h => by
    rcases List.mem_append.1 h with h | h
    · have := idK_lt h; omega
    · split at h
      · simp at h
      · simp at h
        rcases h with rfl | rfl <;> simp
theorem idK_nodup (P : Nat → List Int) : ∀ k, (idK P k).Nodup
  | 0 => List.nodup_nil
  | k + 1 => by
    unfold idK
    rw [List.nodup_append]
    refine ⟨idK_nodup P k, ?_, fun a ha b hb e => ?_⟩
    · split <;> simp
    · subst e
      have h1 := idK_lt ha
      split at hb
      · simp at hb
      · simp at hb
        rcases hb with rfl | rfl <;> simp at h1
theorem flatT_app2 : ∀ (L M : List Trm), flatT (L ++ M) = flatT L ++ flatT M
  | [], M => rfl
  | x :: L, M => by
    show x.1 :: x.2 :: flatT (L ++ M) = _
    rw [flatT_app2 L M]; rfl
theorem idK_flat (E : List (List Int)) (P : Nat → List Int) : ∀ k, (idK P k).map (fun x => if x.2 then P x.1 else getE E x.1) = flatT (caL E P k)
  | 0 => rfl
  | k + 1 => by
    have e : flatT (caL E P (k + 1)) = flatT (caL E P k) ++ flatT (one1 (getE E k) (P k)) := by
      show flatT (caL E P k ++ one1 (getE E k) (P k)) = _
      exact flatT_app2 _ _
    unfold idK
    rw [List.map_append, idK_flat E P k, e]
    congr 1
    unfold one1
    by_cases hp : P k = []
    · rw [if_pos hp, if_pos hp]; rfl
    · rw [if_neg hp, if_neg hp]; rfl
theorem idK_len (E : List (List Int)) (P : Nat → List Int) (k : Nat) : (idK P k).length = (caL E P k).length * 2 := by
  have h1 := congrArg List.length (idK_flat E P k)
  rw [List.length_map, flatT_length] at h1
  omega
/-- A row of terms known cell by cell. -/
abbrev aT2 (v : Value) (n : Nat) (vs : List Value) : Thing := fun F w => w.ownsRow 0 73 2 v n vs ∧ ∀ b, v.ownBlock = some b → F b
theorem st_T2 (v : Value) (n : Nat) (vs : List Value) : Steady (aT2 v n vs) := fun _ _ _ h k => ⟨own_keep h.1 fun b hb => k b (h.2 b hb) ((h.1.lt b hb).2), h.2⟩
theorem HSx.freshT2 {A : Nat → Prop} {w0 w w1 : World} {Ps : List Thing} (h : HSx A w0 w Ps) (hw : w1 = w.alloc (.cells #[] 73)) : HSx A w0 w1 (Ps ++ [aT2 (.slice (some ⟨w.heap.size, 0, none⟩) 0 0) 0 []]) := by
  subst hw
  refine h.add ((Below.refl _ w).alloc (Nat.le_refl _) _) (st_T2 _ _ _) (F := fun b => b = w.heap.size) ⟨?_, fun b hb => by simpa [Value.ownBlock] using hb.symm⟩ (fun b hb => by subst hb; exact ⟨Nat.le_refl _, by simp⟩)
  exact World.ownsRow_lit (base := 0) (e := 73) (size := 2) w #[] 0 (Nat.zero_le _) (by unfold maxLen; omega) rfl
section
variable {w : World} {ops : Array Oper} {rest : List Oper} {o : Oper} {a : Act} {Q : Exit → Act → World → Prop}
theorem wpList_hsT2 {W : World} {Ps : List Thing} (hgd : o.guard = none) (s x : Operand)
    (ho : o.op = .call { callee := .builtin .append, args := #[s, x], argTypes := #[46, 46] })
    {v : Value} {n : Nat} {vs : List Value} {y1 y2 : Value} (hs : a.eval s = v) (h : HS W w Ps) (i : Nat) (hi : Ps[i]? = some (aT2 v n vs))
    {H : Nat} (hx : a.eval x = .slice (some ⟨H, 0, none⟩) 1 1) (hc0 : w.cell? ⟨H, 0, none⟩ = some y1) (hc1 : w.cell? ⟨H, 1, none⟩ = some y2) (o1 : y1.oneCell' = true) (o2 : y2.oneCell' = true) (hlen : n + 1 ≤ 67108864)
    (k : ∀ v' w', HS W w' (Ps.set i (aT2 v' (n + 1) (vs ++ [y1, y2]))) → wpList Tryz.prog ops Q rest (a.put o.dst v') w') : wpList Tryz.prog ops Q (o :: rest) a w := by
  refine wpList_plain hgd fun _ hK => ?_
  obtain ⟨F0, hf, hN⟩ := HSx.get h i hi
  refine wp_appG s x Tryz.underlying46 infoTerm rfl (by decide) ho (base := 0) (news := [y1, y2]) hs hf.1 (Nat.zero_le _) hx rfl ?_ (by intro u hu; simp at hu; rcases hu with rfl | rfl <;> assumption) (by omega) (by decide) ?_
  · intro j u hj
    match j, hj with
    | 0, hj => simp at hj; subst hj; simpa [Addr.add] using hc0
    | 1, hj => simp at hj; subst hj; simpa [Addr.add] using hc1
  · intro v' w' h2 h3 h4
    refine hK _ _ (k v' w' (h.upd i hi (st_T2 _ _ _) (below_grownO h.bl h3 (fun b hb => ((hN b (hf.2 b hb)).1.elim (fun h => h.elim) id))) h3.size fun F hF _ => ⟨fun b => v'.ownBlock = some b, ⟨h2, fun b hb => hb⟩, fun b hb => ?_, fun b hl hb => h3.block b hl (fun e => hb (hF.2 b e.symm))⟩))
    rcases h4 b hb with e | e
    · exact .inl (hF.2 b e)
    · exact .inr ⟨e, (h2.lt b hb).2⟩
end
/-- The terms whose words and polynomials lie in two pools of rows. -/
theorem HS.terms {w0 w : World} {Zr Zw : Zl} {v : Value} {E : List (List Int)} {P : Nat → List Int} {k : Nat} (h : HS w0 w [aRs Zr, aRs Zw, aT2 v (caL E P k).length ((idK P k).map fun x => if x.2 then ((Zr[x.1]?).map Prod.fst).getD (.slice none 0 0) else ((Zw[x.1]?).map Prod.fst).getD (.slice none 0 0))])
    (hr : ∀ u, u < k → ∃ r, Zr[u]? = some (r, P u)) (hw : ∀ u, u < k → ∃ r, Zw[u]? = some (r, getE E u)) : FT (New w0 w) w v (caL E P k) := by
  obtain ⟨_, Fs, h1, h2⟩ := h
  obtain ⟨_, pr, nr⟩ := h1 0 _ rfl
  obtain ⟨_, pw, nw⟩ := h1 1 _ rfl
  obtain ⟨_, pt, nt⟩ := h1 2 _ rfl
  have hin : ∀ {j : Nat} {x : Nat × Bool}, (idK P k)[j]? = some x → x.1 < k := fun h => idK_lt (List.mem_of_getElem? h)
  refine ⟨_, pt.1, ?_, fun b hb => ⟨((nt b (pt.2 b hb)).1.elim (fun h => h.elim) id), (nt b (pt.2 b hb)).2⟩, fun j r y hj hy => ?_, fun i j r r' b hij hi hj hb hb' => ?_⟩
  · rw [List.length_map]
    simp only [itRows, List.length_map]
    rw [flatT_length, idK_len]
  · rw [List.getElem?_map] at hj
    obtain ⟨x, hx, rfl⟩ := Option.map_eq_some_iff.1 hj
    rw [← idK_flat] at hy
    simp only [itRows, List.getElem?_map, hx, Option.map_some, Option.some.injEq] at hy
    subst hy
    have hlt := hin hx
    by_cases hb : x.2 = true
    · obtain ⟨r, e⟩ := hr x.1 hlt
      rw [hb, e]
      exact FI.mono (pr.1 _ (List.mem_of_getElem? e)) (fun b hb => ⟨((nr b hb).1.elim (fun h => h.elim) id), (nr b hb).2⟩)
    · obtain ⟨r, e⟩ := hw x.1 hlt
      rw [Bool.not_eq_true] at hb
      rw [hb, e]
      exact FI.mono (pw.1 _ (List.mem_of_getElem? e)) (fun b hb => ⟨((nw b hb).1.elim (fun h => h.elim) id), (nw b hb).2⟩)
  · rw [List.getElem?_map] at hi hj
    obtain ⟨x, hx, rfl⟩ := Option.map_eq_some_iff.1 hi
    obtain ⟨y, hy, rfl⟩ := Option.map_eq_some_iff.1 hj
    have hne : x ≠ y := fun e => by
      subst e
      have hl1 := (List.getElem?_eq_some_iff.1 hx).1
      exact hij ((List.getElem?_inj hl1 (idK_nodup P k)).1 (by rw [hx, hy]))
    have hlx := hin hx
    have hly := hin hy
    obtain ⟨rx, ex⟩ := hr x.1 hlx
    obtain ⟨ry, ey⟩ := hr y.1 hly
    obtain ⟨wx, fx⟩ := hw x.1 hlx
    obtain ⟨wy, fy⟩ := hw y.1 hly
    have apart : ∀ {Z : Zl} {F : Nat → Prop}, aRs Z F w → ∀ {m n : Nat} {p q : Value × List Int}, m ≠ n → Z[m]? = some p → Z[n]? = some q → ∀ b, p.1.ownBlock = some b → q.1.ownBlock ≠ some b := fun {Z F} hZ {m n p q} hmn hm hn b hb hb' => by
      have hp := List.pairwise_iff_getElem.1 hZ.2
      obtain ⟨lm, em⟩ := List.getElem?_eq_some_iff.1 hm
      obtain ⟨ln, en⟩ := List.getElem?_eq_some_iff.1 hn
      rcases Nat.lt_or_gt_of_ne hmn with h2 | h2
      · have := hp m n (by simpa using lm) (by simpa using ln) h2
        simp only [List.getElem_map, em, en] at this
        exact this b hb hb'
      · have := hp n m (by simpa using ln) (by simpa using lm) h2
        simp only [List.getElem_map, em, en] at this
        exact this b hb' hb
    obtain ⟨xu, xb⟩ := x
    obtain ⟨yu, yb⟩ := y
    cases xb <;> cases yb
    · simp only [Bool.false_eq_true, if_false, fx, fy, Option.map_some, Option.getD_some] at hb hb'
      exact apart pw (fun e => hne (by have e : xu = yu := e; rw [e])) fx fy b hb hb'
    · simp only [Bool.false_eq_true, if_false, if_true, fx, ey, Option.map_some, Option.getD_some] at hb hb'
      exact h2 1 0 b (by simp) (by simp) (by omega) ((pw.1 _ (List.mem_of_getElem? fx)).2 b hb) ((pr.1 _ (List.mem_of_getElem? ey)).2 b hb')
    · simp only [Bool.false_eq_true, if_false, if_true, fy, ex, Option.map_some, Option.getD_some] at hb hb'
      exact h2 0 1 b (by simp) (by simp) (by omega) ((pr.1 _ (List.mem_of_getElem? ex)).2 b hb) ((pw.1 _ (List.mem_of_getElem? fy)).2 b hb')
    · simp only [if_true, ex, ey, Option.map_some, Option.getD_some] at hb hb'
      exact apart pr (fun e => hne (by have e : xu = yu := e; rw [e])) ex ey b hb hb'
theorem idK_val {P : Nat → List Int} {Zr Zw : Zl} {k : Nat} : (idK P (k + 1)).map (fun x => if x.2 then ((Zr[x.1]?).map Prod.fst).getD (.slice none 0 0) else ((Zw[x.1]?).map Prod.fst).getD (.slice none 0 0)) =
    (idK P k).map (fun x => if x.2 then ((Zr[x.1]?).map Prod.fst).getD (.slice none 0 0) else ((Zw[x.1]?).map Prod.fst).getD (.slice none 0 0)) ++ (if P k = [] then [] else [((Zw[k]?).map Prod.fst).getD (.slice none 0 0), ((Zr[k]?).map Prod.fst).getD (.slice none 0 0)]) := by
  have e : idK P (k + 1) = idK P k ++ (if P k = [] then [] else [(k, false), (k, true)]) := rfl
  rw [e, List.map_append]
  congr 1
  by_cases h : P k = []
  · rw [if_pos h, if_pos h]; rfl
  · rw [if_neg h, if_neg h]; rfl
theorem caR_total (c : List (List Int)) (v : List Int) : totalT (caV c v) ≤ 2000 := by
  unfold caV
  split
  · rename_i h
    obtain ⟨_, _, K, _⟩ := klOk_parts h
    have key : ∀ k, k ≤ (elL c).length → totalT (caL (elL c) (lookR (klT c) (ixN c v)) k) ≤ 60 * k := by
      intro k
      induction k with
      | zero => intro _; simp [caL, totalT, flatT]
      | succ k ih =>
        intro hk
        have h1 := ih (by omega)
        have e : totalT (caL (elL c) (lookR (klT c) (ixN c v)) (k + 1)) = totalT (caL (elL c) (lookR (klT c) (ixN c v)) k) + totalT (one1 (getE (elL c) k) (lookR (klT c) (ixN c v) k)) := by
          show totalT (caL (elL c) (lookR (klT c) (ixN c v)) k ++ one1 (getE (elL c) k) (lookR (klT c) (ixN c v) k)) = _
          unfold totalT
          rw [flatT_app2]
          simp
          omega
        have h2 : totalT (one1 (getE (elL c) k) (lookR (klT c) (ixN c v) k)) ≤ 60 := by
          obtain ⟨y, hy, hN, _, _⟩ := K.at (z := k) (by omega)
          have h3 : (lookR (klT c) (ixN c v) k).length ≤ lenE (elL c) (ixN c v) + 1 := (K.rows _ (Nat.le_refl _)).len (ixN c v) k
          have h4 := K.tab.deep (ixN c v)
          have h5 := hN.le
          unfold one1
          split
          · simp [totalT, flatT]
          · rw [getE_at hy]
            simp [totalT, flatT]
            omega
        omega
    have h24 := K.few
    have := key _ (Nat.le_refl _)
    omega
  · simp [totalT, flatT]
set_option maxHeartbeats 4000000 in
theorem canImpl {S S' : Nat → Prop} {x z : Value} {c : List (List Int)} {v : List Int} {w : World} (h : RII S w x c) (h2 : RI S' w z v) (hl : total c ≤ 16777216) (hl2 : v.length ≤ 16777216) (hm : HasM w) :
    Calls Tryz.prog 40 #[x, z] w fun e w' => ∃ r, e = .returned (.tuple #[r, .bool (klOk c v)]) ∧ FT (New w w') w' r (caV c v) ∧ Below w.heap.size w w' := by
  have mixed : Tryz.prog.follows .mixedOrders = true := by kernel_rfl
  have hrow := klRowImpl h h2 hl hl2 hm
  have HRD := Lib.hid (fun (wv : World) (hb : Below w.heap.size w wv) => elementsImpl (h.below hb) (hm.below hb) hl)
  obtain ⟨aa, ca, rfl⟩ := h.form
  obtain ⟨az, cz, rfl⟩ := h2.form
  cases hok : klOk c v with
  | false =>
    have HR : Hid (caV c v = []) := Lib.hid (by unfold caV; rw [hok]; rfl)
    rw [hok] at hrow
    clear hok h h2 hm
    go_enter Tryz.func40, Tryz.ntmps40
    go_wp2_with fail
    refine hrow.mono ?_
    rintro e w1 ⟨r1, rfl, f1, b1⟩
    obtain ⟨hf, hb⟩ := freshT (w := w1) rfl
    clear hrow f1
    go_wp2_with fail
    go_ret2
    exact ⟨_, rfl, by rw [HR.out]; exact hf.mono (fun b hb => ⟨Nat.le_trans b1.size hb.1, hb.2⟩), Keeps.step b1 hb⟩
  | true =>
    obtain ⟨hk, _, K, _⟩ := klOk_parts hok
    have HR : Hid (caV c v = caL (elL c) (lookR (klT c) (ixN c v)) (elL c).length) := Lib.hid (by unfold caV; rw [hok, if_pos rfl])
    have hke : elR c = elL c := by unfold elR; rw [(okK_fin hk).2.2.2.2]; rfl
    have HKL : Hid (∀ u, u < (elL c).length → (klR c v)[u]? = some (lookR (klT c) (ixN c v) u)) := Lib.hid (fun u hu => by unfold klR; rw [hok, if_pos rfl, List.getElem?_map, List.getElem?_range hu]; rfl)
    have HKN : Hid ((klR c v).length = (elL c).length) := Lib.hid (by unfold klR; rw [hok, if_pos rfl]; simp)
    have HLEN := Lib.hid (fun k => caL_len (E := elL c) (P := lookR (klT c) (ixN c v)) k)
    have HEA := Lib.hid (fun (u : Nat) (hu : u < (elL c).length) => (show (elL c)[u]? = some (getE (elL c) u) from by rw [getE_at (List.getElem?_eq_getElem hu)]; exact List.getElem?_eq_getElem hu))
    have hN24 := K.few
    rw [hok] at hrow
    rw [(okK_fin hk).2.2.2.2, hke] at HRD
    generalize caV c v = res at *
    generalize klR c v = RR at *
    generalize lookR (klT c) (ixN c v) = P at *
    generalize elL c = E at *
    clear hok h h2 K hk hke hm
    generalize hN : E.length = N at *
    have HN := Lib.hid hN
    clear hN
    go_enter Tryz.func40, Tryz.ntmps40
    go_wp2_with fail
    refine hrow.mono ?_
    rintro e w1 ⟨r1, rfl, f1, b1⟩
    have hs1 := HSx.addF (HS.nil (Below.refl _ w)) b1 f1
    have hrd := HRD.out w1 b1
    clear hrow f1 b1 HRD
    go_wp2_with fail
    refine hrd.mono ?_
    rintro e w2 ⟨r2, rfl, f2, b2⟩
    have hs2 := HSx.addF hs1 b2 f2
    have hs2 : HS w w2 [aF r1 RR, aF r2 E] := hs2
    obtain ⟨Zr, hzr, hs3⟩ := HSx.openF hs2 0 rfl
    have hs3 : HS w w2 [aV 28 r1 (Zr.map Prod.fst), aF r2 E, aRs Zr] := hs3
    obtain ⟨Zw, hzw, hs4⟩ := HSx.openF hs3 1 rfl
    have hs4 : HS w w2 [aV 28 r1 (Zr.map Prod.fst), aV 28 r2 (Zw.map Prod.fst), aRs Zr, aRs Zw] := hs4
    have hlr : Zr.length = N := by have := congrArg List.length hzr; rw [HKN.out] at this; simpa using this
    have hlw : Zw.length = N := by have := congrArg List.length hzw; rw [HN.out] at this; simpa using this
    have HZR := Lib.hid (fun (u : Nat) (hu : u < N) => (show ∃ r, Zr[u]? = some (r, P u) from by
      obtain ⟨⟨r, l⟩, hx⟩ : ∃ y, Zr[u]? = some y := ⟨Zr[u]'(by rw [hlr]; exact hu), List.getElem?_eq_getElem _⟩
      have h1 := congrArg (fun l => l[u]?) hzr
      simp only [List.getElem?_map, hx, HKL.out u hu, Option.map_some, Option.some.injEq] at h1
      exact ⟨r, by rw [hx, ← h1]⟩))
    have HZW := Lib.hid (fun (u : Nat) (hu : u < N) => (show ∃ r, Zw[u]? = some (r, getE E u) from by
      obtain ⟨⟨r, l⟩, hx⟩ : ∃ y, Zw[u]? = some y := ⟨Zw[u]'(by rw [hlw]; exact hu), List.getElem?_eq_getElem _⟩
      have h1 := congrArg (fun l => l[u]?) hzw
      simp only [List.getElem?_map, hx, HEA.out u hu, Option.map_some, Option.some.injEq] at h1
      exact ⟨r, by rw [hx, ← h1]⟩))
    obtain ⟨a1, c1, e1⟩ := (HSx.formV hs4 0 rfl).1
    obtain ⟨a2, c2, e2⟩ := (HSx.formV hs4 1 rfl).1
    rw [List.length_map, hlr] at e1
    rw [List.length_map, hlw] at e2
    subst e1 e2
    obtain ⟨w3, hw3⟩ : ∃ w3, w3 = w2.alloc (.cells #[] 73) := ⟨_, rfl⟩
    have hs5 := HSx.freshT2 hs4 hw3
    have hs5 : HS w w3 [aV 28 (.slice a1 N c1) (Zr.map Prod.fst), aV 28 (.slice a2 N c2) (Zw.map Prod.fst), aRs Zr, aRs Zw, aT2 (.slice (some ⟨w2.heap.size, 0, none⟩) 0 0) (caL E P 0).length ((idK P 0).map (fun x => if x.2 then ((Zr[x.1]?).map Prod.fst).getD (.slice none 0 0) else ((Zw[x.1]?).map Prod.fst).getD (.slice none 0 0)))] := hs5
    have HW3 := Lib.hid hw3
    clear hrd hs1 hs2 hs3 hs4 f2 b2 hzr hzw hlr hlw hw3 HKL HKN HEA
    go_wp2_with fail
    rw [← HW3.out]
    go_loopw [10, 30] (fun oo kk wr => ∃ (k : Nat) (vo : Value), vo = oo ∧ k ≤ N ∧ kk = .int .i64 k ∧ HS w wr [aV 28 (.slice a1 N c1) (Zr.map Prod.fst), aV 28 (.slice a2 N c2) (Zw.map Prod.fst), aRs Zr, aRs Zw, aT2 vo (caL E P k).length ((idK P k).map (fun x => if x.2 then ((Zr[x.1]?).map Prod.fst).getD (.slice none 0 0) else ((Zw[x.1]?).map Prod.fst).getD (.slice none 0 0)))]) (fun _ kk _ => N - (intOf kk).toNat)
    case atStart => exact ⟨0, _, rfl, Nat.zero_le _, rfl, hs5⟩
    case round =>
      clear hs5
      obtain ⟨k, vo, rfl, hkN, rfl, hs⟩ := hrel
      by_cases hk : k < N
      · have i1 : (k : Int) < (N : Int) := by omega
        have i0 : (0 : Int) ≤ (k : Int) := by omega
        obtain ⟨rr, hrr⟩ := HZR.out k hk
        obtain ⟨rw1, hrw⟩ := HZW.out k hk
        obtain ⟨g1, c3, e1⟩ := (HSx.formV hs 0 rfl).2 (by rw [List.length_map]; have := (List.getElem?_eq_some_iff.1 hrr).1; omega)
        obtain ⟨g2, c4, e2⟩ := (HSx.formV hs 1 rfl).2 (by rw [List.length_map]; have := (List.getElem?_eq_some_iff.1 hrw).1; omega)
        simp only [Value.slice.injEq] at e1 e2
        obtain ⟨e1a, e1b, e1c⟩ := e1
        obtain ⟨e2a, e2b, e2c⟩ := e2
        subst e1a e2a
        clear e1b e1c e2b e2c
        have k1 := (HSx.cellV hs 0 rfl (j := k) (r := rr) (by rw [List.getElem?_map, hrr]; rfl)).1
        have k2 := (HSx.cellV hs 1 rfl (j := k) (r := rw1) (by rw [List.getElem?_map, hrw]; rfl)).1
        obtain ⟨a5, c5, e5⟩ := RL.form (HSx.rowS hs 2 rfl (List.mem_of_getElem? hrr))
        have e5 : rr = .slice a5 (P k).length c5 := e5
        obtain ⟨a6, c6, e6⟩ := RL.form (HSx.rowS hs 3 rfl (List.mem_of_getElem? hrw))
        have e6 : rw1 = .slice a6 (getE E k).length c6 := e6
        subst e5 e6
        have HVAL := Lib.hid (idK_val (P := P) (Zr := Zr) (Zw := Zw) (k := k))
        have HCA : Hid (caL E P (k + 1) = caL E P k ++ one1 (getE E k) (P k)) := Lib.hid rfl
        have HO : Hid (one1 (getE E k) (P k) = if P k = [] then [] else [(getE E k, P k)]) := Lib.hid rfl
        have HLK : Hid ((caL E P k).length + 1 ≤ 67108864) := Lib.hid (by have := HLEN.out k; omega)
        have HV1 : Hid (((Zr[k]?).map Prod.fst).getD (.slice none 0 0) = .slice a5 (P k).length c5 ∧ ((Zw[k]?).map Prod.fst).getD (.slice none 0 0) = .slice a6 (getE E k).length c6) := Lib.hid (by rw [hrr, hrw]; exact ⟨rfl, rfl⟩)
        clear hrr hrw
        generalize (getE E k).length = l6 at *
        by_cases hp : P k = []
        · have HO1 := Lib.hid (HO.out.trans (if_pos hp))
          have HVA2 := Lib.hid (HVAL.out.trans (by rw [if_pos hp, List.append_nil]))
          rw [hp] at k1
          have k1 : wr.cell? ⟨g1, k, none⟩ = some (.slice a5 0 c5) := k1
          have hs6 : HS w wr [aV 28 (.slice (some ⟨g1, 0, none⟩) N c1) (Zr.map Prod.fst), aV 28 (.slice (some ⟨g2, 0, none⟩) N c2) (Zw.map Prod.fst), aRs Zr, aRs Zw, aT2 vo (caL E P (k + 1)).length ((idK P (k + 1)).map (fun x => if x.2 then ((Zr[x.1]?).map Prod.fst).getD (.slice none 0 0) else ((Zw[x.1]?).map Prod.fst).getD (.slice none 0 0)))] := by rw [HVA2.out, HCA.out, HO1.out, List.append_nil]; exact hs
          clear hs hp HVAL HO HV1
          go_wp2_with fail
          go_roundw
          case rel => exact ⟨k + 1, vo, rfl, by omega, by go_num, hs6⟩
          case measure => simp [intOf]; omega
        · have HO1 := Lib.hid (HO.out.trans (if_neg hp))
          have hpl : 0 < (P k).length := List.length_pos_iff.2 hp
          have HVA2 := Lib.hid (HVAL.out.trans (by rw [if_neg hp, HV1.out.1, HV1.out.2]))
          generalize (P k).length = l5 at *
          have e0 : (0 : Int) < (l5 : Int) := by omega
          obtain ⟨w4, hw4⟩ : ∃ w4, w4 = wr.alloc (.cells #[.slice a6 l6 c6, .slice a5 l5 c5] 73) := ⟨_, rfl⟩
          have hs4 := HSx.alloc hs (.cells #[.slice a6 l6 c6, .slice a5 l5 c5] 73)
          rw [← hw4] at hs4
          have q0 : w4.cell? ⟨wr.heap.size, 0, none⟩ = some (.slice a6 l6 c6) := by rw [hw4]; go_simp
          have q1 : w4.cell? ⟨wr.heap.size, 1, none⟩ = some (.slice a5 l5 c5) := by rw [hw4]; go_simp
          have HW4 := Lib.hid hw4
          clear hs hw4 hp HVAL HO HV1
          go_wp2_with (at_builtin; go_must (rw [← HW4.out]; refine wpList_hsT2 rfl _ _ rfl rfl hs4 4 rfl rfl q0 q1 rfl rfl HLK.out ?_))
          intro v5 w5 hs5
          have hs6 : HS w w5 [aV 28 (.slice (some ⟨g1, 0, none⟩) N c1) (Zr.map Prod.fst), aV 28 (.slice (some ⟨g2, 0, none⟩) N c2) (Zw.map Prod.fst), aRs Zr, aRs Zw, aT2 v5 (caL E P (k + 1)).length ((idK P (k + 1)).map (fun x => if x.2 then ((Zr[x.1]?).map Prod.fst).getD (.slice none 0 0) else ((Zw[x.1]?).map Prod.fst).getD (.slice none 0 0)))] := by
            rw [HVA2.out, HCA.out, HO1.out, List.length_append]; exact hs5
          clear hs4 hs5 q0 q1 k1 k2
          go_wp2_with fail
          go_roundw
          case rel => exact ⟨k + 1, v5, rfl, by omega, by go_num, hs6⟩
          case measure => simp [intOf]; omega
      · have i1 : ¬ (k : Int) < (N : Int) := by omega
        have hkN2 : k = N := by omega
        have hft := HS.terms (hs.pick [2, 3, 4] (by decide)) (fun u hu => HZR.out u (by omega)) (fun u hu => HZW.out u (by omega))
        rw [hkN2, ← HR.out] at hft
        have hbl := hs.bl
        clear hkN2 hs
        go_wp2_with fail
        go_ret2
        exact ⟨_, rfl, hft, hbl⟩
end Go.Proofs.YtipjomdldjbenaaGreatDoor
