/- All images of a weight, by the reference. Condition: sizes up to 2^24. -/
import Derived.Test.YtkgjecabigdnoaaGreatJGInV
import Derived.Test.YtkgjecabigdnoaaGreatJGOrbP
import Derived.Test.YtkgjecabigdnoaaGreatJSymm
import Derived.Test.YtkgjecabigdnoaaGreatJDomOfS
namespace Go.Proofs.YtkgjecabigdnoaaGreat
open Go.RowKit
set_option maxRecDepth 20000

/-- What both give. -/
def obQ (c : List (List Int)) (v : List Int) : Option (List (List Int)) := qBfs c 201 0 [dmL c v]
def obOk (c : List (List Int)) (v : List Int) : Bool := domOk c v && (obQ c v).isSome
def obR (c : List (List Int)) (v : List Int) : List (List Int) := if domOk c v = true then putsV ((obQ c v).getD []) else []
def ObC (c : List (List Int)) (v : List Int) (w : World) (e : Ending) (w' : World) : Prop := ∃ r, e = .returned (.tuple #[r, .bool (obOk c v)]) ∧ FII (New w w') w' r (obR c v) ∧ Below w.heap.size w w'
theorem oneRow {A : Nat → Prop} {w0 w w1 : World} {Ps : List Thing} {r : Value} (h : HSx A w0 w Ps) (hw : w1 = w.alloc (.cells #[r] 23)) : HSx A w0 w1 (Ps ++ [aV 23 (.slice (some ⟨w.heap.size, 0, none⟩) 1 1) [r]]) := by
  subst hw
  refine h.add ((Below.refl _ _).alloc (Nat.le_refl _) _) (st_V _ _ _) (F := fun b => b = w.heap.size) ⟨?_, fun b hb => by simpa [Value.ownBlock] using hb.symm⟩ (fun b hb => by subst hb; exact ⟨Nat.le_refl _, by simp⟩)
  exact World.ownsRow_lit (base := 0) (e := 23) (size := 1) w #[r] 1 (Nat.zero_le _) (by unfold maxLen; omega) rfl
theorem HSx.iToRr {A : Nat → Prop} {w0 w : World} {Ps : List Thing} {r : Value} {l : List Int} (h : HSx A w0 w Ps) (j : Nat) (hj : Ps[j]? = some (aI r l)) : HSx A w0 w (Ps.set j (aRr [(r, l)])) :=
  h.imp j hj (st_Rr _) fun F hF x hx => by rw [List.mem_singleton] at hx; subst hx; exact hF.reads
theorem qStep_none (c : List (List Int)) (u : List Int) (i : Nat) : qStep c u none i = none := rfl
def qNext (c : List (List Int)) (f k : Nat) : Option (List (List Int)) → Option (List (List Int))
  | none => none
  | some q' => qBfs c f (k + 1) q'
theorem qBfs_at {c : List (List Int)} {f k : Nat} {q : List (List Int)} {u : List Int} (hu : q[k]? = some u) : qBfs c (f + 1) k q = qNext c f k (qRow c u q) := by
  simp only [qBfs, hu]
  cases qRow c u q <;> rfl
theorem qBfs_end {c : List (List Int)} {f k : Nat} {q : List (List Int)} (hk : q.length ≤ k) : qBfs c f k q = some q := by
  cases f with
  | zero => simp only [qBfs]; rw [if_pos hk]
  | succ f => simp only [qBfs, List.getElem?_eq_none hk]
theorem drop_range {n i : Nat} (hi : i < n) : (List.range n).drop i = i :: (List.range n).drop (i + 1) := drop_step (by simp [hi])
theorem putV_length (v : List Int) : ∀ l : List (List Int), (putV v l).length ≤ l.length + 1
  | [] => by simp [putV]
  | x :: l => by
    unfold putV
    split
    · simp
    · split
      · simp
      · have := putV_length v l; simp; omega
theorem putsV_length : ∀ (q l : List (List Int)), (q.foldl (fun l v => putV v l) l).length ≤ l.length + q.length
  | [], l => by simp
  | v :: q, l => by
    have h1 := putsV_length q (putV v l)
    have h2 := putV_length v l
    simp only [List.foldl_cons, List.length_cons]
    omega

set_option maxHeartbeats 8000000 in
theorem orbitSpec {S S' : Nat → Prop} {u v : Value} {c : List (List Int)} {l : List Int} {w : World} (h : RII S w u c) (h' : RI S' w v l) (hl : total c ≤ 16777216) (hl' : l.length ≤ 16777216) :
    Calls Tryz.prog 16 #[u, v] w (ObC c l w) := by
  have hd := dominantOfSpec h h' hl hl'
  have HRES : Hid (ObC c l w = fun e w' => ∃ r, e = .returned (.tuple #[r, .bool (obOk c l)]) ∧ FII (New w w') w' r (obR c l) ∧ Below w.heap.size w w') := Lib.hid rfl
  have HTWO : Hid (Two (dom1 c l) (dom2 c l) (domOk c l) w = fun e w' => ∃ r1 r2, e = .returned (.tuple #[r1, r2, .bool (domOk c l)]) ∧ FI (New w w') w' r1 (dom1 c l) ∧ FI (New w w') w' r2 (dom2 c l) ∧ (∀ b, r1.ownBlock = some b → r2.ownBlock ≠ some b) ∧ Below w.heap.size w w') := Lib.hid rfl
  rw [HTWO.out] at hd
  clear HTWO
  have mixed : Tryz.prog.follows .mixedOrders = true := by kernel_rfl
  cases hF : domOk c l with
  | false =>
    have HR : Hid (obR c l = []) := Lib.hid (by unfold obR; rw [hF]; rfl)
    have HO : Hid (obOk c l = false) := Lib.hid (by unfold obOk; rw [hF]; rfl)
    rw [hF] at hd
    clear hF
    go_enter Tryz.func16, Tryz.ntmps16
    go_wp2_with fail
    refine hd.mono ?_
    rintro e w1 ⟨r1, r2, rfl, f1, f2, _, b1⟩
    obtain ⟨a1, c1, rfl⟩ := f1.form
    obtain ⟨a2, c2, rfl⟩ := f2.form
    have hf := FII.empty_of b1 (w1 := w1.alloc (.cells #[] 23)) rfl
    clear f1 f2
    go_wp2_with fail
    go_ret2
    rw [HRES.out]
    exact ⟨_, by rw [HO.out]; rfl, by rw [HR.out]; exact hf.1, hf.2⟩
  | true =>
    obtain ⟨hfp, hcp, hcor, hdom⟩ := domOk_parts hF
    have h4 : c.length ≤ 4 := hcp.le
    have hsq := hcp.sq
    have hd1 : dom1 c l = dmL c l := by unfold dom1; rw [hF]; rfl
    have hdl : (dmL c l).length = c.length := by unfold dmL; rw [act_length]; exact hdom.1.len
    have HOK : Hid (obOk c l = (obQ c l).isSome) := Lib.hid (by unfold obOk; rw [hF]; rfl)
    have HR : Hid (obR c l = putsV ((obQ c l).getD [])) := Lib.hid (by unfold obR; rw [hF]; rfl)
    have HQ0 : Hid (qBfs c 201 0 [dmL c l] = obQ c l) := Lib.hid rfl
    rw [hF, hd1] at hd
    clear hF hfp hcor hdom hd1
    have HRF := fun (w1 : World) (b1 : Below w.heap.size w w1) (i : Nat) (hi : i < c.length) (S9 : Nat → Prop) (vv : Value) (x : List Int) (hx : RI S9 w1 vv x) (hxl : x.length = c.length) => reflectSpec (h.below b1) hx i hi hsq hxl (by omega)
    have HRF := Lib.hid HRF
    have HRL := Lib.hid (fun (i : Nat) (x : List Int) => refl_length c i x)
    have HBA := Lib.hid (fun (f k : Nat) (q : List (List Int)) (x : List Int) (hx : q[k]? = some x) => qBfs_at (c := c) (f := f) hx)
    have HBE := Lib.hid (fun (f k : Nat) (q : List (List Int)) (hk : q.length ≤ k) => qBfs_end (c := c) (f := f) hk)
    have HROW : Hid (∀ x q, qRow c x q = ((List.range c.length).drop 0).foldl (qStep c x) (some q)) := Lib.hid (fun x q => rfl)
    clear hsq hcp
    have h0 := h
    obtain ⟨au, cu, rfl⟩ := h.form
    generalize obQ c l = R at *
    generalize dmL c l = d0 at *
    generalize hn : c.length = n at *
    have HN := Lib.hid hn
    clear hn
    go_enter Tryz.func16, Tryz.ntmps16
    go_wp2_with fail
    refine hd.mono ?_
    rintro e w1 ⟨r1, r2, rfl, f1, f2, _, b1⟩
    obtain ⟨a1, c1, rfl⟩ := f1.form
    obtain ⟨a2, c2, rfl⟩ := f2.form
    rw [hdl] at f1 ⊢
    have hs1 := ((HS.nil (Below.refl _ w)).addI b1 f1).iToRr 0 rfl
    clear f1 f2 hd b1
    have hs1 : HS w w1 [aRr [(.slice a1 n c1, d0)]] := hs1
    obtain ⟨w2, hw2⟩ : ∃ w2, w2 = w1.alloc (.cells #[.slice a1 n c1] 23) := ⟨_, rfl⟩
    have hs2 := (oneRow hs1 hw2).pick [1, 0] (by decide)
    have hs2 : HS w w2 [aV 23 (.slice (some ⟨w1.heap.size, 0, none⟩) 1 1) (([(.slice a1 n c1, d0)] : Zl).map Prod.fst), aRr [(.slice a1 n c1, d0)]] := hs2
    have HW2 := Lib.hid hw2
    have HL0 : Hid (∀ z ∈ ([(.slice a1 n c1, d0)] : Zl), z.2.length = n) := Lib.hid (fun z hz => by rw [List.mem_singleton] at hz; subst hz; exact hdl)
    have HQ0 : Hid (qBfs c (201 - 0) 0 (([(Value.slice a1 n c1, d0)] : Zl).map Prod.snd) = R) := HQ0
    clear hs1 hw2 hdl
    go_wp2_with fail
    rw [← HW2.out]
    go_loopw [9, 10] (fun qq kk wr => ∃ (k : Nat) (zq : Value) (Z : Zl), zq = qq ∧ k ≤ Z.length ∧ kk = .int .i64 k ∧ HS w wr [aV 23 zq (Z.map Prod.fst), aRr Z] ∧ Hid (qBfs c (201 - k) k (Z.map Prod.snd) = R) ∧ Hid (∀ z ∈ Z, z.2.length = n) ∧ Z.length ≤ 200) (fun _ kk _ => 201 - (intOf kk).toNat)
    case atStart => exact ⟨0, _, _, rfl, Nat.zero_le _, rfl, hs2, HQ0, HL0, by simp⟩
    case round =>
      clear hs2
      obtain ⟨k, zq, Z, rfl, hk, rfl, hs, HQ, HL, hz200⟩ := hrel
      have hlz : (Z.map Prod.fst).length = Z.length := by simp
      obtain ⟨⟨aq, cq, rfl⟩, hhead⟩ := hs.formV 0 rfl
      rw [hlz] at hs hhead ⊢
      generalize hzl : Z.length = m at *
      have HZL := Lib.hid hzl
      have HH := Lib.hid hhead
      clear hzl hlz hhead
      by_cases hkm : k < m
      · have i1 : (k : Int) < (m : Int) := by omega
        obtain ⟨z, hz⟩ : ∃ z, Z[k]? = some z := ⟨Z[k]'(by rw [HZL.out]; exact hkm), List.getElem?_eq_getElem _⟩
        obtain ⟨rk, xk⟩ := z
        have hxl : xk.length = n := HL.out _ (List.mem_of_getElem? hz)
        have hb := HBA.out (200 - k) k (Z.map Prod.snd) xk (by simp [hz])
        rw [show 200 - k + 1 = 201 - k by omega, HQ.out, HROW.out] at hb
        obtain ⟨Rr, hRr⟩ : ∃ Rr, Rr = ((List.range n).drop 0).foldl (qStep c xk) (some (Z.map Prod.snd)) := ⟨_, rfl⟩
        rw [← hRr] at hb
        have HB := Lib.hid hb
        have HXL := Lib.hid hxl
        have HR0 := Lib.hid hRr.symm
        have hrk0 : RI _ wr rk xk := hs.rowR 1 rfl (List.mem_of_getElem? hz)
        obtain ⟨ak, ck, hform⟩ := hrk0.form
        rw [hxl] at hform
        subst hform
        have HZK := Lib.hid hz
        clear hrk0 hxl
        clear hb hz hRr
        go_wp2_with fail
        go_loopw [9, 11] (fun qq ii wr => ∃ (i : Nat) (zq : Value) (Z : Zl), zq = qq ∧ i ≤ n ∧ ii = .int .i64 i ∧ HS w wr [aV 23 zq (Z.map Prod.fst), aRr Z] ∧ Hid (((List.range n).drop i).foldl (qStep c xk) (some (Z.map Prod.snd)) = Rr) ∧ Hid (∀ z ∈ Z, z.2.length = n) ∧ Hid (Z[k]? = some (.slice ak n ck, xk)) ∧ Z.length ≤ 200) (fun _ ii _ => n - (intOf ii).toNat)
        case atStart => exact ⟨0, _, Z, rfl, Nat.zero_le _, rfl, hs, HR0, HL, HZK, by rw [HZL.out]; exact hz200⟩
        case round =>
          clear hs
          obtain ⟨i, zq, Z, rfl, hi, rfl, hs, HR9, HL, HZK, hz200⟩ := hrel
          have hlz : (Z.map Prod.fst).length = Z.length := by simp
          have hk2 : k < Z.length := (List.getElem?_eq_some_iff.1 HZK.out).1
          obtain ⟨⟨aq, cq, rfl⟩, hhead⟩ := hs.formV 0 rfl
          rw [hlz] at hs hhead ⊢
          generalize hzl : Z.length = m2 at *
          have HZL := Lib.hid hzl
          obtain ⟨gq, rfl⟩ : ∃ g, aq = some ⟨g, 0, none⟩ := by
            obtain ⟨g, c9, e⟩ := hhead (by omega)
            simp only [Value.slice.injEq] at e
            exact ⟨g, e.1⟩
          clear hzl hlz hhead
          by_cases hin : i < n
          · have i2 : (i : Int) < (n : Int) := by omega
            have i3 : (k : Int) < (m2 : Int) := by omega
            have i4 : (0 : Int) ≤ (k : Int) := by omega
            have i5 : (0 : Int) ≤ (i : Int) := by omega
            have hck := (hs.cellV 0 rfl (j := k) (r := .slice ak n ck) (by simp [HZK.out])).1
            have hrk := hs.rowR 1 rfl (List.mem_of_getElem? HZK.out)
            have hrk : RI _ wr (.slice ak n ck) xk := hrk
            have hcall := HRF.out wr hs.bl i hin _ _ _ hrk HXL.out
            have h9 := HR9.out
            rw [drop_range hin, List.foldl_cons] at h9
            have HST := Lib.hid h9
            clear h9
            go_wp2_with fail
            refine hcall.mono ?_
            rintro e w3 ⟨r3, rfl, f3, b3⟩
            have hs := hs.addI b3 f3
            have hs : HS w w3 [aV 23 (.slice (some ⟨gq, 0, none⟩) m2 cq) (Z.map Prod.fst), aRr Z, aI r3 (refl c i xk)] := hs
            obtain ⟨a3, c3, rfl⟩ := f3.form
            have HXL3 : Hid ((refl c i xk).length = n) := Lib.hid (by rw [HRL.out, HXL.out])
            rw [HXL3.out] at hs ⊢
            have hck := (hs.cellV 0 rfl (j := k) (r := .slice ak n ck) (by simp [HZK.out])).1
            have hrk : RI _ w3 (.slice ak n ck) xk := hs.rowR 1 rfl (List.mem_of_getElem? HZK.out)
            obtain ⟨bk, ok, y, rfl, hcy, hy⟩ := RI.at hrk (j := i) hin
            have HY : Hid (num xk i = y) := Lib.hid (num_at hy.out)
            clear f3 b3 hy hrk hcall
            by_cases hy0 : 0 < y
            · have hread : RII Any w3 (.slice (some ⟨gq, 0, none⟩) m2 cq) (Z.map Prod.snd) := hs.readRr 0 1 rfl rfl
              have hr3 := (hs.I 2 rfl).reads
              have HIN := inSpec hread hr3 (fun x hx => by obtain ⟨z, hz, rfl⟩ := List.mem_map.1 hx; rw [HL.out z hz]; omega) (by simp [HZL.out]; omega) (by rw [HXL3.out]; omega)
              have HIL : Hid (inV (Z.map Prod.snd) (refl c i xk) = decide (refl c i xk ∈ Z.map Prod.snd)) := Lib.hid rfl
              go_wp2_with fail
              refine HIN.mono ?_
              rintro e w4 ⟨rfl, m4, rfl⟩
              have hs := hs.drewN m4
              clear HIN hread hr3
              generalize w3.drewN m4 = w5 at *
              cases hin2 : inV (Z.map Prod.snd) (refl c i xk) with
              | true =>
                have hT : refl c i xk ∈ Z.map Prod.snd := by have := HIL.out; rw [hin2] at this; exact of_decide_eq_true this.symm
                have HS2 : Hid (((List.range n).drop (i + 1)).foldl (qStep c xk) (some (Z.map Prod.snd)) = Rr) := Lib.hid (by rw [← HST.out]; simp only [qStep]; rw [if_neg (fun h => h.2 hT)])
                have hs6 := hs.pick [0, 1] (by decide)
                have hs6 : HS w w5 [aV 23 (.slice (some ⟨gq, 0, none⟩) m2 cq) (Z.map Prod.fst), aRr Z] := hs6
                clear hT hin2 hs
                go_wp2_with fail
                go_roundw
                case rel => exact ⟨i + 1, _, Z, rfl, by omega, by go_num, hs6, HS2, HL, HZK, by rw [HZL.out]; exact hz200⟩
                case measure => simp [intOf]; omega
              | false =>
                have hT : refl c i xk ∉ Z.map Prod.snd := by have := HIL.out; rw [hin2] at this; exact of_decide_eq_false this.symm
                have HTY : Hid (0 < num xk i ∧ refl c i xk ∉ Z.map Prod.snd) := Lib.hid ⟨by rw [HY.out]; exact hy0, hT⟩
                clear hT hin2
                by_cases h200 : 200 ≤ m2
                · have i7 : (200 : Int) ≤ (m2 : Int) := by omega
                  have HNO : Hid (Rr = none) := Lib.hid (by
                    rw [← HST.out]; simp only [qStep]; rw [if_pos HTY.out, if_pos (by simp [HZL.out]; omega)]
                    exact fold_none (qStep_none c xk) _)
                  have HRN : Hid (R = none) := Lib.hid (by rw [HB.out, HNO.out]; rfl)
                  have hfe := FII.empty_of hs.bl (w1 := w5.alloc (.cells #[] 23)) rfl
                  clear hs
                  go_wp2_with fail
                  go_ret2
                  rw [HRES.out]
                  exact ⟨_, by rw [HOK.out, HRN.out]; rfl, by rw [HR.out, HRN.out]; exact hfe.1, hfe.2⟩
                · have i7 : ¬ (200 : Int) ≤ (m2 : Int) := by omega
                  have HS2 : Hid (((List.range n).drop (i + 1)).foldl (qStep c xk) (some ((Z ++ [(Value.slice a3 n c3, refl c i xk)]).map Prod.snd)) = Rr) := Lib.hid (by
                    rw [← HST.out]; simp only [qStep]; rw [if_pos HTY.out, if_neg (by simp [HZL.out]; omega)]; simp)
                  obtain ⟨w6, hw6⟩ : ∃ w6, w6 = w5.alloc (.cells #[.slice a3 n c3] 23) := ⟨_, rfl⟩
                  have hs6 := hs.alloc (.cells #[.slice a3 n c3] 23)
                  rw [← hw6] at hs6
                  have hc6 : w6.cell? ⟨w5.heap.size, 0, none⟩ = some (.slice a3 n c3) := by rw [hw6]; go_simp
                  have HW6 := Lib.hid hw6
                  have hone : (Value.slice a3 n c3).oneCell' = true := rfl
                  have HNV := Lib.hid (HS.newV hs6 0 rfl)
                  have HLZ : Hid ((Z.map Prod.fst).length + 1 ≤ 67108864) := Lib.hid (by simp [HZL.out]; omega)
                  clear hw6 hs
                  go_wp2_with (at_builtin; go_must (rw [← HW6.out]; refine wpList_hsRow rfl _ _ rfl rfl hs6 0 rfl HNV.out rfl hc6 hone HLZ.out ?_))
                  intro v7 w7 hs7 _
                  have hs8 := ((st_IL hs7 2 rfl).moreR (Z' := Z ++ [(Value.slice a3 n c3, refl c i xk)]) 1 2 (by decide) rfl rfl List.perm_append_comm).pick [0, 1] (by decide)
                  have hs8 : HS w w7 [aV 23 v7 ((Z ++ [(Value.slice a3 n c3, refl c i xk)]).map Prod.fst), aRr (Z ++ [(Value.slice a3 n c3, refl c i xk)])] := by
                    have e : (Z ++ [(Value.slice a3 n c3, refl c i xk)]).map Prod.fst = Z.map Prod.fst ++ [Value.slice a3 n c3] := by simp
                    rw [e]; exact hs8
                  have HL2 : Hid (∀ z ∈ Z ++ [(Value.slice a3 n c3, refl c i xk)], z.2.length = n) := Lib.hid (fun z hz => by
                    rcases List.mem_append.1 hz with hz | hz
                    · exact HL.out z hz
                    · rw [List.mem_singleton] at hz; subst hz; exact HXL3.out)
                  have HZK2 : Hid ((Z ++ [(Value.slice a3 n c3, refl c i xk)])[k]? = some (.slice (some ⟨bk, ok, none⟩) n ck, xk)) := Lib.hid (by rw [List.getElem?_append_left (by rw [HZL.out]; omega)]; exact HZK.out)
                  clear hs7 hs6
                  go_wp2_with fail
                  go_roundw
                  case rel => exact ⟨i + 1, _, _, rfl, by omega, by go_num, hs8, HS2, HL2, HZK2, by simp [HZL.out]; omega⟩
                  case measure => simp [intOf]; omega
            · have HS2 : Hid (((List.range n).drop (i + 1)).foldl (qStep c xk) (some (Z.map Prod.snd)) = Rr) := Lib.hid (by rw [← HST.out]; simp only [qStep]; rw [if_neg (fun h => hy0 (by rw [← HY.out]; exact h.1))])
              have hs6 := hs.pick [0, 1] (by decide)
              have hs6 : HS w w3 [aV 23 (.slice (some ⟨gq, 0, none⟩) m2 cq) (Z.map Prod.fst), aRr Z] := hs6
              clear hs
              go_wp2_with fail
              go_roundw
              case rel => exact ⟨i + 1, _, Z, rfl, by omega, by go_num, hs6, HS2, HL, HZK, by rw [HZL.out]; exact hz200⟩
              case measure => simp [intOf]; omega
          · have i2 : ¬ (i : Int) < (n : Int) := by omega
            have h9 := HR9.out
            rw [List.drop_eq_nil_of_le (by simp; omega), List.foldl_nil] at h9
            have HQ2 : Hid (qBfs c (201 - (k + 1)) (k + 1) (Z.map Prod.snd) = R) := Lib.hid (by rw [HB.out, ← h9, show 201 - (k + 1) = 200 - k by omega]; rfl)
            clear h9
            go_wp2_with fail
            go_roundw
            case rel => exact ⟨k + 1, _, Z, rfl, by rw [HZL.out]; omega, by go_num, hs, HQ2, HL, by rw [HZL.out]; exact hz200⟩
            case measure => simp [intOf]; omega
      · have i1 : ¬ (k : Int) < (m : Int) := by omega
        have hb := HBE.out (201 - k) k (Z.map Prod.snd) (by simp [HZL.out]; omega)
        rw [HQ.out] at hb
        have HRS := Lib.hid hb
        obtain ⟨w5, hw5⟩ : ∃ w5, w5 = wr.alloc (.cells #[] 23) := ⟨_, rfl⟩
        have hfe := FII.empty_of (Below.refl _ wr) hw5
        have hs5 := hs.addF hfe.2 hfe.1
        have HW5 := Lib.hid hw5
        have HP0 : Hid (putsV ((Z.map Prod.snd).take 0) = []) := Lib.hid rfl
        have hs5 : HS w w5 [aV 23 (.slice aq m cq) (Z.map Prod.fst), aRr Z, aF (.slice (some ⟨wr.heap.size, 0, none⟩) 0 0) (putsV ((Z.map Prod.snd).take 0))] := by rw [HP0.out]; exact hs5
        have HPS := Lib.hid (fun (t : Nat) (x : List Int) (hx : (Z.map Prod.snd)[t]? = some x) => putsV_step hx)
        have HPL := Lib.hid (fun (t : Nat) => putsV_length ((Z.map Prod.snd).take t) [])
        have HPM : Hid (∀ t x, x ∈ putsV ((Z.map Prod.snd).take t) → x.length = n) := Lib.hid (fun t x hx => by
          have := ((putsV_ok (n := n) (q := (Z.map Prod.snd).take t) (fun y hy => by obtain ⟨z, hz, rfl⟩ := List.mem_map.1 (List.mem_of_mem_take hy); exact HL.out z hz)).2 x).1 hx
          obtain ⟨z, hz, rfl⟩ := List.mem_map.1 (List.mem_of_mem_take this)
          exact HL.out z hz)
        clear hb hs hfe hw5
        go_wp2_with fail
        rw [← HW5.out]
        go_loopw [13, 14] (fun oo tt wr => ∃ (t : Nat) (vo : Value), vo = oo ∧ t ≤ m ∧ tt = .int .i64 t ∧ HS w wr [aV 23 (.slice aq m cq) (Z.map Prod.fst), aRr Z, aF vo (putsV ((Z.map Prod.snd).take t))]) (fun _ tt _ => m - (intOf tt).toNat)
        case atStart => exact ⟨0, _, rfl, Nat.zero_le _, rfl, hs5⟩
        case round =>
          clear hs5
          obtain ⟨t, vo, rfl, ht, rfl, hs⟩ := hrel
          by_cases htm : t < m
          · have i2 : (t : Int) < (m : Int) := by omega
            have i3 : (0 : Int) ≤ (t : Int) := by omega
            obtain ⟨gq, rfl⟩ : ∃ g, aq = some ⟨g, 0, none⟩ := by
              obtain ⟨g, c9, e⟩ := HH.out (by omega)
              simp only [Value.slice.injEq] at e
              exact ⟨g, e.1⟩
            obtain ⟨z, hz⟩ : ∃ z, Z[t]? = some z := ⟨Z[t]'(by rw [HZL.out]; exact htm), List.getElem?_eq_getElem _⟩
            obtain ⟨rt, xt⟩ := z
            have hct := (hs.cellV 0 rfl (j := t) (r := rt) (by simp [hz])).1
            have hrt : RI _ wr rt xt := hs.rowR 1 rfl (List.mem_of_getElem? hz)
            have hxt : xt.length = n := HL.out _ (List.mem_of_getElem? hz)
            have HSTP : Hid (putV xt (putsV ((Z.map Prod.snd).take t)) = putsV ((Z.map Prod.snd).take (t + 1))) := Lib.hid (HPS.out t xt (by simp [hz])).symm
            obtain ⟨F, hF, hFn, HBK⟩ := hs.lend 2 rfl
            have hcall := putVSpec hF hFn hrt (fun x hx => by rw [HPM.out t x hx]; omega) (by have := HPL.out t; unfold putsV; simp at this; omega) (by rw [hxt]; omega)
            have HPC : Hid (PutC F xt (putsV ((Z.map Prod.snd).take t)) wr = fun e w' => ∃ r, e = .returned r ∧ HSx F wr w' [aF r (putV xt (putsV ((Z.map Prod.snd).take t)))]) := Lib.hid rfl
            rw [HPC.out] at hcall
            obtain ⟨at', ct, rfl⟩ := hrt.form
            clear hz hxt hF
            go_wp2_with fail
            refine hcall.mono ?_
            rintro e w6 ⟨r6, rfl, h6⟩
            rw [HSTP.out] at h6
            have hs7 := HBK.out w6 _ h6
            have hs7 : HS w w6 [aV 23 (.slice (some ⟨gq, 0, none⟩) m cq) (Z.map Prod.fst), aRr Z, aF r6 (putsV ((Z.map Prod.snd).take (t + 1)))] := hs7
            clear hs h6 hcall
            go_wp2_with fail
            go_roundw
            case rel => exact ⟨t + 1, r6, rfl, by omega, by go_num, hs7⟩
            case measure => simp [intOf]; omega
          · have i2 : ¬ (t : Int) < (m : Int) := by omega
            have HE : Hid (putsV ((Z.map Prod.snd).take t) = obR c l) := Lib.hid (by rw [List.take_of_length_le (by simp [HZL.out]; omega), HR.out, HRS.out]; rfl)
            rw [HE.out] at hs
            go_wp2_with fail
            go_ret2
            rw [HRES.out]
            exact ⟨_, by rw [HOK.out, HRS.out]; rfl, hs.F 2 rfl, hs.bl⟩
end Go.Proofs.YtkgjecabigdnoaaGreat
