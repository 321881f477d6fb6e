/- The weights of a representation, by the program. Condition: sizes up to 2^24. -/
import Derived.Test.YtkgjecabigdnoaaGreatJWsS
import Derived.Test.YtkgjecabigdnoaaGreatJGDb
namespace Go.Proofs.YtkgjecabigdnoaaGreat
open Go.RowKit
set_option maxRecDepth 20000

section
variable {w : World} {ops : Array Oper} {rest : List Oper} {o : Oper} {a : Act} {Q : Exit → Act → World → Prop}
/-- append(v, x...): all rows of another list. -/
theorem wp_hsVs {A : Nat → Prop} {W : World} {K : Act → World → Prop} {Ps : List Thing} (s x : Operand) {t e : TypeId} {z : Value} {bytes : Nat} (ht : Tryz.prog.underlying t = some (.slice e))
    (hinfo : (Tryz.prog.info? e).map (fun i => (i.zero, i.size, i.bytes)) = some (some z, 1, bytes)) (hzs : z.cells.size = 1) (hby : bytes ≤ 1024)
    (ho : o.op = .call { callee := .builtin .append, args := #[s, x], argTypes := #[t, t] })
    {v : Value} {vs us : List Value} {g m c : Nat} (hs : a.eval s = v) (h : HSx A W w Ps) (i j : Nat) (hi : Ps[i]? = some (aV e v vs)) (hj : Ps[j]? = some (aV e (.slice (some ⟨g, 0, none⟩) m c) us)) (hm : us.length = m) (hnew : ∀ b, v.ownBlock = some b → W.heap.size ≤ b)
    (hx : a.eval x = .slice (some ⟨g, 0, none⟩) m c) (h1 : ∀ u ∈ us, u.oneCell' = true) (hlen : vs.length + m ≤ 67108864)
    (k : ∀ v' w', HSx A W w' (Ps.set i (aV e v' (vs ++ us))) → (∀ b, v'.ownBlock = some b → W.heap.size ≤ b) → K (a.put o.dst v') w') : o.wp Tryz.prog a w K Q := by
  obtain ⟨F0, hf, _⟩ := HSx.get h i hi
  refine wp_appG s x ht hinfo hzs (by decide) ho (base := 0) (news := us) hs hf.1 (Nat.zero_le _) hx (by omega) ?_ h1 hlen hby ?_
  · intro q u hq
    have := (h.cellV j hj hq).1
    by_cases hq0 : q = 0
    · subst hq0; simpa [Addr.add] using this
    · simpa [Addr.add, hq0] using this
  · intro v' w' h2 h3 h4
    refine k v' w' (h.upd i hi (st_V _ _ _) (below_grownO h.bl h3 hnew) h3.size fun F hF _ => ⟨fun b => v'.ownBlock = some b, ⟨?_, fun b hb => hb⟩, fun b hb => ?_, fun b hl hb => h3.block b hl (fun e => hb (hF.2 b e.symm))⟩) (fun b hb => ?_)
    · rw [List.length_append, hm]; exact h2
    · rcases h4 b hb with e | e
      · exact .inl (hF.2 b e)
      · exact .inr ⟨e, (h2.lt b hb).2⟩
    · rcases h4 b hb with e | e
      · exact hnew b e
      · exact Nat.le_trans h.bl.size e
theorem wpList_hsRows {A : Nat → Prop} {W : World} {Ps : List Thing} (hgd : o.guard = none) (s x : Operand)
    (ho : o.op = .call { callee := .builtin .append, args := #[s, x], argTypes := #[22, 22] })
    {v : Value} {vs us : List Value} {g m c : Nat} (hs : a.eval s = v) (h : HSx A W w Ps) (i j : Nat) (hi : Ps[i]? = some (aV 23 v vs)) (hj : Ps[j]? = some (aV 23 (.slice (some ⟨g, 0, none⟩) m c) us)) (hm : us.length = m) (hnew : ∀ b, v.ownBlock = some b → W.heap.size ≤ b)
    (hx : a.eval x = .slice (some ⟨g, 0, none⟩) m c) (h1 : ∀ u ∈ us, u.oneCell' = true) (hlen : vs.length + m ≤ 67108864)
    (k : ∀ v' w', HSx A W w' (Ps.set i (aV 23 v' (vs ++ us))) → (∀ b, v'.ownBlock = some b → W.heap.size ≤ b) → wpList Tryz.prog ops Q rest (a.put o.dst v') w') : wpList Tryz.prog ops Q (o :: rest) a w :=
  wpList_plain hgd fun _ hK => wp_hsVs s x Tryz.underlying22 infoInts rfl (by decide) ho hs h i j hi hj hm hnew hx h1 hlen fun v' w' h2 h3 => hK _ _ (k v' w' h2 h3)
end
/-- Rows of two lists become those of one. -/
theorem HSx.bothS {A : Nat → Prop} {w0 w : World} {Ps : List Thing} {Z Y : Zl} (h : HSx A w0 w Ps) (i j : Nat) (hij : i ≠ j) (hi : Ps[i]? = some (aRs Z)) (hj : Ps[j]? = some (aRs Y)) : HSx A w0 w ((Ps.set i (aRs (Z ++ Y))).set j aTrue) :=
  h.join i j hij hi hj (st_Rs _) fun F G hF hG hd => ⟨fun x hx => by
    rcases List.mem_append.1 hx with hx | hx
    · exact FI.mono (hF.1 x hx) (fun b hb => .inl hb)
    · exact FI.mono (hG.1 x hx) (fun b hb => .inr hb), by
    rw [List.map_append, List.pairwise_append]
    refine ⟨hF.2, hG.2, fun a ha b hb q hq hq' => ?_⟩
    obtain ⟨z, hz, rfl⟩ := List.mem_map.1 ha
    obtain ⟨y, hy, rfl⟩ := List.mem_map.1 hb
    exact hd q ((hF.1 z hz).2 q hq) ((hG.1 y hy).2 q hq')⟩

set_option maxHeartbeats 8000000 in
theorem wsImpl {S S' : Nat → Prop} {u v : Value} {c : List (List Int)} {l : List Int} {w : World} (h : RII S w u c) (h' : RI S' w v l) (hl : total c ≤ 16777216) (hl' : l.length ≤ 16777216) :
    Calls Tryz.prog 8 #[u, v] w (WsC c l w) := by
  have HRES : Hid (WsC c l w = fun e w' => ∃ r, e = .returned (.tuple #[r, .bool (wsOk c l)]) ∧ FII (New w w') w' r (wsR c l) ∧ Below w.heap.size w w') := Lib.hid rfl
  have hd : Calls Tryz.prog 18 #[u, v] w fun e w' => ∃ r, e = .returned (.tuple #[r, .bool (dbOk c l)]) ∧ FII (New w w') w' r (dbR c l) ∧ Below w.heap.size w w' := dbImpl h h' hl hl'
  have mixed : Tryz.prog.follows .mixedOrders = true := by kernel_rfl
  cases hF : dbOk c l with
  | false =>
    have HR : Hid (wsR c l = []) := Lib.hid (by unfold wsR; rw [hF]; rfl)
    have HO : Hid (wsOk c l = false) := Lib.hid (by unfold wsOk; rw [hF]; rfl)
    rw [hF] at hd
    clear hF
    go_enter Tryz.func8, Tryz.ntmps8
    go_wp2_with fail
    refine hd.mono ?_
    rintro e w1 ⟨r1, rfl, _, b1⟩
    have hf := FII.empty_of b1 (w1 := w1.alloc (.cells #[] 23)) rfl
    clear hd
    go_wp2_with fail
    go_ret2
    rw [HRES.out]
    exact ⟨_, by rw [HO.out]; rfl, by rw [HR.out]; exact hf.1, hf.2⟩
  | true =>
    have HOK : Hid (wsOk c l = (wsQ c l).isSome) := Lib.hid (by unfold wsOk; rw [hF]; rfl)
    have HR : Hid (wsR c l = putsV ((wsQ c l).getD [])) := Lib.hid (by unfold wsR; rw [hF]; rfl)
    have HQ0 : Hid (wsAll c ((dbR c l).drop 0) (([] : Zl).map Prod.snd) = wsQ c l) := Lib.hid rfl
    have HW0 : Hid (WsI c (dbR c l) 0 (([] : Zl).map Prod.snd)) := Lib.hid (WsI.start c _)
    have HLL := Lib.hid (fun (x : List Int) (hx : x ∈ dbR c l) => (dbR_ok.2.1 x hx).1)
    have HND := Lib.hid (dbR_nodup c l)
    have HDM := Lib.hid (dbR_dom c l)
    have h4 : c.length ≤ 4 := by
      have hd : dbC c l = true := by unfold dbOk at hF; rw [Bool.and_eq_true] at hF; exact hF.1
      have hf : finB c = true := by unfold dbC at hd; rw [Bool.and_eq_true, Bool.and_eq_true] at hd; exact hd.2.1
      exact (finB_ok hf).cart.le
    have h200 : (dbR c l).length ≤ 200 := dbR_ok.1
    have HOB : Hid (∀ (S9 : Nat → Prop) (wv : World) (vv : Value) (x : List Int), Below w.heap.size w wv → RI S9 wv vv x → x.length = c.length → Calls Tryz.prog 19 #[u, vv] wv fun e w' => ∃ r, e = .returned (.tuple #[r, .bool (obOk c x)]) ∧ FII (New wv w') w' r (obR c x) ∧ Below wv.heap.size wv w') := Lib.hid (fun S9 wv vv x hb hx hxl => orbitImpl (h.below hb) hx hl (by omega))
    rw [hF] at hd
    clear hF
    obtain ⟨au, cu, rfl⟩ := h.form
    generalize wsQ c l = R at *
    generalize dbR c l = L at *
    generalize hn : c.length = n at *
    have HN := Lib.hid hn
    clear hn
    generalize hm : L.length = m at *
    have HM := Lib.hid hm
    clear hm
    go_enter Tryz.func8, Tryz.ntmps8
    go_wp2_with fail
    refine hd.mono ?_
    rintro e w1 ⟨r1, rfl, f1, b1⟩
    have hs1 := (HS.nil (Below.refl _ w)).addF b1 f1
    obtain ⟨a1, c1, rfl⟩ := f1.read.form
    rw [HM.out] at hs1 ⊢
    obtain ⟨w2, hw2⟩ : ∃ w2, w2 = w1.alloc (.cells #[] 23) := ⟨_, rfl⟩
    have hs2 := freshRows hs1 hw2
    have hs2 := hs2.add (Below.refl _ _) (st_Rs []) (F := NoB) ⟨fun x hx => by simp at hx, List.Pairwise.nil⟩ (fun b hb => hb.elim)
    have hs2 : HS w w2 [aF (.slice a1 m c1) L, aV 23 (.slice (some ⟨w1.heap.size, 0, none⟩) 0 0) (([] : Zl).map Prod.fst), aRs []] := hs2
    have HW2 := Lib.hid hw2
    clear hd f1 b1 hs1 hw2
    go_wp2_with fail
    rw [← HW2.out]
    go_loopw [8, 25] (fun oo kk wr => ∃ (k : Nat) (vo : Value) (Z : Zl), vo = oo ∧ k ≤ m ∧ kk = .int .i64 k ∧ HS w wr [aF (.slice a1 m c1) L, aV 23 vo (Z.map Prod.fst), aRs Z] ∧ Hid (wsAll c (L.drop k) (Z.map Prod.snd) = R) ∧ Hid (WsI c L k (Z.map Prod.snd)) ∧ Z.length ≤ 200) (fun _ kk _ => m - (intOf kk).toNat)
    case atStart => exact ⟨0, _, [], rfl, Nat.zero_le _, rfl, hs2, HQ0, HW0, by simp⟩
    case round =>
      clear hs2 HQ0 HW0
      obtain ⟨k, vo, Z, rfl, hk, rfl, hs, HQ, HW, hz200⟩ := hrel
      have hlz : (Z.map Prod.fst).length = Z.length := by simp
      obtain ⟨⟨ao, co, rfl⟩, _⟩ := hs.formV 1 rfl
      rw [hlz] at hs ⊢
      generalize hzl : Z.length = mz at *
      have HZL := Lib.hid hzl
      clear hzl hlz
      by_cases hkm : k < m
      · have i1 : (k : Int) < (m : Int) := by omega
        have i2 : (0 : Int) ≤ (k : Int) := by omega
        have hread : RII _ wr (.slice a1 m c1) L := (hs.F 0 rfl).read
        obtain ⟨b3, o3, r3, x, rfl, hc3, hr3, hx⟩ := RII.at hread hkm
        have hxm := List.mem_of_getElem? hx.out
        have hxl := HLL.out x hxm
        have hcall := HOB.out _ wr r3 x hs.bl hr3 hxl
        have hq := HQ.out
        rw [drop_step hx.out] at hq
        have HQ2 := Lib.hid hq
        have HX := Lib.hid hx.out
        have hol := obR_len c x
        clear hread hx hxm hxl hq
        go_wp2_with fail
        refine hcall.mono ?_
        rintro e w4 ⟨r4, rfl, f4, b4⟩
        have hs4 := hs.addF b4 f4
        obtain ⟨a4, c4, rfl⟩ := f4.read.form
        generalize hmi : (obR c x).length = mi at *
        have HMI := Lib.hid hmi
        clear hmi hcall hr3 f4 b4 hc3
        cases ho : obOk c x with
        | false =>
          have HRN : Hid (R = none) := Lib.hid (by rw [← HQ2.out, wsAll_no1 ho])
          have hfe := FII.empty_of hs4.bl (w1 := w4.alloc (.cells #[] 23)) rfl
          clear hs4 hs ho
          go_wp2_with fail
          go_ret2
          rw [HRES.out]
          exact ⟨_, by rw [HOK.out, HRN.out]; rfl, by rw [HR.out, HRN.out]; exact hfe.1, hfe.2⟩
        | true =>
          have HO := Lib.hid ho
          clear ho
          have HMA : Hid ((Z.map Prod.snd).length = mz) := Lib.hid (by simp [HZL.out])
          by_cases hlen : 200 < mz + mi
          · have i3 : (200 : Int) < (mz : Int) + (mi : Int) := by omega
            have HRN : Hid (R = none) := Lib.hid (by rw [← HQ2.out, wsAll_no2 (by rw [HMA.out, HMI.out]; exact hlen)])
            have hfe := FII.empty_of hs4.bl (w1 := w4.alloc (.cells #[] 23)) rfl
            clear hs4 hs
            go_wp2_with fail
            go_ret2
            rw [HRES.out]
            exact ⟨_, by rw [HOK.out, HRN.out]; rfl, by rw [HR.out, HRN.out]; exact hfe.1, hfe.2⟩
          · have i3 : ¬ (200 : Int) < (mz : Int) + (mi : Int) := by omega
            have hpos : 0 < mi := by
              have hmem : (obR c x) ≠ [] := by
                intro e
                have := (ob_rch HO.out (HDM.out x (List.mem_of_getElem? HX.out))).2.2
                exact ob_ne HO.out (HDM.out x (List.mem_of_getElem? HX.out)) e
              have := List.length_pos_iff.2 hmem
              rw [HMI.out] at this
              exact this
            have HQ3 : Hid (wsAll c (L.drop (k + 1)) (Z.map Prod.snd ++ obR c x) = R) := Lib.hid (by rw [← HQ2.out, wsAll_yes HO.out (by rw [HMA.out, HMI.out]; omega)])
            have HW3 : Hid (WsI c L (k + 1) (Z.map Prod.snd ++ obR c x)) := Lib.hid (HW.out.step HND.out HDM.out HX.out HO.out)
            obtain ⟨Y, hY, hs5⟩ := hs4.openF 3 rfl
            have hs5 : HS w w4 [aF (.slice (some ⟨b3, o3, none⟩) m c1) L, aV 23 (.slice ao mz co) (Z.map Prod.fst), aRs Z, aV 23 (.slice a4 mi c4) (Y.map Prod.fst), aRs Y] := hs5
            have hyl : (Y.map Prod.fst).length = mi := by rw [← HMI.out, ← hY]; simp
            obtain ⟨_, hhead⟩ := hs5.formV 3 rfl
            obtain ⟨g, rfl⟩ : ∃ g, a4 = some ⟨g, 0, none⟩ := by
              obtain ⟨g, c9, e⟩ := hhead (by omega)
              simp only [Value.slice.injEq] at e
              exact ⟨g, e.1⟩
            rw [← hY] at HQ3 HW3
            have HYL := Lib.hid hyl
            have HNV := Lib.hid (HS.newV hs5 1 rfl)
            have HONE : Hid (∀ u ∈ Y.map Prod.fst, u.oneCell' = true) := Lib.hid (fun u hu => by
              obtain ⟨y, hy, rfl⟩ := List.mem_map.1 hu
              exact oneC (hs5.rowS 4 rfl hy))
            have HLN : Hid ((Z.map Prod.fst).length + mi ≤ 67108864) := Lib.hid (by rw [List.length_map, HZL.out]; omega)
            have HYM : Hid (Y.length = mi) := Lib.hid (by simpa using hyl)
            clear hs4 hs hhead hyl hY
            go_wp2_with (at_builtin; go_must (refine wpList_hsRows rfl _ _ rfl rfl hs5 1 3 rfl rfl HYL.out HNV.out rfl HONE.out HLN.out ?_))
            intro v6 w6 hs6 _
            have hs7 := (HSx.bothS hs6 2 4 (by decide) rfl rfl).pick [0, 1, 2] (by decide)
            have hs7 : HS w w6 [aF (.slice (some ⟨b3, o3, none⟩) m c1) L, aV 23 v6 ((Z ++ Y).map Prod.fst), aRs (Z ++ Y)] := by
              rw [List.map_append]; exact hs7
            rw [← List.map_append] at HQ3 HW3
            clear hs5 hs6
            go_wp2_with fail
            go_roundw
            case rel => exact ⟨k + 1, _, _, rfl, by omega, by go_num, hs7, HQ3, HW3, by rw [List.length_append, HZL.out, HYM.out]; omega⟩
            case measure => simp [intOf]; omega
      · have i1 : ¬ (k : Int) < (m : Int) := by omega
        have hq := HQ.out
        rw [List.drop_eq_nil_of_le (by rw [HM.out]; omega)] at hq
        have HRS : Hid (R = some (Z.map Prod.snd)) := Lib.hid (by rw [← hq]; rfl)
        have HLN : Hid (∀ z ∈ Z, z.2.length = n) := Lib.hid (fun z hz => by rw [← HN.out]; exact HW.out.len z.2 (List.mem_map_of_mem hz))
        have hsrt := (hs.pick [1, 2] (by decide)).sortRows (Z := Z) (v := .slice ao mz co) (n := n) 0 1 (by decide) rfl rfl (HS.newV hs 1 rfl) HLN.out (by omega) (by rw [HZL.out]; omega)
        clear hq hs
        go_wp2_with fail
        refine hsrt.mono ?_
        rintro e w6 ⟨rfl, Z', hp, hsr, hs6⟩
        have HSR := Lib.hid hsr
        clear hsr
        have hs7 := ((hs6.pick [0, 1] (by decide)).shutF (Z := Z') (v := .slice ao mz co) 0 1 (by decide) rfl rfl).pick [0] (by decide)
        have hs7 : HS w w6 [aF (.slice ao mz co) (Z'.map Prod.snd)] := hs7
        have HFIN : Hid (Z'.map Prod.snd = wsR c l) := Lib.hid (by
          rw [HR.out, HRS.out]
          exact sorted_puts (n := n) (hp.map _) (HSR.out.imp (fun h => by omega)) HW.out.nd (fun x hx => by obtain ⟨z, hz, rfl⟩ := List.mem_map.1 hx; exact HLN.out z hz) (fun x => Iff.rfl))
        rw [HFIN.out] at hs7
        clear hs6 hsrt hp
        go_wp2_with fail
        go_ret2
        rw [HRES.out]
        exact ⟨_, by rw [HOK.out, HRS.out]; rfl, hs7.F 0 rfl, hs7.bl⟩

theorem wsSpec' {S S' : Nat → Prop} {u v : Value} {c : List (List Int)} {l : List Int} {w : World} (h : RII S w u c) (h' : RI S' w v l) (hl : total c ≤ 16777216) (hl' : l.length ≤ 16777216) :
    Calls Tryz.prog 5 #[u, v] w fun e w' => ∃ r, e = .returned (.tuple #[r, .bool (wsOk c l)]) ∧ FII (New w w') w' r (wsR c l) ∧ Below w.heap.size w w' := wsSpec h h' hl hl'
theorem wsImpl' {S S' : Nat → Prop} {u v : Value} {c : List (List Int)} {l : List Int} {w : World} (h : RII S w u c) (h' : RI S' w v l) (hl : total c ≤ 16777216) (hl' : l.length ≤ 16777216) :
    Calls Tryz.prog 8 #[u, v] w fun e w' => ∃ r, e = .returned (.tuple #[r, .bool (wsOk c l)]) ∧ FII (New w w') w' r (wsR c l) ∧ Below w.heap.size w w' := wsImpl h h' hl hl'
end Go.Proofs.YtkgjecabigdnoaaGreat
