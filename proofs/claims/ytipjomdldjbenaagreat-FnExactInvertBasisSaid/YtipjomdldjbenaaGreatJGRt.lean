/- The R-polynomials of all elements below a word, by the reference. Condition: sizes up to 2^24. The R-polynomials of all elements below a word, by the program. Condition: sizes up to 2^24. -/
import Derived.Test.YtipjomdldjbenaaGreatJGLow
import Derived.Test.YtipjomdldjbenaaGreatJGRp2
import Derived.Deep.RegionHeld3
import Derived.Deep.RegionWith
/-! The R-polynomials of all elements below a word, by the reference. Condition: sizes up to 2^24. -/
namespace Go.Proofs.YtipjomdldjbenaaGreat
open Go.RowKit
set_option maxRecDepth 20000

def rtOk (c : List (List Int)) (l : List Int) : Bool := lwOk c l && decide ((normL c l).length ≤ 10)
def rtR (c : List (List Int)) (l : List Int) : List (List Int) := if rtOk c l then (lwR c l).map (fun x => rp c x l) else []
theorem lwOk_wd {c : List (List Int)} {l : List Int} (h : lwOk c l = true) : isWd c l = true := by
  unfold lwOk lwQ at h
  cases e : isWd c l with
  | true => rfl
  | false => rw [e] at h; cases h
theorem lwR_mem {c : List (List Int)} {l : List Int} (h : lwOk c l = true) : (lwR c l).length ≤ 200 ∧ ∀ x ∈ lwR c l, Nf15 c x := by
  have hw := lwOk_wd h
  obtain ⟨h1, h2, h3⟩ := isWd_parts hw
  have hc := isC_iff.1 h1
  have hn := (norm_is hc h3 (by omega)).1
  have h15 := normL_le hc h3 (by omega)
  have hs := lowS_ok hc hn
  unfold lwOk lwQ at h
  rw [hw, if_pos rfl] at h
  unfold lwR lwQ
  rw [hw, if_pos rfl]
  cases e : lowS c (normL c l) with
  | none => rw [e] at h; cases h
  | some q =>
    rw [e] at hs
    obtain ⟨a1, a2, a3⟩ := hs
    have hm := (putsE_ok q).2
    refine ⟨?_, fun x hx => ?_⟩
    · have := nd_le (putsE_ok q).1.nodup (m := q) (fun x hx => (hm x).1 hx)
      exact Nat.le_trans this a2
    · have hb := (a3 x).1 ((hm x).1 hx)
      exact ⟨hb.nf, by have := hb.le hc hn.lets hn.le; omega⟩

end Go.Proofs.YtipjomdldjbenaaGreat

/-! The R-polynomials of all elements below a word, by the program. Condition: sizes up to 2^24. -/
namespace Go.Proofs.YtipjomdldjbenaaGreat
open Go.RowKit
set_option maxRecDepth 20000

/-- A block of its own, of which no more is said. -/
abbrev aBk (mb : Nat) : Thing := fun F _ => F mb
theorem st_Bk (mb : Nat) : Steady (aBk mb) := fun _ _ _ h _ => h
theorem HSx.grownM {A : Nat → Prop} {w0 w w' : World} {Ps : List Thing} {mb : Nat} (h : HSx A w0 w Ps) (i : Nat) (hi : Ps[i]? = some (aBk mb)) (hg : w.grownBy w' (some mb)) (hnew : w0.heap.size ≤ mb) : HSx A w0 w' Ps := by
  have := h.upd i hi (st_Bk mb) (h.bl.grown hg h.bl.size (fun b hb => by simp only [Option.some.injEq] at hb; omega)) hg.size fun F hF _ => ⟨F, hF, fun b hb => .inl hb, fun b hl hb => hg.block b hl (fun e => by simp only [Option.some.injEq] at e; subst e; exact hb hF)⟩
  have e : Ps.set i (aBk mb) = Ps := by
    refine List.ext_getElem? fun m => ?_
    by_cases hm : m = i
    · subst hm
      rw [List.getElem?_set_self (List.getElem?_eq_some_iff.1 hi).1, hi]
    · rw [List.getElem?_set_ne (Ne.symm hm)]
  rwa [e] at this

/-- A block of two known cells. -/
abbrev aC2 (b : Nat) (x y : Value) : Thing := fun F w => F b ∧ w.cell? ⟨b, 0, none⟩ = some x ∧ w.cell? ⟨b, 1, none⟩ = some y
theorem cell_same {w w' : World} {b o : Nat} {x : Value} (h : w.cell? ⟨b, o, none⟩ = some x) (e : w'.heap[b]? = w.heap[b]?) : w'.cell? ⟨b, o, none⟩ = some x := by
  unfold World.cell? at h ⊢
  simp only at h ⊢
  rw [e]; exact h
theorem st_C2 (b : Nat) (x y : Value) : Steady (aC2 b x y) := fun _ w _ h k => by
  have e := k b h.1 (World.block_lt_of_cell? w _ h.2.1)
  exact ⟨h.1, cell_same h.2.1 e, cell_same h.2.2 e⟩
theorem HSx.cellC2 {A : Nat → Prop} {w0 w : World} {Ps : List Thing} {b : Nat} {x y : Value} (h : HSx A w0 w Ps) (i : Nat) (hi : Ps[i]? = some (aC2 b x y)) : w.cell? ⟨b, 0, none⟩ = some x ∧ w.cell? ⟨b, 1, none⟩ = some y := by
  obtain ⟨F, hF, _⟩ := HSx.get h i hi
  exact hF.2
theorem Memo.app {A : List Int → List Int → Prop} {F : List Int → List Int → List Int} {n mb m : Nat} {w w' : World} {v : Value} {vs : List Value} (h : Memo A F n mb m w) (hown : w.ownsRow 0 23 1 v vs.length vs) (hg : w.grownBy w' v.ownBlock) : Memo A F n mb m w' := by
  have hne : v.ownBlock ≠ some mb := fun e => by
    obtain ⟨cur, hc⟩ := own_tag hown e
    obtain ⟨D, h1, _⟩ := h
    obtain ⟨es, clock, hb, _⟩ := h1
    rw [hb] at hc
    cases hc
  obtain ⟨D, h1, h2⟩ := h
  refine ⟨D, h1.kept hg (Ne.symm hne), fun a b u ha hh hat => ?_⟩
  have hr := h2 a b u ha hh hat
  cases hv : v.ownBlock with
  | none => exact hr.keep fun b hb hl => hg.block b hl (by rw [hv]; simp)
  | some B => exact RI.mono ((hr.off (own_tag hown hv)).keep fun b hb hl => hg.block b hl (by rw [hv]; simpa using hb.2)) (fun b hb => hb.1)

set_option maxHeartbeats 16000000 in
theorem rtableImpl {S S' : Nat → Prop} {u v : Value} {c : List (List Int)} {l : List Int} {w : World} (h : RII S w u c) (h' : RI S' w v l) (hl : total c ≤ 16777216) (hl' : l.length ≤ 16777216) :
    Calls Tryz.prog 23 #[u, v] w fun e w' => ∃ r, e = .returned (.tuple #[r, .bool (rtOk c l)]) ∧ FII (New w w') w' r (rtR c l) ∧ Below w.heap.size w w' := by
  have mixed : Tryz.prog.follows .mixedOrders = true := by kernel_rfl
  have hlow := lowerImpl h h' hl hl'
  have h0 := h
  obtain ⟨au, cu, rfl⟩ := h.form
  cases hok : lwOk c l with
  | false =>
    have HO : Hid (rtOk c l = false) := Lib.hid (by unfold rtOk; rw [hok]; rfl)
    have HR : Hid (rtR c l = []) := Lib.hid (by unfold rtR; rw [HO.out]; rfl)
    rw [hok] at hlow
    clear hok
    go_enter Tryz.func23, Tryz.ntmps23
    go_wp2_with fail
    refine hlow.mono ?_
    rintro e w2 ⟨r2, rfl, _, b2⟩
    have hf := FII.empty_of b2 (w1 := w2.alloc (.cells #[] 23)) rfl
    clear hlow b2
    go_wp2_with fail
    go_ret2
    exact ⟨_, by rw [HO.out]; rfl, by rw [HR.out]; exact hf.1, hf.2⟩
  | true =>
    have hwd := lwOk_wd hok
    obtain ⟨hisc, hlen15, hlets⟩ := isWd_parts hwd
    have hc : CartanP c := isC_iff.1 hisc
    obtain ⟨h200, h15⟩ := lwR_mem hok
    have hLN := Lib.hid (fun (wv : World) (hb : Below w.heap.size w wv) => lengthOfImpl (h.below hb) (h'.below hb) hc hlets (by omega))
    rw [hok] at hlow
    by_cases hten : (normL c l).length ≤ 10
    · have HO : Hid (rtOk c l = true) := Lib.hid (by unfold rtOk; rw [hok, decide_eq_true hten]; rfl)
      have HR : Hid (rtR c l = (lwR c l).map (fun x => rp c x l)) := Lib.hid (by unfold rtR; rw [HO.out, if_pos rfl])
      have HRP : Hid (∀ x ∈ lwR c l, rp c x l = rI c (image c x) (normL c l)) := Lib.hid (fun x hx => by
        unfold rp rpOk
        rw [wd15 hisc (h15 x hx), hwd, decide_eq_true hten]; rfl)
      have i10 : ¬ (10 : Int) < ((normL c l).length : Int) := by omega
      have HTEN := Lib.hid hten
      clear hok hten
      go_enter Tryz.func23, Tryz.ntmps23
      go_wp2_with fail
      refine hlow.mono ?_
      rintro e w2 ⟨r2, rfl, f2, b2⟩
      have hs2 := HSx.addF (HS.nil (Below.refl _ w)) b2 f2
      obtain ⟨a2, c2, rfl⟩ := f2.read.form
      have hln := hLN.out w2 hs2.bl
      clear hlow b2 f2
      go_wp2_with fail
      refine hln.mono ?_
      rintro e w3 ⟨rfl, b3⟩
      have hs3 := HSx.below hs2 b3
      have hs3 : HS w w3 [aF (.slice a2 (lwR c l).length c2) (lwR c l)] := hs3
      have hnr := newRatiosImpl (c := c) (h.below hs3.bl)
      clear hln hs2 b3 hLN
      go_wp2_with fail
      refine hnr.mono ?_
      rintro e w4 ⟨mb, rfl, hmb, M4, b4⟩
      have hlt4 := M4.lt
      have hs4 := HSx.add hs3 b4 (st_Bk mb) (F := fun b => b = mb) rfl (fun b hb => by subst hb; exact ⟨hmb, hlt4⟩)
      obtain ⟨w5, hw5⟩ : ∃ w5, w5 = w4.alloc (.cells #[.slice au c.length cu, .map (some mb)] 58) := ⟨_, rfl⟩
      have hb5 : Below w4.heap.size w4 w5 := by rw [hw5]; exact (Below.refl _ _).alloc (Nat.le_refl _) _
      have hs5 := HSx.add hs4 hb5 (st_C2 w4.heap.size (.slice au c.length cu) (.map (some mb))) (F := fun b => b = w4.heap.size) ⟨rfl, by rw [hw5]; go_simp, by rw [hw5]; go_simp⟩ (fun b hb => by subst hb; exact ⟨Nat.le_refl _, by rw [hw5]; simp⟩)
      obtain ⟨w6, hw6⟩ : ∃ w6, w6 = w5.alloc (.cells #[] 23) := ⟨_, rfl⟩
      have hs6 := freshRows hs5 hw6
      have hs6 := hs6.add (Below.refl _ _) (st_Rs []) (F := NoB) ⟨fun x hx => by simp at hx, List.Pairwise.nil⟩ (fun b hb => hb.elim)
      have hs6 := HSx.pick hs6 [3, 4, 0, 2, 1] (by decide)
      have hz5 : w5.heap.size = w4.heap.size + 1 := by rw [hw5]; simp
      rw [hz5] at hs6
      have hs6 : HS w w6 [aV 23 (.slice (some ⟨w4.heap.size + 1, 0, none⟩) 0 0) (([] : Zl).map Prod.fst), aRs [], aF (.slice a2 (lwR c l).length c2) (lwR c l), aC2 w4.heap.size (.slice au c.length cu) (.map (some mb)), aBk mb] := hs6
      have M6 : RMemo c mb 0 w6 := by rw [hw6]; exact (M4.below hb5).below ((Below.refl _ _).alloc (Nat.le_refl _) _)
      have HW := Lib.hid (show w6 = (w4.alloc (.cells #[.slice au c.length cu, .map (some mb)] 58)).alloc (.cells #[] 23) by rw [hw6, hw5])
      have hmb0 : w.heap.size ≤ mb := Nat.le_trans hs3.bl.size hmb
      have HM0 : Hid (([] : Zl).map Prod.snd = ((lwR c l).take 0).map (fun x => rp c x l)) := Lib.hid rfl
      clear hnr hs3 hs4 hs5 hw5 hw6 b4 M4 hb5 hmb hlt4 hz5
      have HIM := Lib.hid (fun (wv : World) (S9 : Nat → Prop) (vv : Value) (x : List Int) (hb : Below w.heap.size w wv) (hx : RI S9 wv vv x) (h5 : Nf15 c x) => imageImpl (h0.below hb) hx hc h5.1.lets (by have := h5.2; omega))
      have HIV := Lib.hid (fun (wv : World) (hb : Below w.heap.size w wv) => imageImpl (h0.below hb) (h'.below hb) hc hlets hl')
      have HXX := Lib.hid h15
      have HII := Lib.hid (fun (x : List Int) (h5 : Nf15 c x) => image_im hc h5.1.lets (show x.length ≤ 30 by have := h5.2; omega))
      have HIL := Lib.hid (image_im hc hlets (show l.length ≤ 30 by omega))
      have HOLD := Lib.hid h0.old
      have HNN : Hid (nf c 30 (image c l) = normL c l) := Lib.hid rfl
      have hl15 : l.length ≤ 15 := hlen15
      generalize hnn : (normL c l).length = nn at *
      generalize hm : (lwR c l).length = m at *
      have HM := Lib.hid hm
      generalize lwR c l = L at *
      have hn10 : nn ≤ 10 := HTEN.out
      clear hm h15 hwd hisc hlets hlen15 h' h h0
      go_wp2_with fail
      rw [← HW.out]
      generalize w4.heap.size + 1 = gz at *
      generalize w4.heap.size = g8 at *
      go_loopw [9, 32] (fun oo kk wr => ∃ (k : Nat) (vo : Value) (Z : Zl) (mk : Nat), vo = oo ∧ k ≤ m ∧ kk = .int .i64 k ∧ HS w wr [aV 23 vo (Z.map Prod.fst), aRs Z, aF (.slice a2 m c2) L, aC2 g8 (.slice au c.length cu) (.map (some mb)), aBk mb] ∧ RMemo c mb mk wr ∧ mk ≤ k * 2048 ∧ Hid (Z.map Prod.snd = (L.take k).map (fun x => rp c x l))) (fun _ kk _ => m - (intOf kk).toNat)
      case atStart => exact ⟨0, _, [], 0, rfl, Nat.zero_le _, rfl, hs6, M6, Nat.le_refl _, HM0⟩
      case round =>
        clear hs6 HM0 M6
        obtain ⟨k, vo, Z, mk, rfl, hk, rfl, hs, M, hmk, HMZ⟩ := hrel
        by_cases hkm : k < m
        · have i1 : (k : Int) < (m : Int) := by omega
          have i2 : (0 : Int) ≤ (k : Int) := by omega
          obtain ⟨b3, o3, r3, x, rfl, hc3, hr3, hx⟩ := RII.at (HS.F hs 2 rfl).read hkm
          have hx5 := HXX.out x (List.mem_of_getElem? hx.out)
          have HX5 := Lib.hid hx5
          have HXE := Lib.hid hx.out
          have HZL : Hid ((Z.map Prod.fst).length + 1 ≤ 67108864) := Lib.hid (by have := congrArg List.length HMZ.out; simp at this; simp; omega)
          obtain ⟨a3, c3, rfl⟩ := hr3.form
          have hsd : HS w wr.drew [aV 23 vo (Z.map Prod.fst), aRs Z, aF (.slice (some ⟨b3, o3, none⟩) m c2) L, aC2 g8 (.slice au c.length cu) (.map (some mb)), aBk mb] := HSx.drew hs
          have Md : RMemo c mb mk wr.drew := M.below ((Below.refl _ _).drew)
          have hr3d := hr3.drew
          obtain ⟨q1, q2⟩ := HSx.cellC2 hsd 3 rfl
          have l8 : g8 < wr.drew.heap.size := World.block_lt_of_cell? _ _ q1
          have lmb : mb < wr.drew.heap.size := Md.lt
          have hne8 : g8 ≠ mb := fun e => by
            subst e
            obtain ⟨D, h1, _⟩ := Md
            obtain ⟨es, clock, hb, _⟩ := h1
            unfold World.cell? at q1
            simp [hb] at q1
          have him0 := HIM.out wr.drew _ (.slice a3 x.length c3) x hsd.bl hr3d hx5
          generalize hxn : x.length = xn at *
          clear hx hx5 hs M hr3
          go_wp2_with fail
          clear hc3
          have hpw : mk + 2 ^ (nn + 1) ≤ 1048576 := by have := Nat.pow_le_pow_right (n := 2) (by decide) (show nn + 1 ≤ 11 by omega); omega
          have hImx := HII.out x HX5.out
          have hx15 : xn ≤ 15 := by rw [← hxn]; exact HX5.out.2
          rw [hxn] at hImx
          have HRI := Lib.hid (rI_len c (normL c l) (image c x))
          go_region_held3 (fun w' => w'.cell? ⟨g8, 0, none⟩ = some (.slice au c.length cu) ∧ w'.cell? ⟨g8, 1, none⟩ = some (.map (some mb))) (first | go_keep | exact ⟨p9, p10⟩ | exact ⟨p7, p8⟩ | exact ⟨p5, p6⟩ | exact ⟨p3, p4⟩ | exact ⟨p1, p2⟩ | exact ⟨q1, q2⟩) (first
            | (go_at_call_of 46 (Value.slice a3 xn c3); refine him0.mono ?_; rintro e w5 ⟨r5, rfl, f5, b5⟩; have p1 := (b5.cell (p := ⟨g8, 0, none⟩) l8).trans q1; have p2 := (b5.cell (p := ⟨g8, 1, none⟩) l8).trans q2)
            | (go_at_call_of 46 v; refine (HIV.out w5 (Keeps.step hsd.bl b5)).mono ?_; rintro e w6 ⟨r6, rfl, f6, b6⟩; have p3 := (b6.cell (p := ⟨g8, 0, none⟩) (Nat.lt_of_lt_of_le l8 b5.size)).trans p1; have p4 := (b6.cell (p := ⟨g8, 1, none⟩) (Nat.lt_of_lt_of_le l8 b5.size)).trans p2; have b06 := Keeps.step (Keeps.step hsd.bl b5) b6; have c6 : RII (Nm mb) w6 (.slice au c.length cu) c := RL.mono (HOLD.out.below b06) (fun b hb e => by have := hb.2; omega) (fun _ _ h => RL.mono h (fun b hb e => by have := hb.2; omega) (fun _ _ h => h)); have u6 : RI (Nm mb) w6 r5 (image c x) := RL.mono (f5.reads.below b6) (fun b hb e => by have := hb.1; omega) (fun _ _ h => h); have v6 : RI (Nm mb) w6 r6 (image c l) := Nm.of f6 (by have := b5.size; omega); have M6 : RMemo c mb mk w6 := (Md.below b5).below b6)
            | (go_at_call 45; refine (polN_all hc nn c6 u6 v6 hImx HIL.out hnn (by omega) (by omega) M6 hpw).mono ?_; rintro e w7 ⟨r7, k7, rfl, v7, g7, M7, hk7⟩; have p5 := keepc g7 p3 hne8; have p6 := keepc g7 p4 hne8; have hs7 := HSx.grownM ((hsd.below b5).below b6) 4 rfl g7 hmb0)
            | (go_at_call 44; refine (cloneInts v7 (by have := HRI.out; rw [HNN.out]; omega)).mono ?_; rintro e w8 ⟨r8, rfl, f8, b8⟩; have p7 := (b8.cell (p := ⟨g8, 0, none⟩) (World.block_lt_of_cell? _ _ p5)).trans p5; have p8 := (b8.cell (p := ⟨g8, 1, none⟩) (World.block_lt_of_cell? _ _ p6)).trans p6; have hs8 := HSx.addI hs7 b8 f8; have M8 := M7.below b8; obtain ⟨a8, c8, e8⟩ := f8.form; subst e8; have hs9 : HS w (w8.alloc (.cells #[.slice a8 (rI c (image c x) (nf c 30 (image c l))).length c8] 23)) [aV 23 vo (Z.map Prod.fst), aRs Z, aF (.slice (some ⟨b3, o3, none⟩) m c2) L, aC2 g8 (.slice au c.length cu) (.map (some mb)), aBk mb, aI (.slice a8 (rI c (image c x) (nf c 30 (image c l))).length c8) (rI c (image c x) (nf c 30 (image c l)))] := hs8.alloc _; have hc9 : (w8.alloc (.cells #[.slice a8 (rI c (image c x) (nf c 30 (image c l))).length c8] 23)).cell? ⟨w8.heap.size, 0, none⟩ = some (.slice a8 (rI c (image c x) (nf c 30 (image c l))).length c8) := by go_simp)
            | (refine step_hsRowK (W := w) (v := vo) (vs := Z.map Prod.fst) (r := .slice a8 (rI c (image c x) (nf c 30 (image c l))).length c8) (by rfl) _ _ (by rfl) (by rfl) hs9 0 (by rfl) (HS.newV hs9 0 rfl) (by rfl) hc9 (by rfl) HZL.out ?_; intro v10 w10 hs10 _ hg10 hk10; have p9 := (HSx.cellC2 hs10 3 rfl).1; have p10 := (HSx.cellC2 hs10 3 rfl).2))
          have hown : (w8.alloc (.cells #[.slice a8 (rI c (image c x) (nf c 30 (image c l))).length c8] 23)).ownsRow 0 23 1 vo (Z.map Prod.fst).length (Z.map Prod.fst) := by
            obtain ⟨F, hF, _⟩ := HSx.get hs9 0 rfl
            exact hF.1
          have M10 : RMemo c mb k7 w10 := Memo.app (M8.below ((Below.refl _ _).alloc (Nat.le_refl _) _)) hown hg10
          have hmk2 : k7 ≤ (k + 1) * 2048 := by have := Nat.pow_le_pow_right (n := 2) (by decide) (show nn + 1 ≤ 11 by omega); omega
          have hs11 := (HSx.moreS hs10 1 5 (by decide) rfl rfl (Z' := Z ++ [(.slice a8 (rI c (image c x) (nf c 30 (image c l))).length c8, rI c (image c x) (nf c 30 (image c l)))]) (List.perm_append_singleton _ _)).pick [0, 1, 2, 3, 4] (by decide)
          have HMZ2 : Hid ((Z ++ [(Value.slice a8 (rI c (image c x) (nf c 30 (image c l))).length c8, rI c (image c x) (nf c 30 (image c l)))]).map Prod.snd = (L.take (k + 1)).map (fun x => rp c x l)) := Lib.hid (by
            rw [List.map_append, HMZ.out, take_step HXE.out, List.map_append, HNN.out]
            show _ ++ [rI c (image c x) (normL c l)] = _ ++ [rp c x l]
            rw [HRP.out x (List.mem_of_getElem? HXE.out)])
          have hs11 : HS w w10 [aV 23 v10 ((Z ++ [(Value.slice a8 (rI c (image c x) (nf c 30 (image c l))).length c8, rI c (image c x) (nf c 30 (image c l)))]).map Prod.fst), aRs (Z ++ [(Value.slice a8 (rI c (image c x) (nf c 30 (image c l))).length c8, rI c (image c x) (nf c 30 (image c l)))]), aF (.slice (some ⟨b3, o3, none⟩) m c2) L, aC2 g8 (.slice au c.length cu) (.map (some mb)), aBk mb] := by
            have e : (Z ++ [(Value.slice a8 (rI c (image c x) (nf c 30 (image c l))).length c8, rI c (image c x) (nf c 30 (image c l)))]).map Prod.fst = Z.map Prod.fst ++ [Value.slice a8 (rI c (image c x) (nf c 30 (image c l))).length c8] := by simp
            rw [e]; exact hs11
          generalize Z ++ [(Value.slice a8 (rI c (image c x) (nf c 30 (image c l))).length c8, rI c (image c x) (nf c 30 (image c l)))] = Z2 at *
          clear hs9 hs10 hs8 hs7 hown M8 M7 M6 Md hg10 hk10 f8 b8 v7 g7 f6 f5 b6 b5 c6 u6 v6 b06 him0 hsd hr3d p1 p2 p3 p4 p5 p6 p7 p8 p9 p10 q1 q2 hc9
          go_wp2_with fail
          go_roundw
          case rel => exact ⟨k + 1, v10, Z2, k7, rfl, by omega, by go_num, hs11, M10, hmk2, HMZ2⟩
          case measure => simp [intOf]; omega
        · have i1 : ¬ (k : Int) < (m : Int) := by omega
          have e : L.take k = L := List.take_of_length_le (by rw [HM.out]; omega)
          have hs7 : HS w wr [aF vo (Z.map Prod.snd)] := ((HSx.shutF hs (Z := Z) (v := vo) 0 1 (by decide) rfl rfl).pick [0] (by decide))
          rw [HMZ.out, e, ← HR.out] at hs7
          clear hs e
          go_wp2_with fail
          go_ret2
          exact ⟨_, by rw [HO.out]; rfl, HS.F hs7 0 rfl, hs7.bl⟩
    · have HO : Hid (rtOk c l = false) := Lib.hid (by unfold rtOk; rw [hok, decide_eq_false hten]; rfl)
      have HR : Hid (rtR c l = []) := Lib.hid (by unfold rtR; rw [HO.out]; rfl)
      have i10 : (10 : Int) < ((normL c l).length : Int) := by omega
      clear hok hwd h15 hten h200
      go_enter Tryz.func23, Tryz.ntmps23
      go_wp2_with fail
      refine hlow.mono ?_
      rintro e w2 ⟨r2, rfl, _, b2⟩
      have hln := hLN.out w2 b2
      clear hlow
      go_wp2_with fail
      refine hln.mono ?_
      rintro e w3 ⟨rfl, b3⟩
      have hb3 := Keeps.step b2 b3
      have hf := FII.empty_of hb3 (w1 := w3.alloc (.cells #[] 23)) rfl
      generalize (normL c l).length = nn at *
      clear hln b2 b3
      go_wp2_with fail
      go_ret2
      exact ⟨_, by rw [HO.out]; rfl, by rw [HR.out]; exact hf.1, hf.2⟩

theorem total_leR {A B : Nat} : ∀ {L : List (List Int)}, L.length ≤ A → (∀ x ∈ L, x.length ≤ B) → total L ≤ A * (B + 1) := by
  intro L hA hB
  have h1 : (L.map List.length).sum ≤ L.length * B := by
    clear hA
    induction L with
    | nil => simp
    | cons x L ih =>
      have := ih (fun y hy => hB y (List.mem_cons_of_mem _ hy))
      have := hB x (List.mem_cons_self ..)
      simp only [List.map_cons, List.sum_cons, List.length_cons, Nat.add_mul, Nat.one_mul]
      omega
  have h2 : L.length * B ≤ A * B := Nat.mul_le_mul_right _ hA
  unfold total
  rw [Nat.mul_add, Nat.mul_one]
  omega
theorem rtR_total (c : List (List Int)) (l : List Int) : total (rtR c l) ≤ 2400 := by
  unfold rtR
  split
  · rename_i h
    unfold rtOk at h
    rw [Bool.and_eq_true] at h
    obtain ⟨h1, _⟩ := lwR_mem h.1
    refine Nat.le_trans (total_leR (A := 200) (B := 11) (by rw [List.length_map]; exact h1) (fun x hx => ?_)) (by omega)
    obtain ⟨r, _, rfl⟩ := List.mem_map.1 hx
    exact rp_le c r l
  · simp [total]
end Go.Proofs.YtipjomdldjbenaaGreat
