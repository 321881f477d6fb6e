/- The dot action keeps the group law, and weights on a wall of it have no dominant form: the walk of the law. Condition: none. -/
import Derived.Test.YtdboknhjbjibjaaJGDrD
import Derived.Test.YtdboknhjbjibjaaJDotP
import Derived.Test.YtdboknhjbjibjaaJDom
namespace Go.Proofs.Ytdboknhjbjibjaa
open Go.RowKit
set_option maxRecDepth 20000

theorem sameSelfDr {S S' : Nat → Prop} {w : World} {u v : Value} {l : List Int} (h : RI S w u l) (h' : RI S' w v l) (hl : l.length ≤ 16777216) :
    Calls Try.prog 7 #[u, v] w fun e w' => e = .returned (.bool true) ∧ Below w.heap.size w w' :=
  (sameIntsDr h h' hl).mono fun e w' ⟨he, hb⟩ => ⟨by rw [he, decide_eq_true rfl], hb⟩
theorem dom_ofDr : ∀ {l : List Int}, (∀ x ∈ l, 0 ≤ x) → dom l = true
  | [], _ => rfl
  | x :: l, h => by
    unfold dom
    rw [if_neg (by have := h x (List.mem_cons_self ..); omega)]
    exact dom_ofDr fun y hy => h y (List.mem_cons_of_mem _ hy)
theorem In64.small {l : List Int} (h : ∀ x ∈ l, -2 ≤ x ∧ x ≤ 2) : In64 l := fun x hx => by have := h x hx; omega
theorem dd1_len {c : List (List Int)} {l : List Int} (h : l.length ≤ 6) : (dd1 c l).length ≤ 16777216 := by have := dd_len (c := c) (l := l); omega
theorem dd2_sign {c : List (List Int)} {u : List Int} (hk : ddOk c u = true) (h2 : dd2 c u ≠ 0) : dd2 c u = 1 ∨ dd2 c u = -1 := by
  rw [(dd2_ne hk h2).2.2]
  unfold sgL
  split
  · exact .inl rfl
  · exact .inr rfl

set_option maxHeartbeats 8000000 in
set_option maxRecDepth 100000 in
theorem lawDots {v : Value} {n : Nat} {w : World} (h : RBy Any w v n) :
    Calls Try.prog 3 #[v] w fun e w' => e = .returned (.bool true) ∧ Below w.heap.size w w' := by
  obtain ⟨a, cap, rfl⟩ : ∃ a cap, v = .slice a n cap := by obtain ⟨a, cap, e, _⟩ := h; exact ⟨a, cap, e⟩
  by_cases hbig : 1048576 < n
  · go_enter Try.func3, Try.ntmps3
    go_wp2_with fail
    refine bigDr.mono ?_
    rintro e w1 ⟨rfl, rfl⟩
    rw [decide_eq_true hbig]
    go_wp2_with fail
    go_ret
    exact ⟨rfl, Below.refl _ _⟩
  · have hn : n ≤ 1048576 := by omega
    go_enter Try.func3, Try.ntmps3
    go_wp2_with fail
    refine bigDr.mono ?_
    rintro e w1 ⟨rfl, rfl⟩
    rw [decide_eq_false hbig]
    clear hbig
    go_wp2_with fail
    refine (dotActionDr h hn).mono ?_
    rintro e w1 ⟨rc, rq, rl, rfl, c, q, l, hD⟩
    have hrm := hD.rm
    have hrq := hD.rq
    have hrl := hD.rl
    have b1 := hD.bl
    have t100 := hD.tot
    have tc : total c ≤ 16777216 := by omega
    have tq : q.length ≤ 16777216 := by have := hD.qlen; omega
    have tl : l.length ≤ 16777216 := by have := hD.len; omega
    have HSM := Lib.hid hD.small
    clear hD t100
    obtain ⟨ac, cc, rfl⟩ := hrm.form
    obtain ⟨al, cl, rfl⟩ := hrl.form
    have hx : (dot c q l).length = l.length := dot_length
    have tx : (dot c q l).length ≤ 16777216 := by omega
    have HBK : Hid (isWd c q = true → l.length = c.length → dot c q.reverse (dot c q l) = l) := Lib.hid (fun h1 h2 => dot_back h1 h2 (In64.small HSM.out))
    have tr : q.reverse.length ≤ 16777216 := by rw [List.length_reverse]; exact tq
    clear hx
    generalize hnc : c.length = nc at *
    generalize hnl : l.length = nl at *
    have HNC := Lib.hid hnc
    have HNL := Lib.hid hnl
    clear hnc hnl
    go_wp2_with fail
    refine (dotImpl hrm hrq hrl tc tq (by rw [HNL.out]; exact tl)).mono ?_
    rintro e w2 ⟨rx, rfl, f2, b2⟩
    have b02 := Keeps.step b1 b2
    go_wp2_with fail
    refine (dotSpec (hrm.below b2) (hrq.below b2) (hrl.below b2) tc tq (by rw [HNL.out]; exact tl)).mono ?_
    rintro e w3 ⟨ry, rfl, f3, b3⟩
    have b03 := Keeps.step b02 b3
    go_wp2_with fail
    refine (sameSelfDr (f2.reads.below b3) f3.reads tx).mono ?_
    rintro e w4 ⟨rfl, b4⟩
    have b04 := Keeps.step b03 b4
    have b24 := Keeps.step b3 b4
    have b14 := Keeps.step b2 b24
    go_wp2_with fail
    refine (isWordSpec (hrm.below b14) (hrq.below b14) tc tq).mono ?_
    rintro e w5 ⟨rfl, hw5⟩
    have b5 := below_quiet hw5
    clear hw5
    have b05 := Keeps.step b04 b5
    have b15 := Keeps.step b14 b5
    have b25 := Keeps.step b24 b5
    clear b02 b03 b04 b24 b14 b2 b3 b4 b5 f3
    cases hW : isWd c q
    · clear HBK hW f2
      have hv := h.below b05
      go_wp2_with fail
      refine (dotDominantDr hv hn).mono ?_
      rintro e w6 ⟨rd, ru, rfl, d, u, hE⟩
      have grm := hE.rm
      have grl := hE.rl
      have b6 := hE.bl
      have td : total d ≤ 16777216 := by have := hE.total; omega
      have tu : u.length ≤ 16777216 := by have := hE.len; omega
      have hd1 := hE.m1
      have hd5 := hE.m5
      have b06 := Keeps.step b05 b6
      have HSU := Lib.hid hE.small
      have t1 : (dd1 d u).length ≤ 16777216 := dd1_len hE.len
      have HUL := Lib.hid hE.len
      obtain ⟨ad, cd, rfl⟩ := grm.form
      generalize hnd : d.length = nd at *
      have HND := Lib.hid hnd
      clear hnd hE
      go_wp2_with fail
      refine (dotDominantImpl grm grl td tu).mono ?_
      rintro e w7 ⟨r7, rfl, f7, b7⟩
      have b07 := Keeps.step b06 b7
      go_wp2_with fail
      refine (dotDominantSpec (grm.below b7) (grl.below b7) td tu).mono ?_
      rintro e w8 ⟨r8, rfl, f8, b8⟩
      have b08 := Keeps.step b07 b8
      have g7 := f7.reads.below b8
      have g8 := f8.reads
      have b68 := Keeps.step b7 b8
      have HS2 : Hid (ddOk d u = true → dd2 d u ≠ 0 → dd2 d u = 1 ∨ dd2 d u = -1) := Lib.hid dd2_sign
      have HDT : Hid (∀ i : Nat, i < nd → ddOk d u = true → dd2 d u ≠ 0 → ddOk d (dot d [(i : Int)] u) = true ∧ dd1 d (dot d [(i : Int)] u) = dd1 d u ∧ dd2 d (dot d [(i : Int)] u) = -dd2 d u) := Lib.hid (fun i hi h1 h2 => dd_dot (by rw [HND.out]; exact hi) h1 h2 (fun x hx => by have := HSU.out x hx; omega))
      have HDM : Hid (ddOk d u = true → dd2 d u ≠ 0 → dom (dd1 d u) = true) := Lib.hid (fun h1 h2 => dom_ofDr (dd_dom h1 h2))
      clear f7 f8 b07 b7 b8 b6 b06
      cases hk : ddOk d u
      · have s0 : (dd2 d u != dd2 d u) = false := by simp
        generalize dd2 d u = s at *
        clear HS2 HDT HDM hk
        go_wp2_with fail
        refine (sameSelfDr g7 g8 t1).mono ?_
        rintro e w9 ⟨rfl, b9⟩
        have b09 := Keeps.step b08 b9
        clear g7 g8
        go_wp2_with fail
        go_ret
        exact ⟨rfl, b09⟩
      · have s0 : (dd2 d u != dd2 d u) = false := by simp
        have HS3 := Lib.hid (HS2.out hk)
        have HDT3 := Lib.hid (fun i hi => HDT.out i hi hk)
        have HDM3 := Lib.hid (HDM.out hk)
        clear HS2 HDT HDM hk
        generalize dd2 d u = s at *
        by_cases hs : s = 0
        · have s1 : (s != 0) = false := by simp [hs]
          clear HS3 HDT3 HDM3 hs
          go_wp2_with fail
          refine (sameSelfDr g7 g8 t1).mono ?_
          rintro e w9 ⟨rfl, b9⟩
          have b09 := Keeps.step b08 b9
          clear g7 g8
          go_wp2_with fail
          go_ret
          exact ⟨rfl, b09⟩
        · have s1 : (s != 0) = true := by simp [hs]
          have HS4 := Lib.hid (HS3.out hs)
          have HDT4 := Lib.hid (fun i hi => HDT3.out i hi hs)
          have HDM4 := Lib.hid (HDM3.out hs)
          have n0 : ((nd : Int) == 0) = false := by simp; omega
          clear HS3 HDT3 HDM3 hs
          go_wp2_with fail
          refine (sameSelfDr g7 g8 t1).mono ?_
          rintro e w9 ⟨rfl, b9⟩
          have b09 := Keeps.step b08 b9
          have b69 := Keeps.step b68 b9
          have g8 := g8.below b9
          clear g7
          go_wp2_with fail
          refine (atDr (i := 4) (h.below b09) hn (by omega)).mono ?_
          rintro e w10 ⟨x, hx, rfl, rfl⟩
          obtain ⟨i, hi⟩ : ∃ i : Nat, i = x % nd := ⟨_, rfl⟩
          have hil : i < nd := by rw [hi]; exact Nat.mod_lt _ (by omega)
          have e1 : (x : Int) % (nd : Int) = (i : Int) := by rw [hi]; omega
          obtain ⟨D1, D2, D3⟩ := HDT4.out i hil
          clear hi
          have HD1 := Lib.hid D1
          have HD2 := Lib.hid D2
          have HD3 := Lib.hid D3
          clear D1 D2 D3 HDT4
          have bb := (Below.refl w9.heap.size w9).alloc (Nat.le_refl _) (.cells #[.int .i64 (i : Int)] 3)
          have b6b := Keeps.step b69 bb
          have b0b := Keeps.step b09 bb
          have hone := RI.one w9 (i : Int)
          go_wp2_with fail
          refine (dotSpec (grm.below b6b) hone (grl.below b6b) td (by simp) tu).mono ?_
          rintro e w11 ⟨r11, rfl, f11, b11⟩
          have b0c := Keeps.step b0b b11
          have b6c := Keeps.step b6b b11
          have tdu : (dot d [(i : Int)] u).length ≤ 16777216 := by rw [dot_length]; exact tu
          go_wp2_with fail
          refine (dotDominantImpl (grm.below b6c) f11.reads td tdu).mono ?_
          rintro e w12 ⟨r12, rfl, f12, b12⟩
          rw [HD2.out] at f12
          rw [HD1.out, HD3.out]
          have b0d := Keeps.step b0c b12
          have g8 := g8.below (Keeps.step (Keeps.step bb b11) b12)
          have g12 := f12.reads
          generalize dd1 d u = L1 at *
          clear f11 f12 HD1 HD2 HD3
          go_wp2_with fail
          refine (isDominantImpl g8 t1).mono ?_
          rintro e w13 ⟨rfl, rfl⟩
          rw [HDM4.out]
          obtain rfl | rfl := HS4.out
          all_goals
            go_wp2_with fail
            refine (sameSelfDr g12 g8 t1).mono ?_
            rintro e w14 ⟨rfl, b14⟩
            have b0e := Keeps.step b0d b14
            clear g12 g8
            go_wp2_with fail
            go_ret
            exact ⟨rfl, b0e⟩
    · have HB2 := Lib.hid (HBK.out hW)
      clear hW HBK
      by_cases hl2 : nl = nc
      · have e0 : ((nl : Int) == (nc : Int)) = true := by simp [hl2]
        have HB3 := Lib.hid (HB2.out hl2)
        clear HB2 hl2
        go_wp2_with fail
        refine (reverseWordSpec (hrq.below b15) tq).mono ?_
        rintro e v6 ⟨y6, rfl, q6, c6⟩
        have b06 := Keeps.step b05 c6
        have b16 := Keeps.step b15 c6
        have b26 := Keeps.step b25 c6
        go_wp2_with fail
        refine (dotImpl (hrm.below b16) q6.reads (f2.reads.below b26) tc tr tx).mono ?_
        rintro e v7 ⟨y7, rfl, q7, c7⟩
        rw [HB3.out] at q7
        have b07 := Keeps.step b06 c7
        have b17 := Keeps.step b16 c7
        go_wp2_with fail
        refine (sameSelfDr q7.reads (hrl.below b17) (by rw [HNL.out]; exact tl)).mono ?_
        rintro e v8 ⟨rfl, c8⟩
        have b08' := Keeps.step b07 c8
        clear q6 q7 b06 b16 b26 b07 b17 c6 c7 c8 f2 HB3
        have hv := h.below b08'
        go_wp2_with fail
        refine (dotDominantDr hv hn).mono ?_
        rintro e w6 ⟨rd, ru, rfl, d, u, hE⟩
        have grm := hE.rm
        have grl := hE.rl
        have b6 := hE.bl
        have td : total d ≤ 16777216 := by have := hE.total; omega
        have tu : u.length ≤ 16777216 := by have := hE.len; omega
        have hd1 := hE.m1
        have hd5 := hE.m5
        have b06 := Keeps.step b08' b6
        have HSU := Lib.hid hE.small
        have t1 : (dd1 d u).length ≤ 16777216 := dd1_len hE.len
        have HUL := Lib.hid hE.len
        obtain ⟨ad, cd, rfl⟩ := grm.form
        generalize hnd : d.length = nd at *
        have HND := Lib.hid hnd
        clear hnd hE
        go_wp2_with fail
        refine (dotDominantImpl grm grl td tu).mono ?_
        rintro e w7 ⟨r7, rfl, f7, b7⟩
        have b07 := Keeps.step b06 b7
        go_wp2_with fail
        refine (dotDominantSpec (grm.below b7) (grl.below b7) td tu).mono ?_
        rintro e w8 ⟨r8, rfl, f8, b8⟩
        have b08 := Keeps.step b07 b8
        have g7 := f7.reads.below b8
        have g8 := f8.reads
        have b68 := Keeps.step b7 b8
        have HS2 : Hid (ddOk d u = true → dd2 d u ≠ 0 → dd2 d u = 1 ∨ dd2 d u = -1) := Lib.hid dd2_sign
        have HDT : Hid (∀ i : Nat, i < nd → ddOk d u = true → dd2 d u ≠ 0 → ddOk d (dot d [(i : Int)] u) = true ∧ dd1 d (dot d [(i : Int)] u) = dd1 d u ∧ dd2 d (dot d [(i : Int)] u) = -dd2 d u) := Lib.hid (fun i hi h1 h2 => dd_dot (by rw [HND.out]; exact hi) h1 h2 (fun x hx => by have := HSU.out x hx; omega))
        have HDM : Hid (ddOk d u = true → dd2 d u ≠ 0 → dom (dd1 d u) = true) := Lib.hid (fun h1 h2 => dom_ofDr (dd_dom h1 h2))
        clear f7 f8 b07 b7 b8 b6 b06
        cases hk : ddOk d u
        · have s0 : (dd2 d u != dd2 d u) = false := by simp
          generalize dd2 d u = s at *
          clear HS2 HDT HDM hk
          go_wp2_with fail
          refine (sameSelfDr g7 g8 t1).mono ?_
          rintro e w9 ⟨rfl, b9⟩
          have b09 := Keeps.step b08 b9
          clear g7 g8
          go_wp2_with fail
          go_ret
          exact ⟨rfl, b09⟩
        · have s0 : (dd2 d u != dd2 d u) = false := by simp
          have HS3 := Lib.hid (HS2.out hk)
          have HDT3 := Lib.hid (fun i hi => HDT.out i hi hk)
          have HDM3 := Lib.hid (HDM.out hk)
          clear HS2 HDT HDM hk
          generalize dd2 d u = s at *
          by_cases hs : s = 0
          · have s1 : (s != 0) = false := by simp [hs]
            clear HS3 HDT3 HDM3 hs
            go_wp2_with fail
            refine (sameSelfDr g7 g8 t1).mono ?_
            rintro e w9 ⟨rfl, b9⟩
            have b09 := Keeps.step b08 b9
            clear g7 g8
            go_wp2_with fail
            go_ret
            exact ⟨rfl, b09⟩
          · have s1 : (s != 0) = true := by simp [hs]
            have HS4 := Lib.hid (HS3.out hs)
            have HDT4 := Lib.hid (fun i hi => HDT3.out i hi hs)
            have HDM4 := Lib.hid (HDM3.out hs)
            have n0 : ((nd : Int) == 0) = false := by simp; omega
            clear HS3 HDT3 HDM3 hs
            go_wp2_with fail
            refine (sameSelfDr g7 g8 t1).mono ?_
            rintro e w9 ⟨rfl, b9⟩
            have b09 := Keeps.step b08 b9
            have b69 := Keeps.step b68 b9
            have g8 := g8.below b9
            clear g7
            go_wp2_with fail
            refine (atDr (i := 4) (h.below b09) hn (by omega)).mono ?_
            rintro e w10 ⟨x, hx, rfl, rfl⟩
            obtain ⟨i, hi⟩ : ∃ i : Nat, i = x % nd := ⟨_, rfl⟩
            have hil : i < nd := by rw [hi]; exact Nat.mod_lt _ (by omega)
            have e1 : (x : Int) % (nd : Int) = (i : Int) := by rw [hi]; omega
            obtain ⟨D1, D2, D3⟩ := HDT4.out i hil
            clear hi
            have HD1 := Lib.hid D1
            have HD2 := Lib.hid D2
            have HD3 := Lib.hid D3
            clear D1 D2 D3 HDT4
            have bb := (Below.refl w9.heap.size w9).alloc (Nat.le_refl _) (.cells #[.int .i64 (i : Int)] 3)
            have b6b := Keeps.step b69 bb
            have b0b := Keeps.step b09 bb
            have hone := RI.one w9 (i : Int)
            go_wp2_with fail
            refine (dotSpec (grm.below b6b) hone (grl.below b6b) td (by simp) tu).mono ?_
            rintro e w11 ⟨r11, rfl, f11, b11⟩
            have b0c := Keeps.step b0b b11
            have b6c := Keeps.step b6b b11
            have tdu : (dot d [(i : Int)] u).length ≤ 16777216 := by rw [dot_length]; exact tu
            go_wp2_with fail
            refine (dotDominantImpl (grm.below b6c) f11.reads td tdu).mono ?_
            rintro e w12 ⟨r12, rfl, f12, b12⟩
            rw [HD2.out] at f12
            rw [HD1.out, HD3.out]
            have b0d := Keeps.step b0c b12
            have g8 := g8.below (Keeps.step (Keeps.step bb b11) b12)
            have g12 := f12.reads
            generalize dd1 d u = L1 at *
            clear f11 f12 HD1 HD2 HD3
            go_wp2_with fail
            refine (isDominantImpl g8 t1).mono ?_
            rintro e w13 ⟨rfl, rfl⟩
            rw [HDM4.out]
            obtain rfl | rfl := HS4.out
            all_goals
              go_wp2_with fail
              refine (sameSelfDr g12 g8 t1).mono ?_
              rintro e w14 ⟨rfl, b14⟩
              have b0e := Keeps.step b0d b14
              clear g12 g8
              go_wp2_with fail
              go_ret
              exact ⟨rfl, b0e⟩
      · have e0 : ((nl : Int) == (nc : Int)) = false := by simp; omega
        clear HB2 f2
        have hv := h.below b05
        go_wp2_with fail
        refine (dotDominantDr hv hn).mono ?_
        rintro e w6 ⟨rd, ru, rfl, d, u, hE⟩
        have grm := hE.rm
        have grl := hE.rl
        have b6 := hE.bl
        have td : total d ≤ 16777216 := by have := hE.total; omega
        have tu : u.length ≤ 16777216 := by have := hE.len; omega
        have hd1 := hE.m1
        have hd5 := hE.m5
        have b06 := Keeps.step b05 b6
        have HSU := Lib.hid hE.small
        have t1 : (dd1 d u).length ≤ 16777216 := dd1_len hE.len
        have HUL := Lib.hid hE.len
        obtain ⟨ad, cd, rfl⟩ := grm.form
        generalize hnd : d.length = nd at *
        have HND := Lib.hid hnd
        clear hnd hE
        go_wp2_with fail
        refine (dotDominantImpl grm grl td tu).mono ?_
        rintro e w7 ⟨r7, rfl, f7, b7⟩
        have b07 := Keeps.step b06 b7
        go_wp2_with fail
        refine (dotDominantSpec (grm.below b7) (grl.below b7) td tu).mono ?_
        rintro e w8 ⟨r8, rfl, f8, b8⟩
        have b08 := Keeps.step b07 b8
        have g7 := f7.reads.below b8
        have g8 := f8.reads
        have b68 := Keeps.step b7 b8
        have HS2 : Hid (ddOk d u = true → dd2 d u ≠ 0 → dd2 d u = 1 ∨ dd2 d u = -1) := Lib.hid dd2_sign
        have HDT : Hid (∀ i : Nat, i < nd → ddOk d u = true → dd2 d u ≠ 0 → ddOk d (dot d [(i : Int)] u) = true ∧ dd1 d (dot d [(i : Int)] u) = dd1 d u ∧ dd2 d (dot d [(i : Int)] u) = -dd2 d u) := Lib.hid (fun i hi h1 h2 => dd_dot (by rw [HND.out]; exact hi) h1 h2 (fun x hx => by have := HSU.out x hx; omega))
        have HDM : Hid (ddOk d u = true → dd2 d u ≠ 0 → dom (dd1 d u) = true) := Lib.hid (fun h1 h2 => dom_ofDr (dd_dom h1 h2))
        clear f7 f8 b07 b7 b8 b6 b06
        cases hk : ddOk d u
        · have s0 : (dd2 d u != dd2 d u) = false := by simp
          generalize dd2 d u = s at *
          clear HS2 HDT HDM hk
          go_wp2_with fail
          refine (sameSelfDr g7 g8 t1).mono ?_
          rintro e w9 ⟨rfl, b9⟩
          have b09 := Keeps.step b08 b9
          clear g7 g8
          go_wp2_with fail
          go_ret
          exact ⟨rfl, b09⟩
        · have s0 : (dd2 d u != dd2 d u) = false := by simp
          have HS3 := Lib.hid (HS2.out hk)
          have HDT3 := Lib.hid (fun i hi => HDT.out i hi hk)
          have HDM3 := Lib.hid (HDM.out hk)
          clear HS2 HDT HDM hk
          generalize dd2 d u = s at *
          by_cases hs : s = 0
          · have s1 : (s != 0) = false := by simp [hs]
            clear HS3 HDT3 HDM3 hs
            go_wp2_with fail
            refine (sameSelfDr g7 g8 t1).mono ?_
            rintro e w9 ⟨rfl, b9⟩
            have b09 := Keeps.step b08 b9
            clear g7 g8
            go_wp2_with fail
            go_ret
            exact ⟨rfl, b09⟩
          · have s1 : (s != 0) = true := by simp [hs]
            have HS4 := Lib.hid (HS3.out hs)
            have HDT4 := Lib.hid (fun i hi => HDT3.out i hi hs)
            have HDM4 := Lib.hid (HDM3.out hs)
            have n0 : ((nd : Int) == 0) = false := by simp; omega
            clear HS3 HDT3 HDM3 hs
            go_wp2_with fail
            refine (sameSelfDr g7 g8 t1).mono ?_
            rintro e w9 ⟨rfl, b9⟩
            have b09 := Keeps.step b08 b9
            have b69 := Keeps.step b68 b9
            have g8 := g8.below b9
            clear g7
            go_wp2_with fail
            refine (atDr (i := 4) (h.below b09) hn (by omega)).mono ?_
            rintro e w10 ⟨x, hx, rfl, rfl⟩
            obtain ⟨i, hi⟩ : ∃ i : Nat, i = x % nd := ⟨_, rfl⟩
            have hil : i < nd := by rw [hi]; exact Nat.mod_lt _ (by omega)
            have e1 : (x : Int) % (nd : Int) = (i : Int) := by rw [hi]; omega
            obtain ⟨D1, D2, D3⟩ := HDT4.out i hil
            clear hi
            have HD1 := Lib.hid D1
            have HD2 := Lib.hid D2
            have HD3 := Lib.hid D3
            clear D1 D2 D3 HDT4
            have bb := (Below.refl w9.heap.size w9).alloc (Nat.le_refl _) (.cells #[.int .i64 (i : Int)] 3)
            have b6b := Keeps.step b69 bb
            have b0b := Keeps.step b09 bb
            have hone := RI.one w9 (i : Int)
            go_wp2_with fail
            refine (dotSpec (grm.below b6b) hone (grl.below b6b) td (by simp) tu).mono ?_
            rintro e w11 ⟨r11, rfl, f11, b11⟩
            have b0c := Keeps.step b0b b11
            have b6c := Keeps.step b6b b11
            have tdu : (dot d [(i : Int)] u).length ≤ 16777216 := by rw [dot_length]; exact tu
            go_wp2_with fail
            refine (dotDominantImpl (grm.below b6c) f11.reads td tdu).mono ?_
            rintro e w12 ⟨r12, rfl, f12, b12⟩
            rw [HD2.out] at f12
            rw [HD1.out, HD3.out]
            have b0d := Keeps.step b0c b12
            have g8 := g8.below (Keeps.step (Keeps.step bb b11) b12)
            have g12 := f12.reads
            generalize dd1 d u = L1 at *
            clear f11 f12 HD1 HD2 HD3
            go_wp2_with fail
            refine (isDominantImpl g8 t1).mono ?_
            rintro e w13 ⟨rfl, rfl⟩
            rw [HDM4.out]
            obtain rfl | rfl := HS4.out
            all_goals
              go_wp2_with fail
              refine (sameSelfDr g12 g8 t1).mono ?_
              rintro e w14 ⟨rfl, b14⟩
              have b0e := Keeps.step b0d b14
              clear g12 g8
              go_wp2_with fail
              go_ret
              exact ⟨rfl, b0e⟩
end Go.Proofs.Ytdboknhjbjibjaa
