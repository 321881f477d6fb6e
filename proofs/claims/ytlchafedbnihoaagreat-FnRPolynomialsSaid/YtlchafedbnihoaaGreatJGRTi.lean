/- The R-polynomials of all elements below a word, by the program. Condition: sizes up to 2^24. -/
import Derived.Test.YtlchafedbnihoaaGreatJGRTb
import Derived.Test.YtlchafedbnihoaaGreatJLowI
namespace Go.Proofs.YtlchafedbnihoaaGreat
open Go.RowKit
set_option maxRecDepth 20000
set_option maxHeartbeats 8000000
abbrev aBk (mb:Nat):zAb:=fun F _=>F mb
theorem zNi (mb:Nat):zA1 (aBk mb):=fun _ _ _ h _=>h
theorem HSx.grownM {A:Nat→Prop} {w0 w w':World} {Ps:List zAb} {mb:Nat} (h:HSx A w0 w Ps) (i:Nat) (hi:Ps[i]? = some (aBk mb)) (hg:w.grownBy w' (some mb)) (hnew:w0.heap.size≤mb):HSx A w0 w' Ps:=by
 have:=h.upd i hi (zNi mb) (h.bl.grown hg h.bl.size (fun b hb=>by simp only [Option.some.injEq] at hb; omega)) hg.size fun F hF _=>⟨F,hF,fun b hb=>.inl hb,fun b hl hb=>hg.block b hl (fun e=>by simp only [Option.some.injEq] at e; subst e; exact hb hF)⟩;have e:Ps.set i (aBk mb)=Ps:=by
  refine List.ext_getElem? fun m=>?_;by_cases hm:m=i
  ·subst hm;rw [List.getElem?_set_self (zQb hi).1,hi]
  ·rw [List.getElem?_set_ne (Ne.symm hm)]
 rwa [e] at this
abbrev aC2 (b:Nat) (x y:Value):zAb:=fun F w=>F b∧w.cell? ⟨b,0,none⟩=some x∧w.cell? ⟨b,1,none⟩=some y
theorem zHE {w w':World} {b o:Nat} {x:Value} (h:w.cell? ⟨b,o,none⟩=some x) (e:w'.heap[b]? = w.heap[b]?):w'.cell? ⟨b,o,none⟩=some x:=by
 unfold World.cell? at h ⊢;simp only at h ⊢;rw [e]; exact h
theorem zQV (b:Nat) (x y:Value):zA1 (aC2 b x y):=fun _ w _ h k=>by
 have e:=k b h.1 (zQc w _ h.2.1);exact ⟨h.1,zHE h.2.1 e,zHE h.2.2 e⟩
theorem HSx.cellC2 {A:Nat→Prop} {w0 w:World} {Ps:List zAb} {b:Nat} {x y:Value} (h:HSx A w0 w Ps) (i:Nat) (hi:Ps[i]? = some (aC2 b x y)):w.cell? ⟨b,0,none⟩=some x∧w.cell? ⟨b,1,none⟩=some y:=by
 obtain ⟨F,hF,_⟩:=HSx.get h i hi;exact hF.2
theorem Memo.app {A:List Int→List Int→Prop} {F:List Int→List Int→List Int} {n mb m:Nat} {w w':World} {v:Value} {vs:List Value} (h:Memo A F n mb m w) (hown:w.ownsRow 0 25 1 v vs.length vs) (hg:w.grownBy w' v.ownBlock):Memo A F n mb m w':=by
 have hne:v.ownBlock≠some mb:=fun e=>by
  obtain ⟨cur,hc⟩:=zAr hown e;obtain ⟨D,h1,_⟩:=h;obtain ⟨es,clock,hb,_⟩:=h1;rw [hb] at hc;cases hc
 obtain ⟨D,h1,h2⟩:=h;refine ⟨D,h1.kept hg (Ne.symm hne),fun a b u ha hh hat=>?_⟩;have hr:=h2 a b u ha hh hat;cases hv:v.ownBlock with
 | none=>exact hr.keep fun b hb hl=>hg.block b hl (by rw [hv]; simp)
 | some B=>exact RI.mono ((hr.off (zAr hown hv)).keep fun b hb hl=>hg.block b hl (by rw [hv]; simpa using hb.2)) (fun b hb=>hb.1)
theorem zGj {S S':Nat→Prop} {u v:Value} {c:List (List Int)} {l:List Int} {w:World} (h:RII S w u c) (h':RI S' w v l) (hl:total c≤16777216) (hl':l.length≤16777216) :
  Calls Tryz.prog 25 #[u,v] w fun e w'=>∃r,e=.returned (.tuple #[r,.bool (rtOk c l)])∧FII (New w w') w' r (rtR c l)∧Below w.heap.size w w':=by
 have mixed:Tryz.prog.follows .mixedOrders=true:=by kernel_rfl
 have hlow:=zHS h h' hl hl';have h0:=h;obtain ⟨au,cu,rfl⟩:=h.form;cases hok:lwOk c l with
 | false =>
  have HO:Hid (rtOk c l=false):=zQY (by unfold rtOk; rw [hok]; rfl);have HR:Hid (rtR c l=[]):=zQY (by unfold rtR; rw [HO.out]; rfl);rw [hok] at hlow;clear hok;go_enter Tryz.func25,Tryz.ntmps25
  go_wp2_with fail
  refine hlow.mono ?_;rintro e w2 ⟨r2,rfl,_,b2⟩;have hf:=FII.empty_of b2 (w1:=w2.alloc (.cells #[] 25)) rfl;clear hlow b2;go_wp2_with fail
  go_ret2
  exact ⟨_,by rw [HO.out]; rfl,by rw [HR.out]; exact hf.1,hf.2⟩
 | true =>
  have hwd:=zB8 hok;obtain ⟨hisc,hlen15,hlets⟩:=zAT hwd;have hc:CartanP c:=zAY.1 hisc;obtain ⟨h200,h15⟩:=zB9 hok;have hLN:=zQY (fun (wv:World) (hb:Below w.heap.size w wv)=>zE7 (h.below hb) (h'.below hb) hc hlets (by omega));rw [hok] at hlow;by_cases hten:(zAB c l).length≤10
  ·have HO:Hid (rtOk c l=true):=zQY (by unfold rtOk; rw [hok,decide_eq_true hten]; rfl);have HR:Hid (rtR c l=(lwR c l).map (fun x=>rp c x l)):=zQY (by unfold rtR; rw [HO.out,if_pos rfl]);have HRP:Hid (∀x∈lwR c l,rp c x l=rI c (zAC c x) (zAB c l)):=zQY (fun x hx=>by
    unfold rp rpOk;rw [wd15 hisc (h15 x hx),hwd,decide_eq_true hten]; rfl)
   have i10:¬(10:Int)<((zAB c l).length:Int):=by omega
   have HTEN:=zQY hten;clear hok hten;go_enter Tryz.func25,Tryz.ntmps25
   go_wp2_with fail
   refine hlow.mono ?_;rintro e w2 ⟨r2,rfl,f2,b2⟩;have hs2:=HSx.addF (HS.nil (Below.refl _ w)) b2 f2;obtain ⟨a2,c2,rfl⟩:=f2.read.form;have hln:=hLN.out w2 hs2.bl;clear hlow b2 f2;go_wp2_with fail
   refine hln.mono ?_;rintro e w3 ⟨rfl,b3⟩;have hs3:=HSx.below hs2 b3;have hs3:HS w w3 [aF (.slice a2 (lwR c l).length c2) (lwR c l)]:=hs3;have hnr:=zEo (c:=c) (h.below hs3.bl);clear hln hs2 b3 hLN;go_wp2_with fail
   refine hnr.mono ?_;rintro e w4 ⟨mb,rfl,hmb,M4,b4⟩;have hlt4:=M4.lt;have hs4:=HSx.add hs3 b4 (zNi mb) (F:=fun b=>b=mb) rfl (fun b hb=>by subst hb; exact ⟨hmb,hlt4⟩);obtain ⟨w5,hw5⟩:∃w5,w5=w4.alloc (.cells #[.slice au c.length cu,.map (some mb)] 55):=⟨_,rfl⟩;have hb5:Below w4.heap.size w4 w5:=by rw [hw5]; exact (Below.refl _ _).alloc (zQd _) _
   have hs5:=HSx.add hs4 hb5 (zQV w4.heap.size (.slice au c.length cu) (.map (some mb))) (F:=fun b=>b=w4.heap.size) ⟨rfl,by rw [hw5]; go_simp,by rw [hw5]; go_simp⟩ (fun b hb=>by subst hb; exact ⟨zQd _,by rw [hw5]; simp⟩);obtain ⟨w6,hw6⟩:∃w6,w6=w5.alloc (.cells #[] 25):=⟨_,rfl⟩;have hs6:=zCm hs5 hw6;have hs6:=hs6.add (Below.refl _ _) (zCf []) (F:=NoB) ⟨fun x hx=>by simp at hx,List.Pairwise.nil⟩ (fun b hb=>hb.elim);have hs6:=HSx.pick hs6 [3,4,0,2,1] (by decide);have hz5:w5.heap.size=w4.heap.size+1:=by rw [hw5]; simp
   rw [hz5] at hs6;have hs6:HS w w6 [aV 25 (.slice (some ⟨w4.heap.size+1,0,none⟩) 0 0) (([]:Zl).map Prod.fst),aRs [],aF (.slice a2 (lwR c l).length c2) (lwR c l),aC2 w4.heap.size (.slice au c.length cu) (.map (some mb)),aBk mb]:=hs6;have M6:zCO c mb 0 w6:=by rw [hw6]; exact (M4.below hb5).below ((Below.refl _ _).alloc (zQd _) _)
   have HW:=zQY (show w6=(w4.alloc (.cells #[.slice au c.length cu,.map (some mb)] 55)).alloc (.cells #[] 25) by rw [hw6,hw5]);have hmb0:w.heap.size≤mb:=Nat.le_trans hs3.bl.size hmb;have HM0:Hid (([]:Zl).map Prod.snd=((lwR c l).take 0).map (fun x=>rp c x l)):=zQY rfl;clear hnr hs3 hs4 hs5 hw5 hw6 b4 M4 hb5 hmb hlt4 hz5;have HIM:=zQY (fun (wv:World) (S9:Nat→Prop) (vv:Value) (x:List Int) (hb:Below w.heap.size w wv) (hx:RI S9 wv vv x) (h5:Nf15 c x)=>zDJ (h0.below hb) hx hc h5.1.lets (by have:=h5.2; omega));have HIV:=zQY (fun (wv:World) (hb:Below w.heap.size w wv)=>zDJ (h0.below hb) (h'.below hb) hc hlets hl');have HXX:=zQY h15;have HII:=zQY (fun (x:List Int) (h5:Nf15 c x)=>zAV hc h5.1.lets (show x.length≤30 by have:=h5.2; omega));have HIL:=zQY (zAV hc hlets (show l.length≤30 by omega));have HOLD:=zQY h0.old
   have HNN:Hid (nf c 30 (zAC c l)=zAB c l):=zQY rfl;have hl15:l.length≤15:=hlen15;generalize hnn:(zAB c l).length=nn at *;generalize hm:(lwR c l).length=m at *;have HM:=zQY hm;generalize lwR c l=L at *;have hn10:nn≤10:=HTEN.out;clear hm h15 hwd hisc hlets hlen15 h' h h0;go_wp2_with fail
   rw [<-HW.out];generalize w4.heap.size+1=gz at *;generalize w4.heap.size=g8 at *;go_loopw [9,32] (fun oo kk wr=>∃(k:Nat) (vo:Value) (Z:Zl) (mk:Nat),vo=oo∧k≤m∧kk=.int .i64 k∧HS w wr [aV 25 vo (Z.map Prod.fst),aRs Z,aF (.slice a2 m c2) L,aC2 g8 (.slice au c.length cu) (.map (some mb)),aBk mb]∧zCO c mb mk wr∧mk≤k*2048∧Hid (Z.map Prod.snd=(L.take k).map (fun x=>rp c x l))) (fun _ kk _=>m-(intOf kk).toNat)
   case atStart=>exact ⟨0,_,[],0,rfl,Nat.zero_le _,rfl,hs6,M6,zQd _,HM0⟩
   case round =>
    clear hs6 HM0 M6;obtain ⟨k,vo,Z,mk,rfl,hk,rfl,hs,M,hmk,HMZ⟩:=hrel;by_cases hkm:k<m
    ·have i1:(k:Int)<(m:Int):=by omega
     have i2:(0:Int)≤(k:Int):=by omega
     obtain ⟨b3,o3,r3,x,rfl,hc3,hr3,hx⟩:=RII.at (HS.F hs 2 rfl).read hkm;have hx5:=HXX.out x (zQa hx.out);have HX5:=zQY hx5;have HXE:=zQY hx.out;have HZL:Hid ((Z.map Prod.fst).length+1≤67108864):=zQY (by have:=congrArg List.length HMZ.out; simp at this; simp; omega);obtain ⟨a3,c3,rfl⟩:=hr3.form;have hsd:HS w wr.drew [aV 25 vo (Z.map Prod.fst),aRs Z,aF (.slice (some ⟨b3,o3,none⟩) m c2) L,aC2 g8 (.slice au c.length cu) (.map (some mb)),aBk mb]:=HSx.drew hs;have Md:zCO c mb mk wr.drew:=M.below ((Below.refl _ _).drew);have hr3d:=hr3.drew;obtain ⟨q1,q2⟩:=HSx.cellC2 hsd 3 rfl;have l8:g8<wr.drew.heap.size:=zQc _ _ q1;have lmb:mb<wr.drew.heap.size:=Md.lt;have hne8:g8≠mb:=fun e=>by
      subst e;obtain ⟨D,h1,_⟩:=Md;obtain ⟨es,clock,hb,_⟩:=h1;unfold World.cell? at q1;simp [hb] at q1
     have him0:=HIM.out wr.drew _ (.slice a3 x.length c3) x hsd.bl hr3d hx5;generalize hxn:x.length=xn at *;clear hx hx5 hs M hr3;go_wp2_with fail
     clear hc3;have hpw:mk+2 ^ (nn+1)≤1048576:=by have:=Nat.pow_le_pow_right (n:=2) (by decide) (show nn+1≤11 by omega); omega
     have hImx:=HII.out x HX5.out;have hx15:xn≤15:=by rw [<-hxn]; exact HX5.out.2
     rw [hxn] at hImx;have HRI:=zQY (zDl c (zAB c l) (zAC c x));go_region_held3 (fun w'=>w'.cell? ⟨g8,0,none⟩=some (.slice au c.length cu)∧w'.cell? ⟨g8,1,none⟩=some (.map (some mb))) (first | go_keep | exact ⟨p9,p10⟩ | exact ⟨p7,p8⟩ | exact ⟨p5,p6⟩ | exact ⟨p3,p4⟩ | exact ⟨p1,p2⟩ | exact ⟨q1,q2⟩) (first
      | (go_at_call_of 37 (Value.slice a3 xn c3); refine him0.mono ?_; rintro e w5 ⟨r5,rfl,f5,b5⟩; have p1:=(b5.cell (p:=⟨g8,0,none⟩) l8).trans q1; have p2:=(b5.cell (p:=⟨g8,1,none⟩) l8).trans q2)
      | (go_at_call_of 37 v; refine (HIV.out w5 (zAA.step hsd.bl b5)).mono ?_; rintro e w6 ⟨r6,rfl,f6,b6⟩; have p3:=(b6.cell (p:=⟨g8,0,none⟩) (Nat.lt_of_lt_of_le l8 b5.size)).trans p1; have p4:=(b6.cell (p:=⟨g8,1,none⟩) (Nat.lt_of_lt_of_le l8 b5.size)).trans p2; have b06:=zAA.step (zAA.step hsd.bl b5) b6; have c6:RII (Nm mb) w6 (.slice au c.length cu) c:=RL.mono (HOLD.out.below b06) (fun b hb e=>by have:=hb.2; omega) (fun _ _ h=>RL.mono h (fun b hb e=>by have:=hb.2; omega) (fun _ _ h=>h)); have u6:RI (Nm mb) w6 r5 (zAC c x):=RL.mono (f5.reads.below b6) (fun b hb e=>by have:=hb.1; omega) (fun _ _ h=>h); have v6:RI (Nm mb) w6 r6 (zAC c l):=Nm.of f6 (by have:=b5.size; omega); have M6:zCO c mb mk w6:=(Md.below b5).below b6)
      | (go_at_call 36; refine (zF7 hc nn c6 u6 v6 hImx HIL.out hnn (by omega) (by omega) M6 hpw).mono ?_; rintro e w7 ⟨r7,k7,rfl,v7,g7,M7,hk7⟩; have p5:=zAa g7 p3 hne8; have p6:=zAa g7 p4 hne8; have hs7:=HSx.grownM ((hsd.below b5).below b6) 4 rfl g7 hmb0)
      | (go_at_call 34; refine (zEs v7 (by have:=HRI.out; rw [HNN.out]; omega)).mono ?_; rintro e w8 ⟨r8,rfl,f8,b8⟩; have p7:=(b8.cell (p:=⟨g8,0,none⟩) (zQc _ _ p5)).trans p5; have p8:=(b8.cell (p:=⟨g8,1,none⟩) (zQc _ _ p6)).trans p6; have hs8:=HSx.addI hs7 b8 f8; have M8:=M7.below b8; obtain ⟨a8,c8,e8⟩:=f8.form; subst e8; have hs9:HS w (w8.alloc (.cells #[.slice a8 (rI c (zAC c x) (nf c 30 (zAC c l))).length c8] 25)) [aV 25 vo (Z.map Prod.fst),aRs Z,aF (.slice (some ⟨b3,o3,none⟩) m c2) L,aC2 g8 (.slice au c.length cu) (.map (some mb)),aBk mb,aI (.slice a8 (rI c (zAC c x) (nf c 30 (zAC c l))).length c8) (rI c (zAC c x) (nf c 30 (zAC c l)))]:=hs8.alloc _; have hc9:(w8.alloc (.cells #[.slice a8 (rI c (zAC c x) (nf c 30 (zAC c l))).length c8] 25)).cell? ⟨w8.heap.size,0,none⟩=some (.slice a8 (rI c (zAC c x) (nf c 30 (zAC c l))).length c8):=by go_simp)
      | (refine zJP (W:=w) (v:=vo) (vs:=Z.map Prod.fst) (r:=.slice a8 (rI c (zAC c x) (nf c 30 (zAC c l))).length c8) (by rfl) _ _ (by rfl) (by rfl) hs9 0 (by rfl) (HS.newV hs9 0 rfl) (by rfl) hc9 (by rfl) HZL.out ?_; intro v10 w10 hs10 _ hg10 hk10; have p9:=(HSx.cellC2 hs10 3 rfl).1; have p10:=(HSx.cellC2 hs10 3 rfl).2))
     have hown:(w8.alloc (.cells #[.slice a8 (rI c (zAC c x) (nf c 30 (zAC c l))).length c8] 25)).ownsRow 0 25 1 vo (Z.map Prod.fst).length (Z.map Prod.fst):=by
      obtain ⟨F,hF,_⟩:=HSx.get hs9 0 rfl;exact hF.1
     have M10:zCO c mb k7 w10:=Memo.app (M8.below ((Below.refl _ _).alloc (zQd _) _)) hown hg10;have hmk2:k7≤(k+1)*2048:=by have:=Nat.pow_le_pow_right (n:=2) (by decide) (show nn+1≤11 by omega); omega
     have hs11:=(HSx.moreS hs10 1 5 (by decide) rfl rfl (Z':=Z++[(.slice a8 (rI c (zAC c x) (nf c 30 (zAC c l))).length c8,rI c (zAC c x) (nf c 30 (zAC c l)))]) (List.perm_append_singleton _ _)).pick [0,1,2,3,4] (by decide);have HMZ2:Hid ((Z++[(Value.slice a8 (rI c (zAC c x) (nf c 30 (zAC c l))).length c8,rI c (zAC c x) (nf c 30 (zAC c l)))]).map Prod.snd=(L.take (k+1)).map (fun x=>rp c x l)):=zQY (by
      rw [List.map_append,HMZ.out,zAW HXE.out,List.map_append,HNN.out];show _++[rI c (zAC c x) (zAB c l)]=_++[rp c x l];rw [HRP.out x (zQa HXE.out)])
     have hs11:HS w w10 [aV 25 v10 ((Z++[(Value.slice a8 (rI c (zAC c x) (nf c 30 (zAC c l))).length c8,rI c (zAC c x) (nf c 30 (zAC c l)))]).map Prod.fst),aRs (Z++[(Value.slice a8 (rI c (zAC c x) (nf c 30 (zAC c l))).length c8,rI c (zAC c x) (nf c 30 (zAC c l)))]),aF (.slice (some ⟨b3,o3,none⟩) m c2) L,aC2 g8 (.slice au c.length cu) (.map (some mb)),aBk mb]:=by
      have e:(Z++[(Value.slice a8 (rI c (zAC c x) (nf c 30 (zAC c l))).length c8,rI c (zAC c x) (nf c 30 (zAC c l)))]).map Prod.fst=Z.map Prod.fst++[Value.slice a8 (rI c (zAC c x) (nf c 30 (zAC c l))).length c8]:=by simp
      rw [e]; exact hs11
     generalize Z++[(Value.slice a8 (rI c (zAC c x) (nf c 30 (zAC c l))).length c8,rI c (zAC c x) (nf c 30 (zAC c l)))]=Z2 at *;clear hs9 hs10 hs8 hs7 hown M8 M7 M6 Md hg10 hk10 f8 b8 v7 g7 f6 f5 b6 b5 c6 u6 v6 b06 him0 hsd hr3d p1 p2 p3 p4 p5 p6 p7 p8 p9 p10 q1 q2 hc9;go_wp2_with fail
     go_roundw
     case rel=>exact ⟨k+1,v10,Z2,k7,rfl,by omega,by go_num,hs11,M10,hmk2,HMZ2⟩
     case measure=>simp [intOf]; omega
    ·have i1:¬(k:Int)<(m:Int):=by omega
     have e:L.take k=L:=List.take_of_length_le (by rw [HM.out]; omega);have hs7:HS w wr [aF vo (Z.map Prod.snd)]:=((HSx.shutF hs (Z:=Z) (v:=vo) 0 1 (by decide) rfl rfl).pick [0] (by decide));rw [HMZ.out,e,<-HR.out] at hs7;clear hs e;go_wp2_with fail
     go_ret2
     exact ⟨_,by rw [HO.out]; rfl,HS.F hs7 0 rfl,hs7.bl⟩
  ·have HO:Hid (rtOk c l=false):=zQY (by unfold rtOk; rw [hok,decide_eq_false hten]; rfl);have HR:Hid (rtR c l=[]):=zQY (by unfold rtR; rw [HO.out]; rfl);have i10:(10:Int)<((zAB c l).length:Int):=by omega
   clear hok hwd h15 hten h200;go_enter Tryz.func25,Tryz.ntmps25
   go_wp2_with fail
   refine hlow.mono ?_;rintro e w2 ⟨r2,rfl,_,b2⟩;have hln:=hLN.out w2 b2;clear hlow;go_wp2_with fail
   refine hln.mono ?_;rintro e w3 ⟨rfl,b3⟩;have hb3:=zAA.step b2 b3;have hf:=FII.empty_of hb3 (w1:=w3.alloc (.cells #[] 25)) rfl;generalize (zAB c l).length=nn at *;clear hln b2 b3;go_wp2_with fail
   go_ret2
   exact ⟨_,by rw [HO.out]; rfl,by rw [HR.out]; exact hf.1,hf.2⟩
theorem zMO {A B:Nat}:∀{L:List (List Int)},L.length≤A→(∀x∈L,x.length≤B)→total L≤A*(B+1):=by
 intro L hA hB;have h1:(L.map List.length).sum≤L.length*B:=by
  clear hA
  induction L with
  | nil=>simp
  | cons x L ih =>
   have:=ih (fun y hy=>hB y (List.mem_cons_of_mem _ hy));have:=hB x (List.mem_cons_self ..);simp only [List.map_cons,List.sum_cons,List.length_cons,Nat.add_mul,Nat.one_mul];omega
 have h2:L.length*B≤A*B:=Nat.mul_le_mul_right _ hA;unfold total;rw [Nat.mul_add,Nat.mul_one];omega
theorem zL6 (c:List (List Int)) (l:List Int):total (rtR c l)≤2400:=by
 unfold rtR;split
 ·rename_i h
  unfold rtOk at h;rw [Bool.and_eq_true] at h;obtain ⟨h1,_⟩:=zB9 h.1;refine Nat.le_trans (zMO (A:=200) (B:=11) (by rw [List.length_map]; exact h1) (fun x hx=>?_)) (by omega);obtain ⟨r,_,rfl⟩:=List.mem_map.1 hx;exact zFa c r l
 ·simp [total]
theorem zOL {S S':Nat→Prop} {u v:Value} {c:List (List Int)} {l:List Int} {w:World} (h:RII S w u c) (h':RI S' w v l) (hl:total c≤16777216) (hl':l.length≤16777216) :
  Calls Tryz.prog 17 #[u,v] w fun e w'=>∃r,e=.returned (.tuple #[r,.bool (ibB c l)])∧FT (New w w') w' r (ibR c l)∧Below w.heap.size w w':=by
 have mixed:Tryz.prog.follows .mixedOrders=true:=by kernel_rfl
 have htab:=zGj h h' hl hl';cases hrt:rtOk c l with
 | false =>
  have HO:Hid (ibB c l=false):=zQY (by unfold ibB; rw [hrt]; rfl);have HR:Hid (ibR c l=[]):=zQY (by unfold ibR; rw [hrt]; rfl);rw [hrt] at htab;clear hrt;go_enter Tryz.func17,Tryz.ntmps17
  go_wp2_with fail
  refine htab.mono ?_;rintro e w1 ⟨r1,rfl,_,b1⟩;clear htab;go_wp2_with fail
  go_ret2
  exact ⟨_,by rw [HO.out]; rfl,by rw [HR.out]; exact FT.none0 b1,b1.alloc b1.size _⟩
 | true =>
  have hok:lwOk c l=true:=by unfold rtOk at hrt; rw [Bool.and_eq_true] at hrt; exact hrt.1
  have HO:Hid (ibB c l=isHk c (puts (ibT c l (lwR c l)))):=zQY (by unfold ibB; rw [hrt]; rfl);have HR:Hid (ibR c l=gd c (puts (ibT c l (lwR c l)))):=zQY (by unfold ibR; rw [hrt]; rfl);have HTB:Hid (rtR c l=(lwR c l).map (fun x=>rp c x l)):=zQY (by unfold rtR; rw [hrt,if_pos rfl]);have hwd:=zB8 hok;obtain ⟨h200,h15⟩:=zB9 hok;have hpar0:=zM9 hwd;have hlow:=fun (wv:World) (hb:Below w.heap.size w wv)=>zHS (h.below hb) (h'.below hb) hl hl';rw [hok] at hlow;rw [hrt] at htab;have HXL:=zQY (fun x (hx:x∈lwR c l)=>(h15 x hx).2);have hTok:=zGM (l:=l) h15;have HALL:=zQY (show ∀t∈ibT c l (lwR c l),t.1.length≤1048576∧t.2.length≤1048576∧Trd t.2∧InI t.2 from fun t ht=>by
   have h1:=hTok t ht;exact ⟨by omega,by omega,h1.2.2⟩)
  have HTOT:Hid (zAI (puts (ibT c l (lwR c l)))≤16777216):=zQY (by
   have h2:=(zC4 (L:=ibT c l (lwR c l)) (n:=200) (by unfold ibT; rw [List.length_map]; omega) (fun t ht=>by have:=hTok t ht; exact ⟨by omega,by omega⟩)).2.2;omega)
  have HST:=zQY (fun (k:Nat) (x:List Int) (hx:(lwR c l)[k]? = some x)=>(zIP (c:=c) (l:=l) hx).2);have HPB:=zQY (fun x=>zDy c x l);have HIB:Hid (∀x,ibP c l x=if l.length % 2=x.length % 2 then rp c x l else subP [] (rp c x l)):=zQY (fun x=>by rw [hpar0]; rfl);have H0:Hid (ibT c l ((lwR c l).take 0)=[]):=zQY rfl;have HLT:Hid (∀k,(ibT c l ((lwR c l).take k)).length≤200):=zQY (fun k=>by unfold ibT; rw [List.length_map,List.length_take]; omega);have HTL:Hid ((rtR c l).length=(lwR c l).length):=zQY (by rw [HTB.out,List.length_map]);have HTX:Hid (∀(k:Nat) (x y:List Int),(lwR c l)[k]? = some x→(rtR c l)[k]? = some y→y=rp c x l):=zQY (fun k x y hx hy=>by
   rw [HTB.out,List.getElem?_map,hx] at hy;exact (Option.some.inj hy).symm)
  clear hok hwd h15 hTok hpar0 hrt HTB;go_enter Tryz.func17,Tryz.ntmps17
  go_wp2_with fail
  refine htab.mono ?_;rintro e w1 ⟨r1,rfl,f1,b1⟩;have hlo:=hlow w1 b1;have ht1:=f1.read.any;obtain ⟨a1,c1,rfl⟩:=ht1.form;clear htab f1 hlow;go_wp2_with fail
  refine hlo.mono ?_;rintro e w2 ⟨r2,rfl,f2,b2⟩;have hb2:=zAA.step b1 b2;have hr2:=f2.read.any;have ht2:=ht1.below b2;obtain ⟨a2,c2,rfl⟩:=hr2.form;generalize hm:(lwR c l).length=m at *;have HM:=zQY hm;have htl:=HTL.out;rw [htl] at ht2;generalize rtR c l=R at *;generalize lwR c l=L at *;clear hlo ht1 b1 b2 f2 hm;go_wp2_with fail
  clear htl;have f3:=OT.fresh (Below.refl _ w2);have b3:Below w2.heap.size w2 (w2.alloc (.cells #[] 62)):=(Below.refl _ w2).alloc (zQd _) _;generalize w2.alloc (.cells #[] 62)=w3 at *;rw [<-H0.out] at f3;go_loopw [10,32] (fun oo kk wr=>∃(k:Nat) (vo:Value),vo=oo∧k≤m∧kk=.int .i64 k∧OT w2 wr vo (ibT c l (L.take k))∧Below w2.heap.size w2 wr) (fun _ kk _=>m-(intOf kk).toNat)
  case atStart=>exact ⟨0,_,rfl,Nat.zero_le _,rfl,f3,b3⟩
  case round =>
   clear f3 b3;obtain ⟨k,vo,rfl,hk,rfl,hf,hb⟩:=hrel;by_cases hkm:k<m
   ·have i1:(k:Int)<(m:Int):=by omega
    have i2:(0:Int)≤(k:Int):=by omega
    obtain ⟨bx,ox,rx,x,rfl,hcx,hrx,hx⟩:=RII.at (hr2.below hb) hkm;obtain ⟨by',oy,ry,y,rfl,hcy,hry,hy⟩:=RII.at (ht2.below hb) hkm;have hyx:=HTX.out k x y hx.out hy.out;subst hyx;have hxl:=HXL.out x (zQa hx.out);have hST:=HST.out k x hx.out;have hLT:=HLT.out k;obtain ⟨a3,c3,rfl⟩:=hrx.form;obtain ⟨a4,c4,rfl⟩:=hry.form;obtain ⟨ao,co,rfl⟩:=hf.form;have hr0:=h'.below (zAA.step hb2 hb);have hsx:=fun (w9:World) (hq:Below wr.heap.size wr w9)=>zI6 (hrx.below hq) (by omega);have hsl:=fun (w9:World) (hq:Below wr.heap.size wr w9)=>zI6 (hr0.below hq) hl';generalize hxn:x.length=xn at *;generalize hln:l.length=ln at *;by_cases hpar:ln % 2=xn % 2
    ·have i3:(sgn xn != sgn ln)=false:=by unfold sgn; rw [hpar]; simp
     have HI2:Hid (ibP c l x=rp c x l):=zQY (by rw [HIB.out x,if_pos (by omega)]);clear hpar;go_wp2_with fail
     refine (hsx wr (Below.refl _ _)).mono ?_;rintro e w4 ⟨rfl,m4⟩;have b4:=zAO m4;clear m4;go_wp2_with fail
     refine (hsl w4 b4).mono ?_;rintro e w5 ⟨rfl,m5⟩;have b5:=zAA.step b4 (zAO m5);have hb5:=zAA.step hb b5;have hf5:=hf.below b5;have hrx5:=hrx.below b5;have hry5:=hry.below b5;clear m5 b4 hsx hsl hf hrx hry hcx hcy hr0 b5;have R1:RT Any (w5.alloc (.cells #[.slice a3 xn c3,.slice a4 (rp c x l).length c4] 62)) (.slice (some ⟨w5.heap.size,0,none⟩) 1 1) [(x,ibP c l x)]:=RT.one rfl hrx5 (by rw [HI2.out]; exact hry5);have hlen:(ibT c l (L.take k)).length + [(x,ibP c l x)].length≤33554432:=by simp; omega
     have hf6:=hf5.below ((Below.refl _ w5).alloc (zQd _) (.cells #[.slice a3 xn c3,.slice a4 (rp c x l).length c4] 62));have hb6:=hb5.alloc hb5.size (.cells #[.slice a3 xn c3,.slice a4 (rp c x l).length c4] 62);obtain ⟨w6,hw6⟩:∃w6,w6=w5.alloc (.cells #[.slice a3 xn c3,.slice a4 (rp c x l).length c4] 62):=⟨_,rfl⟩;rw [<-hw6] at R1 hf6 hb6;have HW6:=zQY hw6;clear hw6;go_wp2_with (at_builtin; go_must (rw [<-HW6.out]; refine zCb rfl _ _ rfl rfl hf6 hb6 rfl R1 hlen ?_))
     intro v7 w7 f7 b7 g7;rw [<-hST] at f7;clear R1 hf6 hb6 g7;go_wp2_with fail
     go_roundw
     case rel=>exact ⟨k+1,_,rfl,by omega,by go_num,f7,b7⟩
     case measure=>simp [intOf]; omega
    ·have i3:(sgn xn != sgn ln)=true:=by
      unfold sgn;by_cases h0:xn % 2=0
      ·rw [if_pos h0,if_neg (by omega)]; rfl
      ·rw [if_neg h0,if_pos (by omega)]; rfl
     have HI2:Hid (ibP c l x=subP [] (rp c x l)):=zQY (by rw [HIB.out x,if_neg (by omega)]);clear hpar;go_wp2_with fail
     refine (hsx wr (Below.refl _ _)).mono ?_;rintro e w4 ⟨rfl,m4⟩;have b4:=zAO m4;clear m4;go_wp2_with fail
     refine (hsl w4 b4).mono ?_;rintro e w5 ⟨rfl,m5⟩;have b5:=zAA.step b4 (zAO m5);have hb5:=zAA.step hb b5;have hf5:=hf.below b5;have hrx5:=hrx.below b5;have hry5:=hry.below b5;clear m5 b4 hsx hsl hf hrx hry hcx hcy hr0 b5;have hsub:=zG4 (RI.nil0 w5) hry5 (fun x hx=>by simp at hx) (by simp) (by have:=(HPB.out x).1; omega);go_wp2_with fail
     refine hsub.mono ?_;rintro e w8 ⟨r8,rfl,f8,b8⟩;obtain ⟨a8,c8,rfl⟩:=f8.reads.form;have hb8:=zAA.step hb5 b8;clear hsub;have R1:RT Any (w8.alloc (.cells #[.slice a3 xn c3,.slice a8 (subP [] (rp c x l)).length c8] 62)) (.slice (some ⟨w8.heap.size,0,none⟩) 1 1) [(x,ibP c l x)]:=RT.one rfl (hrx5.below b8) (by rw [HI2.out]; exact f8.reads.any);have hlen:(ibT c l (L.take k)).length + [(x,ibP c l x)].length≤33554432:=by simp; omega
     have hf6:=(hf5.below b8).below ((Below.refl _ w8).alloc (zQd _) (.cells #[.slice a3 xn c3,.slice a8 (subP [] (rp c x l)).length c8] 62));have hb6:=hb8.alloc hb8.size (.cells #[.slice a3 xn c3,.slice a8 (subP [] (rp c x l)).length c8] 62);obtain ⟨w6,hw6⟩:∃w6,w6=w8.alloc (.cells #[.slice a3 xn c3,.slice a8 (subP [] (rp c x l)).length c8] 62):=⟨_,rfl⟩;rw [<-hw6] at R1 hf6 hb6;have HW6:=zQY hw6;clear hw6;go_wp2_with (at_builtin; go_must (rw [<-HW6.out]; refine zCb rfl _ _ rfl rfl hf6 hb6 rfl R1 hlen ?_))
     intro v7 w7 f7 b7 g7;rw [<-hST] at f7;clear R1 hf6 hb6 g7;go_wp2_with fail
     go_roundw
     case rel=>exact ⟨k+1,_,rfl,by omega,by go_num,f7,b7⟩
     case measure=>simp [intOf]; omega
   ·have i1:¬(k:Int)<(m:Int):=by omega
    have hkm2:k=m:=by omega
    rw [hkm2,List.take_of_length_le (by rw [HM.out]; exact zQd _)] at hf;clear hkm2;have hcol:=zCc hf.read (by unfold ibT; rw [List.length_map,HM.out]; omega) HALL.out;go_wp2_with fail
    refine hcol.mono ?_;rintro e w9 ⟨r9,rfl,f9,b9⟩;have hb9:=zAA.step (zAA.step hb2 hb) b9;have hf9:=f9.mono (S':=New w w9) (fun b hb'=>⟨Nat.le_trans (zAA.step hb2 hb).size hb'.1,hb'.2⟩);have hg:=zD1 (h.below hb9) hf9 hb9 hl HTOT.out;clear hcol f9 b9;go_wp2_with fail
    refine hg.mono ?_;rintro e w10 ⟨a10,c10,rfl,f10,b10⟩;go_wp2_with fail
    go_ret2
    rw [HO.out,HR.out];exact ⟨_,rfl,f10,b10⟩
end Go.Proofs.YtlchafedbnihoaaGreat
