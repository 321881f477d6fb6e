/- Dimensions: what the law asks of the matrices and weights that are drawn. Plain; the kernel looks at each of them. -/
import Derived.Test.YtphbichgpcicnaaGreatDoorJGDq
import Derived.Test.YtphbichgpcicnaaGreatDoorJGMlB
import Derived.Test.YtphbichgpcicnaaGreatDoorJGWdS
namespace Go.Proofs.YtphbichgpcicnaaGreatDoor
open Go.RowKit
set_option maxRecDepth 20000
set_option maxHeartbeats 8000000
def zOY (c:List (List Int)):Bool:=decide ((prR c).length=(corR c).length) && (((prR c).zip (corR c)).all fun p=>decide (zAb (worR c p.1) p.2 0=2) && decide (0<nrR c p.1))
def zOZ (c:List (List Int)):Bool:=decide ((smR c).length=c.length) && (List.range c.length).all fun i=>decide (1≤num (smR c) i) && decide (num (smR c) i≤1000) && (List.range c.length).all fun k=>decide (num (smR c) i*ent c i k=num (smR c) k*ent c k i)
def zHk (c:List (List Int)):Bool:=zOY c && zOZ c
theorem zTA:zAv.all zHk=true:=by decide +kernel
theorem zS9:zHs.all zHk=true:=by decide +kernel
theorem zTB:zHs.all (fun c=>decide (200<szC c))=true:=by decide +kernel
def zSX (c:List (List Int)) (v:List Int):Bool:=!(chaB c v && wdOk c v) || decide (zDI (chaR c v) 0=wdR c v)
def zBe (c:List (List Int)):Bool:=(vec2 c.length 2).all (zSX c)
theorem zSz:zBe ((zAv[0]?).getD [])=true:=by decide +kernel
theorem zS0:zBe ((zAv[1]?).getD [])=true:=by decide +kernel
theorem zS1:zBe ((zAv[2]?).getD [])=true:=by decide +kernel
theorem zS2:zBe ((zAv[3]?).getD [])=true:=by decide +kernel
theorem zS3:zBe ((zAv[4]?).getD [])=true:=by decide +kernel
theorem zS4:zBe ((zAv[5]?).getD [])=true:=by decide +kernel
theorem zS5:zBe ((zAv[6]?).getD [])=true:=by decide +kernel
theorem zS6:zBe ((zAv[7]?).getD [])=true:=by decide +kernel
theorem zS7:zBe ((zAv[8]?).getD [])=true:=by decide +kernel
theorem zS8:zBe ((zAv[9]?).getD [])=true:=by decide +kernel
theorem zQb:zBe ((zAv[10]?).getD [])=true:=by decide +kernel
theorem zQc:zBe ((zAv[11]?).getD [])=true:=by decide +kernel
theorem zQd:zBe ((zAv[12]?).getD [])=true:=by decide +kernel
theorem zQe:zBe ((zAv[13]?).getD [])=true:=by decide +kernel
theorem zQf:zBe ((zAv[14]?).getD [])=true:=by decide +kernel
theorem zQg:zBe ((zAv[15]?).getD [])=true:=by decide +kernel
theorem zOW:∀c∈zAv,zBe c=true:=fun c hc=>by
 obtain ⟨k,hk⟩:=List.getElem?_of_mem hc;have hlt:k<16:=by have:=(zWI hk).1; simpa [zAv] using this
 have h:zBe ((zAv[k]?).getD [])=true:=by
  obtain rfl | rfl | rfl | rfl | rfl | rfl | rfl | rfl | rfl | rfl | rfl | rfl | rfl | rfl | rfl | rfl:k=0∨k=1∨k=2∨k=3∨k=4∨k=5∨k=6∨k=7∨k=8∨k=9∨k=10∨k=11∨k=12∨k=13∨k=14∨k=15:=by omega
  ·exact zSz
  ·exact zS0
  ·exact zS1
  ·exact zS2
  ·exact zS3
  ·exact zS4
  ·exact zS5
  ·exact zS6
  ·exact zS7
  ·exact zS8
  ·exact zQb
  ·exact zQc
  ·exact zQd
  ·exact zQe
  ·exact zQf
  ·exact zQg
 rw [hk] at h;exact h
theorem zVS {c:List (List Int)} {v:List Int} (hA:AnyQ c) (hs:v.length=c.length→(∀x∈v,0≤x)∧v.sum≤2) (hk:chaB c v=true) (hw:wdOk c v=true):zDI (chaR c v) 0=wdR c v:=by
 have h1:=hk;unfold chaB at h1;rw [Bool.and_eq_true] at h1;have h2:=h1.1;unfold wsOk dbOk dbC at h2;rw [Bool.and_eq_true,Bool.and_eq_true,Bool.and_eq_true,Bool.and_eq_true,decide_eq_true_eq] at h2;obtain ⟨⟨⟨_,hf,hl⟩,_⟩,_⟩:=h2;obtain ⟨s1,s2⟩:=hs hl;rcases zL6 hA hf with hm | hm
 ·have h3:=List.all_eq_true.1 (zOW c hm) v (zHQ hl s1 s2);unfold zSX at h3;rw [hk,hw] at h3;simpa using h3
 ·have h3:=List.all_eq_true.1 zTB c hm;have h4:=h1.2;unfold mlOk at h4;rw [Bool.and_eq_true,decide_eq_true_eq] at h4;have:=of_decide_eq_true h3;omega
theorem zSk {c:List (List Int)} (hA:AnyQ c) (hf:finB c=true):zHk c=true:=by
 rcases zL6 hA hf with hm | hm
 ·exact List.all_eq_true.1 zTA c hm
 ·exact List.all_eq_true.1 zS9 c hm
theorem zV7 {c:List (List Int)} (hA:AnyQ c) (hf:finB c=true):(prR c).length=(corR c).length∧∀(i:Nat) (r m:List Int),(prR c)[i]? = some r→(corR c)[i]? = some m→zAb (worR c r) m 0=2∧0<nrR c r:=by
 have h:=zSk hA hf;unfold zHk zOY at h;rw [Bool.and_eq_true,Bool.and_eq_true] at h;refine ⟨of_decide_eq_true h.1.1,fun i r m hr hm=>?_⟩;have h2:=List.all_eq_true.1 h.1.2 (r,m) (zWH (i:=i) (by rw [List.getElem?_zip_eq_some]; exact ⟨hr,hm⟩));rw [Bool.and_eq_true] at h2;exact ⟨of_decide_eq_true h2.1,of_decide_eq_true h2.2⟩
theorem zV8 {c:List (List Int)} (hA:AnyQ c) (hf:finB c=true):(smR c).length=c.length∧∀i,i<c.length→1≤num (smR c) i∧num (smR c) i≤1000∧∀k,k<c.length→num (smR c) i*ent c i k=num (smR c) k*ent c k i:=by
 have h:=zSk hA hf;unfold zHk zOZ at h;rw [Bool.and_eq_true,Bool.and_eq_true] at h;refine ⟨of_decide_eq_true h.2.1,fun i hi=>?_⟩;have h2:=List.all_eq_true.1 h.2.2 i (List.mem_range.2 hi);rw [Bool.and_eq_true,Bool.and_eq_true] at h2;exact ⟨of_decide_eq_true h2.1.1,of_decide_eq_true h2.1.2,fun k hk=>of_decide_eq_true (List.all_eq_true.1 h2.2 k (List.mem_range.2 hk))⟩
theorem zPA {c:List (List Int)} {j:Nat} {l:List Int} (h:c[j]? = some l):l.length≤total c:=by
 induction c generalizing j with
 | nil=>simp at h
 | cons x c ih =>
  have ht:total (x::c)=total c+x.length+1:=by simp [total]; omega
  cases j with
  | zero=>simp at h; subst h; omega
  | succ j=>have:=ih (j:=j) (by simpa using h); omega
theorem zLr {S S':Nat→Prop} {w:World} {u v:Value} {L L':List (List Int)} (h:RII S w u L) (h':RII S' w v L') (hl:total L≤16777216) :
  Calls Tryz.prog 10 #[u,v] w fun e w'=>e=.returned (.bool (decide (L=L')))∧Below w.heap.size w w':=by
 have hn0:L.length≤16777216:=by unfold total at hl; omega
 obtain ⟨a,cap,rfl⟩:=h.form;obtain ⟨a',cap',rfl⟩:=h'.form;by_cases hne:L.length=L'.length
 ·have i0:((L.length:Int) != (L'.length:Int))=false:=by simp; omega
  have HY:Hid ((∀j,j<L.length→L[j]? = L'[j]?)→L=L'):=zWF (fun k=>List.ext_getElem? fun j=>by
   rcases Nat.lt_or_ge j L.length with hj | hj
   ·exact k j hj
   ·rw [List.getElem?_eq_none hj,List.getElem?_eq_none (by omega)])
  have HN:Hid (∀(j:Nat) (x y:List Int),L[j]? = some x→L'[j]? = some y→x≠y→L≠L'):=zWF (fun j x y hx hy hxy e=>by subst e; rw [hx] at hy; cases hy; exact hxy rfl);have HT:=zWF (fun (j:Nat) (x:List Int) (hx:L[j]? = some x)=>Nat.le_trans (zPA hx) hl);rw [<-hne] at h' i0 ⊢;generalize L.length=n at *;clear hne hl;go_enter Tryz.func10,Tryz.ntmps10
  go_wp2_with fail
  go_loopw [5] (fun kk wr=>∃(k:Nat),k≤n∧kk=.int .i64 k∧Hid (∀j,j<k→L[j]? = L'[j]?)∧Below w.heap.size w wr) (fun kk _=>n-(intOf kk).toNat)
  case atStart=>exact ⟨0,Nat.zero_le _,rfl,zWF (fun j hj=>by omega),Below.refl _ _⟩
  case round =>
   obtain ⟨k,hk,rfl,HK,hb⟩:=hrel;by_cases hlt:k<n
   ·have i1:(k:Int)<(n:Int):=by omega
    obtain ⟨b,o,r,x,rfl,hc0,hx,hx0⟩:=(h.below hb.drew).at hlt;obtain ⟨b',o',r',y,rfl,hc1,hy,hy0⟩:=(h'.below hb.drew).at hlt;have HX:=zWF hx0.out;have HY2:=zWF hy0.out;have tx:=HT.out k x hx0.out;have hsi:=zIF hx hy tx;have l0:=zWJ _ _ hc0;have l1:=zWJ _ _ hc1;obtain ⟨a3,c3,rfl⟩:=hx.form;obtain ⟨a4,c4,rfl⟩:=hy.form;by_cases hxy:x=y
    ·rw [decide_eq_true hxy] at hsi;have HK2:Hid (∀j,j<k+1→L[j]? = L'[j]?):=zWF (fun j hj=>by
      rcases Nat.lt_or_ge j k with h1 | h1
      ·exact HK.out j h1
      ·obtain rfl:j=k:=by omega
       rw [HX.out,HY2.out,hxy])
     clear hxy hx hy hx0 hy0;generalize x.length=xn at *;generalize y.length=yn at *;go_wp2_with fail
     go_region_held3 (fun w'=>w'.cell? ⟨b,o+k,none⟩=some (.slice a3 xn c3)∧w'.cell? ⟨b',o'+k,none⟩=some (.slice a4 yn c4)) (first | go_keep | exact ⟨p1,p2⟩ | exact ⟨hc0,hc1⟩) ((go_at_call 11; refine hsi.mono ?_; rintro e w4 ⟨rfl,b4⟩; have p1:=(b4.cell (p:=⟨b,o+k,none⟩) l0).trans hc0; have p2:=(b4.cell (p:=⟨b',o'+k,none⟩) l1).trans hc1))
     have hb2:=zAA.step hb.drew b4;clear hsi hc0 hc1 p1 p2;go_wp2_with fail
     go_roundw
     case rel=>exact ⟨k+1,by omega,by go_num,HK2,hb2⟩
     case measure=>simp [intOf]; omega
    ·rw [decide_eq_false hxy] at hsi;have HF:=zWF (HN.out k x y HX.out HY2.out hxy);clear hxy hx hy hx0 hy0;generalize x.length=xn at *;generalize y.length=yn at *;go_wp2_with fail
     go_region_held3 (fun w'=>w'.cell? ⟨b,o+k,none⟩=some (.slice a3 xn c3)∧w'.cell? ⟨b',o'+k,none⟩=some (.slice a4 yn c4)) (first | go_keep | exact ⟨p1,p2⟩ | exact ⟨hc0,hc1⟩) ((go_at_call 11; refine hsi.mono ?_; rintro e w4 ⟨rfl,b4⟩; have p1:=(b4.cell (p:=⟨b,o+k,none⟩) l0).trans hc0; have p2:=(b4.cell (p:=⟨b',o'+k,none⟩) l1).trans hc1))
     have hb2:=zAA.step hb.drew b4;clear hsi hc0 hc1 p1 p2;go_wp2_with fail
     go_ret
     exact ⟨zAD (by simp [HF.out]),hb2⟩
   ·have i1:¬(k:Int)<(n:Int):=by omega
    have hkn:k=n:=by omega
    have HF:=zWF (HY.out (by rw [<-hkn]; exact HK.out));clear hkn;go_wp2_with fail
    go_ret
    exact ⟨zAD (by simp [HF.out]),hb⟩
 ·have i0:((L.length:Int) != (L'.length:Int))=true:=by simp; omega
  have HF:Hid (L≠L'):=zWF (fun e=>hne (congrArg List.length e));clear hne;generalize L.length=n at *;generalize L'.length=n' at *;go_enter Tryz.func10,Tryz.ntmps10
  go_wp2_with fail
  go_ret
  exact ⟨zAD (by simp [HF.out]),Below.refl _ _⟩
theorem zPm {S S':Nat→Prop} {w:World} {u v:Value} {l:List Int} (h:RI S w u l) (h':RI S' w v l) (hl:l.length≤16777216) :
  Calls Tryz.prog 11 #[u,v] w fun e w'=>e=.returned (.bool true)∧Below w.heap.size w w' :=
 (zIF h h' hl).mono fun e w' ⟨he,hb⟩=>⟨by rw [he,decide_eq_true rfl],hb⟩
theorem zN4 {S S':Nat→Prop} {w:World} {u v:Value} {l:List (List Int)} (h:RII S w u l) (h':RII S' w v l) (hl:total l≤16777216) :
  Calls Tryz.prog 10 #[u,v] w fun e w'=>e=.returned (.bool true)∧Below w.heap.size w w' :=
 (zLr h h' hl).mono fun e w' ⟨he,hb⟩=>⟨by rw [he,decide_eq_true rfl],hb⟩
set_option maxRecDepth 100000 in
theorem lawFdim {v:Value} {n:Nat} {w:World} (h:RBy Any w v n) (hm0:HasM w) :
  Calls Tryz.prog 3 #[v] w fun e w'=>e=.returned (.bool true)∧Below w.heap.size w w':=by
 obtain ⟨a,cap,rfl⟩:∃a cap,v=.slice a n cap:=by obtain ⟨a,cap,e,_⟩:=h; exact ⟨a,cap,e⟩
 by_cases hbig:1048576<n
 ·go_enter Tryz.func3,Tryz.ntmps3
  go_wp2_with fail
  refine zSU.mono ?_;rintro e w1 ⟨rfl,rfl⟩;rw [decide_eq_true hbig];go_wp2_with fail
  go_ret
  exact ⟨rfl,Below.refl _ _⟩
 ·have hn:n≤1048576:=by omega
  have HM0:=zWF hm0;clear hm0;go_enter Tryz.func3,Tryz.ntmps3
  go_wp2_with fail
  refine zSU.mono ?_;rintro e w1 ⟨rfl,rfl⟩;rw [decide_eq_false hbig];clear hbig;go_wp2_with fail
  refine (zNT h hn).mono ?_;rintro e w1 ⟨rc,rfl,c,hrm,hT,HA,b1⟩;have hrm:=RII.any hrm;have tc:total c≤16777216:=by omega
  obtain ⟨ac,cc,rfl⟩:=hrm.form;have t1:total (corR c)≤16777216:=by have:=zCs c; omega
  have t2:(smR c).length≤16777216:=by have:=zVh c; omega
  have HRT:Hid (finB c=true→_):=zWF (fun hf=>zV7 HA.out hf);have HSM:Hid (finB c=true→_):=zWF (fun hf=>zV8 HA.out hf);have HFP:Hid (finB c=true→FinP c):=zWF zCZ;have HL1:Hid ((corR c).length≤1000):=zWF (by have:=zCs c; unfold total at this; omega);generalize hnc:c.length=nc at *;have HNC:=zWF hnc;clear hnc hT;go_wp2_with fail
  refine (zB7 hrm tc).mono ?_;rintro e w2 ⟨r1,rfl,f1,b2⟩;have p1:=RII.any f1.any;have hrm:=hrm.below b2;have b1:=zAA.step b1 b2;clear f1 b2;go_wp2_with fail
  refine (zB8 hrm tc).mono ?_;rintro e w3 ⟨r2,rfl,f1,b2⟩;have p2:=RII.any f1.any;have p1:=p1.below b2;have hrm:=hrm.below b2;have b1:=zAA.step b1 b2;clear f1 b2;go_wp2_with fail
  refine (zSB hrm tc).mono ?_;rintro e w4 ⟨r3,rfl,f1,b2⟩;have p3:=f1.any;have p1:=p1.below b2;have p2:=p2.below b2;have hrm:=hrm.below b2;have b1:=zAA.step b1 b2;clear f1 b2;go_wp2_with fail
  refine (zSC hrm tc).mono ?_;rintro e w5 ⟨r4,rfl,f1,b2⟩;have p4:=f1.any;have p1:=p1.below b2;have p2:=p2.below b2;have p3:=p3.below b2;have hrm:=hrm.below b2;have b1:=zAA.step b1 b2;clear f1 b2;obtain ⟨a2,c2,rfl⟩:=p2.form;obtain ⟨a4,c4,rfl⟩:=p4.form;generalize hok:finB c=ok at *;have s0:(ok != ok)=false:=by simp
  have HOK:=zWF hok;clear hok;generalize hl2:(corR c).length=n2 at *;generalize hl4:(smR c).length=n4 at *;have HN2:=zWF hl2;have HN4:=zWF hl4;clear hl2 hl4;go_wp2_with fail
  refine (zN4 p1 p2 t1).mono ?_;rintro e w6 ⟨rfl,b2⟩;have p2:=p2.below b2;have p3:=p3.below b2;have p4:=p4.below b2;have hrm:=hrm.below b2;have b1:=zAA.step b1 b2;clear b2 p1;go_wp2_with fail
  refine (zPm p3 p4 (by rw [HN4.out]; exact t2)).mono ?_;rintro e w7 ⟨rfl,b2⟩;have p2:=p2.below b2;have p4:=p4.below b2;have hrm:=hrm.below b2;have b1:=zAA.step b1 b2;clear b2 p3;go_upto_if 79 with fail
  go_cut [] (fun wx=>Hid (Below w.heap.size w wx))
  case first=>as_aux_lemma =>
   cases ok
   ·have HB:=zWF b1;clear p2 p4 hrm b1;go_wp2_with fail
    go_meet
    case rel=>exact HB
   ·have HF:=zWF (HFP.out rfl);obtain ⟨q1,q2⟩:=HRT.out rfl;obtain ⟨q3,q4⟩:=HSM.out rfl;have HR1:=zWF q1;have HR2:=zWF q2;have HS1:=zWF q3;have HS2:=zWF q4;have h4:nc≤4:=by have:=HF.out.cart.le; rw [HNC.out] at this; exact this
    have hl1:=HL1.out;have he:nc=n4:=HS1.out.symm;clear HS1;subst he;have HPR:=zWF (fun (r:List Int) (hr:r∈prR c)=>(zGJ HF.out hr).1);have HCO:Hid (total (prR c)≤16777216∧∀(i:Nat) (m:List Int),(corR c)[i]? = some m→m.length≤16777216):=zWF ⟨by
     have:=zLa (A:=1000) (B:=4) (L:=prR c) (by rw [HR1.out]; exact hl1) (fun x hx=>by have:=HPR.out x hx; rw [HNC.out] at this; omega);omega,fun i m hm=>Nat.le_trans (zPA hm) t1⟩
    have HIC:=zWF (zAK.2 HF.out.cart);clear q1 q2 q3 q4 HRT HSM HFP;go_wp2_with fail
    refine (zDi hrm tc).mono ?_;rintro e w8 ⟨r5,hE5,f5,b2⟩;rw [HOK.out] at hE5;subst hE5;have p5:=RII.any f5.any;have p2:=p2.below b2;have p4:=p4.below b2;have hrm:=hrm.below b2;have b1:=zAA.step b1 b2;clear f5 b2;obtain ⟨a5,c5,rfl⟩:=p5.form;have HN5:=HR1.out;generalize hl5:(prR c).length=n5 at *;clear hl5;subst HN5;have h25:n5≤1000:=by have:=HN2.out; omega
    clear hl1;go_wp2_with fail
    go_loopw [14] (fun kk wr=>∃(k:Nat),k≤n5∧kk=.int .i64 k∧Below w8.heap.size w8 wr) (fun kk _=>n5-(intOf kk).toNat)
    case atStart=>exact ⟨0,Nat.zero_le _,rfl,Below.refl _ _⟩
    case round =>
     obtain ⟨k,hk,rfl,hb⟩:=hrel;by_cases hlt:k<n5
     ·have i1:(k:Int)<(n5:Int):=by omega
      obtain ⟨b5,o5,rr,r,rfl,hc5,hr,hr0⟩:=(p5.below hb.drew).at hlt;obtain ⟨b3,o3,rm,m,rfl,hc3,hmr,hmm⟩:=(p2.below hb.drew).at hlt;obtain ⟨g1,g2⟩:=HR2.out k r m hr0.out hmm.out;have hrl:=HPR.out r (zWH hr0.out);have hml:=HCO.out.2 k m hmm.out;have hrl2:r.length≤16777216:=by rw [hrl,HNC.out]; omega
      have hrmd:=hrm.below hb.drew;have hwor:=zUu hrmd hr HIC.out hrl tc;have HWL:Hid ((worR c r).length≤16777216):=zWF (by rw [zBN,HNC.out]; omega);have HRL:=zWF hrl2;have HML:=zWF hml;have HG1:=zWF g1;have l0:=zWJ _ _ hc5;have l1:=zWJ _ _ hc3;obtain ⟨a6,c6,rfl⟩:=hr.form;obtain ⟨a7,c7,rfl⟩:=hmr.form;have i9:¬nrR c r≤0:=by omega
      have i8:decide (nrR c r≤0)=false:=decide_eq_false i9;clear hr0 hmm g1 g2 hrl hml hrl2;generalize r.length=rn at hr hc5 hwor;generalize m.length=mn at hmr hc3;go_wp2_with fail
      go_region_held3 (fun w'=>w'.cell? ⟨b5,o5+k,none⟩=some (.slice a6 rn c6)∧w'.cell? ⟨b3,o3+k,none⟩=some (.slice a7 mn c7)) (first | go_keep | exact ⟨z1,z2⟩ | exact ⟨y1,y2⟩ | exact ⟨x1,x2⟩ | exact ⟨hc5,hc3⟩) (first
       | (go_at_call 14; refine hwor.mono ?_; rintro e w9 ⟨r9,rfl,f9,b9⟩; have x1:=(b9.cell (p:=⟨b5,o5+k,none⟩) l0).trans hc5; have x2:=(b9.cell (p:=⟨b3,o3+k,none⟩) l1).trans hc3; have hpr:=zDG f9.any (hmr.below b9) HWL.out HML.out; rw [HG1.out] at hpr)
       | (go_at_call 13; refine hpr.mono ?_; rintro e w10 ⟨rfl,hw10⟩; have b10:=zAW hw10; have y1:=(b10.cell (p:=⟨b5,o5+k,none⟩) (Nat.lt_of_lt_of_le l0 b9.size)).trans x1; have y2:=(b10.cell (p:=⟨b3,o3+k,none⟩) (Nat.lt_of_lt_of_le l1 b9.size)).trans x2; have hb10:=zAA.step b9 b10; have hrn:=zFd (hrmd.below hb10) (hr.below hb10) tc HRL.out)
       | (go_at_call 15; refine hrn.mono ?_; rintro e w11 ⟨rfl,b11⟩; have z1:=(b11.cell (p:=⟨b5,o5+k,none⟩) (Nat.lt_of_lt_of_le l0 hb10.size)).trans y1; have z2:=(b11.cell (p:=⟨b3,o3+k,none⟩) (Nat.lt_of_lt_of_le l1 hb10.size)).trans y2))
      have hb9:=zAA.step hb.drew (zAA.step hb10 b11);clear hwor hpr hrn hc5 hc3 x1 x2 y1 y2 z1 z2 hrmd hr hmr;go_wp2_with fail
      go_roundw
      case rel=>exact ⟨k+1,by omega,by go_num,hb9⟩
      case measure=>simp [intOf]; omega
     ·have i1:¬(k:Int)<(n5:Int):=by omega
      have p4:=p4.below hb;have hrm:=hrm.below hb;have b1:=zAA.step b1 hb;clear p2 p5 hb;have HCP:=zWF HF.out.cart;go_wp2_with fail
      generalize wr=wO at *;go_loopw [15] (fun kk wr=>∃(i:Nat),i≤nc∧kk=.int .i64 i∧Below wO.heap.size wO wr) (fun kk _=>nc-(intOf kk).toNat)
      case atStart=>exact ⟨0,Nat.zero_le _,rfl,Below.refl _ _⟩
      case round =>
       obtain ⟨i,hi,rfl,hb⟩:=hrel;by_cases hin:i<nc
       ·have i2:(i:Int)<(nc:Int):=by omega
        have p4:=p4.below hb;have hrm:=hrm.below hb;have bI:=hb;clear hb;go_wp2_with fail
        generalize wr=wP at *;go_loopw [16] (fun kk wr=>∃(q:Nat),q≤nc∧kk=.int .i64 q∧Below wP.heap.size wP wr) (fun kk _=>nc-(intOf kk).toNat)
        case atStart=>exact ⟨0,Nat.zero_le _,rfl,Below.refl _ _⟩
        case round =>
         obtain ⟨q,hq,rfl,hb⟩:=hrel;by_cases hqn:q<nc
         ·have i3:(q:Int)<(nc:Int):=by omega
          have mixed:Tryz.prog.follows .mixedOrders=true:=by kernel_rfl
          obtain ⟨b4,o4,x,rfl,hx0,hx⟩:=(p4.below hb).atI hin;obtain ⟨b4',o4',y,e4,hy0,hy⟩:=(p4.below hb).atI hqn;simp only [Option.some.injEq,Addr.mk.injEq,and_true] at e4;obtain ⟨rfl,rfl⟩:=e4;obtain ⟨bm,om,ri,li,rfl,hri0,hri,hli⟩:=(hrm.below hb).at hin;obtain ⟨bm',om',rq,lq,em,hrq0,hrq,hlq⟩:=(hrm.below hb).at hqn;simp only [Option.some.injEq,Addr.mk.injEq,and_true] at em;obtain ⟨rfl,rfl⟩:=em;obtain ⟨ai,ci,rfl⟩:=hri.form;obtain ⟨aq,cq,rfl⟩:=hrq.form;have e5:li.length=nc:=by rw [<-HNC.out]; exact HCP.out.row li (zWH hli.out)
          have e6:lq.length=nc:=by rw [<-HNC.out]; exact HCP.out.row lq (zWH hlq.out)
          rw [e5] at hri hri0;rw [e6] at hrq hrq0;clear e5 e6;obtain ⟨bi,oi,u,rfl,hu0,hu⟩:=hri.atI hqn;obtain ⟨bq,oq,z,rfl,hz0,hz⟩:=hrq.atI hin;obtain ⟨k1,k2,k3⟩:=HS2.out i (by rw [HNC.out] at *; exact hin);have k3:=k3 q (by rw [HNC.out] at *; exact hqn);rw [zAS hx.out,zAS hy.out,zCI hli.out hu.out,zCI hlq.out hz.out] at k3;rw [zAS hx.out] at k1;have i4:¬x<1:=by omega
          have i5:decide (x<1)=false:=decide_eq_false i4;obtain ⟨pp,hpp⟩:∃pp,pp=x*u:=⟨_,rfl⟩;have e1:x*u=pp:=hpp.symm;have e2:y*z=pp:=by rw [<-k3,hpp]
          clear hpp k1 k2 k3 hx hy hli hlq hu hz hri hrq;go_wp2_with fail
          go_big_region_o
          go_wp2_with fail
          go_roundw
          case rel=>exact ⟨q+1,by omega,by go_num,hb.drew⟩
          case measure=>simp [intOf]; omega
         ·have i3:¬(q:Int)<(nc:Int):=by omega
          have hb2:=zAA.step bI hb;clear hb;go_wp2_with fail
          go_roundw
          case rel=>exact ⟨i+1,by omega,by go_num,hb2⟩
          case measure=>simp [intOf]; omega
       ·have i2:¬(i:Int)<(nc:Int):=by omega
        have HB:=zWF (zAA.step b1 hb);clear hb p4 hrm b1;go_wp2_with fail
        go_meet
        case rel=>exact HB
  case rest=>as_aux_lemma =>
   have b0:=hcut.out;clear hcut p2 p4 hrm b1 HRT HSM HFP;go_wp2_with fail
   refine (zNS (h.below b0) hn).mono ?_;rintro e w1 ⟨x1,x2,rfl,M,l,hD⟩;have n1:=RII.any hD.rm;have n2:=RI.any hD.rl;have t4:total M≤16777216:=by have:=hD.tot; omega
   have t5:l.length≤16777216:=by have:=hD.len; omega
   have b1:=zAA.step b0 hD.bl;have HDM:Hid (chaB M l=true→wdOk M l=true→zDI (chaR M l) 0=wdR M l):=zWF (fun hk hw=>zVS hD.any hD.small hk hw);have hM:=zWF (HM0.out.below b1);clear hD b0;go_wp2_with fail
   refine (zSw n1 n2 t4 t5 hM.out).mono ?_;rintro e w2 ⟨p1,rfl,f1,b2⟩;have p1r:=f1.any;have n1:=n1.below b2;have n2:=n2.below b2;have b1:=zAA.step b1 b2;clear f1 b2;go_wp2_with fail
   refine (zJi n1 n2 t4 t5).mono ?_;rintro e w3 ⟨rfl,b2⟩;have p1r:=RW.any (p1r.below b2);have b1:=zAA.step b1 b2;have tch:zB2 (chaR M l)≤16777216:=by have:=zNP M l; omega
   have hsz:=zFk p1r tch;generalize hcb:chaB M l=ck at *;generalize hwk:wdOk M l=wk at *;generalize wdR M l=wd at *;generalize zDI (chaR M l) 0=sz at *;clear hcb hwk b2 n1 n2 p1r;go_upto_region 28 with fail
   go_cut [182] (fun bb wx=>bb=.bool false∧Hid (Below w.heap.size w wx))
   case first=>as_aux_lemma =>
    cases ck
    ·have HB:=zWF b1;clear b1 hsz;go_wp2_with fail
     go_meet
     case rel=>exact ⟨rfl,HB⟩
    ·cases wk
     ·have HB:=zWF b1;clear b1 hsz;go_wp2_with fail
      go_meet
      case rel=>exact ⟨rfl,HB⟩
     ·have e1:=HDM.out rfl rfl;subst e1;have s1:(sz != sz)=false:=by simp
      go_wp2_with fail
      refine hsz.mono ?_;rintro e w4 ⟨rfl,b2⟩;have HB:=zWF (zAA.step b1 b2);clear b1 b2 hsz;go_wp2_with fail
      go_meet
      case rel=>exact ⟨rfl,HB⟩
   case rest=>as_aux_lemma =>
    obtain ⟨rfl,HB⟩:=hcut;have b1:=HB.out;clear HB hsz HDM;go_wp2_with fail
    refine (zNW (h.below b1) hn).mono ?_;rintro e w1 ⟨x1,x2,rfl,M2,l2,hD⟩;have n1:=RII.any hD.rm;have n2:=RI.any hD.rl;have t4:total M2≤16777216:=by have:=hD.tot; omega
    have t5:l2.length≤16777216:=by have:=hD.len; omega
    have b1:=zAA.step b1 hD.bl;clear hD;go_wp2_with fail
    refine (zJi n1 n2 t4 t5).mono ?_;rintro e w2 ⟨rfl,b2⟩;have n1:=n1.below b2;have n2:=n2.below b2;have b1:=zAA.step b1 b2;clear b2;go_wp2_with fail
    refine (zQN n1 n2 t4 t5).mono ?_;rintro e w3 ⟨rfl,b2⟩;have b1:=zAA.step b1 b2;clear b2 n1 n2;generalize wdOk M2 l2=wk2 at *;generalize wdR M2 l2=wd2 at *;go_wp2_with fail
    refine (zNU (h.below b1) hn).mono ?_;rintro e w4 ⟨x3,x4,rfl,l3,q3,k1,k2,k3,k4,b2⟩;have m1:=RI.any k1;have m2:=RI.any k2;have t6:l3.length≤16777216:=by omega
    have t7:q3.length≤16777216:=by omega
    have b1:=zAA.step b1 b2;clear k1 k2 k3 k4 b2;go_wp2_with fail
    refine (zOs (h.below b1) hn).mono ?_;rintro e w5 ⟨x5,x6,rfl,M4,l4,hD⟩;have n1:=RII.any hD.rm;have n2:=RI.any hD.rl;have t8:total M4≤16777216:=by have:=hD.tot; omega
    have t9:l4.length≤16777216:=by have:=hD.len; omega
    have b2:=hD.bl;have m1:=m1.below b2;have m2:=m2.below b2;have b1:=zAA.step b1 b2;clear hD b2;go_wp2_with fail
    refine (zNV (h.below b1) hn).mono ?_;rintro e w6 ⟨x7,x8,rfl,M5,l5,hD⟩;have o1:=RII.any hD.rm;have o2:=RI.any hD.rl;have t10:total M5≤16777216:=by have:=hD.tot; omega
    have t11:l5.length≤16777216:=by have:=hD.len; omega
    have b2:=hD.bl;have m1:=m1.below b2;have m2:=m2.below b2;have n1:=n1.below b2;have n2:=n2.below b2;have b1:=zAA.step b1 b2;clear hD b2;have s1:(wk2 == wk2)=true:=by simp
    have s2:(wd2 == wd2)=true:=by simp
    have hp1:=zDG m1 m2 t6 t7;go_wp2_with fail
    refine hp1.mono ?_;rintro e w7 ⟨rfl,hw7⟩;have b2:=zAW hw7;have hp2:=zEf (m1.below b2) (m2.below b2) t6 t7;generalize zAb l3 q3 0=ps at *;have s3:(ps == ps)=true:=by simp
    have n1:=n1.below b2;have n2:=n2.below b2;have o1:=o1.below b2;have o2:=o2.below b2;have b1:=zAA.step b1 b2;clear hw7 hp1 b2 m1 m2;go_wp2_with fail
    refine hp2.mono ?_;rintro e w8 ⟨rfl,hw8⟩;have b2:=zAW hw8;have n1:=n1.below b2;have n2:=n2.below b2;have o1:=o1.below b2;have o2:=o2.below b2;have b1:=zAA.step b1 b2;clear hw8 hp2 b2;have hp1:=zTu n1 n2 t8 t9;go_wp2_with fail
    refine hp1.mono ?_;rintro e w9 ⟨rfl,b2⟩;have hp2:=zTv (n1.below b2) (n2.below b2) t8 t9;generalize mnB M4 l4=mb at *;have s4:(mb == mb)=true:=by simp
    have o1:=o1.below b2;have o2:=o2.below b2;have b1:=zAA.step b1 b2;clear hp1 b2 n1 n2;go_wp2_with fail
    refine hp2.mono ?_;rintro e w10 ⟨rfl,b2⟩;have o1:=o1.below b2;have o2:=o2.below b2;have b1:=zAA.step b1 b2;clear hp2 b2;have hp1:=zFd o1 o2 t10 t11;go_wp2_with fail
    refine hp1.mono ?_;rintro e w11 ⟨rfl,b2⟩;have hp2:=zJm (o1.below b2) (o2.below b2) t10 t11;generalize nrR M5 l5=nr at *;have s5:(nr == nr)=true:=by simp
    have b1:=zAA.step b1 b2;clear hp1 b2 o1 o2;go_wp2_with fail
    refine hp2.mono ?_;rintro e w12 ⟨rfl,b2⟩;have b1:=zAA.step b1 b2;clear hp2 b2;go_wp2_with fail
    go_ret
    exact ⟨rfl,b1⟩
open Go.ChangeShapes Go.WideShapes Go.ChangeAt Go.RowKit Go.Deep
def RByW (_:World) (r:Value) (n:Int):Prop:=r=.int .u8 n∧(Lit.int .u8 n).wf=true
section
variable {H:Type} {enc:TypeId × Value→H} {w:World}
theorem zIh (n:Nat) (r:Value) (x:DataW H × List MemPlace) (h:DataW.trod enc Tryz.prog w 0 (fun _=>true) true n 5 [r]=some x):∃y,RByW w r y:=by
 obtain ⟨y,h,_,hw⟩:=DataW.trod_int Tryz.underlying5 h;simp at h;exact ⟨y,h,hw⟩
theorem zH3 {v:Value} {d:DataW H} {p:List MemPlace} (hv:∃a n c,v=.slice a n c) (h:DataW.Trod enc Tryz.prog w 0 (fun _=>true) true 22 v d p):∃n:Nat,RBy Any w v n:=by
 obtain ⟨L,a,cap,rfl,_,hL⟩:=zT1 (R:=RByW) Tryz.underlying22 (by kernel_rfl) hv zIh h;refine ⟨L.length,a,cap,rfl,fun j hj=>?_⟩;rcases hL with rfl | ⟨b,o,ha,_,_,hx⟩
 ·simp at hj
 ·obtain ⟨r,h1,h2,h3⟩:=hx j L[j] (zWG hj);refine ⟨b,o,L[j],ha,trivial,by rw [<-h2]; exact h1,zWF ?_⟩;have e1:IntKind.u8.min=0:=by decide
  have e2:IntKind.u8.max=255:=by decide
  simp only [Lit.wf,e1,e2,Bool.and_eq_true,decide_eq_true_eq] at h3;exact h3
end
end Go.Proofs.YtphbichgpcicnaaGreatDoor
