/- Whether the product of a word's letters is the longest element: both sides. Condition: sizes up to 2^24. -/
import Derived.Test.YtlchafedbnihoaaJGDrD
namespace Go.Proofs.Ytlchafedbnihoaa
open Go.RowKit
set_option maxRecDepth 20000
set_option maxHeartbeats 8000000
def covB (c:List (List Int)) (l:List Int):Bool:=isWd c l && (finB c && eqL (zAC c [] l) (zAT c))
theorem zCI {c:List (List Int)} (hc:CartanP c):∀(l:List Int) {x:List Int},Lets c.length l→Lets c.length x→x.length+l.length≤28→(zAC c x l).length≤x.length+l.length
 | [],x,_,_,_=>by simp [zAC]
 | i::l,x,hl,hx,hn=>by
  obtain ⟨h0,h1⟩:=hl i (by simp);obtain ⟨k,rfl⟩:∃k:Nat,i=(k:Int):=⟨i.toNat,by omega⟩;have h2:=zBT hc hx (by omega:k<c.length) (by simp at hn; omega);have:=zCI hc l (x:=zAJ c x k) (fun y hy=>hl y (by simp [hy])) h2.1 (by simp at hn; have:=h2.2; omega);show (zAC c (zAJ c x k) l).length≤_;simp at hn ⊢;have:=h2.2;omega
theorem zEZ {S S':Nat→Prop} {u v:Value} {c:List (List Int)} {l:List Int} {w:World} (h:RII S w u c) (h':RI S' w v l) (hl:total c≤16777216) (hl':l.length≤16777216) :
  Calls Try.prog 31 #[u,v] w fun e w'=>e=.returned (.bool (covB c l))∧Below w.heap.size w w':=by
 have HD:Hid (covB c l=(isWd c l && (finB c && eqL (zAC c [] l) (zAT c)))):=zJh rfl;have HP:Hid (finB c=true→FinP c):=zJh zCS;have HWL:Hid (isWd c l=true→(zAC c [] l).length≤15):=zJh (fun h=>by
  obtain ⟨h1,h2,h3⟩:=zAw h;have:=zCI (zAR.1 h1) l (x:=[]) h3 (fun y hy=>by simp at hy) (by simp; omega);simp at this; omega)
 generalize covB c l=res at *;go_enter Try.func31,Try.ntmps31
 go_wp2_with fail
 refine (zC9 h h' hl hl').mono ?_;rintro e w1 ⟨r1,rfl,f1,b1⟩;cases hW:isWd c l
 ·have e0:Hid (res=false):=zJh (by rw [HD.out,hW]; rfl);go_wp2_with fail
  go_ret
  exact ⟨zAD e0.out.symm,b1⟩
 ·have HW2:=zJh hW;have HL15:=zJh (HWL.out hW);rw [hW,if_pos rfl] at f1;clear hW;go_wp2_with fail
  refine (zEq (h.below b1) hl).mono ?_;rintro e w2 ⟨rfl,b2⟩;have b02:=zAA.step b1 b2;cases hF:finB c
  ·have e0:Hid (res=false):=zJh (by rw [HD.out,HW2.out,hF]; rfl);go_wp2_with fail
   go_ret
   exact ⟨zAD e0.out.symm,b02⟩
  ·have e0:Hid (res=eqL (zAC c [] l) (zAT c)):=zJh (by rw [HD.out,HW2.out,hF]; rfl);have HF2:=zJh (HP.out hF);clear hF;go_wp2_with fail
   refine (zFP (h.below b02) HF2.out).mono ?_;rintro e w3 ⟨r3,rfl,f3,b3⟩;have b03:=zAA.step b02 b3;go_wp2_with fail
   refine (zBg ((f1.below b2).below b3).reads f3.reads (by have:=HL15.out; omega) (by have:=HF2.out.long.2; omega)).mono ?_;rintro e w4 ⟨rfl,hw4⟩;have b04:=zAA.step b03 (zAH hw4);clear hw4;generalize eqL (zAC c [] l) (zAT c)=q at *;go_wp2_with fail
   go_ret
   exact ⟨zAD e0.out.symm,b04⟩
theorem zEa {S S':Nat→Prop} {u v:Value} {c:List (List Int)} {l:List Int} {w:World} (h:RII S w u c) (h':RI S' w v l) (hl:total c≤16777216) (hl':l.length≤16777216) :
  Calls Try.prog 32 #[u,v] w fun e w'=>e=.returned (.bool (covB c l))∧Below w.heap.size w w':=by
 have HD:Hid (covB c l=(isWd c l && (finB c && eqL (zAC c [] l) (zAT c)))):=zJh rfl;have HP:Hid (finB c=true→FinP c):=zJh zCS;have HWL:Hid (isWd c l=true→(zAC c [] l).length≤15):=zJh (fun h=>by
  obtain ⟨h1,h2,h3⟩:=zAw h;have:=zCI (zAR.1 h1) l (x:=[]) h3 (fun y hy=>by simp at hy) (by simp; omega);simp at this; omega)
 generalize covB c l=res at *;go_enter Try.func32,Try.ntmps32
 go_wp2_with fail
 refine (zDA h h' hl hl').mono ?_;rintro e w1 ⟨r1,rfl,f1,b1⟩;go_wp2_with fail
 refine (zDM (h.below b1) hl).mono ?_;rintro e w2 ⟨r2,rfl,f2,b2⟩;have b02:=zAA.step b1 b2;cases hW:isWd c l
 ·have e0:Hid (res=false):=zJh (by rw [HD.out,hW]; rfl);go_wp2_with fail
  go_ret
  exact ⟨zAD e0.out.symm,b02⟩
 ·have HW2:=zJh hW;have HL15:=zJh (HWL.out hW);rw [hW,if_pos rfl] at f1;clear hW;cases hF:finB c
  ·have e0:Hid (res=false):=zJh (by rw [HD.out,HW2.out,hF]; rfl);go_wp2_with fail
   go_ret
   exact ⟨zAD e0.out.symm,b02⟩
  ·have e0:Hid (res=eqL (zAC c [] l) (zAT c)):=zJh (by rw [HD.out,HW2.out,hF]; rfl);have HF2:=zJh (HP.out hF);rw [hF,if_pos rfl] at f2;clear hF;go_wp2_with fail
   refine (zBh (f1.below b2).reads f2.reads (by have:=HL15.out; omega) (by have:=HF2.out.long.2; omega)).mono ?_;rintro e w4 ⟨rfl,hw4⟩;have b04:=zAA.step b02 (zAH hw4);clear hw4;generalize eqL (zAC c [] l) (zAT c)=q at *;go_wp2_with fail
   go_ret
   exact ⟨zAD e0.out.symm,b04⟩
theorem zJJ {c:List (List Int)} {j:Nat} {l:List Int} (h:c[j]? = some l):l.length≤total c:=by
 induction c generalizing j with
 | nil=>simp at h
 | cons x c ih =>
  have ht:total (x::c)=total c+x.length+1:=by simp [total]; omega
  cases j with
  | zero=>simp at h; subst h; omega
  | succ j=>have:=ih (j:=j) (by simpa using h); omega
theorem zFR {S S':Nat→Prop} {w:World} {u v:Value} {L L':List (List Int)} (h:RII S w u L) (h':RII S' w v L') (hl:total L≤16777216) :
  Calls Try.prog 28 #[u,v] w fun e w'=>e=.returned (.bool (decide (L=L')))∧Below w.heap.size w w':=by
 have hn0:L.length≤16777216:=by unfold total at hl; omega
 obtain ⟨a,cap,rfl⟩:=h.form;obtain ⟨a',cap',rfl⟩:=h'.form;by_cases hne:L.length=L'.length
 ·have i0:((L.length:Int) != (L'.length:Int))=false:=by simp; omega
  have HY:Hid ((∀j,j<L.length→L[j]? = L'[j]?)→L=L'):=zJh (fun k=>List.ext_getElem? fun j=>by
   rcases Nat.lt_or_ge j L.length with hj | hj
   ·exact k j hj
   ·rw [List.getElem?_eq_none hj,List.getElem?_eq_none (by omega)])
  have HN:Hid (∀(j:Nat) (x y:List Int),L[j]? = some x→L'[j]? = some y→x≠y→L≠L'):=zJh (fun j x y hx hy hxy e=>by subst e; rw [hx] at hy; cases hy; exact hxy rfl);have HT:=zJh (fun (j:Nat) (x:List Int) (hx:L[j]? = some x)=>Nat.le_trans (zJJ hx) hl);rw [<-hne] at h' i0 ⊢;generalize L.length=n at *;clear hne hl;go_enter Try.func28,Try.ntmps28
  go_wp2_with fail
  go_loopw [5] (fun kk wr=>∃(k:Nat),k≤n∧kk=.int .i64 k∧Hid (∀j,j<k→L[j]? = L'[j]?)∧Below w.heap.size w wr) (fun kk _=>n-(intOf kk).toNat)
  case atStart=>exact ⟨0,Nat.zero_le _,rfl,zJh (fun j hj=>by omega),Below.refl _ _⟩
  case round =>
   obtain ⟨k,hk,rfl,HK,hb⟩:=hrel;by_cases hlt:k<n
   ·have i1:(k:Int)<(n:Int):=by omega
    obtain ⟨b,o,r,x,rfl,hc0,hx,hx0⟩:=(h.below hb.drew).at hlt;obtain ⟨b',o',r',y,rfl,hc1,hy,hy0⟩:=(h'.below hb.drew).at hlt;have HX:=zJh hx0.out;have HY2:=zJh hy0.out;have tx:=HT.out k x hx0.out;have hsi:=zD2 hx hy tx;have l0:=zJl _ _ hc0;have l1:=zJl _ _ hc1;obtain ⟨a3,c3,rfl⟩:=hx.form;obtain ⟨a4,c4,rfl⟩:=hy.form;by_cases hxy:x=y
    ·rw [decide_eq_true hxy] at hsi;have HK2:Hid (∀j,j<k+1→L[j]? = L'[j]?):=zJh (fun j hj=>by
      rcases Nat.lt_or_ge j k with h1 | h1
      ·exact HK.out j h1
      ·obtain rfl:j=k:=by omega
       rw [HX.out,HY2.out,hxy])
     clear hxy hx hy hx0 hy0;generalize x.length=xn at *;generalize y.length=yn at *;go_wp2_with fail
     go_region_held3 (fun w'=>w'.cell? ⟨b,o+k,none⟩=some (.slice a3 xn c3)∧w'.cell? ⟨b',o'+k,none⟩=some (.slice a4 yn c4)) (first | go_keep | exact ⟨p1,p2⟩ | exact ⟨hc0,hc1⟩) ((go_at_call 8; refine hsi.mono ?_; rintro e w4 ⟨rfl,b4⟩; have p1:=(b4.cell (p:=⟨b,o+k,none⟩) l0).trans hc0; have p2:=(b4.cell (p:=⟨b',o'+k,none⟩) l1).trans hc1))
     have hb2:=zAA.step hb.drew b4;clear hsi hc0 hc1 p1 p2;go_wp2_with fail
     go_roundw
     case rel=>exact ⟨k+1,by omega,by go_num,HK2,hb2⟩
     case measure=>simp [intOf]; omega
    ·rw [decide_eq_false hxy] at hsi;have HF:=zJh (HN.out k x y HX.out HY2.out hxy);clear hxy hx hy hx0 hy0;generalize x.length=xn at *;generalize y.length=yn at *;go_wp2_with fail
     go_region_held3 (fun w'=>w'.cell? ⟨b,o+k,none⟩=some (.slice a3 xn c3)∧w'.cell? ⟨b',o'+k,none⟩=some (.slice a4 yn c4)) (first | go_keep | exact ⟨p1,p2⟩ | exact ⟨hc0,hc1⟩) ((go_at_call 8; refine hsi.mono ?_; rintro e w4 ⟨rfl,b4⟩; have p1:=(b4.cell (p:=⟨b,o+k,none⟩) l0).trans hc0; have p2:=(b4.cell (p:=⟨b',o'+k,none⟩) l1).trans hc1))
     have hb2:=zAA.step hb.drew b4;clear hsi hc0 hc1 p1 p2;go_wp2_with fail
     go_ret
     exact ⟨zAD (by simp [HF.out]),hb2⟩
   ·have i1:¬(k:Int)<(n:Int):=by omega
    have hkn:k=n:=by omega
    have HF:=zJh (HY.out (by rw [<-hkn]; exact HK.out));clear hkn;go_wp2_with fail
    go_ret
    exact ⟨zAD (by simp [HF.out]),hb⟩
 ·have i0:((L.length:Int) != (L'.length:Int))=true:=by simp; omega
  have HF:Hid (L≠L'):=zJh (fun e=>hne (congrArg List.length e));clear hne;generalize L.length=n at *;generalize L'.length=n' at *;go_enter Try.func28,Try.ntmps28
  go_wp2_with fail
  go_ret
  exact ⟨zAD (by simp [HF.out]),Below.refl _ _⟩
open Go.ChangeShapes Go.WideShapes Go.ChangeAt Go.RowKit Go.Deep
def RByW (_:World) (r:Value) (n:Int):Prop:=r=.int .u8 n∧(Lit.int .u8 n).wf=true
section
variable {H:Type} {enc:TypeId × Value→H} {w:World}
theorem zEA (n:Nat) (r:Value) (x:DataW H × List MemPlace) (h:DataW.trod enc Try.prog w 0 (fun _=>true) true n 5 [r]=some x):∃y,RByW w r y:=by
 obtain ⟨y,h,_,hw⟩:=DataW.trod_int Try.underlying5 h;simp at h;exact ⟨y,h,hw⟩
theorem zD0 {v:Value} {d:DataW H} {p:List MemPlace} (hv:∃a n c,v=.slice a n c) (h:DataW.Trod enc Try.prog w 0 (fun _=>true) true 22 v d p):∃n:Nat,RBy Any w v n:=by
 obtain ⟨L,a,cap,rfl,_,hL⟩:=zIZ (R:=RByW) Try.underlying22 (by kernel_rfl) hv zEA h;refine ⟨L.length,a,cap,rfl,fun j hj=>?_⟩;rcases hL with rfl | ⟨b,o,ha,_,_,hx⟩
 ·simp at hj
 ·obtain ⟨r,h1,h2,h3⟩:=hx j L[j] (zJi hj);refine ⟨b,o,L[j],ha,trivial,by rw [<-h2]; exact h1,zJh ?_⟩;have e1:IntKind.u8.min=0:=by decide
  have e2:IntKind.u8.max=255:=by decide
  simp only [Lit.wf,e1,e2,Bool.and_eq_true,decide_eq_true_eq] at h3;exact h3
end
end Go.Proofs.Ytlchafedbnihoaa
