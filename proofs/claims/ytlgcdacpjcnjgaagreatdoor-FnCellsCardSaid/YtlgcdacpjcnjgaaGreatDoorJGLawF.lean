/- The cells of the drawn matrices with at most 24 elements: the kernel looks at them, row by row. Plain. No condition. -/
import Derived.Test.YtlgcdacpjcnjgaaGreatDoorJGRc
import Derived.Test.YtlgcdacpjcnjgaaGreatDoorJGDq
import Derived.Test.YtlgcdacpjcnjgaaGreatDoorJGLawA
namespace Go.Proofs.YtlgcdacpjcnjgaaGreatDoor
open Go.RowKit
set_option maxRecDepth 100000
structure CellQ (c:List (List Int)):Prop where
 rows:∀(i:Nat) (row:List Int),(lcR c)[i]? = some row→0<row.length∧∀(k:Nat) (x:Int),row[k]? = some x→∃z z0:Nat,x=(z:Int)∧row[0]? = some (z0:Int)∧z<(elL c).length∧z0<(elL c).length∧ldL c (getE (elL c) z).reverse=ldL c (getE (elL c) z0).reverse∧zAq x (lcR c) 0=(i:Int)
 sum:((lcR c).map List.length).sum=(elL c).length
 name:(nmT c=[65,49]∨nmT c=[65,50]∨nmT c=[65,51])→((lcR c).length:Int)=ciV c
 right:(rcR c).length=(lcR c).length
def zNI (c E:List (List Int)) (C:List (List Nat)) (i:Nat) (row:List Nat):Bool :=
 decide (0<row.length) && (decide (row.headD 0<E.length) && row.all fun z=>decide (z<E.length) && (decide (ldL c (getE E z).reverse=ldL c (getE E (row.headD 0)).reverse) && decide (zAq (z:Int) (C.map iN) 0=(i:Int))))
def zBV (c E:List (List Int)) (m:Nat→Nat→Bool) (inv:Nat→Nat) (C:List (List Nat)):Bool :=
 ((List.range C.length).all fun i=>zNI c E C i ((C[i]?).getD [])) && (decide ((C.map List.length).sum=E.length) && (decide ((rcS m E.length inv E.length).length=C.length) &&
  (!(decide (nmT c=[65,49]) || (decide (nmT c=[65,50]) || decide (nmT c=[65,51]))) || decide (C.length=cntI c E))))
theorem zBW {c E:List (List Int)} {R:List (List (List Int))} {A:List Arw} {C:List (List Nat)} (hk:okK c=true) (hE:elL c=E) (hR:rws E (tabE c E) E.length=R) (hA:wgL E (tabE c E) c.length R E.length=A)
  (hC:celS (mutB (nxA A) E.length) E.length E.length=C) (hB:zBV c E (mutB (nxA A) E.length) (fun i=>idxE E (zAD c (getE E i).reverse)) C=true):CellQ c:=by
 have hw:wgR c=A:=by unfold wgR klT; rw [if_pos hk,hE,hR,hA]
 have hl:lcR c=C.map iN:=by unfold lcR; rw [if_pos hk]; show (celS (mutB (nxA (wgR c)) (elL c).length) (elL c).length (elL c).length).map iN=_; rw [hw,hE,hC]
 have hr:(rcR c).length=(rcS (mutB (nxA A) E.length) E.length (fun i=>idxE E (zAD c (getE E i).reverse)) E.length).length:=by
  unfold rcR;rw [if_pos hk,List.length_map];show (rcS (mutB (nxA (wgR c)) (elL c).length) (elL c).length (invP c) (elL c).length).length=_;have e:invP c=fun i=>idxE E (zAD c (getE E i).reverse):=funext fun i=>by unfold invP; rw [hE]
  rw [hw,e,hE]
 unfold zBV at hB;rw [Bool.and_eq_true,Bool.and_eq_true,Bool.and_eq_true,decide_eq_true_eq,decide_eq_true_eq] at hB;obtain ⟨b1,b2,b3,b4⟩:=hB;rw [List.all_eq_true] at b1;refine ⟨fun i row hrow=>?_,?_,fun hn=>?_,?_⟩
 ·rw [hl,List.getElem?_map] at hrow;obtain ⟨r0,h0,rfl⟩:=Option.map_eq_some_iff.1 hrow;have hi:i<C.length:=(zTG h0).1;have h1:=b1 i (List.mem_range.2 hi);rw [h0] at h1;unfold zNI at h1;simp only [Option.getD_some,Bool.and_eq_true,decide_eq_true_eq,List.all_eq_true] at h1;obtain ⟨p1,p2,p3⟩:=h1;have hhd:r0[0]? = some (r0.headD 0):=by
   cases r0 with
   | nil=>simp at p1
   | cons z l=>rfl
  refine ⟨by unfold iN; rw [List.length_map]; exact p1,fun k x hx=>?_⟩;unfold iN at hx;rw [List.getElem?_map] at hx;obtain ⟨z,hz,rfl⟩:=Option.map_eq_some_iff.1 hx;obtain ⟨q1,q2,q3⟩:=p3 z (zTF hz);refine ⟨z,r0.headD 0,rfl,?_,by rw [hE]; exact q1,by rw [hE]; exact p2,by rw [hE]; exact q2,by rw [hl]; exact q3⟩;unfold iN;rw [List.getElem?_map,hhd]; rfl
 ·rw [hl,hE,<-b2,List.map_map];congr 1;exact List.map_congr_left fun r _=>by simp [iN]
 ·have hek:elOk c=true:=(zBl hk).2.2.2.2;rw [hl,List.length_map];unfold ciV;rw [if_pos hek,hE];rw [Bool.or_eq_true,decide_eq_true_eq] at b4;rcases b4 with b4 | b4
  ·exfalso;rcases hn with h | h | h <;> · rw [h] at b4; simp at b4
  ·rw [b4]
 ·rw [hr,b3,hl,List.length_map]
theorem zAB (E:List (List Int)) (tab:Nat→Nat→Nat) {n:Nat} {T:List (List (List Int))} {r:List (List Int)} (h:rws E tab n=T) (h':(List.range E.length).map (rowS E tab (zAA T) n)=r):rws E tab (n+1)=T++[r]:=by
 show rws E tab n++[(List.range E.length).map (rowS E tab (zAA (rws E tab n)) n)]=_;rw [h,h']
namespace Cl0
def M:List (List Int):=[[2]]
def E:List (List Int):=[[],[0]]
theorem hE:elL M=E:=by decide +kernel
def r0:List (List Int):=[[1],[]]
def r1:List (List Int):=[[1],[1]]
theorem k0:(List.range E.length).map (rowS E (tabE M E) (zAA []) 0)=r0:=by decide +kernel
theorem k1:(List.range E.length).map (rowS E (tabE M E) (zAA [r0]) 1)=r1:=by decide +kernel
theorem t0:rws E (tabE M E) 0=[]:=rfl
theorem t1:rws E (tabE M E) 1=[r0]:=zAB E _ t0 k0
theorem t2:rws E (tabE M E) 2=[r0,r1]:=zAB E _ t1 k1
def A:List Arw:=[(0,1,1)]
theorem hA:wgL E (tabE M E) M.length [r0,r1] E.length=A:=by decide +kernel
def C:List (List Nat):=[[0],[1]]
theorem hC:celS (mutB (nxA A) E.length) E.length E.length=C:=by decide +kernel
theorem hB:zBV M E (mutB (nxA A) E.length) (fun i=>idxE E (zAD M (getE E i).reverse)) C=true:=by decide +kernel
theorem hk:okK M=true:=by decide +kernel
theorem all:CellQ M:=zBW hk hE t2 hA hC hB
end Cl0
namespace Cl1
def M:List (List Int):=[[2,-1],[-1,2]]
def E:List (List Int):=[[],[0],[1],[0,1],[1,0],[0,1,0]]
theorem hE:elL M=E:=by decide +kernel
def r0:List (List Int):=[[1],[],[],[],[],[]]
def r1:List (List Int):=[[1],[1],[],[],[],[]]
def r2:List (List Int):=[[1],[],[1],[],[],[]]
def r3:List (List Int):=[[1],[1],[1],[1],[],[]]
def r4:List (List Int):=[[1],[1],[1],[],[1],[]]
def r5:List (List Int):=[[1],[1],[1],[1],[1],[1]]
theorem k0:(List.range E.length).map (rowS E (tabE M E) (zAA []) 0)=r0:=by decide +kernel
theorem k1:(List.range E.length).map (rowS E (tabE M E) (zAA [r0]) 1)=r1:=by decide +kernel
theorem k2:(List.range E.length).map (rowS E (tabE M E) (zAA [r0,r1]) 2)=r2:=by decide +kernel
theorem k3:(List.range E.length).map (rowS E (tabE M E) (zAA [r0,r1,r2]) 3)=r3:=by decide +kernel
theorem k4:(List.range E.length).map (rowS E (tabE M E) (zAA [r0,r1,r2,r3]) 4)=r4:=by decide +kernel
theorem k5:(List.range E.length).map (rowS E (tabE M E) (zAA [r0,r1,r2,r3,r4]) 5)=r5:=by decide +kernel
theorem t0:rws E (tabE M E) 0=[]:=rfl
theorem t1:rws E (tabE M E) 1=[r0]:=zAB E _ t0 k0
theorem t2:rws E (tabE M E) 2=[r0,r1]:=zAB E _ t1 k1
theorem t3:rws E (tabE M E) 3=[r0,r1,r2]:=zAB E _ t2 k2
theorem t4:rws E (tabE M E) 4=[r0,r1,r2,r3]:=zAB E _ t3 k3
theorem t5:rws E (tabE M E) 5=[r0,r1,r2,r3,r4]:=zAB E _ t4 k4
theorem t6:rws E (tabE M E) 6=[r0,r1,r2,r3,r4,r5]:=zAB E _ t5 k5
def A:List Arw:=[(0,1,1),(0,2,1),(1,4,1),(2,3,1),(3,2,1),(3,5,1),(4,1,1),(4,5,1)]
theorem hA:wgL E (tabE M E) M.length [r0,r1,r2,r3,r4,r5] E.length=A:=by decide +kernel
def C:List (List Nat):=[[0],[1,4],[2,3],[5]]
theorem hC:celS (mutB (nxA A) E.length) E.length E.length=C:=by decide +kernel
theorem hB:zBV M E (mutB (nxA A) E.length) (fun i=>idxE E (zAD M (getE E i).reverse)) C=true:=by decide +kernel
theorem hk:okK M=true:=by decide +kernel
theorem all:CellQ M:=zBW hk hE t6 hA hC hB
end Cl1
namespace Cl2
def M:List (List Int):=[[2,-1,0],[-1,2,-1],[0,-1,2]]
def E:List (List Int):=[[],[0],[1],[2],[0,1],[0,2],[1,0],[1,2],[2,1],[0,1,0],[0,1,2],[0,2,1],[1,0,2],[1,2,1],[2,1,0],[0,1,0,2],[0,1,2,1],[0,2,1,0],[1,0,2,1],[1,2,1,0],[0,1,0,2,1],[0,1,2,1,0],[1,0,2,1,0],[0,1,0,2,1,0]]
theorem hE:elL M=E:=by decide +kernel
def r0:List (List Int):=[[1],[],[],[],[],[],[],[],[],[],[],[],[],[],[],[],[],[],[],[],[],[],[],[]]
def r1:List (List Int):=[[1],[1],[],[],[],[],[],[],[],[],[],[],[],[],[],[],[],[],[],[],[],[],[],[]]
def r2:List (List Int):=[[1],[],[1],[],[],[],[],[],[],[],[],[],[],[],[],[],[],[],[],[],[],[],[],[]]
def r3:List (List Int):=[[1],[],[],[1],[],[],[],[],[],[],[],[],[],[],[],[],[],[],[],[],[],[],[],[]]
def r4:List (List Int):=[[1],[1],[1],[],[1],[],[],[],[],[],[],[],[],[],[],[],[],[],[],[],[],[],[],[]]
def r5:List (List Int):=[[1],[1],[],[1],[],[1],[],[],[],[],[],[],[],[],[],[],[],[],[],[],[],[],[],[]]
def r6:List (List Int):=[[1],[1],[1],[],[],[],[1],[],[],[],[],[],[],[],[],[],[],[],[],[],[],[],[],[]]
def r7:List (List Int):=[[1],[],[1],[1],[],[],[],[1],[],[],[],[],[],[],[],[],[],[],[],[],[],[],[],[]]
def r8:List (List Int):=[[1],[],[1],[1],[],[],[],[],[1],[],[],[],[],[],[],[],[],[],[],[],[],[],[],[]]
def r9:List (List Int):=[[1],[1],[1],[],[1],[],[1],[],[],[1],[],[],[],[],[],[],[],[],[],[],[],[],[],[]]
def r10:List (List Int):=[[1],[1],[1],[1],[1],[1],[],[1],[],[],[1],[],[],[],[],[],[],[],[],[],[],[],[],[]]
def r11:List (List Int):=[[1],[1],[1],[1],[1],[1],[],[],[1],[],[],[1],[],[],[],[],[],[],[],[],[],[],[],[]]
def r12:List (List Int):=[[1],[1],[1],[1],[],[1],[1],[1],[],[],[],[],[1],[],[],[],[],[],[],[],[],[],[],[]]
def r13:List (List Int):=[[1],[],[1],[1],[],[],[],[1],[1],[],[],[],[],[1],[],[],[],[],[],[],[],[],[],[]]
def r14:List (List Int):=[[1],[1],[1],[1],[],[1],[1],[],[1],[],[],[],[],[],[1],[],[],[],[],[],[],[],[],[]]
def r15:List (List Int):=[[1],[1],[1],[1],[1],[1],[1],[1],[],[1],[1],[],[1],[],[],[1],[],[],[],[],[],[],[],[]]
def r16:List (List Int):=[[1],[1],[1],[1],[1],[1],[],[1],[1],[],[1],[1],[],[1],[],[],[1],[],[],[],[],[],[],[]]
def r17:List (List Int):=[[1],[1],[1],[1],[1],[1],[1],[],[1],[1],[],[1],[],[],[1],[],[],[1],[],[],[],[],[],[]]
def r18:List (List Int):=[[1,1],[1],[1,1],[1],[1],[1],[1],[1],[1],[1],[],[1],[1],[1],[],[],[],[],[1],[],[],[],[],[]]
def r19:List (List Int):=[[1],[1],[1],[1],[],[1],[1],[1],[1],[],[],[],[1],[1],[1],[],[],[],[],[1],[],[],[],[]]
def r20:List (List Int):=[[1],[1],[1],[1],[1],[1],[1],[1],[1],[1],[1],[1],[1],[1],[],[1],[1],[],[1],[],[1],[],[],[]]
def r21:List (List Int):=[[1,1],[1,1],[1],[1,1],[1],[1,1],[1],[1],[1],[1],[1],[1],[1],[1],[1],[1],[1],[1],[],[1],[],[1],[],[]]
def r22:List (List Int):=[[1],[1],[1],[1],[1],[1],[1],[1],[1],[1],[],[1],[1],[1],[1],[],[],[1],[1],[1],[],[],[1],[]]
def r23:List (List Int):=[[1],[1],[1],[1],[1],[1],[1],[1],[1],[1],[1],[1],[1],[1],[1],[1],[1],[1],[1],[1],[1],[1],[1],[1]]
theorem k0:(List.range E.length).map (rowS E (tabE M E) (zAA []) 0)=r0:=by decide +kernel
theorem k1:(List.range E.length).map (rowS E (tabE M E) (zAA [r0]) 1)=r1:=by decide +kernel
theorem k2:(List.range E.length).map (rowS E (tabE M E) (zAA [r0,r1]) 2)=r2:=by decide +kernel
theorem k3:(List.range E.length).map (rowS E (tabE M E) (zAA [r0,r1,r2]) 3)=r3:=by decide +kernel
theorem k4:(List.range E.length).map (rowS E (tabE M E) (zAA [r0,r1,r2,r3]) 4)=r4:=by decide +kernel
theorem k5:(List.range E.length).map (rowS E (tabE M E) (zAA [r0,r1,r2,r3,r4]) 5)=r5:=by decide +kernel
theorem k6:(List.range E.length).map (rowS E (tabE M E) (zAA [r0,r1,r2,r3,r4,r5]) 6)=r6:=by decide +kernel
theorem k7:(List.range E.length).map (rowS E (tabE M E) (zAA [r0,r1,r2,r3,r4,r5,r6]) 7)=r7:=by decide +kernel
theorem k8:(List.range E.length).map (rowS E (tabE M E) (zAA [r0,r1,r2,r3,r4,r5,r6,r7]) 8)=r8:=by decide +kernel
theorem k9:(List.range E.length).map (rowS E (tabE M E) (zAA [r0,r1,r2,r3,r4,r5,r6,r7,r8]) 9)=r9:=by decide +kernel
theorem k10:(List.range E.length).map (rowS E (tabE M E) (zAA [r0,r1,r2,r3,r4,r5,r6,r7,r8,r9]) 10)=r10:=by decide +kernel
theorem k11:(List.range E.length).map (rowS E (tabE M E) (zAA [r0,r1,r2,r3,r4,r5,r6,r7,r8,r9,r10]) 11)=r11:=by decide +kernel
theorem k12:(List.range E.length).map (rowS E (tabE M E) (zAA [r0,r1,r2,r3,r4,r5,r6,r7,r8,r9,r10,r11]) 12)=r12:=by decide +kernel
theorem k13:(List.range E.length).map (rowS E (tabE M E) (zAA [r0,r1,r2,r3,r4,r5,r6,r7,r8,r9,r10,r11,r12]) 13)=r13:=by decide +kernel
theorem k14:(List.range E.length).map (rowS E (tabE M E) (zAA [r0,r1,r2,r3,r4,r5,r6,r7,r8,r9,r10,r11,r12,r13]) 14)=r14:=by decide +kernel
theorem k15:(List.range E.length).map (rowS E (tabE M E) (zAA [r0,r1,r2,r3,r4,r5,r6,r7,r8,r9,r10,r11,r12,r13,r14]) 15)=r15:=by decide +kernel
theorem k16:(List.range E.length).map (rowS E (tabE M E) (zAA [r0,r1,r2,r3,r4,r5,r6,r7,r8,r9,r10,r11,r12,r13,r14,r15]) 16)=r16:=by decide +kernel
theorem k17:(List.range E.length).map (rowS E (tabE M E) (zAA [r0,r1,r2,r3,r4,r5,r6,r7,r8,r9,r10,r11,r12,r13,r14,r15,r16]) 17)=r17:=by decide +kernel
theorem k18:(List.range E.length).map (rowS E (tabE M E) (zAA [r0,r1,r2,r3,r4,r5,r6,r7,r8,r9,r10,r11,r12,r13,r14,r15,r16,r17]) 18)=r18:=by decide +kernel
theorem k19:(List.range E.length).map (rowS E (tabE M E) (zAA [r0,r1,r2,r3,r4,r5,r6,r7,r8,r9,r10,r11,r12,r13,r14,r15,r16,r17,r18]) 19)=r19:=by decide +kernel
theorem k20:(List.range E.length).map (rowS E (tabE M E) (zAA [r0,r1,r2,r3,r4,r5,r6,r7,r8,r9,r10,r11,r12,r13,r14,r15,r16,r17,r18,r19]) 20)=r20:=by decide +kernel
theorem k21:(List.range E.length).map (rowS E (tabE M E) (zAA [r0,r1,r2,r3,r4,r5,r6,r7,r8,r9,r10,r11,r12,r13,r14,r15,r16,r17,r18,r19,r20]) 21)=r21:=by decide +kernel
theorem k22:(List.range E.length).map (rowS E (tabE M E) (zAA [r0,r1,r2,r3,r4,r5,r6,r7,r8,r9,r10,r11,r12,r13,r14,r15,r16,r17,r18,r19,r20,r21]) 22)=r22:=by decide +kernel
theorem k23:(List.range E.length).map (rowS E (tabE M E) (zAA [r0,r1,r2,r3,r4,r5,r6,r7,r8,r9,r10,r11,r12,r13,r14,r15,r16,r17,r18,r19,r20,r21,r22]) 23)=r23:=by decide +kernel
theorem t0:rws E (tabE M E) 0=[]:=rfl
theorem t1:rws E (tabE M E) 1=[r0]:=zAB E _ t0 k0
theorem t2:rws E (tabE M E) 2=[r0,r1]:=zAB E _ t1 k1
theorem t3:rws E (tabE M E) 3=[r0,r1,r2]:=zAB E _ t2 k2
theorem t4:rws E (tabE M E) 4=[r0,r1,r2,r3]:=zAB E _ t3 k3
theorem t5:rws E (tabE M E) 5=[r0,r1,r2,r3,r4]:=zAB E _ t4 k4
theorem t6:rws E (tabE M E) 6=[r0,r1,r2,r3,r4,r5]:=zAB E _ t5 k5
theorem t7:rws E (tabE M E) 7=[r0,r1,r2,r3,r4,r5,r6]:=zAB E _ t6 k6
theorem t8:rws E (tabE M E) 8=[r0,r1,r2,r3,r4,r5,r6,r7]:=zAB E _ t7 k7
theorem t9:rws E (tabE M E) 9=[r0,r1,r2,r3,r4,r5,r6,r7,r8]:=zAB E _ t8 k8
theorem t10:rws E (tabE M E) 10=[r0,r1,r2,r3,r4,r5,r6,r7,r8,r9]:=zAB E _ t9 k9
theorem t11:rws E (tabE M E) 11=[r0,r1,r2,r3,r4,r5,r6,r7,r8,r9,r10]:=zAB E _ t10 k10
theorem t12:rws E (tabE M E) 12=[r0,r1,r2,r3,r4,r5,r6,r7,r8,r9,r10,r11]:=zAB E _ t11 k11
theorem t13:rws E (tabE M E) 13=[r0,r1,r2,r3,r4,r5,r6,r7,r8,r9,r10,r11,r12]:=zAB E _ t12 k12
theorem t14:rws E (tabE M E) 14=[r0,r1,r2,r3,r4,r5,r6,r7,r8,r9,r10,r11,r12,r13]:=zAB E _ t13 k13
theorem t15:rws E (tabE M E) 15=[r0,r1,r2,r3,r4,r5,r6,r7,r8,r9,r10,r11,r12,r13,r14]:=zAB E _ t14 k14
theorem t16:rws E (tabE M E) 16=[r0,r1,r2,r3,r4,r5,r6,r7,r8,r9,r10,r11,r12,r13,r14,r15]:=zAB E _ t15 k15
theorem t17:rws E (tabE M E) 17=[r0,r1,r2,r3,r4,r5,r6,r7,r8,r9,r10,r11,r12,r13,r14,r15,r16]:=zAB E _ t16 k16
theorem t18:rws E (tabE M E) 18=[r0,r1,r2,r3,r4,r5,r6,r7,r8,r9,r10,r11,r12,r13,r14,r15,r16,r17]:=zAB E _ t17 k17
theorem t19:rws E (tabE M E) 19=[r0,r1,r2,r3,r4,r5,r6,r7,r8,r9,r10,r11,r12,r13,r14,r15,r16,r17,r18]:=zAB E _ t18 k18
theorem t20:rws E (tabE M E) 20=[r0,r1,r2,r3,r4,r5,r6,r7,r8,r9,r10,r11,r12,r13,r14,r15,r16,r17,r18,r19]:=zAB E _ t19 k19
theorem t21:rws E (tabE M E) 21=[r0,r1,r2,r3,r4,r5,r6,r7,r8,r9,r10,r11,r12,r13,r14,r15,r16,r17,r18,r19,r20]:=zAB E _ t20 k20
theorem t22:rws E (tabE M E) 22=[r0,r1,r2,r3,r4,r5,r6,r7,r8,r9,r10,r11,r12,r13,r14,r15,r16,r17,r18,r19,r20,r21]:=zAB E _ t21 k21
theorem t23:rws E (tabE M E) 23=[r0,r1,r2,r3,r4,r5,r6,r7,r8,r9,r10,r11,r12,r13,r14,r15,r16,r17,r18,r19,r20,r21,r22]:=zAB E _ t22 k22
theorem t24:rws E (tabE M E) 24=[r0,r1,r2,r3,r4,r5,r6,r7,r8,r9,r10,r11,r12,r13,r14,r15,r16,r17,r18,r19,r20,r21,r22,r23]:=zAB E _ t23 k23
def A:List Arw:=[(0,1,1),(0,2,1),(0,3,1),(1,5,1),(1,6,1),(2,4,1),(2,8,1),(3,5,1),(3,7,1),(4,2,1),(4,9,1),(4,11,1),(5,12,1),(6,1,1),(6,9,1),(6,14,1),(7,3,1),(7,10,1),(7,13,1),(8,2,1),(8,11,1),(8,13,1),(9,17,1),(10,5,1),(10,7,1),(10,15,1),(10,16,1),(11,18,1),(12,5,1),(12,15,1),(12,19,1),(13,16,1),(14,5,1),(14,6,1),(14,17,1),(14,19,1),(15,21,1),(16,13,1),(16,20,1),(17,9,1),(17,22,1),(18,9,1),(18,11,1),(18,13,1),(18,20,1),(18,22,1),(19,21,1),(20,16,1),(20,23,1),(21,15,1),(21,19,1),(21,23,1),(22,17,1),(22,23,1)]
theorem hA:wgL E (tabE M E) M.length [r0,r1,r2,r3,r4,r5,r6,r7,r8,r9,r10,r11,r12,r13,r14,r15,r16,r17,r18,r19,r20,r21,r22,r23] E.length=A:=by decide +kernel
def C:List (List Nat):=[[0],[1,6,14],[2,4,8],[3,7,10],[5,12],[9,17,22],[11,18],[13,16,20],[15,19,21],[23]]
theorem hC:celS (mutB (nxA A) E.length) E.length E.length=C:=by decide +kernel
theorem hB:zBV M E (mutB (nxA A) E.length) (fun i=>idxE E (zAD M (getE E i).reverse)) C=true:=by decide +kernel
theorem hk:okK M=true:=by decide +kernel
theorem all:CellQ M:=zBW hk hE t24 hA hC hB
end Cl2
namespace Cl3
def M:List (List Int):=[[2,-1],[-2,2]]
def E:List (List Int):=[[],[0],[1],[0,1],[1,0],[0,1,0],[1,0,1],[0,1,0,1]]
theorem hE:elL M=E:=by decide +kernel
def r0:List (List Int):=[[1],[],[],[],[],[],[],[]]
def r1:List (List Int):=[[1],[1],[],[],[],[],[],[]]
def r2:List (List Int):=[[1],[],[1],[],[],[],[],[]]
def r3:List (List Int):=[[1],[1],[1],[1],[],[],[],[]]
def r4:List (List Int):=[[1],[1],[1],[],[1],[],[],[]]
def r5:List (List Int):=[[1],[1],[1],[1],[1],[1],[],[]]
def r6:List (List Int):=[[1],[1],[1],[1],[1],[],[1],[]]
def r7:List (List Int):=[[1],[1],[1],[1],[1],[1],[1],[1]]
theorem k0:(List.range E.length).map (rowS E (tabE M E) (zAA []) 0)=r0:=by decide +kernel
theorem k1:(List.range E.length).map (rowS E (tabE M E) (zAA [r0]) 1)=r1:=by decide +kernel
theorem k2:(List.range E.length).map (rowS E (tabE M E) (zAA [r0,r1]) 2)=r2:=by decide +kernel
theorem k3:(List.range E.length).map (rowS E (tabE M E) (zAA [r0,r1,r2]) 3)=r3:=by decide +kernel
theorem k4:(List.range E.length).map (rowS E (tabE M E) (zAA [r0,r1,r2,r3]) 4)=r4:=by decide +kernel
theorem k5:(List.range E.length).map (rowS E (tabE M E) (zAA [r0,r1,r2,r3,r4]) 5)=r5:=by decide +kernel
theorem k6:(List.range E.length).map (rowS E (tabE M E) (zAA [r0,r1,r2,r3,r4,r5]) 6)=r6:=by decide +kernel
theorem k7:(List.range E.length).map (rowS E (tabE M E) (zAA [r0,r1,r2,r3,r4,r5,r6]) 7)=r7:=by decide +kernel
theorem t0:rws E (tabE M E) 0=[]:=rfl
theorem t1:rws E (tabE M E) 1=[r0]:=zAB E _ t0 k0
theorem t2:rws E (tabE M E) 2=[r0,r1]:=zAB E _ t1 k1
theorem t3:rws E (tabE M E) 3=[r0,r1,r2]:=zAB E _ t2 k2
theorem t4:rws E (tabE M E) 4=[r0,r1,r2,r3]:=zAB E _ t3 k3
theorem t5:rws E (tabE M E) 5=[r0,r1,r2,r3,r4]:=zAB E _ t4 k4
theorem t6:rws E (tabE M E) 6=[r0,r1,r2,r3,r4,r5]:=zAB E _ t5 k5
theorem t7:rws E (tabE M E) 7=[r0,r1,r2,r3,r4,r5,r6]:=zAB E _ t6 k6
theorem t8:rws E (tabE M E) 8=[r0,r1,r2,r3,r4,r5,r6,r7]:=zAB E _ t7 k7
def A:List Arw:=[(0,1,1),(0,2,1),(1,4,1),(2,3,1),(3,2,1),(3,6,1),(4,1,1),(4,5,1),(5,4,1),(5,7,1),(6,3,1),(6,7,1)]
theorem hA:wgL E (tabE M E) M.length [r0,r1,r2,r3,r4,r5,r6,r7] E.length=A:=by decide +kernel
def C:List (List Nat):=[[0],[1,4,5],[2,3,6],[7]]
theorem hC:celS (mutB (nxA A) E.length) E.length E.length=C:=by decide +kernel
theorem hB:zBV M E (mutB (nxA A) E.length) (fun i=>idxE E (zAD M (getE E i).reverse)) C=true:=by decide +kernel
theorem hk:okK M=true:=by decide +kernel
theorem all:CellQ M:=zBW hk hE t8 hA hC hB
end Cl3
namespace Cl4
def M:List (List Int):=[[2,-1],[-3,2]]
def E:List (List Int):=[[],[0],[1],[0,1],[1,0],[0,1,0],[1,0,1],[0,1,0,1],[1,0,1,0],[0,1,0,1,0],[1,0,1,0,1],[0,1,0,1,0,1]]
theorem hE:elL M=E:=by decide +kernel
def r0:List (List Int):=[[1],[],[],[],[],[],[],[],[],[],[],[]]
def r1:List (List Int):=[[1],[1],[],[],[],[],[],[],[],[],[],[]]
def r2:List (List Int):=[[1],[],[1],[],[],[],[],[],[],[],[],[]]
def r3:List (List Int):=[[1],[1],[1],[1],[],[],[],[],[],[],[],[]]
def r4:List (List Int):=[[1],[1],[1],[],[1],[],[],[],[],[],[],[]]
def r5:List (List Int):=[[1],[1],[1],[1],[1],[1],[],[],[],[],[],[]]
def r6:List (List Int):=[[1],[1],[1],[1],[1],[],[1],[],[],[],[],[]]
def r7:List (List Int):=[[1],[1],[1],[1],[1],[1],[1],[1],[],[],[],[]]
def r8:List (List Int):=[[1],[1],[1],[1],[1],[1],[1],[],[1],[],[],[]]
def r9:List (List Int):=[[1],[1],[1],[1],[1],[1],[1],[1],[1],[1],[],[]]
def r10:List (List Int):=[[1],[1],[1],[1],[1],[1],[1],[1],[1],[],[1],[]]
def r11:List (List Int):=[[1],[1],[1],[1],[1],[1],[1],[1],[1],[1],[1],[1]]
theorem k0:(List.range E.length).map (rowS E (tabE M E) (zAA []) 0)=r0:=by decide +kernel
theorem k1:(List.range E.length).map (rowS E (tabE M E) (zAA [r0]) 1)=r1:=by decide +kernel
theorem k2:(List.range E.length).map (rowS E (tabE M E) (zAA [r0,r1]) 2)=r2:=by decide +kernel
theorem k3:(List.range E.length).map (rowS E (tabE M E) (zAA [r0,r1,r2]) 3)=r3:=by decide +kernel
theorem k4:(List.range E.length).map (rowS E (tabE M E) (zAA [r0,r1,r2,r3]) 4)=r4:=by decide +kernel
theorem k5:(List.range E.length).map (rowS E (tabE M E) (zAA [r0,r1,r2,r3,r4]) 5)=r5:=by decide +kernel
theorem k6:(List.range E.length).map (rowS E (tabE M E) (zAA [r0,r1,r2,r3,r4,r5]) 6)=r6:=by decide +kernel
theorem k7:(List.range E.length).map (rowS E (tabE M E) (zAA [r0,r1,r2,r3,r4,r5,r6]) 7)=r7:=by decide +kernel
theorem k8:(List.range E.length).map (rowS E (tabE M E) (zAA [r0,r1,r2,r3,r4,r5,r6,r7]) 8)=r8:=by decide +kernel
theorem k9:(List.range E.length).map (rowS E (tabE M E) (zAA [r0,r1,r2,r3,r4,r5,r6,r7,r8]) 9)=r9:=by decide +kernel
theorem k10:(List.range E.length).map (rowS E (tabE M E) (zAA [r0,r1,r2,r3,r4,r5,r6,r7,r8,r9]) 10)=r10:=by decide +kernel
theorem k11:(List.range E.length).map (rowS E (tabE M E) (zAA [r0,r1,r2,r3,r4,r5,r6,r7,r8,r9,r10]) 11)=r11:=by decide +kernel
theorem t0:rws E (tabE M E) 0=[]:=rfl
theorem t1:rws E (tabE M E) 1=[r0]:=zAB E _ t0 k0
theorem t2:rws E (tabE M E) 2=[r0,r1]:=zAB E _ t1 k1
theorem t3:rws E (tabE M E) 3=[r0,r1,r2]:=zAB E _ t2 k2
theorem t4:rws E (tabE M E) 4=[r0,r1,r2,r3]:=zAB E _ t3 k3
theorem t5:rws E (tabE M E) 5=[r0,r1,r2,r3,r4]:=zAB E _ t4 k4
theorem t6:rws E (tabE M E) 6=[r0,r1,r2,r3,r4,r5]:=zAB E _ t5 k5
theorem t7:rws E (tabE M E) 7=[r0,r1,r2,r3,r4,r5,r6]:=zAB E _ t6 k6
theorem t8:rws E (tabE M E) 8=[r0,r1,r2,r3,r4,r5,r6,r7]:=zAB E _ t7 k7
theorem t9:rws E (tabE M E) 9=[r0,r1,r2,r3,r4,r5,r6,r7,r8]:=zAB E _ t8 k8
theorem t10:rws E (tabE M E) 10=[r0,r1,r2,r3,r4,r5,r6,r7,r8,r9]:=zAB E _ t9 k9
theorem t11:rws E (tabE M E) 11=[r0,r1,r2,r3,r4,r5,r6,r7,r8,r9,r10]:=zAB E _ t10 k10
theorem t12:rws E (tabE M E) 12=[r0,r1,r2,r3,r4,r5,r6,r7,r8,r9,r10,r11]:=zAB E _ t11 k11
def A:List Arw:=[(0,1,1),(0,2,1),(1,4,1),(2,3,1),(3,2,1),(3,6,1),(4,1,1),(4,5,1),(5,4,1),(5,8,1),(6,3,1),(6,7,1),(7,6,1),(7,10,1),(8,5,1),(8,9,1),(9,8,1),(9,11,1),(10,7,1),(10,11,1)]
theorem hA:wgL E (tabE M E) M.length [r0,r1,r2,r3,r4,r5,r6,r7,r8,r9,r10,r11] E.length=A:=by decide +kernel
def C:List (List Nat):=[[0],[1,4,5,8,9],[2,3,6,7,10],[11]]
theorem hC:celS (mutB (nxA A) E.length) E.length E.length=C:=by decide +kernel
theorem hB:zBV M E (mutB (nxA A) E.length) (fun i=>idxE E (zAD M (getE E i).reverse)) C=true:=by decide +kernel
theorem hk:okK M=true:=by decide +kernel
theorem all:CellQ M:=zBW hk hE t12 hA hC hB
end Cl4
namespace Cl5
def M:List (List Int):=[[2,0],[0,2]]
def E:List (List Int):=[[],[0],[1],[0,1]]
theorem hE:elL M=E:=by decide +kernel
def r0:List (List Int):=[[1],[],[],[]]
def r1:List (List Int):=[[1],[1],[],[]]
def r2:List (List Int):=[[1],[],[1],[]]
def r3:List (List Int):=[[1],[1],[1],[1]]
theorem k0:(List.range E.length).map (rowS E (tabE M E) (zAA []) 0)=r0:=by decide +kernel
theorem k1:(List.range E.length).map (rowS E (tabE M E) (zAA [r0]) 1)=r1:=by decide +kernel
theorem k2:(List.range E.length).map (rowS E (tabE M E) (zAA [r0,r1]) 2)=r2:=by decide +kernel
theorem k3:(List.range E.length).map (rowS E (tabE M E) (zAA [r0,r1,r2]) 3)=r3:=by decide +kernel
theorem t0:rws E (tabE M E) 0=[]:=rfl
theorem t1:rws E (tabE M E) 1=[r0]:=zAB E _ t0 k0
theorem t2:rws E (tabE M E) 2=[r0,r1]:=zAB E _ t1 k1
theorem t3:rws E (tabE M E) 3=[r0,r1,r2]:=zAB E _ t2 k2
theorem t4:rws E (tabE M E) 4=[r0,r1,r2,r3]:=zAB E _ t3 k3
def A:List Arw:=[(0,1,1),(0,2,1),(1,3,1),(2,3,1)]
theorem hA:wgL E (tabE M E) M.length [r0,r1,r2,r3] E.length=A:=by decide +kernel
def C:List (List Nat):=[[0],[1],[2],[3]]
theorem hC:celS (mutB (nxA A) E.length) E.length E.length=C:=by decide +kernel
theorem hB:zBV M E (mutB (nxA A) E.length) (fun i=>idxE E (zAD M (getE E i).reverse)) C=true:=by decide +kernel
theorem hk:okK M=true:=by decide +kernel
theorem all:CellQ M:=zBW hk hE t4 hA hC hB
end Cl5
namespace Cl6
def M:List (List Int):=[[2,-1,0],[-1,2,0],[0,0,2]]
def E:List (List Int):=[[],[0],[1],[2],[0,1],[0,2],[1,0],[1,2],[0,1,0],[0,1,2],[1,0,2],[0,1,0,2]]
theorem hE:elL M=E:=by decide +kernel
def r0:List (List Int):=[[1],[],[],[],[],[],[],[],[],[],[],[]]
def r1:List (List Int):=[[1],[1],[],[],[],[],[],[],[],[],[],[]]
def r2:List (List Int):=[[1],[],[1],[],[],[],[],[],[],[],[],[]]
def r3:List (List Int):=[[1],[],[],[1],[],[],[],[],[],[],[],[]]
def r4:List (List Int):=[[1],[1],[1],[],[1],[],[],[],[],[],[],[]]
def r5:List (List Int):=[[1],[1],[],[1],[],[1],[],[],[],[],[],[]]
def r6:List (List Int):=[[1],[1],[1],[],[],[],[1],[],[],[],[],[]]
def r7:List (List Int):=[[1],[],[1],[1],[],[],[],[1],[],[],[],[]]
def r8:List (List Int):=[[1],[1],[1],[],[1],[],[1],[],[1],[],[],[]]
def r9:List (List Int):=[[1],[1],[1],[1],[1],[1],[],[1],[],[1],[],[]]
def r10:List (List Int):=[[1],[1],[1],[1],[],[1],[1],[1],[],[],[1],[]]
def r11:List (List Int):=[[1],[1],[1],[1],[1],[1],[1],[1],[1],[1],[1],[1]]
theorem k0:(List.range E.length).map (rowS E (tabE M E) (zAA []) 0)=r0:=by decide +kernel
theorem k1:(List.range E.length).map (rowS E (tabE M E) (zAA [r0]) 1)=r1:=by decide +kernel
theorem k2:(List.range E.length).map (rowS E (tabE M E) (zAA [r0,r1]) 2)=r2:=by decide +kernel
theorem k3:(List.range E.length).map (rowS E (tabE M E) (zAA [r0,r1,r2]) 3)=r3:=by decide +kernel
theorem k4:(List.range E.length).map (rowS E (tabE M E) (zAA [r0,r1,r2,r3]) 4)=r4:=by decide +kernel
theorem k5:(List.range E.length).map (rowS E (tabE M E) (zAA [r0,r1,r2,r3,r4]) 5)=r5:=by decide +kernel
theorem k6:(List.range E.length).map (rowS E (tabE M E) (zAA [r0,r1,r2,r3,r4,r5]) 6)=r6:=by decide +kernel
theorem k7:(List.range E.length).map (rowS E (tabE M E) (zAA [r0,r1,r2,r3,r4,r5,r6]) 7)=r7:=by decide +kernel
theorem k8:(List.range E.length).map (rowS E (tabE M E) (zAA [r0,r1,r2,r3,r4,r5,r6,r7]) 8)=r8:=by decide +kernel
theorem k9:(List.range E.length).map (rowS E (tabE M E) (zAA [r0,r1,r2,r3,r4,r5,r6,r7,r8]) 9)=r9:=by decide +kernel
theorem k10:(List.range E.length).map (rowS E (tabE M E) (zAA [r0,r1,r2,r3,r4,r5,r6,r7,r8,r9]) 10)=r10:=by decide +kernel
theorem k11:(List.range E.length).map (rowS E (tabE M E) (zAA [r0,r1,r2,r3,r4,r5,r6,r7,r8,r9,r10]) 11)=r11:=by decide +kernel
theorem t0:rws E (tabE M E) 0=[]:=rfl
theorem t1:rws E (tabE M E) 1=[r0]:=zAB E _ t0 k0
theorem t2:rws E (tabE M E) 2=[r0,r1]:=zAB E _ t1 k1
theorem t3:rws E (tabE M E) 3=[r0,r1,r2]:=zAB E _ t2 k2
theorem t4:rws E (tabE M E) 4=[r0,r1,r2,r3]:=zAB E _ t3 k3
theorem t5:rws E (tabE M E) 5=[r0,r1,r2,r3,r4]:=zAB E _ t4 k4
theorem t6:rws E (tabE M E) 6=[r0,r1,r2,r3,r4,r5]:=zAB E _ t5 k5
theorem t7:rws E (tabE M E) 7=[r0,r1,r2,r3,r4,r5,r6]:=zAB E _ t6 k6
theorem t8:rws E (tabE M E) 8=[r0,r1,r2,r3,r4,r5,r6,r7]:=zAB E _ t7 k7
theorem t9:rws E (tabE M E) 9=[r0,r1,r2,r3,r4,r5,r6,r7,r8]:=zAB E _ t8 k8
theorem t10:rws E (tabE M E) 10=[r0,r1,r2,r3,r4,r5,r6,r7,r8,r9]:=zAB E _ t9 k9
theorem t11:rws E (tabE M E) 11=[r0,r1,r2,r3,r4,r5,r6,r7,r8,r9,r10]:=zAB E _ t10 k10
theorem t12:rws E (tabE M E) 12=[r0,r1,r2,r3,r4,r5,r6,r7,r8,r9,r10,r11]:=zAB E _ t11 k11
def A:List Arw:=[(0,1,1),(0,2,1),(0,3,1),(1,5,1),(1,6,1),(2,4,1),(2,7,1),(3,5,1),(3,7,1),(4,2,1),(4,8,1),(4,9,1),(5,10,1),(6,1,1),(6,8,1),(6,10,1),(7,9,1),(8,11,1),(9,7,1),(9,11,1),(10,5,1),(10,11,1)]
theorem hA:wgL E (tabE M E) M.length [r0,r1,r2,r3,r4,r5,r6,r7,r8,r9,r10,r11] E.length=A:=by decide +kernel
def C:List (List Nat):=[[0],[1,6],[2,4],[3],[5,10],[7,9],[8],[11]]
theorem hC:celS (mutB (nxA A) E.length) E.length E.length=C:=by decide +kernel
theorem hB:zBV M E (mutB (nxA A) E.length) (fun i=>idxE E (zAD M (getE E i).reverse)) C=true:=by decide +kernel
theorem hk:okK M=true:=by decide +kernel
theorem all:CellQ M:=zBW hk hE t12 hA hC hB
end Cl6
namespace Cl7
def M:List (List Int):=[[2,-1,0],[-2,2,0],[0,0,2]]
def E:List (List Int):=[[],[0],[1],[2],[0,1],[0,2],[1,0],[1,2],[0,1,0],[0,1,2],[1,0,1],[1,0,2],[0,1,0,1],[0,1,0,2],[1,0,1,2],[0,1,0,1,2]]
theorem hE:elL M=E:=by decide +kernel
def r0:List (List Int):=[[1],[],[],[],[],[],[],[],[],[],[],[],[],[],[],[]]
def r1:List (List Int):=[[1],[1],[],[],[],[],[],[],[],[],[],[],[],[],[],[]]
def r2:List (List Int):=[[1],[],[1],[],[],[],[],[],[],[],[],[],[],[],[],[]]
def r3:List (List Int):=[[1],[],[],[1],[],[],[],[],[],[],[],[],[],[],[],[]]
def r4:List (List Int):=[[1],[1],[1],[],[1],[],[],[],[],[],[],[],[],[],[],[]]
def r5:List (List Int):=[[1],[1],[],[1],[],[1],[],[],[],[],[],[],[],[],[],[]]
def r6:List (List Int):=[[1],[1],[1],[],[],[],[1],[],[],[],[],[],[],[],[],[]]
def r7:List (List Int):=[[1],[],[1],[1],[],[],[],[1],[],[],[],[],[],[],[],[]]
def r8:List (List Int):=[[1],[1],[1],[],[1],[],[1],[],[1],[],[],[],[],[],[],[]]
def r9:List (List Int):=[[1],[1],[1],[1],[1],[1],[],[1],[],[1],[],[],[],[],[],[]]
def r10:List (List Int):=[[1],[1],[1],[],[1],[],[1],[],[],[],[1],[],[],[],[],[]]
def r11:List (List Int):=[[1],[1],[1],[1],[],[1],[1],[1],[],[],[],[1],[],[],[],[]]
def r12:List (List Int):=[[1],[1],[1],[],[1],[],[1],[],[1],[],[1],[],[1],[],[],[]]
def r13:List (List Int):=[[1],[1],[1],[1],[1],[1],[1],[1],[1],[1],[],[1],[],[1],[],[]]
def r14:List (List Int):=[[1],[1],[1],[1],[1],[1],[1],[1],[],[1],[1],[1],[],[],[1],[]]
def r15:List (List Int):=[[1],[1],[1],[1],[1],[1],[1],[1],[1],[1],[1],[1],[1],[1],[1],[1]]
theorem k0:(List.range E.length).map (rowS E (tabE M E) (zAA []) 0)=r0:=by decide +kernel
theorem k1:(List.range E.length).map (rowS E (tabE M E) (zAA [r0]) 1)=r1:=by decide +kernel
theorem k2:(List.range E.length).map (rowS E (tabE M E) (zAA [r0,r1]) 2)=r2:=by decide +kernel
theorem k3:(List.range E.length).map (rowS E (tabE M E) (zAA [r0,r1,r2]) 3)=r3:=by decide +kernel
theorem k4:(List.range E.length).map (rowS E (tabE M E) (zAA [r0,r1,r2,r3]) 4)=r4:=by decide +kernel
theorem k5:(List.range E.length).map (rowS E (tabE M E) (zAA [r0,r1,r2,r3,r4]) 5)=r5:=by decide +kernel
theorem k6:(List.range E.length).map (rowS E (tabE M E) (zAA [r0,r1,r2,r3,r4,r5]) 6)=r6:=by decide +kernel
theorem k7:(List.range E.length).map (rowS E (tabE M E) (zAA [r0,r1,r2,r3,r4,r5,r6]) 7)=r7:=by decide +kernel
theorem k8:(List.range E.length).map (rowS E (tabE M E) (zAA [r0,r1,r2,r3,r4,r5,r6,r7]) 8)=r8:=by decide +kernel
theorem k9:(List.range E.length).map (rowS E (tabE M E) (zAA [r0,r1,r2,r3,r4,r5,r6,r7,r8]) 9)=r9:=by decide +kernel
theorem k10:(List.range E.length).map (rowS E (tabE M E) (zAA [r0,r1,r2,r3,r4,r5,r6,r7,r8,r9]) 10)=r10:=by decide +kernel
theorem k11:(List.range E.length).map (rowS E (tabE M E) (zAA [r0,r1,r2,r3,r4,r5,r6,r7,r8,r9,r10]) 11)=r11:=by decide +kernel
theorem k12:(List.range E.length).map (rowS E (tabE M E) (zAA [r0,r1,r2,r3,r4,r5,r6,r7,r8,r9,r10,r11]) 12)=r12:=by decide +kernel
theorem k13:(List.range E.length).map (rowS E (tabE M E) (zAA [r0,r1,r2,r3,r4,r5,r6,r7,r8,r9,r10,r11,r12]) 13)=r13:=by decide +kernel
theorem k14:(List.range E.length).map (rowS E (tabE M E) (zAA [r0,r1,r2,r3,r4,r5,r6,r7,r8,r9,r10,r11,r12,r13]) 14)=r14:=by decide +kernel
theorem k15:(List.range E.length).map (rowS E (tabE M E) (zAA [r0,r1,r2,r3,r4,r5,r6,r7,r8,r9,r10,r11,r12,r13,r14]) 15)=r15:=by decide +kernel
theorem t0:rws E (tabE M E) 0=[]:=rfl
theorem t1:rws E (tabE M E) 1=[r0]:=zAB E _ t0 k0
theorem t2:rws E (tabE M E) 2=[r0,r1]:=zAB E _ t1 k1
theorem t3:rws E (tabE M E) 3=[r0,r1,r2]:=zAB E _ t2 k2
theorem t4:rws E (tabE M E) 4=[r0,r1,r2,r3]:=zAB E _ t3 k3
theorem t5:rws E (tabE M E) 5=[r0,r1,r2,r3,r4]:=zAB E _ t4 k4
theorem t6:rws E (tabE M E) 6=[r0,r1,r2,r3,r4,r5]:=zAB E _ t5 k5
theorem t7:rws E (tabE M E) 7=[r0,r1,r2,r3,r4,r5,r6]:=zAB E _ t6 k6
theorem t8:rws E (tabE M E) 8=[r0,r1,r2,r3,r4,r5,r6,r7]:=zAB E _ t7 k7
theorem t9:rws E (tabE M E) 9=[r0,r1,r2,r3,r4,r5,r6,r7,r8]:=zAB E _ t8 k8
theorem t10:rws E (tabE M E) 10=[r0,r1,r2,r3,r4,r5,r6,r7,r8,r9]:=zAB E _ t9 k9
theorem t11:rws E (tabE M E) 11=[r0,r1,r2,r3,r4,r5,r6,r7,r8,r9,r10]:=zAB E _ t10 k10
theorem t12:rws E (tabE M E) 12=[r0,r1,r2,r3,r4,r5,r6,r7,r8,r9,r10,r11]:=zAB E _ t11 k11
theorem t13:rws E (tabE M E) 13=[r0,r1,r2,r3,r4,r5,r6,r7,r8,r9,r10,r11,r12]:=zAB E _ t12 k12
theorem t14:rws E (tabE M E) 14=[r0,r1,r2,r3,r4,r5,r6,r7,r8,r9,r10,r11,r12,r13]:=zAB E _ t13 k13
theorem t15:rws E (tabE M E) 15=[r0,r1,r2,r3,r4,r5,r6,r7,r8,r9,r10,r11,r12,r13,r14]:=zAB E _ t14 k14
theorem t16:rws E (tabE M E) 16=[r0,r1,r2,r3,r4,r5,r6,r7,r8,r9,r10,r11,r12,r13,r14,r15]:=zAB E _ t15 k15
def A:List Arw:=[(0,1,1),(0,2,1),(0,3,1),(1,5,1),(1,6,1),(2,4,1),(2,7,1),(3,5,1),(3,7,1),(4,2,1),(4,9,1),(4,10,1),(5,11,1),(6,1,1),(6,8,1),(6,11,1),(7,9,1),(8,6,1),(8,12,1),(8,13,1),(9,7,1),(9,14,1),(10,4,1),(10,12,1),(10,14,1),(11,5,1),(11,13,1),(12,15,1),(13,11,1),(13,15,1),(14,9,1),(14,15,1)]
theorem hA:wgL E (tabE M E) M.length [r0,r1,r2,r3,r4,r5,r6,r7,r8,r9,r10,r11,r12,r13,r14,r15] E.length=A:=by decide +kernel
def C:List (List Nat):=[[0],[1,6,8],[2,4,10],[3],[5,11,13],[7,9,14],[12],[15]]
theorem hC:celS (mutB (nxA A) E.length) E.length E.length=C:=by decide +kernel
theorem hB:zBV M E (mutB (nxA A) E.length) (fun i=>idxE E (zAD M (getE E i).reverse)) C=true:=by decide +kernel
theorem hk:okK M=true:=by decide +kernel
theorem all:CellQ M:=zBW hk hE t16 hA hC hB
end Cl7
namespace Cl8
def M:List (List Int):=[[2,-1,0],[-3,2,0],[0,0,2]]
def E:List (List Int):=[[],[0],[1],[2],[0,1],[0,2],[1,0],[1,2],[0,1,0],[0,1,2],[1,0,1],[1,0,2],[0,1,0,1],[0,1,0,2],[1,0,1,0],[1,0,1,2],[0,1,0,1,0],[0,1,0,1,2],[1,0,1,0,1],[1,0,1,0,2],[0,1,0,1,0,1],[0,1,0,1,0,2],[1,0,1,0,1,2],[0,1,0,1,0,1,2]]
theorem hE:elL M=E:=by decide +kernel
def r0:List (List Int):=[[1],[],[],[],[],[],[],[],[],[],[],[],[],[],[],[],[],[],[],[],[],[],[],[]]
def r1:List (List Int):=[[1],[1],[],[],[],[],[],[],[],[],[],[],[],[],[],[],[],[],[],[],[],[],[],[]]
def r2:List (List Int):=[[1],[],[1],[],[],[],[],[],[],[],[],[],[],[],[],[],[],[],[],[],[],[],[],[]]
def r3:List (List Int):=[[1],[],[],[1],[],[],[],[],[],[],[],[],[],[],[],[],[],[],[],[],[],[],[],[]]
def r4:List (List Int):=[[1],[1],[1],[],[1],[],[],[],[],[],[],[],[],[],[],[],[],[],[],[],[],[],[],[]]
def r5:List (List Int):=[[1],[1],[],[1],[],[1],[],[],[],[],[],[],[],[],[],[],[],[],[],[],[],[],[],[]]
def r6:List (List Int):=[[1],[1],[1],[],[],[],[1],[],[],[],[],[],[],[],[],[],[],[],[],[],[],[],[],[]]
def r7:List (List Int):=[[1],[],[1],[1],[],[],[],[1],[],[],[],[],[],[],[],[],[],[],[],[],[],[],[],[]]
def r8:List (List Int):=[[1],[1],[1],[],[1],[],[1],[],[1],[],[],[],[],[],[],[],[],[],[],[],[],[],[],[]]
def r9:List (List Int):=[[1],[1],[1],[1],[1],[1],[],[1],[],[1],[],[],[],[],[],[],[],[],[],[],[],[],[],[]]
def r10:List (List Int):=[[1],[1],[1],[],[1],[],[1],[],[],[],[1],[],[],[],[],[],[],[],[],[],[],[],[],[]]
def r11:List (List Int):=[[1],[1],[1],[1],[],[1],[1],[1],[],[],[],[1],[],[],[],[],[],[],[],[],[],[],[],[]]
def r12:List (List Int):=[[1],[1],[1],[],[1],[],[1],[],[1],[],[1],[],[1],[],[],[],[],[],[],[],[],[],[],[]]
def r13:List (List Int):=[[1],[1],[1],[1],[1],[1],[1],[1],[1],[1],[],[1],[],[1],[],[],[],[],[],[],[],[],[],[]]
def r14:List (List Int):=[[1],[1],[1],[],[1],[],[1],[],[1],[],[1],[],[],[],[1],[],[],[],[],[],[],[],[],[]]
def r15:List (List Int):=[[1],[1],[1],[1],[1],[1],[1],[1],[],[1],[1],[1],[],[],[],[1],[],[],[],[],[],[],[],[]]
def r16:List (List Int):=[[1],[1],[1],[],[1],[],[1],[],[1],[],[1],[],[1],[],[1],[],[1],[],[],[],[],[],[],[]]
def r17:List (List Int):=[[1],[1],[1],[1],[1],[1],[1],[1],[1],[1],[1],[1],[1],[1],[],[1],[],[1],[],[],[],[],[],[]]
def r18:List (List Int):=[[1],[1],[1],[],[1],[],[1],[],[1],[],[1],[],[1],[],[1],[],[],[],[1],[],[],[],[],[]]
def r19:List (List Int):=[[1],[1],[1],[1],[1],[1],[1],[1],[1],[1],[1],[1],[],[1],[1],[1],[],[],[],[1],[],[],[],[]]
def r20:List (List Int):=[[1],[1],[1],[],[1],[],[1],[],[1],[],[1],[],[1],[],[1],[],[1],[],[1],[],[1],[],[],[]]
def r21:List (List Int):=[[1],[1],[1],[1],[1],[1],[1],[1],[1],[1],[1],[1],[1],[1],[1],[1],[1],[1],[],[1],[],[1],[],[]]
def r22:List (List Int):=[[1],[1],[1],[1],[1],[1],[1],[1],[1],[1],[1],[1],[1],[1],[1],[1],[],[1],[1],[1],[],[],[1],[]]
def r23:List (List Int):=[[1],[1],[1],[1],[1],[1],[1],[1],[1],[1],[1],[1],[1],[1],[1],[1],[1],[1],[1],[1],[1],[1],[1],[1]]
theorem k0:(List.range E.length).map (rowS E (tabE M E) (zAA []) 0)=r0:=by decide +kernel
theorem k1:(List.range E.length).map (rowS E (tabE M E) (zAA [r0]) 1)=r1:=by decide +kernel
theorem k2:(List.range E.length).map (rowS E (tabE M E) (zAA [r0,r1]) 2)=r2:=by decide +kernel
theorem k3:(List.range E.length).map (rowS E (tabE M E) (zAA [r0,r1,r2]) 3)=r3:=by decide +kernel
theorem k4:(List.range E.length).map (rowS E (tabE M E) (zAA [r0,r1,r2,r3]) 4)=r4:=by decide +kernel
theorem k5:(List.range E.length).map (rowS E (tabE M E) (zAA [r0,r1,r2,r3,r4]) 5)=r5:=by decide +kernel
theorem k6:(List.range E.length).map (rowS E (tabE M E) (zAA [r0,r1,r2,r3,r4,r5]) 6)=r6:=by decide +kernel
theorem k7:(List.range E.length).map (rowS E (tabE M E) (zAA [r0,r1,r2,r3,r4,r5,r6]) 7)=r7:=by decide +kernel
theorem k8:(List.range E.length).map (rowS E (tabE M E) (zAA [r0,r1,r2,r3,r4,r5,r6,r7]) 8)=r8:=by decide +kernel
theorem k9:(List.range E.length).map (rowS E (tabE M E) (zAA [r0,r1,r2,r3,r4,r5,r6,r7,r8]) 9)=r9:=by decide +kernel
theorem k10:(List.range E.length).map (rowS E (tabE M E) (zAA [r0,r1,r2,r3,r4,r5,r6,r7,r8,r9]) 10)=r10:=by decide +kernel
theorem k11:(List.range E.length).map (rowS E (tabE M E) (zAA [r0,r1,r2,r3,r4,r5,r6,r7,r8,r9,r10]) 11)=r11:=by decide +kernel
theorem k12:(List.range E.length).map (rowS E (tabE M E) (zAA [r0,r1,r2,r3,r4,r5,r6,r7,r8,r9,r10,r11]) 12)=r12:=by decide +kernel
theorem k13:(List.range E.length).map (rowS E (tabE M E) (zAA [r0,r1,r2,r3,r4,r5,r6,r7,r8,r9,r10,r11,r12]) 13)=r13:=by decide +kernel
theorem k14:(List.range E.length).map (rowS E (tabE M E) (zAA [r0,r1,r2,r3,r4,r5,r6,r7,r8,r9,r10,r11,r12,r13]) 14)=r14:=by decide +kernel
theorem k15:(List.range E.length).map (rowS E (tabE M E) (zAA [r0,r1,r2,r3,r4,r5,r6,r7,r8,r9,r10,r11,r12,r13,r14]) 15)=r15:=by decide +kernel
theorem k16:(List.range E.length).map (rowS E (tabE M E) (zAA [r0,r1,r2,r3,r4,r5,r6,r7,r8,r9,r10,r11,r12,r13,r14,r15]) 16)=r16:=by decide +kernel
theorem k17:(List.range E.length).map (rowS E (tabE M E) (zAA [r0,r1,r2,r3,r4,r5,r6,r7,r8,r9,r10,r11,r12,r13,r14,r15,r16]) 17)=r17:=by decide +kernel
theorem k18:(List.range E.length).map (rowS E (tabE M E) (zAA [r0,r1,r2,r3,r4,r5,r6,r7,r8,r9,r10,r11,r12,r13,r14,r15,r16,r17]) 18)=r18:=by decide +kernel
theorem k19:(List.range E.length).map (rowS E (tabE M E) (zAA [r0,r1,r2,r3,r4,r5,r6,r7,r8,r9,r10,r11,r12,r13,r14,r15,r16,r17,r18]) 19)=r19:=by decide +kernel
theorem k20:(List.range E.length).map (rowS E (tabE M E) (zAA [r0,r1,r2,r3,r4,r5,r6,r7,r8,r9,r10,r11,r12,r13,r14,r15,r16,r17,r18,r19]) 20)=r20:=by decide +kernel
theorem k21:(List.range E.length).map (rowS E (tabE M E) (zAA [r0,r1,r2,r3,r4,r5,r6,r7,r8,r9,r10,r11,r12,r13,r14,r15,r16,r17,r18,r19,r20]) 21)=r21:=by decide +kernel
theorem k22:(List.range E.length).map (rowS E (tabE M E) (zAA [r0,r1,r2,r3,r4,r5,r6,r7,r8,r9,r10,r11,r12,r13,r14,r15,r16,r17,r18,r19,r20,r21]) 22)=r22:=by decide +kernel
theorem k23:(List.range E.length).map (rowS E (tabE M E) (zAA [r0,r1,r2,r3,r4,r5,r6,r7,r8,r9,r10,r11,r12,r13,r14,r15,r16,r17,r18,r19,r20,r21,r22]) 23)=r23:=by decide +kernel
theorem t0:rws E (tabE M E) 0=[]:=rfl
theorem t1:rws E (tabE M E) 1=[r0]:=zAB E _ t0 k0
theorem t2:rws E (tabE M E) 2=[r0,r1]:=zAB E _ t1 k1
theorem t3:rws E (tabE M E) 3=[r0,r1,r2]:=zAB E _ t2 k2
theorem t4:rws E (tabE M E) 4=[r0,r1,r2,r3]:=zAB E _ t3 k3
theorem t5:rws E (tabE M E) 5=[r0,r1,r2,r3,r4]:=zAB E _ t4 k4
theorem t6:rws E (tabE M E) 6=[r0,r1,r2,r3,r4,r5]:=zAB E _ t5 k5
theorem t7:rws E (tabE M E) 7=[r0,r1,r2,r3,r4,r5,r6]:=zAB E _ t6 k6
theorem t8:rws E (tabE M E) 8=[r0,r1,r2,r3,r4,r5,r6,r7]:=zAB E _ t7 k7
theorem t9:rws E (tabE M E) 9=[r0,r1,r2,r3,r4,r5,r6,r7,r8]:=zAB E _ t8 k8
theorem t10:rws E (tabE M E) 10=[r0,r1,r2,r3,r4,r5,r6,r7,r8,r9]:=zAB E _ t9 k9
theorem t11:rws E (tabE M E) 11=[r0,r1,r2,r3,r4,r5,r6,r7,r8,r9,r10]:=zAB E _ t10 k10
theorem t12:rws E (tabE M E) 12=[r0,r1,r2,r3,r4,r5,r6,r7,r8,r9,r10,r11]:=zAB E _ t11 k11
theorem t13:rws E (tabE M E) 13=[r0,r1,r2,r3,r4,r5,r6,r7,r8,r9,r10,r11,r12]:=zAB E _ t12 k12
theorem t14:rws E (tabE M E) 14=[r0,r1,r2,r3,r4,r5,r6,r7,r8,r9,r10,r11,r12,r13]:=zAB E _ t13 k13
theorem t15:rws E (tabE M E) 15=[r0,r1,r2,r3,r4,r5,r6,r7,r8,r9,r10,r11,r12,r13,r14]:=zAB E _ t14 k14
theorem t16:rws E (tabE M E) 16=[r0,r1,r2,r3,r4,r5,r6,r7,r8,r9,r10,r11,r12,r13,r14,r15]:=zAB E _ t15 k15
theorem t17:rws E (tabE M E) 17=[r0,r1,r2,r3,r4,r5,r6,r7,r8,r9,r10,r11,r12,r13,r14,r15,r16]:=zAB E _ t16 k16
theorem t18:rws E (tabE M E) 18=[r0,r1,r2,r3,r4,r5,r6,r7,r8,r9,r10,r11,r12,r13,r14,r15,r16,r17]:=zAB E _ t17 k17
theorem t19:rws E (tabE M E) 19=[r0,r1,r2,r3,r4,r5,r6,r7,r8,r9,r10,r11,r12,r13,r14,r15,r16,r17,r18]:=zAB E _ t18 k18
theorem t20:rws E (tabE M E) 20=[r0,r1,r2,r3,r4,r5,r6,r7,r8,r9,r10,r11,r12,r13,r14,r15,r16,r17,r18,r19]:=zAB E _ t19 k19
theorem t21:rws E (tabE M E) 21=[r0,r1,r2,r3,r4,r5,r6,r7,r8,r9,r10,r11,r12,r13,r14,r15,r16,r17,r18,r19,r20]:=zAB E _ t20 k20
theorem t22:rws E (tabE M E) 22=[r0,r1,r2,r3,r4,r5,r6,r7,r8,r9,r10,r11,r12,r13,r14,r15,r16,r17,r18,r19,r20,r21]:=zAB E _ t21 k21
theorem t23:rws E (tabE M E) 23=[r0,r1,r2,r3,r4,r5,r6,r7,r8,r9,r10,r11,r12,r13,r14,r15,r16,r17,r18,r19,r20,r21,r22]:=zAB E _ t22 k22
theorem t24:rws E (tabE M E) 24=[r0,r1,r2,r3,r4,r5,r6,r7,r8,r9,r10,r11,r12,r13,r14,r15,r16,r17,r18,r19,r20,r21,r22,r23]:=zAB E _ t23 k23
def A:List Arw:=[(0,1,1),(0,2,1),(0,3,1),(1,5,1),(1,6,1),(2,4,1),(2,7,1),(3,5,1),(3,7,1),(4,2,1),(4,9,1),(4,10,1),(5,11,1),(6,1,1),(6,8,1),(6,11,1),(7,9,1),(8,6,1),(8,13,1),(8,14,1),(9,7,1),(9,15,1),(10,4,1),(10,12,1),(10,15,1),(11,5,1),(11,13,1),(12,10,1),(12,17,1),(12,18,1),(13,11,1),(13,19,1),(14,8,1),(14,16,1),(14,19,1),(15,9,1),(15,17,1),(16,14,1),(16,20,1),(16,21,1),(17,15,1),(17,22,1),(18,12,1),(18,20,1),(18,22,1),(19,13,1),(19,21,1),(20,23,1),(21,19,1),(21,23,1),(22,17,1),(22,23,1)]
theorem hA:wgL E (tabE M E) M.length [r0,r1,r2,r3,r4,r5,r6,r7,r8,r9,r10,r11,r12,r13,r14,r15,r16,r17,r18,r19,r20,r21,r22,r23] E.length=A:=by decide +kernel
def C:List (List Nat):=[[0],[1,6,8,14,16],[2,4,10,12,18],[3],[5,11,13,19,21],[7,9,15,17,22],[20],[23]]
theorem hC:celS (mutB (nxA A) E.length) E.length E.length=C:=by decide +kernel
theorem hB:zBV M E (mutB (nxA A) E.length) (fun i=>idxE E (zAD M (getE E i).reverse)) C=true:=by decide +kernel
theorem hk:okK M=true:=by decide +kernel
theorem all:CellQ M:=zBW hk hE t24 hA hC hB
end Cl8
namespace Cl9
def M:List (List Int):=[[2,-2],[-1,2]]
def E:List (List Int):=[[],[0],[1],[0,1],[1,0],[0,1,0],[1,0,1],[0,1,0,1]]
theorem hE:elL M=E:=by decide +kernel
def r0:List (List Int):=[[1],[],[],[],[],[],[],[]]
def r1:List (List Int):=[[1],[1],[],[],[],[],[],[]]
def r2:List (List Int):=[[1],[],[1],[],[],[],[],[]]
def r3:List (List Int):=[[1],[1],[1],[1],[],[],[],[]]
def r4:List (List Int):=[[1],[1],[1],[],[1],[],[],[]]
def r5:List (List Int):=[[1],[1],[1],[1],[1],[1],[],[]]
def r6:List (List Int):=[[1],[1],[1],[1],[1],[],[1],[]]
def r7:List (List Int):=[[1],[1],[1],[1],[1],[1],[1],[1]]
theorem k0:(List.range E.length).map (rowS E (tabE M E) (zAA []) 0)=r0:=by decide +kernel
theorem k1:(List.range E.length).map (rowS E (tabE M E) (zAA [r0]) 1)=r1:=by decide +kernel
theorem k2:(List.range E.length).map (rowS E (tabE M E) (zAA [r0,r1]) 2)=r2:=by decide +kernel
theorem k3:(List.range E.length).map (rowS E (tabE M E) (zAA [r0,r1,r2]) 3)=r3:=by decide +kernel
theorem k4:(List.range E.length).map (rowS E (tabE M E) (zAA [r0,r1,r2,r3]) 4)=r4:=by decide +kernel
theorem k5:(List.range E.length).map (rowS E (tabE M E) (zAA [r0,r1,r2,r3,r4]) 5)=r5:=by decide +kernel
theorem k6:(List.range E.length).map (rowS E (tabE M E) (zAA [r0,r1,r2,r3,r4,r5]) 6)=r6:=by decide +kernel
theorem k7:(List.range E.length).map (rowS E (tabE M E) (zAA [r0,r1,r2,r3,r4,r5,r6]) 7)=r7:=by decide +kernel
theorem t0:rws E (tabE M E) 0=[]:=rfl
theorem t1:rws E (tabE M E) 1=[r0]:=zAB E _ t0 k0
theorem t2:rws E (tabE M E) 2=[r0,r1]:=zAB E _ t1 k1
theorem t3:rws E (tabE M E) 3=[r0,r1,r2]:=zAB E _ t2 k2
theorem t4:rws E (tabE M E) 4=[r0,r1,r2,r3]:=zAB E _ t3 k3
theorem t5:rws E (tabE M E) 5=[r0,r1,r2,r3,r4]:=zAB E _ t4 k4
theorem t6:rws E (tabE M E) 6=[r0,r1,r2,r3,r4,r5]:=zAB E _ t5 k5
theorem t7:rws E (tabE M E) 7=[r0,r1,r2,r3,r4,r5,r6]:=zAB E _ t6 k6
theorem t8:rws E (tabE M E) 8=[r0,r1,r2,r3,r4,r5,r6,r7]:=zAB E _ t7 k7
def A:List Arw:=[(0,1,1),(0,2,1),(1,4,1),(2,3,1),(3,2,1),(3,6,1),(4,1,1),(4,5,1),(5,4,1),(5,7,1),(6,3,1),(6,7,1)]
theorem hA:wgL E (tabE M E) M.length [r0,r1,r2,r3,r4,r5,r6,r7] E.length=A:=by decide +kernel
def C:List (List Nat):=[[0],[1,4,5],[2,3,6],[7]]
theorem hC:celS (mutB (nxA A) E.length) E.length E.length=C:=by decide +kernel
theorem hB:zBV M E (mutB (nxA A) E.length) (fun i=>idxE E (zAD M (getE E i).reverse)) C=true:=by decide +kernel
theorem hk:okK M=true:=by decide +kernel
theorem all:CellQ M:=zBW hk hE t8 hA hC hB
end Cl9
namespace Cl10
def M:List (List Int):=[[2,-3],[-1,2]]
def E:List (List Int):=[[],[0],[1],[0,1],[1,0],[0,1,0],[1,0,1],[0,1,0,1],[1,0,1,0],[0,1,0,1,0],[1,0,1,0,1],[0,1,0,1,0,1]]
theorem hE:elL M=E:=by decide +kernel
def r0:List (List Int):=[[1],[],[],[],[],[],[],[],[],[],[],[]]
def r1:List (List Int):=[[1],[1],[],[],[],[],[],[],[],[],[],[]]
def r2:List (List Int):=[[1],[],[1],[],[],[],[],[],[],[],[],[]]
def r3:List (List Int):=[[1],[1],[1],[1],[],[],[],[],[],[],[],[]]
def r4:List (List Int):=[[1],[1],[1],[],[1],[],[],[],[],[],[],[]]
def r5:List (List Int):=[[1],[1],[1],[1],[1],[1],[],[],[],[],[],[]]
def r6:List (List Int):=[[1],[1],[1],[1],[1],[],[1],[],[],[],[],[]]
def r7:List (List Int):=[[1],[1],[1],[1],[1],[1],[1],[1],[],[],[],[]]
def r8:List (List Int):=[[1],[1],[1],[1],[1],[1],[1],[],[1],[],[],[]]
def r9:List (List Int):=[[1],[1],[1],[1],[1],[1],[1],[1],[1],[1],[],[]]
def r10:List (List Int):=[[1],[1],[1],[1],[1],[1],[1],[1],[1],[],[1],[]]
def r11:List (List Int):=[[1],[1],[1],[1],[1],[1],[1],[1],[1],[1],[1],[1]]
theorem k0:(List.range E.length).map (rowS E (tabE M E) (zAA []) 0)=r0:=by decide +kernel
theorem k1:(List.range E.length).map (rowS E (tabE M E) (zAA [r0]) 1)=r1:=by decide +kernel
theorem k2:(List.range E.length).map (rowS E (tabE M E) (zAA [r0,r1]) 2)=r2:=by decide +kernel
theorem k3:(List.range E.length).map (rowS E (tabE M E) (zAA [r0,r1,r2]) 3)=r3:=by decide +kernel
theorem k4:(List.range E.length).map (rowS E (tabE M E) (zAA [r0,r1,r2,r3]) 4)=r4:=by decide +kernel
theorem k5:(List.range E.length).map (rowS E (tabE M E) (zAA [r0,r1,r2,r3,r4]) 5)=r5:=by decide +kernel
theorem k6:(List.range E.length).map (rowS E (tabE M E) (zAA [r0,r1,r2,r3,r4,r5]) 6)=r6:=by decide +kernel
theorem k7:(List.range E.length).map (rowS E (tabE M E) (zAA [r0,r1,r2,r3,r4,r5,r6]) 7)=r7:=by decide +kernel
theorem k8:(List.range E.length).map (rowS E (tabE M E) (zAA [r0,r1,r2,r3,r4,r5,r6,r7]) 8)=r8:=by decide +kernel
theorem k9:(List.range E.length).map (rowS E (tabE M E) (zAA [r0,r1,r2,r3,r4,r5,r6,r7,r8]) 9)=r9:=by decide +kernel
theorem k10:(List.range E.length).map (rowS E (tabE M E) (zAA [r0,r1,r2,r3,r4,r5,r6,r7,r8,r9]) 10)=r10:=by decide +kernel
theorem k11:(List.range E.length).map (rowS E (tabE M E) (zAA [r0,r1,r2,r3,r4,r5,r6,r7,r8,r9,r10]) 11)=r11:=by decide +kernel
theorem t0:rws E (tabE M E) 0=[]:=rfl
theorem t1:rws E (tabE M E) 1=[r0]:=zAB E _ t0 k0
theorem t2:rws E (tabE M E) 2=[r0,r1]:=zAB E _ t1 k1
theorem t3:rws E (tabE M E) 3=[r0,r1,r2]:=zAB E _ t2 k2
theorem t4:rws E (tabE M E) 4=[r0,r1,r2,r3]:=zAB E _ t3 k3
theorem t5:rws E (tabE M E) 5=[r0,r1,r2,r3,r4]:=zAB E _ t4 k4
theorem t6:rws E (tabE M E) 6=[r0,r1,r2,r3,r4,r5]:=zAB E _ t5 k5
theorem t7:rws E (tabE M E) 7=[r0,r1,r2,r3,r4,r5,r6]:=zAB E _ t6 k6
theorem t8:rws E (tabE M E) 8=[r0,r1,r2,r3,r4,r5,r6,r7]:=zAB E _ t7 k7
theorem t9:rws E (tabE M E) 9=[r0,r1,r2,r3,r4,r5,r6,r7,r8]:=zAB E _ t8 k8
theorem t10:rws E (tabE M E) 10=[r0,r1,r2,r3,r4,r5,r6,r7,r8,r9]:=zAB E _ t9 k9
theorem t11:rws E (tabE M E) 11=[r0,r1,r2,r3,r4,r5,r6,r7,r8,r9,r10]:=zAB E _ t10 k10
theorem t12:rws E (tabE M E) 12=[r0,r1,r2,r3,r4,r5,r6,r7,r8,r9,r10,r11]:=zAB E _ t11 k11
def A:List Arw:=[(0,1,1),(0,2,1),(1,4,1),(2,3,1),(3,2,1),(3,6,1),(4,1,1),(4,5,1),(5,4,1),(5,8,1),(6,3,1),(6,7,1),(7,6,1),(7,10,1),(8,5,1),(8,9,1),(9,8,1),(9,11,1),(10,7,1),(10,11,1)]
theorem hA:wgL E (tabE M E) M.length [r0,r1,r2,r3,r4,r5,r6,r7,r8,r9,r10,r11] E.length=A:=by decide +kernel
def C:List (List Nat):=[[0],[1,4,5,8,9],[2,3,6,7,10],[11]]
theorem hC:celS (mutB (nxA A) E.length) E.length E.length=C:=by decide +kernel
theorem hB:zBV M E (mutB (nxA A) E.length) (fun i=>idxE E (zAD M (getE E i).reverse)) C=true:=by decide +kernel
theorem hk:okK M=true:=by decide +kernel
theorem all:CellQ M:=zBW hk hE t12 hA hC hB
end Cl10
def kL:List (List (List Int)):=[Cl0.M,Cl1.M,Cl2.M,Cl3.M,Cl4.M,Cl5.M,Cl6.M,Cl7.M,Cl8.M,Cl9.M,Cl10.M]
theorem zSU:∀M∈kL,CellQ M:=fun M h=>by
 simp only [kL,List.mem_cons,List.not_mem_nil,or_false] at h;rcases h with rfl | rfl | rfl | rfl | rfl | rfl | rfl | rfl | rfl | rfl | rfl
 ·exact Cl0.all
 ·exact Cl1.all
 ·exact Cl2.all
 ·exact Cl3.all
 ·exact Cl4.all
 ·exact Cl5.all
 ·exact Cl6.all
 ·exact Cl7.all
 ·exact Cl8.all
 ·exact Cl9.all
 ·exact Cl10.all
theorem zRP:zJX.all (fun M=>!(okK M) || kL.contains M)=true:=by decide +kernel
theorem zQh:zIn.all (fun M=>!(okK M) || kL.contains M)=true:=by decide +kernel
theorem zSx {M:List (List Int)} (h:AnyQ M) (hk:okK M=true):CellQ M:=by
 have key:∀L:List (List (List Int)),L.all (fun M=>!(okK M) || kL.contains M)=true→M∈L→CellQ M:=fun L hL hM=>by
  have h1:=List.all_eq_true.1 hL M hM;rw [hk] at h1;exact zSU M (by simpa using h1)
 rcases zP1 h (zBl hk).1 with h1 | h1
 ·exact key _ zRP h1
 ·exact key _ zQh h1
end Go.Proofs.YtlgcdacpjcnjgaaGreatDoor
namespace Go.Proofs.YtlgcdacpjcnjgaaGreatDoor
open Go.RowKit
set_option maxRecDepth 20000
set_option maxHeartbeats 8000000
def l23L:List ByteArray:=[⟨#[65,49]⟩,⟨#[65,50]⟩,⟨#[65,50]⟩,⟨#[65,51]⟩,⟨#[65,51]⟩,⟨#[66,50]⟩,⟨#[66,50]⟩,⟨#[71,50]⟩]
theorem tq23 {s:ByteArray} (h:s∈l23L):TcQ fin0 s:=by
 simp only [l23L,List.mem_cons,List.not_mem_nil,or_false] at h;rcases h with rfl | rfl | rfl | rfl | rfl | rfl | rfl | rfl
 ·exact zAs (tyMx 0) 1 zDN (zAO (by decide)) (by decide) (by decide) (by decide)
 ·exact zAs (tyMx 1) 2 zCt (zAO (by decide)) (by decide) (by decide) (by decide)
 ·exact zAs (tyMx 1) 2 zCt (zAO (by decide)) (by decide) (by decide) (by decide)
 ·exact zAs (tyMx 2) 3 zCu (zAO (by decide)) (by decide) (by decide) (by decide)
 ·exact zAs (tyMx 2) 3 zCu (zAO (by decide)) (by decide) (by decide) (by decide)
 ·exact zAs (tyMx 4) 2 zCv (zAO (by decide)) (by decide) (by decide) (by decide)
 ·exact zAs (tyMx 4) 2 zCv (zAO (by decide)) (by decide) (by decide) (by decide)
 ·exact zAs (tyMx 11) 2 zEX (zAO (by decide)) (by decide) (by decide) (by decide)
theorem zIX {w:World} {g:Nat} (h:Cur w g) :
  Calls Tryz.prog 23 #[.pointer (some ⟨g,0,none⟩)] w (AnyE w g):=by
 have hgl:=h.lt;go_enter Tryz.func23,Tryz.ntmps23
 go_wp2_with fail
 obtain ⟨w2,hw2⟩:∃w2,w2=w.alloc (.cells (l23L.map Value.string).toArray 9):=⟨_,rfl⟩;have hr:=zFD l23L (by decide) hgl hw2;have b2:Below w.heap.size w w2:=by rw [hw2]; exact (Below.refl _ w).alloc (zTI _) _
 have hw2:w2=w.alloc (.cells #[.string ⟨#[65,49]⟩,.string ⟨#[65,50]⟩,.string ⟨#[65,50]⟩,.string ⟨#[65,51]⟩,.string ⟨#[65,51]⟩,.string ⟨#[66,50]⟩,.string ⟨#[66,50]⟩,.string ⟨#[71,50]⟩] 9):=hw2;rw [<-hw2];clear hw2;refine (zE8 (h.below b2) hr (by decide) (by decide)).mono ?_;rintro e w3 ⟨j,s,hj,rfl,hc3,hg3⟩;obtain ⟨M,n,hM,hq,h1,h4,hC,HIN⟩:=tq23 (zTF hj);have hg03:w.grownBy w3 (some g):=Off.tr (Off.grown b2) hg3;have HQ:=zTD hq;have hgl3:=hc3.lt;clear hr b2 hj hC hg3;go_wp2_with fail
 refine (hM w3).mono ?_;rintro e w4 ⟨r4,rfl,f4,b4⟩;have hc4:=hc3.below b4;clear hM;go_wp2_with fail
 refine (zCG hc4 (n:=12) (by omega) (by omega)).mono ?_;rintro e w5 ⟨bq,rfl,hc5,hg5⟩;have hg05:=Off.tr hg03 (Off.tr (Off.grown b4 (mb:=g)) hg5);cases bq
 ·have f5:=FII.turn f4 hg5 (fun b hb=>by have:=hb.1; omega);have HE:=zTD (AnyE.of (w:=w) (g:=g) (FC.mono f5 (fun b hb=>⟨Nat.le_trans hg03.size hb.1,Nat.lt_of_lt_of_le hb.2 hg5.size⟩)) HQ.out h1 h4 hc5 hg05 (.inl (.inl (.inl HIN.out))));clear f4 f5 b4 hg5;go_wp2_with fail
  go_ret
  exact HE.out
 ·clear f4 b4 hg5;go_wp2_with fail
  refine (zSv hc5).mono ?_;rintro e w6 hE;obtain ⟨r,rfl,hE2⟩:∃r,e=.returned r∧AnyE w5 g e w6:=by
   have hE':=hE; obtain ⟨r,e1,_⟩:=hE'; exact ⟨r,e1,hE⟩
  have HE:=zTD (hE2.after hg05);clear hE hE2;go_wp2_with fail
  go_ret
  exact HE.out
structure CelD (w w':World) (r:Value) (M:List (List Int)):Prop where
 rm:RII Any w' r M
 tot:total M≤100
 q:AnyQ M
 bl:Below w.heap.size w w'
theorem zJr {w:World} {v:Value} {n:Nat} (h:RBy Any w v n) (hn:n≤1048576) :
  Calls Tryz.prog 5 #[v] w fun e w'=>∃r,e=.returned r∧∃M,CelD w w' r M:=by
 obtain ⟨a,cap,rfl⟩:∃a cap,v=.slice a n cap:=by obtain ⟨a,cap,e,_⟩:=h; exact ⟨a,cap,e⟩
 go_enter Tryz.func5,Tryz.ntmps5
 go_wp2_with fail
 refine (zLa h hn).mono ?_;rintro e w1 ⟨rfl,hc1,b1,hlt⟩;obtain ⟨g,hg⟩:∃g,g=w.heap.size:=⟨_,rfl⟩;rw [<-hg] at hc1 ⊢;have HG:=zTD hg;clear hg hlt h;go_wp2_with fail
 refine (zIX hc1).mono ?_;rintro e w2 ⟨r,rfl,M,f2,h1,h5,h4,hc2,hg2,HP⟩;have HE:Hid (CelD w w2 r M):=zTD ⟨RII.any f2,by have:=zC8 h5 h4; omega,HP.out,b1.grown hg2 b1.size (fun k hk=>by cases hk; rw [HG.out]; exact zTI _)⟩;clear f2 h4 hc2 hg2 b1;go_wp2_with fail
 go_ret
 exact ⟨_,rfl,M,HE.out⟩
theorem zNw {w:World} {v:Value} {n:Nat} (h:RBy Any w v n) (hn:n≤1048576) :
  Calls Tryz.prog 19 #[v] w fun e w'=>∃r x,e=.returned (.tuple #[r,.int .i64 x])∧∃L:List (List Int),RII Any w' r L∧total L≤16777216∧Below w.heap.size w w':=by
 obtain ⟨a,cap,rfl⟩:∃a cap,v=.slice a n cap:=by obtain ⟨a,cap,e,_⟩:=h; exact ⟨a,cap,e⟩
 go_enter Tryz.func19,Tryz.ntmps19
 go_wp2_with fail
 refine (zLa h hn).mono ?_;rintro e w1 ⟨rfl,hc1,b1,hlt⟩;obtain ⟨g,hg⟩:∃g,g=w.heap.size:=⟨_,rfl⟩;rw [<-hg] at hc1 ⊢;have HG:=zTD hg;clear hg hlt h;go_wp2_with fail
 refine (zIX hc1).mono ?_;rintro e w2 ⟨r,rfl,M,f2,h1,h5,h4,hc2,hg2,HP⟩;have htot:total M≤16777216:=by have:=zC8 h5 h4; omega
 have m2:=RII.any f2;have b2:Below w.heap.size w w2:=b1.grown hg2 b1.size (fun k hk=>by cases hk; rw [HG.out]; exact zTI _);clear f2 h4 hc2 hg2 b1 hc1;go_wp2_with fail
 refine (zIx m2 htot).mono ?_;rintro e w3 ⟨r3,rfl,f3,b3⟩;have HE:=zTD (And.intro (RII.any f3.read) (And.intro (show total (lcR M)≤16777216 by have:=zEx M; omega) (zAC.step b2 b3)));clear f3 b3 m2 b2;go_wp2_with fail
 go_ret2
 exact ⟨_,_,rfl,_,HE.out⟩
theorem zQN {w:World} {v:Value} {n:Nat} (h:RBy Any w v n) (hn:n≤1048576) :
  Calls Tryz.prog 20 #[v] w fun e w'=>∃r,e=.returned r∧∃M:List (List Int),RII Any w' r M∧total M≤16777216∧Below w.heap.size w w':=by
 obtain ⟨a,cap,rfl⟩:∃a cap,v=.slice a n cap:=by obtain ⟨a,cap,e,_⟩:=h; exact ⟨a,cap,e⟩
 go_enter Tryz.func20,Tryz.ntmps20
 go_wp2_with fail
 refine (zLa h hn).mono ?_;rintro e w1 ⟨rfl,hc1,b1,hlt⟩;obtain ⟨g,hg⟩:∃g,g=w.heap.size:=⟨_,rfl⟩;rw [<-hg] at hc1 ⊢;have HG:=zTD hg;clear hg hlt h;go_wp2_with fail
 refine (zOd hc1).mono ?_;rintro e w2 ⟨r,rfl,M,f2,h1,h5,h4,hc2,hg2⟩;have HE:=zTD (And.intro (RII.any f2) (And.intro (show total M≤16777216 by have:=zC8 h5 h4; omega) (b1.grown hg2 b1.size (fun k hk=>by cases hk; rw [HG.out]; exact zTI _))));clear f2 h4 hc2 hg2 b1;go_wp2_with fail
 go_ret
 exact ⟨_,rfl,M,HE.out⟩
theorem zEd {S S':Nat→Prop} {u z:Value} {c:List (List Int)} {l:List Int} {w:World} (h:RII S w u c) (h':RI S' w z l) (hwd:isWd c l=true) (hc:CartanP c) (hl:total c≤16777216) :
  Calls Tryz.prog 13 #[u,z] w fun e w'=>∃r,e=.returned r∧FI (New w w') w' r (ldL c l.reverse)∧Below w.heap.size w w':=by
 have HW:=zTD (zJh hwd);have hl15:=(zCA hwd).2.1;clear hwd;go_enter Tryz.func13,Tryz.ntmps13
 go_wp2_with fail
 refine (zDt h' (by omega)).mono ?_;rintro e w1 ⟨r1,rfl,f1,b1⟩;go_wp2_with fail
 refine (zEy (h.below b1) f1.reads HW.out hc hl).mono ?_;rintro e w2 ⟨r2,rfl,f2,b2⟩;go_wp2_with fail
 go_ret
 exact ⟨_,rfl,f2.mono (fun b hb=>⟨Nat.le_trans b1.size hb.1,hb.2⟩),zAC.step b1 b2⟩
theorem zSW {c:List (List Int)} {j:Nat} {l:List Int} (h:c[j]? = some l):l.length≤total c:=by
 induction c generalizing j with
 | nil=>simp at h
 | cons x c ih =>
  have ht:total (x::c)=total c+x.length+1:=by simp [total]; omega
  cases j with
  | zero=>simp at h; subst h; omega
  | succ j=>have:=ih (j:=j) (by simpa using h); omega
theorem zJu {S S':Nat→Prop} {w:World} {u v:Value} {L L':List (List Int)} (h:RII S w u L) (h':RII S' w v L') (hl:total L≤16777216) :
  Calls Tryz.prog 10 #[u,v] w fun e w'=>e=.returned (.bool (decide (L=L')))∧Below w.heap.size w w':=by
 have hn0:L.length≤16777216:=by unfold total at hl; omega
 obtain ⟨a,cap,rfl⟩:=h.form;obtain ⟨a',cap',rfl⟩:=h'.form;by_cases hne:L.length=L'.length
 ·have i0:((L.length:Int) != (L'.length:Int))=false:=by simp; omega
  have HY:Hid ((∀j,j<L.length→L[j]? = L'[j]?)→L=L'):=zTD (fun k=>List.ext_getElem? fun j=>by
   rcases Nat.lt_or_ge j L.length with hj | hj
   ·exact k j hj
   ·rw [List.getElem?_eq_none hj,List.getElem?_eq_none (by omega)])
  have HN:Hid (∀(j:Nat) (x y:List Int),L[j]? = some x→L'[j]? = some y→x≠y→L≠L'):=zTD (fun j x y hx hy hxy e=>by subst e; rw [hx] at hy; cases hy; exact hxy rfl);have HT:=zTD (fun (j:Nat) (x:List Int) (hx:L[j]? = some x)=>Nat.le_trans (zSW hx) hl);rw [<-hne] at h' i0 ⊢;generalize L.length=n at *;clear hne hl;go_enter Tryz.func10,Tryz.ntmps10
  go_wp2_with fail
  go_loopw [5] (fun kk wr=>∃(k:Nat),k≤n∧kk=.int .i64 k∧Hid (∀j,j<k→L[j]? = L'[j]?)∧Below w.heap.size w wr) (fun kk _=>n-(intOf kk).toNat)
  case atStart=>exact ⟨0,Nat.zero_le _,rfl,zTD (fun j hj=>by omega),Below.refl _ _⟩
  case round =>
   obtain ⟨k,hk,rfl,HK,hb⟩:=hrel;by_cases hlt:k<n
   ·have i1:(k:Int)<(n:Int):=by omega
    obtain ⟨b,o,r,x,rfl,hc0,hx,hx0⟩:=(h.below hb.drew).at hlt;obtain ⟨b',o',r',y,rfl,hc1,hy,hy0⟩:=(h'.below hb.drew).at hlt;have HX:=zTD hx0.out;have HY2:=zTD hy0.out;have tx:=HT.out k x hx0.out;have hsi:=zGj hx hy tx;have l0:=zTH _ _ hc0;have l1:=zTH _ _ hc1;obtain ⟨a3,c3,rfl⟩:=hx.form;obtain ⟨a4,c4,rfl⟩:=hy.form;by_cases hxy:x=y
    ·rw [decide_eq_true hxy] at hsi;have HK2:Hid (∀j,j<k+1→L[j]? = L'[j]?):=zTD (fun j hj=>by
      rcases Nat.lt_or_ge j k with h1 | h1
      ·exact HK.out j h1
      ·obtain rfl:j=k:=by omega
       rw [HX.out,HY2.out,hxy])
     clear hxy hx hy hx0 hy0;generalize x.length=xn at *;generalize y.length=yn at *;go_wp2_with fail
     go_region_held3 (fun w'=>w'.cell? ⟨b,o+k,none⟩=some (.slice a3 xn c3)∧w'.cell? ⟨b',o'+k,none⟩=some (.slice a4 yn c4)) (first | go_keep | exact ⟨p1,p2⟩ | exact ⟨hc0,hc1⟩) ((go_at_call 12; refine hsi.mono ?_; rintro e w4 ⟨rfl,b4⟩; have p1:=(b4.cell (p:=⟨b,o+k,none⟩) l0).trans hc0; have p2:=(b4.cell (p:=⟨b',o'+k,none⟩) l1).trans hc1))
     have hb2:=zAC.step hb.drew b4;clear hsi hc0 hc1 p1 p2;go_wp2_with fail
     go_roundw
     case rel=>exact ⟨k+1,by omega,by go_num,HK2,hb2⟩
     case measure=>simp [intOf]; omega
    ·rw [decide_eq_false hxy] at hsi;have HF:=zTD (HN.out k x y HX.out HY2.out hxy);clear hxy hx hy hx0 hy0;generalize x.length=xn at *;generalize y.length=yn at *;go_wp2_with fail
     go_region_held3 (fun w'=>w'.cell? ⟨b,o+k,none⟩=some (.slice a3 xn c3)∧w'.cell? ⟨b',o'+k,none⟩=some (.slice a4 yn c4)) (first | go_keep | exact ⟨p1,p2⟩ | exact ⟨hc0,hc1⟩) ((go_at_call 12; refine hsi.mono ?_; rintro e w4 ⟨rfl,b4⟩; have p1:=(b4.cell (p:=⟨b,o+k,none⟩) l0).trans hc0; have p2:=(b4.cell (p:=⟨b',o'+k,none⟩) l1).trans hc1))
     have hb2:=zAC.step hb.drew b4;clear hsi hc0 hc1 p1 p2;go_wp2_with fail
     go_ret
     exact ⟨zAG (by simp [HF.out]),hb2⟩
   ·have i1:¬(k:Int)<(n:Int):=by omega
    have hkn:k=n:=by omega
    have HF:=zTD (HY.out (by rw [<-hkn]; exact HK.out));clear hkn;go_wp2_with fail
    go_ret
    exact ⟨zAG (by simp [HF.out]),hb⟩
 ·have i0:((L.length:Int) != (L'.length:Int))=true:=by simp; omega
  have HF:Hid (L≠L'):=zTD (fun e=>hne (congrArg List.length e));clear hne;generalize L.length=n at *;generalize L'.length=n' at *;go_enter Tryz.func10,Tryz.ntmps10
  go_wp2_with fail
  go_ret
  exact ⟨zAG (by simp [HF.out]),Below.refl _ _⟩
theorem zNL {S S':Nat→Prop} {w:World} {u v:Value} {l l':List Int} (h:RI S w u l) (h':RI S' w v l') (e:l=l') (hl:l.length≤16777216) :
  Calls Tryz.prog 12 #[u,v] w fun e w'=>e=.returned (.bool true)∧Below w.heap.size w w' :=
 (zGj h h' hl).mono fun e9 w' ⟨he,hb⟩=>⟨by rw [he,decide_eq_true e],hb⟩
theorem zGk {S S':Nat→Prop} {w:World} {u v:Value} {l:List (List Int)} (h:RII S w u l) (h':RII S' w v l) (hl:total l≤16777216) :
  Calls Tryz.prog 10 #[u,v] w fun e w'=>e=.returned (.bool true)∧Below w.heap.size w w' :=
 (zJu h h' hl).mono fun e w' ⟨he,hb⟩=>⟨by rw [he,decide_eq_true rfl],hb⟩
theorem zSV (c:List (List Int)) (x:List Int):(ldL c x).length≤c.length:=by
 unfold ldL;rw [List.length_map];exact Nat.le_trans (List.length_filter_le _ _) (by simp)
def sumI (L:List (List Int)) (i:Nat):Nat:=((L.take i).map List.length).sum
theorem zNb {L:List (List Int)} {i:Nat} {row:List Int} (h:L[i]? = some row):sumI L (i+1)=sumI L i+row.length:=by
 unfold sumI;rw [zAP h,List.map_append,List.sum_append];simp
theorem zRW (L:List (List Int)) (i:Nat):sumI L i≤total L:=by
 unfold sumI total;have:∀(L:List (List Int)) (i:Nat),((L.take i).map List.length).sum≤(L.map List.length).sum:=fun L=>by
  induction L with
  | nil=>intro i; simp
  | cons x L ih =>
   intro i;cases i with
   | zero=>simp
   | succ i=>have:=ih i; simp only [List.take_succ_cons,List.map_cons,List.sum_cons]; omega
 have:=this L i;omega
theorem zPe (L:List (List Int)) {i:Nat} (h:i=L.length):sumI L i=(L.map List.length).sum:=by
 unfold sumI; rw [h,List.take_length]
theorem zQg {c:List (List Int)} (h:elOk c=true) {z:Nat} (hz:z<(elL c).length):(elL c)[z]? = some (getE (elL c) z)∧isWd c (getE (elL c) z)=true:=by
 have h1:(elL c)[z]? = some (elL c)[z]:=zTE hz;have h2:getE (elL c) z=(elL c)[z]:=by unfold getE; rw [h1]; rfl
 rw [h2];exact ⟨h1,(zLN h _ (List.getElem_mem hz)).1⟩
set_option maxRecDepth 100000 in
theorem lawCl {v:Value} {n:Nat} {w:World} (h:RBy Any w v n) (hm0:HasM w) :
  Calls Tryz.prog 3 #[v] w fun e w'=>e=.returned (.bool true)∧Below w.heap.size w w':=by
 have HM:=zTD hm0;clear hm0;obtain ⟨a,cap,rfl⟩:∃a cap,v=.slice a n cap:=by obtain ⟨a,cap,e,_⟩:=h; exact ⟨a,cap,e⟩
 by_cases hbig:1048576<n
 ·go_enter Tryz.func3,Tryz.ntmps3
  go_wp2_with fail
  refine zPr.mono ?_;rintro e w1 ⟨rfl,rfl⟩;rw [decide_eq_true hbig];go_wp2_with fail
  go_ret
  exact ⟨rfl,Below.refl _ _⟩
 ·have hn:n≤1048576:=by omega
  go_enter Tryz.func3,Tryz.ntmps3
  go_wp2_with fail
  refine zPr.mono ?_;rintro e w1 ⟨rfl,rfl⟩;rw [decide_eq_false hbig];clear hbig;go_wp2_with fail
  refine (zJr h hn).mono ?_;rintro e w1 ⟨rc,rfl,c,hD⟩;have mc:=hD.rm;have b1:=hD.bl;have tc:total c≤16777216:=by have:=hD.tot; omega
  have HQ:Hid (okK c=true→CellQ c):=zTD (zSx hD.q);clear hD;go_wp2_with fail
  refine (zMh mc tc (HM.out.below b1)).mono ?_;rintro e w2 ⟨rl,rfl,fl,b2⟩;have ml:=RII.any fl.read;clear fl;have mc:=mc.below b2;have b1:=zAC.step b1 b2;clear b2;go_wp2_with fail
  refine (zIx mc tc).mono ?_;rintro e w3 ⟨rm,rfl,fm,b2⟩;have mm:=RII.any fm.read;clear fm;have mc:=mc.below b2;have ml:=ml.below b2;have b1:=zAC.step b1 b2;clear b2;go_wp2_with fail
  refine (zSe mc tc (HM.out.below b1)).mono ?_;rintro e w4 ⟨rr,rfl,fr,b2⟩;have mr:=RII.any fr.read;clear fr;have mc:=mc.below b2;have ml:=ml.below b2;have mm:=mm.below b2;have b1:=zAC.step b1 b2;clear b2;go_wp2_with fail
  refine (zSf mc tc).mono ?_;rintro e w5 ⟨rs,rfl,fs,b2⟩;have ms:=RII.any fs.read;clear fs;have mc:=mc.below b2;have ml:=ml.below b2;have mm:=mm.below b2;have mr:=mr.below b2;have b1:=zAC.step b1 b2;clear b2;have tl:total (lcR c)≤16777216:=by have:=zEx c; omega
  have tr:total (rcR c)≤16777216:=by have:=zNE c; omega
  have s0:(okK c != okK c)=false:=by simp
  go_wp2_with fail
  refine (zGk ml mm tl).mono ?_;rintro e w6 ⟨rfl,b2⟩;have mc:=mc.below b2;have ml:=ml.below b2;have mm:=mm.below b2;have mr:=mr.below b2;have ms:=ms.below b2;have b1:=zAC.step b1 b2;clear b2;clear ml;go_wp2_with fail
  refine (zGk mr ms tr).mono ?_;rintro e w7 ⟨rfl,b2⟩;have mc:=mc.below b2;have mm:=mm.below b2;have mr:=mr.below b2;have ms:=ms.below b2;have b1:=zAC.step b1 b2;clear b2;clear mr;clear s0;obtain ⟨ok,hok⟩:∃ok,ok=okK c:=⟨_,rfl⟩;rw [<-hok] at HQ ⊢;have HOK:=zTD hok;clear hok;go_upto_if 70 with fail
  go_cut [] (fun wx=>Hid (Below w7.heap.size w7 wx))
  case first=>as_aux_lemma =>
   have HB0:=zTD b1;clear b1;have b1:=Below.refl w7.heap.size w7;cases ok
   ·have HB:=zTD b1;clear mc mm ms b1 HQ;go_wp2_with fail
    go_meet
    case rel=>exact HB
   ·have K:=zTD (zBl HOK.out.symm);have Q:=zTD (HQ.out rfl);have HEW:=zTD (fun (z:Nat) (hz:z<(elL c).length)=>zQg K.out.2.2.2.2 hz);have HCAR:=zTD K.out.2.1.cart;have hel:elR c=elL c:=by unfold elR; rw [if_pos K.out.2.2.2.2]
    clear HQ;go_wp2_with fail
    refine (zDW mc tc).mono ?_;rintro e w8 ⟨re,rfl,fe,b2⟩;rw [hel] at fe;have me:=RII.any fe.read;clear fe hel;have mc:=mc.below b2;have mm:=mm.below b2;have ms:=ms.below b2;have b1:=zAC.step b1 b2;clear b2;rw [K.out.2.2.2.2];have HROW:=zTD Q.out.rows;have HSUM:=zTD Q.out.sum;have HRT:=zTD Q.out.right;have HNM:=zTD Q.out.name;have hti:=zRW (lcR c);have htl:=zEx c;have hnl6:(lcR c).length≤16777216:=by have h1:=htl; unfold total at h1; omega
    obtain ⟨am,cm,rfl⟩:=mm.form;obtain ⟨ae,ce,rfl⟩:=me.form;obtain ⟨az,cz,rfl⟩:=ms.form;have HSI:=zTD (fun (i:Nat) (row:List Int) (hx:(lcR c)[i]? = some row)=>zNb hx);have HS0:Hid ((0:Int)=((sumI (lcR c) 0:Nat):Int)):=zTD rfl;have HSE:=zTD (fun (i:Nat) (hx:i=(lcR c).length)=>(zPe (lcR c) hx).trans HSUM.out);clear Q HSUM;generalize lcR c=L at *;generalize rcR c=RR at *;generalize hE:elL c=E at *;have HE:=zTD hE;clear hE;generalize hnl:L.length=nl at *;have HNL:=zTD hnl;generalize hne:E.length=ne at *;have HNE:=zTD hne;generalize hnr:RR.length=nr at *;clear hnl hne hnr;go_wp2_with fail
    go_loopw [14,15] (fun nn ii wr=>∃i:Nat,i≤nl∧ii=.int .i64 i∧nn=.int .i64 ((sumI L i:Nat):Int)∧Below w8.heap.size w8 wr) (fun _ ii _=>nl-(intOf ii).toNat)
    case atStart=>exact ⟨0,Nat.zero_le _,rfl,by rw [<-HS0.out],Below.refl _ _⟩
    case round=>as_aux_lemma =>
     obtain ⟨i,hi,rfl,rfl,hb⟩:=hrel;by_cases hin:i<nl
     ·as_aux_lemma =>
       have i1:(i:Int)<(nl:Int):=by omega
       obtain ⟨bm,om,rr,row,rfl,hcm,hrow,hrx⟩:=(mm.below hb).at hin;obtain ⟨hr0,hrk⟩:=HROW.out i row hrx.out;have hsi:=HSI.out i row hrx.out;have hti2:=hti (i+1);have HRK:=zTD hrk;obtain ⟨ar,cr,rfl⟩:=hrow.form;generalize hq:row.length=nq at *;have lm:=zTH wr _ hcm;clear hq hrx hrk;go_wp2_with fail
       go_loopw [16] (fun kk wi=>∃k:Nat,k≤nq∧kk=.int .i64 k∧Below wr.heap.size wr wi) (fun kk _=>nq-(intOf kk).toNat)
       case atStart=>exact ⟨0,Nat.zero_le _,rfl,Below.refl _ _⟩
       case round=>as_aux_lemma =>
        obtain ⟨k,hk,rfl,hbi⟩:=hrel;have hb2:=zAC.step hb hbi;have hcm:=(hbi.cell (p:=⟨bm,om+i,none⟩) lm).trans hcm;have lm:=zTH wr _ hcm;have hrow:=hrow.below hbi;by_cases hkn:k<nq
        ·as_aux_lemma =>
          have i2:(k:Int)<(nq:Int):=by omega
          obtain ⟨bR,oR,x,rfl,hcx,hx⟩:=hrow.at hkn;obtain ⟨b9,o9,x0,e9,hc0,hx0⟩:=hrow.at hr0;simp only [Option.some.injEq,Addr.mk.injEq,and_true] at e9;obtain ⟨rfl,rfl⟩:=e9;obtain ⟨z,z0,rfl,hz1,hz,hz0,hld,hcf⟩:=HRK.out k x hx.out;have ex0:x0=(z0:Int):=by have h1:=hx0.out; rw [hz1] at h1; exact (Option.some.inj h1).symm
          subst ex0;obtain ⟨bE,oE,r1,x1,rfl,hc1,hr1,hx1⟩:=(me.below hb2).at hz;obtain ⟨b8,o8,r2,x2,e8,hc2,hr2,hx2⟩:=(me.below hb2).at hz0;simp only [Option.some.injEq,Addr.mk.injEq,and_true] at e8;obtain ⟨rfl,rfl⟩:=e8;obtain ⟨g1,v1⟩:=HEW.out z hz;obtain ⟨g2,v2⟩:=HEW.out z0 hz0;have q1:x1=getE E z:=by have h1:=hx1.out; rw [g1] at h1; exact (Option.some.inj h1).symm
          have q2:x2=getE E z0:=by have h1:=hx2.out; rw [g2] at h1; exact (Option.some.inj h1).symm
          subst q1 q2;have hc0:wr.cell? ⟨bR,oR,none⟩=some (.int .i64 (z0:Int)):=by simpa using hc0
          have hcz1:=hc1;have hcz2:=hc2;obtain ⟨a1,c1,rfl⟩:=hr1.form;obtain ⟨a2,c2,rfl⟩:=hr2.form;have mcw:=(mc.below hb2).drew;have hd1:=zEd (mcw) (hr1.drew) v1 HCAR.out tc;have hd2:=fun (w':World) (hb':Below wr.drew.heap.size wr.drew w')=>zEd (mcw.below hb') (hr2.drew.below hb') v2 HCAR.out tc;have hce:=fun (w':World) (hb':Below wr.drew.heap.size wr.drew w')=>zGF (q:=(z:Int)) ((mm.below hb2).drew.below hb') (by omega);rw [hcf] at hce;have HLD:=zTD hld;have HL4:=zTD (fun x=>zSV c x);generalize (getE E z).length=n1 at hc1 hd1;generalize (getE E z0).length=n2 at hc2 hd2;have k1:=zTH wr _ hcx;have k2:=zTH wr _ hc1
          have kd:wr.drew.cell? ⟨bm,om+i,none⟩=some (.slice (some ⟨bR,oR,none⟩) nq cr)∧wr.drew.cell? ⟨bR,oR+k,none⟩=some (.int .i64 (z:Int))∧wr.drew.cell? ⟨bR,oR,none⟩=some (.int .i64 (z0:Int))∧wr.drew.cell? ⟨bE,oE+z,none⟩=some (.slice a1 n1 c1)∧wr.drew.cell? ⟨bE,oE+z0,none⟩=some (.slice a2 n2 c2):=⟨hcm,hcx,hc0,hc1,hc2⟩
          have HKP:=zTD (fun (w':World) (hb':Below wr.drew.heap.size wr.drew w')=>(⟨(hb'.cell (p:=⟨bm,om+i,none⟩) lm).trans kd.1,(hb'.cell (p:=⟨bR,oR+k,none⟩) k1).trans kd.2.1,(hb'.cell (p:=⟨bR,oR,none⟩) k1).trans kd.2.2.1,(hb'.cell (p:=⟨bE,oE+z,none⟩) k2).trans kd.2.2.2.1,(hb'.cell (p:=⟨bE,oE+z0,none⟩) k2).trans kd.2.2.2.2⟩:w'.cell? ⟨bm,om+i,none⟩=some (.slice (some ⟨bR,oR,none⟩) nq cr)∧w'.cell? ⟨bR,oR+k,none⟩=some (.int .i64 (z:Int))∧w'.cell? ⟨bR,oR,none⟩=some (.int .i64 (z0:Int))∧w'.cell? ⟨bE,oE+z,none⟩=some (.slice a1 n1 c1)∧w'.cell? ⟨bE,oE+z0,none⟩=some (.slice a2 n2 c2)));have hzn:(z:Int)<(ne:Int):=by omega
          have hz0n:(z0:Int)<(ne:Int):=by omega
          have hne0:((i:Int) != (i:Int))=false:=by simp
          clear hx hx0 hz1 hld hcf g1 g2;go_wp2_with fail
          go_region_held3 (fun w'=>w'.cell? ⟨bm,om+i,none⟩=some (.slice (some ⟨bR,oR,none⟩) nq cr)∧w'.cell? ⟨bR,oR+k,none⟩=some (.int .i64 (z:Int))∧w'.cell? ⟨bR,oR,none⟩=some (.int .i64 (z0:Int))∧w'.cell? ⟨bE,oE+z,none⟩=some (.slice a1 n1 c1)∧w'.cell? ⟨bE,oE+z0,none⟩=some (.slice a2 n2 c2)) (first | go_keep | exact p4 | exact p3 | exact p2 | exact p1 | exact kd) (first
           | (go_at_call_of 13 (Value.slice a1 n1 c1); refine hd1.mono ?_; rintro e w5 ⟨r5,rfl,f5,b5⟩; have p1:=HKP.out w5 b5; have hd3:=hd2 w5 b5)
           | (go_at_call 13; refine hd3.mono ?_; rintro e w6 ⟨r6,rfl,f6,b6⟩; have b06:=zAC.step b5 b6; have p2:=HKP.out w6 b06; have hsi3:=zNL (f5.any.below b6) f6.any HLD.out (by have:=HL4.out (getE E z).reverse; have:=HCAR.out.le; omega))
           | (go_at_call 12; refine hsi3.mono ?_; rintro e w7 ⟨rfl,b7⟩; have b07:=zAC.step b06 b7; have p3:=HKP.out w7 b07; have hce2:=hce w7 b07)
           | (go_at_call 14; refine hce2.mono ?_; rintro e w8 ⟨rfl,b8⟩; have b08:=zAC.step b07 b8; have p4:=HKP.out w8 b08))
          have hbe:=zAC.step hbi (zAC.step ((Below.refl _ wr).drew) b08);go_wp2_with fail
          go_roundw
          case rel=>exact ⟨k+1,by omega,by go_num,hbe⟩
          case measure=>simp [intOf]; omega
        ·have i2:¬(k:Int)<(nq:Int):=by omega
         go_wp2_with fail
         go_roundw
         case rel=>exact ⟨i+1,by omega,by go_num,by rw [hsi,Int.natCast_add],hb2⟩
         case measure=>simp [intOf]; omega
     ·as_aux_lemma =>
       have i1:¬(i:Int)<(nl:Int):=by omega
       have hsum:sumI L i=ne:=HSE.out i (by omega);rw [hsum];have mc:=mc.below hb;have b1:=zAC.step b1 hb;have e1:((ne:Int) != (ne:Int))=false:=by simp
       have e2:((nl:Int) != (nl:Int))=false:=by simp
       have hnr:nr=nl:=HRT.out;subst hnr;clear hsum hb mm me ms;go_wp2_with fail
       refine (zI8 mc K.out.2.1 tc).mono ?_;rintro e w20 ⟨rfl,b20⟩;have mc:=mc.below b20;have b1:=zAC.step b1 b20;clear b20;have HCI:=zTD (fun (w':World) (hb':Below w20.heap.size w20 w') (hm:HasM w')=>zGK (mc.below hb') tc hm);have HB:=zTD b1;have hm9:=HM.out.below (zAC.step HB0.out b1);have hT:(bs (nmT c)).toList=nmT c:=ByteArray.toList_mk _;have HN2:Hid ((nmT c=[65,49]∨nmT c=[65,50]∨nmT c=[65,51])→((nr:Int) != ciV c)=false):=zTD (fun h=>by have:=HNM.out h; rw [bne_eq_false_iff_eq]; omega);have HT:=zTD hT;clear hT b1;generalize bs (nmT c)=nm at *;by_cases h1:nmT c=[65,49]
       ·have t1:nm.toList=[65,49]:=HT.out.trans h1;have e3:=HN2.out (.inl h1);clear h1;go_wp2_with fail
        refine (HCI.out _ (Below.refl _ _) hm9).mono ?_;rintro e w21 ⟨rfl,b21⟩;go_wp2_with fail
        go_meet
        case rel=>exact zTD (zAC.step HB.out b21)
       have t1:¬nm.toList=[65,49]:=fun h=>h1 (HT.out.symm.trans h);by_cases h2:nmT c=[65,50]
       ·have t2:nm.toList=[65,50]:=HT.out.trans h2;have e3:=HN2.out (.inr (.inl h2));clear h1 h2;go_wp2_with fail
        refine (HCI.out _ (Below.refl _ _) hm9).mono ?_;rintro e w21 ⟨rfl,b21⟩;go_wp2_with fail
        go_meet
        case rel=>exact zTD (zAC.step HB.out b21)
       have t2:¬nm.toList=[65,50]:=fun h=>h2 (HT.out.symm.trans h);by_cases h3:nmT c=[65,51]
       ·have t3:nm.toList=[65,51]:=HT.out.trans h3;have e3:=HN2.out (.inr (.inr h3));clear h1 h2 h3;go_wp2_with fail
        refine (HCI.out _ (Below.refl _ _) hm9).mono ?_;rintro e w21 ⟨rfl,b21⟩;go_wp2_with fail
        go_meet
        case rel=>exact zTD (zAC.step HB.out b21)
       ·have t3:¬nm.toList=[65,51]:=fun h=>h3 (HT.out.symm.trans h);clear h1 h2 h3;go_wp2_with fail
        go_meet
        case rel=>exact HB
  case rest=>as_aux_lemma =>
   have b2:=hcut.out;clear hcut HQ tl tr mm ms;have mc:=mc.below b2;have b1:=zAC.step b1 b2;clear b2;go_wp2_with fail
   refine (zNl mc tc (HM.out.below b1)).mono ?_;rintro e w61 ⟨ra,rfl,fa,b2⟩;rw [<-HOK.out];have ma:RA Any _ ra (wgR c):=fa.any;clear fa;have mc:=mc.below b2;have b1:=zAC.step b1 b2;clear b2;go_wp2_with fail
   refine (zNm mc tc).mono ?_;rintro e w62 ⟨rb,rfl,fb,b2⟩;rw [<-HOK.out];have mb:RA Any _ rb (wgR c):=fb.any;clear fb;have mc:=mc.below b2;have ma:=ma.below b2;have b1:=zAC.step b1 b2;clear b2;have hwl:=zHE c;obtain ⟨aa,ca,rfl⟩:=F3.form ma;obtain ⟨ab,cb,rfl⟩:=F3.form mb;have s0:(ok != ok)=false:=by simp
   clear HOK;try unfold RA at ma
   try unfold FA at ma
   try unfold RA at mb
   try unfold FA at mb
   obtain ⟨nA,hnA⟩:∃nA,nA=(wgR c).length:=⟨_,rfl⟩;obtain ⟨xs,hxs⟩:∃xs,xs=zCY (wgR c):=⟨_,rfl⟩;rw [<-hnA,<-hxs] at ma mb;rw [<-hnA] at hwl ⊢;clear hnA hxs;have s1:((nA:Int) != (nA:Int))=false:=by simp
   go_wp2_with fail
   go_loopw [22] (fun ii wr=>∃i:Nat,i≤nA∧ii=.int .i64 i∧Below w62.heap.size w62 wr) (fun ii _=>nA-(intOf ii).toNat)
   case atStart=>exact ⟨0,Nat.zero_le _,rfl,Below.refl _ _⟩
   case round=>as_aux_lemma =>
    obtain ⟨i,hi,rfl,hb⟩:=hrel;by_cases hin:i<nA
    ·have i1:(i:Int)<(nA:Int):=by omega
     obtain ⟨g,x,y,z,rfl,hc,hd,he,hx⟩:=F3.at (ma.below hb) hin;obtain ⟨g',x',y',z',rfl,hc',hd',he',hx'⟩:=F3.at (mb.below hb) hin;have e1:x'=x:=by have:=hx.out.1.symm.trans hx'.out.1; simpa using this.symm
     have e2:y'=y:=by have:=hx.out.2.1.symm.trans hx'.out.2.1; simpa using this.symm
     have e3:z'=z:=by have:=hx.out.2.2.symm.trans hx'.out.2.2; simpa using this.symm
     subst e1 e2 e3;clear hx hx';go_wp2_with fail
     go_quiet (fail)
     all_goals (first | exact ⟨⟨i+1,by omega,by go_num,below_drewN hb _⟩,by simp [intOf]; omega⟩ | (go_wp2_with fail; exact ⟨⟨i+1,by omega,by go_num,below_drewN hb _⟩,by simp [intOf]; omega⟩) | (go_wp2_with fail; go_roundw; exact ⟨⟨i+1,by omega,by go_num,below_drewN hb _⟩,by simp [intOf]; omega⟩))
    ·as_aux_lemma =>
      have i1:¬(i:Int)<(nA:Int):=by omega
      have b1:=zAC.step b1 hb;clear hb ma mb mc;go_wp2_with fail
      refine (zNw (h.below b1) hn).mono ?_;rintro e w63 ⟨rx,y,rfl,L2,mx,tx,b2⟩;have b1:=zAC.step b1 b2;clear b2;go_wp2_with fail
      refine (zQN (h.below b1) hn).mono ?_;rintro e w64 ⟨rd,rfl,d,md,td,b2⟩;have mx:=mx.below b2;have b1:=zAC.step b1 b2;clear b2;go_wp2_with fail
      refine (zGF (q:=y) mx tx).mono ?_;rintro e w65 ⟨rfl,b2⟩;have mx:=mx.below b2;have md:=md.below b2;have b1:=zAC.step b1 b2;clear b2;go_wp2_with fail
      refine (zGG (q:=y) mx tx).mono ?_;rintro e w66 ⟨rfl,rfl⟩;generalize zAq y L2 0=cv at *;have s2:(cv == cv)=true:=by simp
      go_wp2_with fail
      refine (zGK md td (HM.out.below b1)).mono ?_;rintro e w67 ⟨rfl,b2⟩;have mx:=mx.below b2;have md:=md.below b2;have b1:=zAC.step b1 b2;clear b2;go_wp2_with fail
      refine (zMB md td).mono ?_;rintro e w68 ⟨rfl,b2⟩;have mx:=mx.below b2;have md:=md.below b2;have b1:=zAC.step b1 b2;clear b2;clear mx md;generalize ciV d=dv at *;have s3:(dv == dv)=true:=by simp
      go_wp2_with fail
      go_ret
      exact ⟨rfl,b1⟩
open Go.ChangeShapes Go.WideShapes Go.ChangeAt Go.RowKit Go.Deep
def RByW (_:World) (r:Value) (n:Int):Prop:=r=.int .u8 n∧(Lit.int .u8 n).wf=true
section
variable {H:Type} {enc:TypeId × Value→H} {w:World}
theorem zG3 (n:Nat) (r:Value) (x:DataW H × List MemPlace) (h:DataW.trod enc Tryz.prog w 0 (fun _=>true) true n 5 [r]=some x):∃y,RByW w r y:=by
 obtain ⟨y,h,_,hw⟩:=DataW.trod_int Tryz.underlying5 h;simp at h;exact ⟨y,h,hw⟩
theorem zGd {v:Value} {d:DataW H} {p:List MemPlace} (hv:∃a n c,v=.slice a n c) (h:DataW.Trod enc Tryz.prog w 0 (fun _=>true) true 22 v d p):∃n:Nat,RBy Any w v n:=by
 obtain ⟨L,a,cap,rfl,_,hL⟩:=zRA (R:=RByW) Tryz.underlying22 (by kernel_rfl) hv zG3 h;refine ⟨L.length,a,cap,rfl,fun j hj=>?_⟩;rcases hL with rfl | ⟨b,o,ha,_,_,hx⟩
 ·simp at hj
 ·obtain ⟨r,h1,h2,h3⟩:=hx j L[j] (zTE hj);refine ⟨b,o,L[j],ha,trivial,by rw [<-h2]; exact h1,zTD ?_⟩;have e1:IntKind.u8.min=0:=by decide
  have e2:IntKind.u8.max=255:=by decide
  simp only [Lit.wf,e1,e2,Bool.and_eq_true,decide_eq_true_eq] at h3;exact h3
end
end Go.Proofs.YtlgcdacpjcnjgaaGreatDoor
