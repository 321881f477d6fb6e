/- Which matrices are drawn: those of finite type among them are twenty-two. Plain; the kernel looks at all of them. -/
import Derived.Test.YtphbichgpcicnaaGreatDoorJGDrM
import Derived.Deep.DeepCutAuto
namespace Go.Proofs.YtphbichgpcicnaaGreatDoor
open Go.RowKit
set_option maxRecDepth 20000
set_option maxHeartbeats 8000000
def fin0:List (List (List Int)):=[tyMx 0,tyMx 1,tyMx 2,tyMx 4,tyMx 5,tyMx 7,tyMx 11]
def inf0:List (List (List Int)):=[[[2,-2],[-2,2]],[[2,-1,-1],[-1,2,-1],[-1,-1,2]],[[2,-1,0],[-2,2,-2],[0,-1,2]],[[2,-1,0],[-1,2,-1],[0,-3,2]],[[2,-1,0,-1],[-1,2,-1,0],[0,-1,2,-1],[-1,0,-1,2]],tyMx 9,tyMx 3]
def zNo (B:List (List Int)):List (List Int):=B.map (· ++ [0])++[List.replicate B.length 0++[2]]
def FinD (M:List (List Int)):Prop:=M∈fin0∨∃B,B∈fin0∧B.length≤2∧M=zNo B
def InfD (M:List (List Int)):Prop:=M∈inf0∨∃B,B∈inf0∧∃i k p q:Nat,i<B.length∧k<B.length∧i≠k∧p<3∧q<3∧M=put1 (put1 B i k (-1-(p:Int))) k i (-1-(q:Int))
def DrD (M:List (List Int)):Prop:=FinD M∨InfD M
def AnyQ (M:List (List Int)):Prop:=DrD M∨isC M=false∨∃B,DrD B∧∃(i:Nat) (y:Int),i<B.length∧y∈[-4,1,0,2]∧M=put1 B i 0 y
def zAv:List (List (List Int)):=[[[2]],[[2,-1],[-1,2]],[[2,-1,0],[-1,2,-1],[0,-1,2]],[[2,-1],[-2,2]],[[2,-1,0],[-1,2,-1],[0,-2,2]],[[2,-1,0],[-1,2,-2],[0,-1,2]],[[2,-1],[-3,2]],[[2,0],[0,2]],
 [[2,-1,0],[-1,2,0],[0,0,2]],[[2,-1,0],[-2,2,0],[0,0,2]],[[2,-1,0],[-3,2,0],[0,0,2]],[[2,-1,0,0],[-1,2,-1,-1],[0,-1,2,0],[0,-1,0,2]],[[2,-1,0,0],[-1,2,-1,0],[0,-1,2,-1],[0,0,-1,2]],
 [[2,-2],[-1,2]],[[2,-3],[-1,2]],[[2,-1,0],[-2,2,-1],[0,-1,2]]]
def zHs:List (List (List Int)):=[[[2,-1,0,0],[-2,2,-1,0],[0,-1,2,-1],[0,0,-1,2]],[[2,-2,0,0],[-1,2,-1,0],[0,-1,2,-1],[0,0,-1,2]],[[2,-1,0,0],[-1,2,-1,0],[0,-2,2,-1],[0,0,-1,2]],
 [[2,-1,0,0],[-1,2,-2,0],[0,-1,2,-1],[0,0,-1,2]],[[2,-1,0,0],[-1,2,-1,0],[0,-1,2,-1],[0,0,-2,2]],[[2,-1,0,0],[-1,2,-1,0],[0,-1,2,-2],[0,0,-1,2]]]
def chkD (M:List (List Int)):Bool:=isC M && (zAv.contains M || (zHs.contains M || !(Fin.isFin M)))
def chkI (b i:Nat):Bool:=match inf0[b]? with
 | none=>true
 | some B=>(List.range B.length).all fun k=>decide (i=k) || (decide (B.length≤i) || (List.range 3).all fun (p:Nat)=>(List.range 3).all fun (q:Nat)=>chkD (put1 (put1 B i k (-1-(p:Int))) k i (-1-(q:Int))))
theorem zQh:chkI 0 0=true:=by decide +kernel
theorem zQi:chkI 0 1=true:=by decide +kernel
theorem zQj:chkI 0 2=true:=by decide +kernel
theorem zQk:chkI 0 3=true:=by decide +kernel
theorem zQl:chkI 1 0=true:=by decide +kernel
theorem zQm:chkI 1 1=true:=by decide +kernel
theorem zQn:chkI 1 2=true:=by decide +kernel
theorem zQo:chkI 1 3=true:=by decide +kernel
theorem zQp:chkI 2 0=true:=by decide +kernel
theorem zQq:chkI 2 1=true:=by decide +kernel
theorem zQr:chkI 2 2=true:=by decide +kernel
theorem zQs:chkI 2 3=true:=by decide +kernel
theorem zQt:chkI 3 0=true:=by decide +kernel
theorem zQu:chkI 3 1=true:=by decide +kernel
theorem zQv:chkI 3 2=true:=by decide +kernel
theorem zQw:chkI 3 3=true:=by decide +kernel
theorem zQx:chkI 4 0=true:=by decide +kernel
theorem zQy:chkI 4 1=true:=by decide +kernel
theorem zQz:chkI 4 2=true:=by decide +kernel
theorem zQ0:chkI 4 3=true:=by decide +kernel
theorem zQ1:chkI 5 0=true:=by decide +kernel
theorem zQ2:chkI 5 1=true:=by decide +kernel
theorem zQ3:chkI 5 2=true:=by decide +kernel
theorem zQ4:chkI 5 3=true:=by decide +kernel
theorem zQ5:chkI 6 0=true:=by decide +kernel
theorem zQ6:chkI 6 1=true:=by decide +kernel
theorem zQ7:chkI 6 2=true:=by decide +kernel
theorem zQ8:chkI 6 3=true:=by decide +kernel
theorem zQ9 {b i:Nat} (hb:b<7) (hi:i<4):chkI b i=true:=by
 obtain rfl | rfl | rfl | rfl | rfl | rfl | rfl:b=0∨b=1∨b=2∨b=3∨b=4∨b=5∨b=6:=by omega
 all_goals obtain rfl | rfl | rfl | rfl:i=0∨i=1∨i=2∨i=3:=by omega
 ·exact zQh
 ·exact zQi
 ·exact zQj
 ·exact zQk
 ·exact zQl
 ·exact zQm
 ·exact zQn
 ·exact zQo
 ·exact zQp
 ·exact zQq
 ·exact zQr
 ·exact zQs
 ·exact zQt
 ·exact zQu
 ·exact zQv
 ·exact zQw
 ·exact zQx
 ·exact zQy
 ·exact zQz
 ·exact zQ0
 ·exact zQ1
 ·exact zQ2
 ·exact zQ3
 ·exact zQ4
 ·exact zQ5
 ·exact zQ6
 ·exact zQ7
 ·exact zQ8
theorem zQa:inf0.all chkD=true:=by decide +kernel
theorem zKE:fin0.all (fun B=>chkD B && (!(decide (B.length≤2)) || chkD (zNo B)))=true:=by decide +kernel
theorem zRX:∀B∈inf0,B.length≤4:=by decide
theorem zOr {M:List (List Int)} (h:DrD M):chkD M=true:=by
 rcases h with (h | ⟨B,hB,hl,rfl⟩) | (h | ⟨B,hB,i,k,p,q,hi,hk,hik,hp,hq,rfl⟩)
 ·have:=List.all_eq_true.1 zKE M h;rw [Bool.and_eq_true] at this;exact this.1
 ·have:=List.all_eq_true.1 zKE B hB;rw [Bool.and_eq_true,decide_eq_true hl] at this;simpa using this.2
 ·exact List.all_eq_true.1 zQa M h
 ·obtain ⟨b,hb⟩:=List.getElem?_of_mem hB;have h4:=zRX B hB;have h1:=zQ9 (b:=b) (i:=i) (by have:=(zWI hb).1; simpa [inf0] using this) (by omega);unfold chkI at h1;rw [hb] at h1;have h2:=List.all_eq_true.1 h1 k (List.mem_range.2 hk);rw [decide_eq_false hik,decide_eq_false (show ¬B.length≤i by omega)] at h2;exact List.all_eq_true.1 (List.all_eq_true.1 h2 p (List.mem_range.2 hp)) q (List.mem_range.2 hq)
theorem zMR {c:List (List Int)} {i a b:Nat} {y:Int} (hi:i<c.length) (h0:∀r∈c,0<r.length):ent (put1 c i 0 y) a b=if a=i∧b=0 then y else ent c a b:=by
 have hr:c[i]? = some c[i]:=zWG hi;unfold ent put1;rw [hr];by_cases ha:a=i
 ·subst ha;rw [List.getElem?_set_self hi];cases b with
  | zero =>
   have:=h0 c[a] (List.getElem_mem hi);simp [this]
  | succ b=>simp [hr]
 ·rw [List.getElem?_set_ne (fun e=>ha e.symm)];simp [ha]
theorem zVe {c:List (List Int)} {i:Nat} {y:Int} (hi:i<c.length) (h0:∀r∈c,0<r.length) (h:ent c i 0=y):put1 c i 0 y=c:=by
 have hr:c[i]? = some c[i]:=zWG hi;have hl:=h0 c[i] (List.getElem_mem hi);have h2:c[i][0]=y:=by rw [<-h]; unfold ent; rw [hr]; simp [hl]
 unfold put1;rw [hr];show c.set i (c[i].set 0 y)=c;rw [<-h2,List.set_getElem_self hl,List.set_getElem_self hi]
theorem zRN {B:List (List Int)} (hB:isC B=true) {i:Nat} {y:Int} (hi:i<B.length) (hy:y∈[-4,1,0,2]) (h:isC (put1 B i 0 y)=true):put1 B i 0 y=B:=by
 have hb:=zAK.1 hB;have hp:=zAK.1 h;have h0:∀r∈B,0<r.length:=fun r hr=>by rw [hb.row r hr]; exact hb.pos
 have hl:(put1 B i 0 y).length=B.length:=by simp [put1]
 have k1:=hp.ok i 0 (by rw [hl]; exact hi) (by rw [hl]; exact hb.pos);have k2:=hb.ok i 0 hi hb.pos;rw [zMR hi h0,zMR hi h0,if_pos ⟨rfl,rfl⟩] at k1;refine zVe hi h0 ?_;simp only [List.mem_cons,List.not_mem_nil,or_false] at hy;unfold okE at k1 k2;by_cases e:i=0
 ·subst e;rw [if_pos rfl] at k1 k2;simp at k1 k2;omega
 ·rw [if_neg e] at k1 k2;rw [if_neg (by omega)] at k1;simp at k1 k2;omega
theorem zL6 {M:List (List Int)} (h:AnyQ M) (hf:finB M=true):M∈zAv∨M∈zHs:=by
 have hf':=hf;unfold finB at hf';rw [Bool.and_eq_true] at hf';have hk:chkD M=true:=by
  rcases h with h | h | ⟨B,hB,i,y,hi,hy,rfl⟩
  ·exact zOr h
  ·rw [h] at hf'; cases hf'.1
  ·have h1:=zOr hB;have hBC:isC B=true:=by unfold chkD at h1; rw [Bool.and_eq_true] at h1; exact h1.1
   rw [zRN hBC hi hy hf'.1];exact h1
 unfold chkD at hk;rw [hf'.2] at hk;simpa using (Bool.and_eq_true_iff.1 hk).2
theorem zMX {M:List (List Int)} {r:List Int} (h:r∈M) (hl:r.length≠M.length):isC M=false:=by
 cases e:isC M with
 | false=>rfl
 | true=>exact absurd ((zAK.1 e).row r h) hl
def MxQ (P:List (List Int)→Prop) (w:World) (g:Nat):Ending→World→Prop:=fun e w'=>∃r,e=.returned r∧∃(M:List (List Int)) (n:Nat),FII (New w w') w' r M∧Sqn M n∧1≤n∧n≤4∧Cur w' g∧w.grownBy w' (some g)∧Hid (P M)
def TcQ (L:List (List (List Int))) (s:ByteArray):Prop:=∃(M:List (List Int)) (n:Nat),(∀wv,Calls Tryz.prog 124 #[.string s] wv (TcL M wv))∧Sqn M n∧1≤n∧n≤4∧(n≤2→isC M=true)∧Hid (M∈L)
theorem zAp {L:List (List (List Int))} {s:ByteArray} (M:List (List Int)) (n:Nat) (h:∀wv,Calls Tryz.prog 124 #[.string s] wv (TcL M wv)) (h1:Sqn M n) (h2:1≤n∧n≤4) (h3:n≤2→isC M=true) (h4:M∈L):TcQ L s:=⟨M,n,h,h1,h2.1,h2.2,h3,zWF h4⟩
theorem zWB {s:ByteArray} (h:s∈finL):TcQ fin0 s:=by
 simp only [finL,List.mem_cons,List.not_mem_nil,or_false] at h;rcases h with rfl | rfl | rfl | rfl | rfl | rfl | rfl | rfl | rfl | rfl
 ·exact zAp (tyMx 0) 1 zE2 (zAQ (by decide)) (by decide) (by decide) (by decide)
 ·exact zAp (tyMx 1) 2 zD2 (zAQ (by decide)) (by decide) (by decide) (by decide)
 ·exact zAp (tyMx 1) 2 zD2 (zAQ (by decide)) (by decide) (by decide) (by decide)
 ·exact zAp (tyMx 2) 3 zE3 (zAQ (by decide)) (by decide) (by decide) (by decide)
 ·exact zAp (tyMx 2) 3 zE3 (zAQ (by decide)) (by decide) (by decide) (by decide)
 ·exact zAp (tyMx 4) 2 zD3 (zAQ (by decide)) (by decide) (by decide) (by decide)
 ·exact zAp (tyMx 4) 2 zD3 (zAQ (by decide)) (by decide) (by decide) (by decide)
 ·exact zAp (tyMx 5) 3 zM3 (zAQ (by decide)) (by decide) (by decide) (by decide)
 ·exact zAp (tyMx 7) 3 zM4 (zAQ (by decide)) (by decide) (by decide) (by decide)
 ·exact zAp (tyMx 11) 2 zHb (zAQ (by decide)) (by decide) (by decide) (by decide)
theorem zWC {s:ByteArray} (h:s∈infL):TcQ inf0 s:=by
 simp only [infL,List.mem_cons,List.not_mem_nil,or_false] at h;rcases h with rfl | rfl | rfl | rfl | rfl | rfl | rfl
 ·exact zAp _ 2 zJZ (zAQ (by decide)) (by decide) (by decide) (by decide)
 ·exact zAp _ 3 zJa (zAQ (by decide)) (by decide) (by decide) (by decide)
 ·exact zAp _ 3 zJc (zAQ (by decide)) (by decide) (by decide) (by decide)
 ·exact zAp _ 3 zJd (zAQ (by decide)) (by decide) (by decide) (by decide)
 ·exact zAp _ 4 zJb (zAQ (by decide)) (by decide) (by decide) (by decide)
 ·exact zAp (tyMx 9) 4 zM5 (zAQ (by decide)) (by decide) (by decide) (by decide)
 ·exact zAp (tyMx 3) 4 zM2 (zAQ (by decide)) (by decide) (by decide) (by decide)
theorem zRQ {w:World} {g:Nat} (h:Cur w g) :
  Calls Tryz.prog 109 #[.pointer (some ⟨g,0,none⟩)] w (MxQ FinD w g):=by
 have hgl:=h.lt;go_enter Tryz.func109,Tryz.ntmps109
 go_wp2_with fail
 obtain ⟨w1,hw1⟩:∃w1,w1=w.alloc (.cells (finL.map Value.string).toArray 9):=⟨_,rfl⟩;have hr:=zGN finL (by decide) hgl hw1;have b1:Below w.heap.size w w1:=by rw [hw1]; exact (Below.refl _ w).alloc (zWK _) _
 have hw1:w1=w.alloc (.cells #[.string ⟨#[65,49]⟩,.string ⟨#[65,50]⟩,.string ⟨#[65,50]⟩,.string ⟨#[65,51]⟩,.string ⟨#[65,51]⟩,.string ⟨#[66,50]⟩,.string ⟨#[66,50]⟩,.string ⟨#[66,51]⟩,.string ⟨#[67,51]⟩,.string ⟨#[71,50]⟩] 9):=hw1;rw [<-hw1];clear hw1;refine (zGH (h.below b1) hr (by decide) (by decide)).mono ?_;rintro e w2 ⟨j,s,hj,rfl,hc2,hg2⟩;obtain ⟨M,n,hM,hq,h1,h4,hC,HIN⟩:=zWB (zWH hj);have hg02:w.grownBy w2 (some g):=Off.tr (Off.grown b1) hg2;have HC:=zWF hC;have HQ:=zWF hq;have HS2:=zWF hg2.size;clear hr b1 hj hC hg2;go_wp2_with fail
 refine (hM w2).mono ?_;rintro e w3 ⟨r3,rfl,f3,b3⟩;have hc3:=hc2.below b3;have hg03:=Off.tr hg02 (Off.grown b3);obtain ⟨a3,c3,e3⟩:=f3.read.form;rw [hq.len] at e3;subst e3;have hS3:∀b,New w2 w3 b→b≠g:=fun b hb=>by have:=hb.1; have:=hg02.size; omega
 by_cases hn:n<3
 ·have i1:(n:Int)<3:=by omega
  go_wp2_with fail
  refine (zB0 hc3 (n:=4) (by omega) (by omega)).mono ?_;rintro e w4 ⟨bq,rfl,hc4,hg4⟩;have hg04:=Off.tr hg03 hg4;have f4:=FII.turn f3 hg4 hS3;cases bq
  ·go_wp2_with fail
   go_ret
   exact ⟨_,rfl,M,n,FC.mono f4 (fun b hb=>⟨Nat.le_trans hg02.size hb.1,Nat.lt_of_lt_of_le hb.2 hg4.size⟩),HQ.out,h1,h4,hc4,hg04,zWF (.inl HIN.out)⟩
  ·go_wp2_with fail
   refine (zE2 w4).mono ?_;rintro e w5 ⟨r5,rfl,f5,b5⟩;have hc5:=hc4.below b5;have f5:FII (New w4 w5) w5 r5 [[2]]:=f5;have hJ:=zG0 (f4.read.below b5) f5.read HQ.out h1 (by omega) (HC.out (by omega));go_wp2_with fail
   refine hJ.mono ?_;rintro e w6 ⟨r6,rfl,f6,b6⟩;go_wp2_with fail
   go_ret
   refine ⟨_,rfl,_,n+1,FC.mono f6 (fun b hb=>⟨Nat.le_trans (Nat.le_trans hg04.size b5.size) hb.1,hb.2⟩),?_,by omega,by omega,hc5.below b6,Off.tr (Off.tr hg04 (Off.grown b5)) (Off.grown b6),zWF (.inr ⟨M,HIN.out,by rw [HQ.out.len]; omega,by unfold zNo; rw [HQ.out.len]⟩)⟩;refine ⟨by simp [HQ.out.len],fun r hr=>?_⟩;rcases List.mem_append.1 hr with hr | hr
   ·obtain ⟨x,hx,rfl⟩:=List.mem_map.1 hr;simp [HQ.out.row x hx]
   ·rw [List.mem_singleton] at hr; subst hr; simp
 ·have i1:¬(n:Int)<3:=by omega
  go_wp2_with fail
  go_ret
  exact ⟨_,rfl,M,n,FC.mono f3 (fun b hb=>⟨Nat.le_trans hg02.size hb.1,hb.2⟩),HQ.out,h1,h4,hc3,hg03,zWF (.inl HIN.out)⟩
theorem zNj {w:World} {g:Nat} (h:Cur w g) :
  Calls Tryz.prog 108 #[.pointer (some ⟨g,0,none⟩)] w (MxQ InfD w g):=by
 have hgl:=h.lt;go_enter Tryz.func108,Tryz.ntmps108
 go_wp2_with fail
 obtain ⟨w1,hw1⟩:∃w1,w1=w.alloc (.cells (infL.map Value.string).toArray 9):=⟨_,rfl⟩;have hr:=zGN infL (by decide) hgl hw1;have b1:Below w.heap.size w w1:=by rw [hw1]; exact (Below.refl _ w).alloc (zWK _) _
 have hw1:w1=w.alloc (.cells #[.string ⟨#[65,49,126]⟩,.string ⟨#[65,50,126]⟩,.string ⟨#[67,50,126]⟩,.string ⟨#[71,50,126]⟩,.string ⟨#[65,51,126]⟩,.string ⟨#[68,52]⟩,.string ⟨#[65,52]⟩] 9):=hw1;rw [<-hw1];clear hw1;refine (zGH (h.below b1) hr (by decide) (by decide)).mono ?_;rintro e w2 ⟨j,s,hj,rfl,hc2,hg2⟩;obtain ⟨M,n,hM,hq,h1,h4,hC,HIN⟩:=zWC (zWH hj);have hg02:w.grownBy w2 (some g):=Off.tr (Off.grown b1) hg2;have HQ:=zWF hq;clear hr b1 hj hC hg2;go_wp2_with fail
 refine (hM w2).mono ?_;rintro e w3 ⟨r3,rfl,f3,b3⟩;have hc3:=hc2.below b3;have hg03:=Off.tr hg02 (Off.grown b3);obtain ⟨a3,c3,e3⟩:=f3.read.form;rw [hq.len] at e3;subst e3;have hS3:∀b,New w2 w3 b→b≠g:=fun b hb=>by have:=hb.1; have:=hg02.size; omega
 have HS3:=zWF hS3;clear hS3;go_wp2_with fail
 refine (zB0 hc3 (n:=3) (by omega) (by omega)).mono ?_;rintro e w4 ⟨bq,rfl,hc4,hg4⟩;have hg04:=Off.tr hg03 hg4;have f4:=FII.turn f3 hg4 HS3.out;have hend:MxQ InfD w g (.returned (.slice a3 n c3)) w4:=⟨_,rfl,M,n,FC.mono f4 (fun b hb=>⟨Nat.le_trans hg02.size hb.1,Nat.lt_of_lt_of_le hb.2 hg4.size⟩),HQ.out,h1,h4,hc4,hg04,zWF (.inl HIN.out)⟩;cases bq
 ·have HE:=zWF hend;clear hend;go_wp2_with fail
  go_ret
  exact HE.out
 ·clear hend;go_wp2_with fail
  refine (zAi hc4 (n:=n) (by omega) (by omega)).mono ?_;rintro e w5 ⟨i,hi,rfl,hc5,hg5⟩;have f5:=FII.turn f4 hg5 HS3.out;have hg05:=Off.tr hg04 hg5;go_wp2_with fail
  refine (zAi hc5 (n:=n) (by omega) (by omega)).mono ?_;rintro e w6 ⟨k,hk,rfl,hc6,hg6⟩;have f6:=FII.turn f5 hg6 HS3.out;have hg06:=Off.tr hg05 hg6;by_cases hik:i=k
  ·have i1:((i:Int) != (k:Int))=false:=by simp [hik]
   have hend:MxQ InfD w g (.returned (.slice a3 n c3)) w6:=⟨_,rfl,M,n,FC.mono f6 (fun b hb=>⟨Nat.le_trans hg02.size hb.1,Nat.lt_of_lt_of_le hb.2 (Nat.le_trans hg4.size (Nat.le_trans hg5.size hg6.size))⟩),HQ.out,h1,h4,hc6,hg06,zWF (.inl HIN.out)⟩;have HE:=zWF hend;clear hend hik;go_wp2_with fail
   go_ret
   exact HE.out
  ·have i1:((i:Int) != (k:Int))=true:=by simp; omega
   go_wp2_with fail
   refine (zAi hc6 (n:=3) (by omega) (by omega)).mono ?_;rintro e w7 ⟨p,hp,rfl,hc7,hg7⟩;have f7:=FII.turn f6 hg7 HS3.out;have hg07:=Off.tr hg06 hg7;go_wp2_with fail
   refine (zAi hc7 (n:=3) (by omega) (by omega)).mono ?_;rintro e w8 ⟨q,hq2,rfl,hc8,hg8⟩;have f8:=FII.turn f7 hg8 HS3.out;have hg08:=Off.tr hg07 hg8;have hS:=zAy f8.read HQ.out h4 hi hk (-1-(p:Int)) (-1-(q:Int));go_wp2_with fail
   refine hS.mono ?_;rintro e w9 ⟨r9,rfl,f9,b9⟩;go_wp2_with fail
   go_ret
   exact ⟨_,rfl,_,n,FC.mono f9 (fun b hb=>⟨Nat.le_trans hg08.size hb.1,hb.2⟩),zCC (zCC HQ.out hi) hk,h1,h4,hc8.below b9,Off.tr hg08 (Off.grown b9),zWF (.inr ⟨M,HIN.out,i,k,p,q,by rw [HQ.out.len]; exact hi,by rw [HQ.out.len]; exact hk,hik,hp,hq2,rfl⟩)⟩
theorem zTW {w:World} {g:Nat} (h:Cur w g) :
  Calls Tryz.prog 58 #[.pointer (some ⟨g,0,none⟩)] w (MxQ DrD w g):=by
 go_enter Tryz.func58,Tryz.ntmps58
 go_wp2_with fail
 refine (zB0 h (n:=3) (by omega) (by omega)).mono ?_;rintro e w1 ⟨bq,rfl,hc1,hg1⟩;cases bq
 ·go_wp2_with fail
  refine (zRQ hc1).mono ?_;rintro e w2 ⟨r,rfl,M,n,f,hq,h1,h4,hc2,hg2,hP⟩;go_wp2_with fail
  go_ret
  exact ⟨_,rfl,M,n,FC.mono f (fun b hb=>⟨Nat.le_trans hg1.size hb.1,hb.2⟩),hq,h1,h4,hc2,Off.tr hg1 hg2,zWF (.inl hP.out)⟩
 ·go_wp2_with fail
  refine (zNj hc1).mono ?_;rintro e w2 ⟨r,rfl,M,n,f,hq,h1,h4,hc2,hg2,hP⟩;go_wp2_with fail
  go_ret
  exact ⟨_,rfl,M,n,FC.mono f (fun b hb=>⟨Nat.le_trans hg1.size hb.1,hb.2⟩),hq,h1,h4,hc2,Off.tr hg1 hg2,zWF (.inr hP.out)⟩
def AnyE (w:World) (g:Nat):Ending→World→Prop:=fun e w'=>∃r,e=.returned r∧∃M:List (List Int),RII (New w w') w' r M∧1≤M.length∧M.length≤5∧(∀x∈M,x.length≤4)∧Cur w' g∧w.grownBy w' (some g)∧Hid (AnyQ M)
theorem AnyE.of {w w':World} {g:Nat} {r:Value} {M:List (List Int)} {n:Nat} (f:FII (New w w') w' r M) (hq:Sqn M n) (h1:1≤n) (h4:n≤4) (hc:Cur w' g) (hg:w.grownBy w' (some g)) (hP:AnyQ M):AnyE w g (.returned r) w' :=
 ⟨r,rfl,M,f.read,by rw [hq.len]; exact h1,by rw [hq.len]; omega,fun x hx=>by rw [hq.row x hx]; exact h4,hc,hg,zWF hP⟩
theorem zR1 {α:Type} {l:List α} {i:Nat} {x:α} (h:l[i]? = some x):l.set i x=l:=by
 obtain ⟨h1,rfl⟩:=zWI h;exact List.set_getElem_self h1
theorem zRd {α:Type} {l:List α} {i:Nat} {x:α} (h:i<l.length):x∈l.set i x:=zWH (i:=i) (by rw [List.getElem?_set_self h])
theorem zST {w:World} {g:Nat} (h:Cur w g) :
  Calls Tryz.prog 29 #[.pointer (some ⟨g,0,none⟩)] w (AnyE w g):=by
 have mixed:Tryz.prog.follows .mixedOrders=true:=by kernel_rfl
 have hgl:=h.lt;go_enter Tryz.func29,Tryz.ntmps29
 go_wp2_with fail
 refine (zTW h).mono ?_;rintro e w1 ⟨r1,rfl,M,n,f1,hq,h1,h4,hc1,hg1,HPQ⟩;obtain ⟨a1,cap1,e1⟩:=f1.read.form;rw [hq.len] at e1;subst e1;have HS1:Hid (∀b,New w w1 b→b≠g):=zWF (fun b hb=>by have:=hb.1; omega);have HQ:=zWF hq;clear hq;go_wp2_with fail
 refine (zB0 hc1 (n:=12) (by omega) (by omega)).mono ?_;rintro e w2 ⟨bq,rfl,hc2,hg2⟩;have f2:=FII.turn f1 hg2 HS1.out;have hg02:=Off.tr hg1 hg2;cases bq
 ·have HE:=zWF (AnyE.of (FC.mono f2 (fun b hb=>⟨hb.1,Nat.lt_of_lt_of_le hb.2 hg2.size⟩)) HQ.out h1 h4 hc2 hg02 (.inl HPQ.out));go_wp2_with fail
  go_ret
  exact HE.out
 ·go_wp2_with fail
  refine (zAi hc2 (n:=n) (by omega) (by omega)).mono ?_;rintro e w3 ⟨i,hi,rfl,hc3,hg3⟩;have f3:=FII.turn f2 hg3 HS1.out;have hg03:=Off.tr hg02 hg3;obtain ⟨W0,z1,z2,z3⟩:=zEc (Below.refl w.heap.size w) hg03 hgl;have f3':FII (New W0 w3) w3 (.slice a1 n cap1) M:=FC.mono f3 (fun b hb=>⟨by rw [z1]; exact hb.1,Nat.lt_of_lt_of_le hb.2 (Nat.le_trans hg2.size hg3.size)⟩);obtain ⟨Z,hZ,hs3⟩:=((HS.nil (Below.refl _ W0)).addF z2 f3').openF 0 rfl;have hs3:HS W0 w3 [aV 28 (.slice a1 n cap1) (Z.map Prod.fst),aRs Z]:=hs3;have HZ:=zWF hZ;have hzl:Z.length=n:=by have:=congrArg List.length hZ; simpa [HQ.out.len] using this
  obtain ⟨gv,cv,ev⟩:=(hs3.formV 0 rfl).2 (by simp; omega);simp only [Value.slice.injEq] at ev;obtain ⟨rfl,-,-⟩:=ev;obtain ⟨z,hz⟩:∃z,Z[i]? = some z:=⟨_,zWG (by omega)⟩;obtain ⟨ri,li⟩:=z;have hli:li.length=n:=HQ.out.row li (by rw [<-hZ]; exact List.mem_map_of_mem (zWH hz));have hri:=hs3.rowS 1 rfl (zWH hz);have hri:RI _ w3 ri li:=hri;obtain ⟨ai,ci,ei⟩:=hri.form;rw [hli] at ei;subst ei;obtain ⟨k1,k2⟩:=hs3.cellV 0 rfl (j:=i) (r:=.slice ai n ci) (by rw [List.getElem?_map,hz]; rfl);have l0:gv<w3.heap.size:=zWJ w3 _ k1;have i1:(i:Int)<(n:Int):=by omega
  have HZI:=zWF hz;have HLI:=zWF hli;have HZL:=zWF hzl;have HW:=zWF (show W0.heap.size=w.heap.size∧w.grownBy W0 (some g) from ⟨z1,z3⟩);have HC3:=zWF hc3;clear hz hZ hli hzl f1 f2 f3 f3' hg1 hg2 hg3 hg02 hg03 z1 z2 z3 hc1 hc2 hc3 h HS1;go_wp2_with (at_builtin; go_must (refine zAJ (W:=w3) rfl _ _ rfl rfl (FI.fresh0 w3) zAO rfl (hri.below zAO) ?_ ?_))
  ·have:=HLI.out; simp; omega
  ·intro vn wn fn bn _;have fn:FI _ wn vn li:=fn;obtain ⟨an,cn,en⟩:=fn.form;rw [HLI.out] at en;subst en;obtain ⟨gn,rfl,_⟩:=fn.head (by omega);have hsn:=hs3.addI bn fn;have hsn:HS W0 wn [aV 28 (.slice (some ⟨gv,0,none⟩) n cap1) (Z.map Prod.fst),aRs Z,aI (.slice (some ⟨gn,0,none⟩) n cn) li]:=hsn;obtain ⟨k3,k4⟩:=hsn.cellV 0 rfl (j:=i) (r:=.slice ai n ci) (by rw [List.getElem?_map,HZI.out]; rfl);have hs4:=HS.putV hsn 0 rfl (by simp [HZL.out]) i (.slice (some ⟨gn,0,none⟩) n cn);have hs4:HS W0 (wn.setCell ⟨gv,i,none⟩ (.slice (some ⟨gn,0,none⟩) n cn)) [aV 28 (.slice (some ⟨gv,0,none⟩) n cap1) ((Z.map Prod.fst).set i (.slice (some ⟨gn,0,none⟩) n cn)),aRs Z,aI (.slice (some ⟨gn,0,none⟩) n cn) li]:=hs4
   have hs5:=(((hs4.moreS 1 2 (by decide) rfl rfl (zK2 (x:=(.slice (some ⟨gn,0,none⟩) n cn,li)) HZI.out)).someS 1 rfl).pick [0,1] (by decide));have hs5:HS W0 (wn.setCell ⟨gv,i,none⟩ (.slice (some ⟨gn,0,none⟩) n cn)) [aV 28 (.slice (some ⟨gv,0,none⟩) n cap1) ((Z.set i (.slice (some ⟨gn,0,none⟩) n cn,li)).map Prod.fst),aRs (Z.set i (.slice (some ⟨gn,0,none⟩) n cn,li))]:=by rw [List.map_set]; exact hs5
   have hzi:(Z.set i (Value.slice (some ⟨gn,0,none⟩) n cn,li))[i]? = some (.slice (some ⟨gn,0,none⟩) n cn,li):=by rw [List.getElem?_set_self (by rw [HZL.out]; exact hi)]
   have hsq:Sqn ((Z.set i (Value.slice (some ⟨gn,0,none⟩) n cn,li)).map Prod.snd) n:=by
    refine ⟨by simp [HZL.out],fun r hr=>?_⟩;rw [List.map_set] at hr;rcases List.mem_or_eq_of_mem_set hr with hr | rfl
    ·exact HQ.out.row r (by rw [<-HZ.out]; exact hr)
    ·exact HLI.out
   have hcS:Cur (wn.setCell ⟨gv,i,none⟩ (.slice (some ⟨gn,0,none⟩) n cn)) g:=Bs.cur (W0:=W0) (wr:=w3) ⟨HW.out.1,HW.out.2,hs3.bl⟩ ⟨HW.out.1,HW.out.2,hs4.bl⟩ hgl HC3.out;have hmi:M[i]? = some li:=by rw [<-HZ.out,List.getElem?_map,HZI.out]; rfl
   have HM1:Hid ((Z.set i (Value.slice (some ⟨gn,0,none⟩) n cn,li)).map Prod.snd=M):=zWF (by
    rw [List.map_set,HZ.out]; exact zR1 hmi)
   have HMI:=zWF hmi;clear hmi;have HZ1:=zWF hzi;have HQ1:=zWF hsq;generalize Z.set i (Value.slice (some ⟨gn,0,none⟩) n cn,li)=Z1 at *;clear hsq hzi hsn hs3 fn bn HZ HZI;go_wp2_with fail
   clear hs4 k1 k2 k3 k4 hri l0;generalize wn.setCell ⟨gv,i,none⟩ (.slice (some ⟨gn,0,none⟩) n cn)=w4 at *;refine (zAi hcS (n:=3) (by omega) (by omega)).mono ?_;rintro e w5 ⟨kk,hkk,rfl,hc5,hg5⟩;obtain ⟨W1,y1,y2,hs6⟩:=HSx.turn hs5 hg5 (by rw [HW.out.1]; exact hgl);have HB:=zWF (show Bs w g W1 w5 from ⟨y1.trans HW.out.1,Off.tr HW.out.2 y2,hs6.bl⟩);clear hs5 hcS hg5 y1 y2 HW;obtain ⟨k1,k2⟩:=hs6.cellV 0 rfl (j:=i) (r:=.slice (some ⟨gn,0,none⟩) n cn) (by rw [List.getElem?_map,HZ1.out]; rfl);obtain ⟨x0,hx0⟩:∃x,li[0]? = some x:=⟨_,zWG (by rw [HLI.out]; omega)⟩;obtain ⟨k3,k4⟩:=hs6.cellS 1 rfl HZ1.out hx0;have HX0:=zWF hx0;clear hx0;obtain rfl | rfl | rfl:kk=0∨kk=1∨kk=2:=by omega
   ·obtain ⟨fA,bA⟩:=litN (w:=w5) [-4,1,0,2] (by decide) rfl;obtain ⟨wA,hwA⟩:∃wA,wA=(w5.alloc (.cells #[.int .i64 (-4),.int .i64 1,.int .i64 0,.int .i64 2] 3)).drew:=⟨_,rfl⟩;have bA5:Below w5.heap.size w5 wA:=by rw [hwA]; exact bA.drew
    have fA:FI (New w5 wA) wA (.slice (some ⟨w5.heap.size,0,none⟩) 4 4) [-4,1,0,2]:=by rw [hwA]; exact fA.keep (fun b _=>rfl)
    have hcA:=hc5.below bA5;have hsA:=hs6.below bA5;have hgA:∀b,New w5 wA b→Off g b:=fun b hb=>by have h1:=hb.1; have h2:=hc5.lt; show b≠g; omega
    have hpk:=zEa hcA (RI.mono fA.reads hgA) (by decide) (by decide);obtain ⟨ka1,ka2⟩:=hsA.cellV 0 rfl (j:=i) (r:=.slice (some ⟨gn,0,none⟩) n cn) (by rw [List.getElem?_map,HZ1.out]; rfl);have ll:gv<w5.heap.size:=zWJ w5 _ k1;have HWA:=zWF hwA;have HBA:=zWF bA5;have i0:(0:Int)<(n:Int):=by omega
    clear hwA bA bA5 hgA hcA;go_wp2_with fail
    go_region_with (first
     | (go_at_call 66; rw [<-HWA.out]; refine hpk.mono ?_; rintro e w6 ⟨y,hy,rfl,hc6,hg6⟩; obtain ⟨W2,y1,y2,hs7⟩:=HSx.turn hsA hg6 (by rw [HB.out.size]; exact hgl); obtain ⟨kb1,kb2⟩:=hs7.cellV 0 rfl (j:=i) (r:=.slice (some ⟨gn,0,none⟩) n cn) (by rw [List.getElem?_map,HZ1.out]; rfl); obtain ⟨kb3,kb4⟩:=hs7.cellS 1 rfl HZ1.out HX0.out))
    all_goals
     have hs8:=HS.putS hs7 1 rfl HZ1.out 0 y;have hs8:HS W2 (w6.setCell ⟨gn,0,none⟩ (.int .i64 y)) [aV 28 (.slice (some ⟨gv,0,none⟩) n cap1) ((Z1.set i (.slice (some ⟨gn,0,none⟩) n cn,li.set 0 y)).map Prod.fst),aRs (Z1.set i (.slice (some ⟨gn,0,none⟩) n cn,li.set 0 y))]:=by rw [zE0 HZ1.out]; exact hs8
     have hB2:Bs w g W2 w6:=⟨y1.trans HB.out.size,Off.tr HB.out.gr y2,hs7.bl⟩;have hB3:Bs w g W2 (w6.setCell ⟨gn,0,none⟩ (.int .i64 y)):=⟨hB2.size,hB2.gr,hs8.bl⟩;have hF:=HS.F (hs8.shutF 0 1 (by decide) rfl rfl) 0 rfl;rw [hB3.new] at hF;have HFIN:Hid (AnyE w g (.returned (.slice (some ⟨gv,0,none⟩) n cap1)) (w6.setCell ⟨gn,0,none⟩ (.int .i64 y))):=zWF (AnyE.of hF (by
      refine ⟨by have:=HQ1.out.len; simpa using this,fun r hr=>?_⟩;rw [List.map_set] at hr;rcases List.mem_or_eq_of_mem_set hr with hr | rfl
      ·exact HQ1.out.row r hr
      ·simp [HLI.out]) h1 h4 (hB2.cur hB3 hgl hc6) hB3.all (.inr (.inr ⟨M,HPQ.out,i,y,by rw [HQ.out.len]; exact hi,hy,by
       rw [List.map_set,HM1.out]; unfold put1; rw [HMI.out]; rfl⟩)))
     clear hs7 hs8 hB2 hB3 hF kb1 kb2 kb3 kb4 ka1 ka2 hsA;go_wp2_with fail
     go_ret
     exact HFIN.out
   ·have hzl1:Z1.length=n:=by have:=HQ1.out.len; simpa using this
    have HC1:=zWF (fun (u:Value) (lu:List Int) hu=>zOg (u:=u) (lu:=lu) hs6 HZ1.out hzl1 hu);have HZL1:=zWF hzl1;have HFIN:Hid (∀(u:Value) (lu:List Int),lu.length≤4→lu.length≠n→(∀F:Nat→Prop,RI F w5 (.slice (some ⟨gn,0,none⟩) n cn) li→RI F w5 u lu)→AnyE w g (.returned (.slice (some ⟨gv,0,none⟩) n cap1)) (w5.setCell ⟨gv,i,none⟩ u)):=zWF (fun u lu hlu hne hu=>by
     obtain ⟨q1,q2⟩:=HC1.out u lu hu;have hB2:Bs w g W1 (w5.setCell ⟨gv,i,none⟩ u):=⟨HB.out.size,HB.out.gr,q1.bl⟩;refine ⟨_,rfl,_,by rw [hB2.new] at q2; exact q2,by simp [HZL1.out]; omega,by simp [HZL1.out]; omega,fun x hx=>?_,HB.out.cur hB2 hgl hc5,hB2.all,zWF (.inr (.inl (zMX (r:=lu) (by rw [List.map_set]; exact zRd (by simp [HZL1.out]; exact hi)) (by simp [HZL1.out]; exact hne))))⟩;rw [List.map_set] at hx;rcases List.mem_or_eq_of_mem_set hx with hx | rfl
     ·rw [HQ1.out.row x hx]; exact h4
     ·exact hlu)
    clear HC1 hzl1;go_wp2_with fail
    ·rename_i hc1
     go_ret
     refine HFIN.out _ [] (by simp) (by show (0:Nat)≠n; omega) (fun F hF=>?_);have:=hF.cap.1;have hn1:n-1=0:=by omega
     rw [hn1];exact RL.nil _ _ (by unfold maxLen; omega)
    ·go_ret
     exact HFIN.out _ (li.drop 1) (by have:=HLI.out; simp; omega) (by have:=HLI.out; simp; omega) (fun F hF=>by simpa using RL.cutFrom hF h1)
   ·obtain ⟨wA,hwA⟩:∃wA,wA=w5.alloc (.cells #[.int .i64 2] 3):=⟨_,rfl⟩;obtain ⟨fA,bA⟩:=litN (w:=w5) [2] (by decide) hwA;have hsA:=hs6.addI bA fA;have hsA:HS W1 wA [aV 28 (.slice (some ⟨gv,0,none⟩) n cap1) (Z1.map Prod.fst),aRs Z1,aI (.slice (some ⟨w5.heap.size,0,none⟩) 1 1) [2]]:=hsA;obtain ⟨wB,hwB⟩:∃wB,wB=wA.alloc (.cells #[.slice (some ⟨w5.heap.size,0,none⟩) 1 1] 28):=⟨_,rfl⟩;have hsB:=hsA.alloc (.cells #[.slice (some ⟨w5.heap.size,0,none⟩) 1 1] 28);rw [<-hwB] at hsB;have hcB:wB.cell? ⟨wA.heap.size,0,none⟩=some (.slice (some ⟨w5.heap.size,0,none⟩) 1 1):=by rw [hwB]; go_simp
    have eA:wA.heap.size=w5.heap.size+1:=by rw [hwA]; simp
    rw [eA] at hcB;have HWA:=zWF hwA;have HWB:=zWF hwB;have HNV:=zWF (HS.newV hsB 0 rfl);clear eA;have hzl1:Z1.length=n:=by have:=HQ1.out.len; simpa using this
    have HZL1:=zWF hzl1;clear hwA hwB hsA fA bA hzl1;go_wp2_with (at_builtin; go_must (rw [<-HWA.out,<-HWB.out]; refine zAN rfl _ _ rfl rfl hsB 0 rfl HNV.out rfl hcB rfl (by have:=HZL1.out; simp; omega) ?_))
    intro v6 w6 hs7 _;have hs8:=(hs7.moreS 1 2 (by decide) rfl rfl (Z':=Z1++[(.slice (some ⟨w5.heap.size,0,none⟩) 1 1,[2])]) (List.perm_append_singleton _ _)).pick [0,1] (by decide);have hs8:HS W1 w6 [aV 28 v6 ((Z1++[(Value.slice (some ⟨w5.heap.size,0,none⟩) 1 1,[2])]).map Prod.fst),aRs (Z1++[(Value.slice (some ⟨w5.heap.size,0,none⟩) 1 1,[2])])]:=by
     have e:(Z1++[(Value.slice (some ⟨w5.heap.size,0,none⟩) 1 1,[(2:Int)])]).map Prod.fst=Z1.map Prod.fst++[Value.slice (some ⟨w5.heap.size,0,none⟩) 1 1]:=by simp
     rw [e]; exact hs8
    have hB2:Bs w g W1 w6:=⟨HB.out.size,HB.out.gr,hs8.bl⟩;have hF:=HS.F (hs8.shutF 0 1 (by decide) rfl rfl) 0 rfl;rw [hB2.new] at hF;have HFIN:Hid (AnyE w g (.returned v6) w6):=zWF (by
     refine ⟨_,rfl,_,hF.read,by simp,by simp [HZL1.out]; omega,fun x hx=>?_,HB.out.cur hB2 hgl hc5,hB2.all,zWF (.inr (.inl (zMX (r:=[2]) (by simp) (by simp [HZL1.out]; omega))))⟩;rw [List.map_append] at hx;rcases List.mem_append.1 hx with hx | hx
     ·rw [HQ1.out.row x hx]; exact h4
     ·simp at hx; subst hx; simp)
    clear hs7 hs8 hF hB2;go_wp2_with fail
    go_ret
    exact HFIN.out
def l27L:List ByteArray:=[⟨#[65,49]⟩,⟨#[65,50]⟩,⟨#[65,50]⟩,⟨#[66,50]⟩,⟨#[66,50]⟩,⟨#[71,50]⟩,⟨#[65,51]⟩]
theorem tq27 {s:ByteArray} (h:s∈l27L):TcQ fin0 s:=by
 simp only [l27L,List.mem_cons,List.not_mem_nil,or_false] at h;rcases h with rfl | rfl | rfl | rfl | rfl | rfl | rfl
 ·exact zAp (tyMx 0) 1 zE2 (zAQ (by decide)) (by decide) (by decide) (by decide)
 ·exact zAp (tyMx 1) 2 zD2 (zAQ (by decide)) (by decide) (by decide) (by decide)
 ·exact zAp (tyMx 1) 2 zD2 (zAQ (by decide)) (by decide) (by decide) (by decide)
 ·exact zAp (tyMx 4) 2 zD3 (zAQ (by decide)) (by decide) (by decide) (by decide)
 ·exact zAp (tyMx 4) 2 zD3 (zAQ (by decide)) (by decide) (by decide) (by decide)
 ·exact zAp (tyMx 11) 2 zHb (zAQ (by decide)) (by decide) (by decide) (by decide)
 ·exact zAp (tyMx 2) 3 zE3 (zAQ (by decide)) (by decide) (by decide) (by decide)
theorem AnyE.after {w w1 w2:World} {g:Nat} {e:Ending} (h:AnyE w1 g e w2) (hg:w.grownBy w1 (some g)):AnyE w g e w2:=by
 obtain ⟨r,rfl,M,f,h1,h5,h4,hc,hg2,hP⟩:=h;exact ⟨r,rfl,M,RL.mono f (fun b hb=>⟨Nat.le_trans hg.size hb.1,hb.2⟩) (fun _ _ h=>RI.mono h (fun b hb=>⟨Nat.le_trans hg.size hb.1,hb.2⟩)),h1,h5,h4,hc,Off.tr hg hg2,hP⟩
theorem zQZ {w:World} {g:Nat} (h:Cur w g) :
  Calls Tryz.prog 88 #[.pointer (some ⟨g,0,none⟩)] w (AnyE w g):=by
 have hgl:=h.lt;go_enter Tryz.func88,Tryz.ntmps88
 go_wp2_with fail
 refine (zB0 h (n:=14) (by omega) (by omega)).mono ?_;rintro e w1 ⟨bq,rfl,hc1,hg1⟩;cases bq
 ·have hgl1:=hc1.lt;go_wp2_with fail
  obtain ⟨w2,hw2⟩:∃w2,w2=w1.alloc (.cells (l27L.map Value.string).toArray 9):=⟨_,rfl⟩;have hr:=zGN l27L (by decide) hgl1 hw2;have b2:Below w1.heap.size w1 w2:=by rw [hw2]; exact (Below.refl _ w1).alloc (zWK _) _
  have hw2:w2=w1.alloc (.cells #[.string ⟨#[65,49]⟩,.string ⟨#[65,50]⟩,.string ⟨#[65,50]⟩,.string ⟨#[66,50]⟩,.string ⟨#[66,50]⟩,.string ⟨#[71,50]⟩,.string ⟨#[65,51]⟩] 9):=hw2;rw [<-hw2];clear hw2;refine (zGH (hc1.below b2) hr (by decide) (by decide)).mono ?_;rintro e w3 ⟨j,s,hj,rfl,hc3,hg3⟩;obtain ⟨M,n,hM,hq,h1,h4,hC,HIN⟩:=tq27 (zWH hj);have hg03:w.grownBy w3 (some g):=Off.tr hg1 (Off.tr (Off.grown b2) hg3);have HQ:=zWF hq;clear hr b2 hj hC hg3 hg1;go_wp2_with fail
  refine (hM w3).mono ?_;rintro e w4 ⟨r4,rfl,f4,b4⟩;have HE:=zWF (AnyE.of (w:=w) (g:=g) (FC.mono f4 (fun b hb=>⟨Nat.le_trans hg03.size hb.1,hb.2⟩)) HQ.out h1 h4 (hc3.below b4) (Off.tr hg03 (Off.grown b4)) (.inl (.inl (.inl HIN.out))));clear f4 b4 hM;go_wp2_with fail
  go_ret
  exact HE.out
 ·go_wp2_with fail
  refine (zST hc1).mono ?_;rintro e w2 hE;obtain ⟨r,rfl,hE2⟩:∃r,e=.returned r∧AnyE w1 g e w2:=by
   have hE':=hE; obtain ⟨r,e1,_⟩:=hE'; exact ⟨r,e1,hE⟩
  have HE:=zWF (hE2.after hg1);clear hE hE2;go_wp2_with fail
  go_ret
  exact HE.out
theorem zUO {w:World} {g n cap:Nat} {a:Option Addr} (h:Cur w g) (hn:n≤16) :
  Calls Tryz.prog 89 #[.pointer (some ⟨g,0,none⟩),.slice a n cap] w fun e w'=>∃r,e=.returned r∧∃l:List Int,FI (New w w') w' r l∧l.length=n∧Hid ((∀x∈l,0≤x)∧l.sum≤2)∧Cur w' g∧w.grownBy w' (some g):=by
 have hgl:=h.lt;go_enter Tryz.func89,Tryz.ntmps89
 go_wp2_with fail
 obtain ⟨w1,hw1⟩:∃w1,w1=w.alloc (.cells #[] 3):=⟨_,rfl⟩;obtain ⟨f1,b1⟩:=zAR (Below.refl _ w) hw1;rw [<-hw1];clear hw1;have hc1:=h.below b1;have hB:=(Bs.start w g).below b1;go_loopw [5,6,7] (fun zz ll j wr=>∃(k q:Nat) (z:Value) (acc:List Int) (W0:World),z=zz∧k≤n∧q≤2∧ll=.int .i64 q∧j=.int .i64 k∧FI (New W0 wr) wr z acc∧Hid (acc.length=k)∧Hid ((∀x∈acc,0≤x)∧acc.sum+q=2)∧Cur wr g∧Hid (Bs w g W0 wr)) (fun _ _ j _=>n-(intOf j).toNat)
 case atStart=>exact ⟨0,2,_,[],w,rfl,Nat.zero_le _,zWK _,rfl,rfl,f1,zWF rfl,zWF ⟨by simp,rfl⟩,hc1,zWF hB⟩
 case round =>
  clear hB f1 b1 hc1 h;obtain ⟨k,q,z,acc,W0,rfl,hk,hq,rfl,rfl,hf,HA,HX,hc,HB⟩:=hrel;by_cases hkn:k<n
  ·have i1:(k:Int)<(n:Int):=by omega
   have hW:W0.heap.size=w.heap.size:=HB.out.size;go_wp2_with fail
   rw [show (q:Int)+1=((q+1:Nat):Int) from by omega];refine (zAi hc (n:=q+1) (by omega) (by omega)).mono ?_;rintro e w3 ⟨y,hy,rfl,hc3,hg3⟩;obtain ⟨W1,hB1⟩:=HB.out.turn hgl hg3;have hf3:FI (New W1 w3) w3 z acc:=by
    have:=hf.turn hg3 (by rw [hW]; exact hgl);rw [hB1.new]; rw [show New W0 w3=New w w3 by unfold New; rw [hW]] at this; exact this
   have bb:=(Below.refl w3.heap.size w3).alloc (zWK _) (.cells #[.int .i64 (y:Int)] 3);have HB2:=zWF hB1;have HC3:=zWF hc3;clear hB1 hf hc3;go_wp2_with (at_builtin; go_must (refine zAJ (W:=W1) rfl _ _ rfl rfl (hf3.grow bb) (HB2.out.below bb).bl rfl (RI.one w3 (y:Int)) ?_ ?_))
   ·have:=HA.out; simp; omega
   ·intro v' w4 f4 b4 _;have hB4:Bs w g W1 w4:=⟨HB2.out.size,HB2.out.gr,b4⟩;have hc4:Cur w4 g:=HB2.out.cur hB4 hgl HC3.out;have HB5:=zWF hB4;clear hB4 HC3;go_wp2_with fail
    go_roundw
    case rel=>exact ⟨k+1,q-y,_,acc++[(y:Int)],W1,rfl,by omega,by omega,by go_num,by go_num,f4,zWF (by have:=HA.out; simp; omega),zWF ⟨fun x hx=>by
     rcases List.mem_append.1 hx with hx | hx
     ·exact HX.out.1 x hx
     ·rw [List.mem_singleton] at hx; subst hx; omega,by have:=HX.out.2; simp; omega⟩,hc4,HB5⟩
    case measure=>first | (simp [intOf]; done) | (simp [intOf]; omega)
  ·have i1:¬(k:Int)<(n:Int):=by omega
   go_wp2_with fail
   go_ret
   exact ⟨_,rfl,acc,by rw [<-HB.out.new]; exact hf,by have:=HA.out; omega,zWF ⟨HX.out.1,by have:=HX.out.2; omega⟩,hc,HB.out.all⟩
structure WtS (w w':World) (r1 r2:Value) (M:List (List Int)) (l:List Int):Prop where
 rm:RII (New w w') w' r1 M
 rl:RI (New w w') w' r2 l
 tot:total M≤100
 len:l.length≤6
 any:AnyQ M
 small:l.length=M.length→(∀x∈l,0≤x)∧l.sum≤2
 bl:Below w.heap.size w w'
theorem zJl {w:World} {v:Value} {n:Nat} (h:RBy Any w v n) (hn:n≤1048576) :
  Calls Tryz.prog 44 #[v] w fun e w'=>∃r1 r2,e=.returned (.tuple #[r1,r2])∧∃M l,WtS w w' r1 r2 M l:=by
 obtain ⟨a,cap,rfl⟩:∃a cap,v=.slice a n cap:=by obtain ⟨a,cap,e,_⟩:=h; exact ⟨a,cap,e⟩
 go_enter Tryz.func44,Tryz.ntmps44
 go_wp2_with fail
 refine (zFM h hn).mono ?_;rintro e w1 ⟨rfl,hc1,b1,hlt⟩;obtain ⟨g,hg⟩:∃g,g=w.heap.size:=⟨_,rfl⟩;rw [<-hg] at hc1 ⊢;have HG:=zWF hg;have hgw1:g<w1.heap.size:=by rw [hg]; exact hlt
 clear hg hlt;go_wp2_with fail
 refine (zQZ hc1).mono ?_;rintro e w2 ⟨r,rfl,M,f2,h1,h5,h4,hc2,hg2,HAN⟩;have HT:=zWF (zGR h5 h4);obtain ⟨a2,c2,rfl⟩:=f2.form;generalize hm:M.length=m at *;have HM:=zWF hm;clear hm;go_wp2_with fail
 refine (zUO hc2 (n:=m) (by omega)).mono ?_;rintro e w3 ⟨r3,rfl,l,f3,hl,HSM,hc3,hg3⟩;have f2:=f2.turn hg3 (fun b hb=>by have:=hb.1; omega);have HL:=zWF hl;clear hl;go_wp2_with fail
 refine (zB0 hc3 (n:=16) (by omega) (by omega)).mono ?_;rintro e w4 ⟨bq,rfl,hc4,hg4⟩;have f2:=f2.turn hg4 (fun b hb=>by have:=hb.1; omega);have f4:=f3.turn hg4 hc2.lt;have hg14:w1.grownBy w4 (some g):=Off.tr (Off.tr hg2 hg3) hg4;have b4:Below w.heap.size w w4:=b1.grown hg14 b1.size (fun k hk=>by cases hk; rw [HG.out]; exact zWK _);have hs2:=hg2.size;have hs1:=b1.size;have hs34:=Nat.le_trans hg3.size hg4.size;have fM:RII (New w w4) w4 (.slice a2 m c2) M:=f2.mono' (fun b hb=>⟨Nat.le_trans hs1 hb.1,Nat.lt_of_lt_of_le hb.2 hs34⟩);have fL:FI (New w w4) w4 r3 l:=f4.mono (fun b hb=>⟨Nat.le_trans hs1 (Nat.le_trans hs2 hb.1),hb.2⟩);cases bq
 ·have HE:Hid (WtS w w4 (.slice a2 m c2) r3 M l):=zWF ⟨fM,fL.reads,HT.out,by rw [HL.out]; omega,HAN.out,fun _=>HSM.out,b4⟩;clear fM fL b4 f2 f4 f3 h4 hg14 hg2 hg3 hg4 hc1 hc2 hc3 hc4 b1 h;go_wp2_with fail
  go_ret2
  exact ⟨_,_,rfl,M,l,HE.out⟩
 ·obtain ⟨W1,hB1⟩:=(Bs.start w2 g).turn hc2.lt hg3;obtain ⟨W0,hB0⟩:=hB1.turn hc2.lt hg4;have F5:=zWF (show FI (New W0 w4) w4 r3 l by rw [hB0.new]; exact f4);have HB0:=zWF hB0;have F2:=zWF f2;have HS2:=zWF (show w1.heap.size≤w2.heap.size∧w.heap.size≤w1.heap.size from ⟨hs2,hs1⟩);obtain ⟨a3,c3,e3⟩:=f4.form;rw [HL.out] at e3;subst e3;have bb:=(Below.refl w4.heap.size w4).alloc (zWK _) (.cells #[.int .i64 0] 3);have hB:=HB0.out.below bb;have f4:=F5.out;clear fM fL f2 f3 h4 hg14 hB0 hB1 hg2 hg3 hg4 hc1 hc2 hc3 hc4 b1 h hs2 hs1 hs34;go_wp2_with (at_builtin; go_must (refine zAJ (W:=W0) rfl _ _ rfl rfl (f4.grow bb) hB.bl rfl (RI.one w4 0) ?_ ?_))
  ·have:=HL.out; simp; omega
  ·intro v6 w6 f6 b6 hgr;have hs0:=HB0.out.size;have hs1:=HB0.out.bl.size;have hs2:=b6.size;have hs3:=HS2.out;have e6:∀b,b<w2.heap.size→w6.heap[b]? = w4.heap[b]?:=fun b hb=>(b6.block b (by rw [hs0]; exact hb)).trans (HB0.out.bl.block b (by rw [hs0]; exact hb)).symm;have hsz:w4.heap.size≤w6.heap.size:=by have:=hgr.size; simp at this; omega
   have b06:Below w.heap.size w w6:=⟨b6.os.trans (HB0.out.bl.os.symm.trans b4.os),b6.tape.trans (HB0.out.bl.tape.symm.trans b4.tape),b6.output.trans (HB0.out.bl.output.symm.trans b4.output),Nat.le_trans b4.size hsz,fun k hk=>(e6 k (by omega)).trans (b4.block k hk)⟩;have HE:Hid (WtS w w6 (.slice a2 m c2) v6 M (l++[0])):=zWF ⟨(F2.out.keep fun b hb _=>e6 b hb.2).mono' (fun b hb=>⟨by have:=hb.1; omega,by have:=hb.2; omega⟩),(f6.mono (fun b hb=>⟨by have:=hb.1; rw [hs0] at this; omega,hb.2⟩)).reads,HT.out,by have:=HL.out; simp; omega,HAN.out,fun hh=>by
    exfalso;rw [List.length_append,HL.out,HM.out] at hh;simp at hh,b06⟩
   clear e6 b06 f6 b6 hgr b4 f4 hB bb hs0 hs1 hs2 hs3 hsz;go_wp2_with fail
   go_ret2
   exact ⟨_,_,rfl,M,_,HE.out⟩
def vec2:Nat→Nat→List (List Int)
 | 0,_=>[[]]
 | n+1,q=>(List.range (q+1)).flatMap fun (x:Nat)=>(vec2 n (q-x)).map ((x:Int) :: ·)
theorem zQA:∀{l:List Int},(∀x∈l,0≤x)→0≤l.sum
 | [],_=>by simp
 | y::l,h=>by
  have h1:=zQA (l:=l) fun z hz=>h z (List.mem_cons_of_mem _ hz);have h2:=h y (List.mem_cons_self ..);simp only [List.sum_cons];omega
theorem zHQ:∀{n q:Nat} {l:List Int},l.length=n→(∀x∈l,0≤x)→l.sum≤(q:Int)→l∈vec2 n q
 | 0,q,l,hl,_,_=>by
  have:l=[]:=List.eq_nil_of_length_eq_zero hl;subst this;simp [vec2]
 | n+1,q,[],hl,_,_=>by simp at hl
 | n+1,q,x::l,hl,h0,hs=>by
  have hx:=h0 x (List.mem_cons_self ..);have hp:=zQA (l:=l) fun z hz=>h0 z (List.mem_cons_of_mem _ hz);rw [List.sum_cons] at hs;obtain ⟨m,rfl⟩:∃m:Nat,x=(m:Int):=⟨x.toNat,by omega⟩;refine List.mem_flatMap.2 ⟨m,List.mem_range.2 (by omega),List.mem_map.2 ⟨l,zHQ (by simpa using hl) (fun y hy=>h0 y (List.mem_cons_of_mem _ hy)) (by omega),rfl⟩⟩
theorem zJB:∀(l:List Int) (a:Int),l.foldl (· + ·) a=a+l.sum
 | [],a=>by simp
 | x::l,a=>by rw [List.foldl_cons,zJB l,List.sum_cons]; omega
theorem zO4 (l:List Int):htR l=l.sum:=by unfold htR sumL; rw [zJB]; omega
theorem zSM:∀n,n≤4→(vec2 n 4).length≤70:=by decide +kernel
structure R4 (n:Nat) (S:List (List Int)):Prop where
 nd:S.Nodup
 row:∀x∈S,x.length=n∧(∀y∈x,0≤y)∧htR x≤4
theorem R4.few {n:Nat} {S:List (List Int)} (h:R4 n S) (hn:n≤4):S.length≤70 :=
 Nat.le_trans (zDF h.nd (m:=vec2 n 4) fun x hx=>zHQ (h.row x hx).1 (h.row x hx).2.1 (by have:=(h.row x hx).2.2; rw [zO4] at this; exact this)) (zSM n hn)
theorem R4.sm {n:Nat} {S:List (List Int)} (h:R4 n S) {x:List Int} (hx:x∈S):SmI 12 x:=fun y hy=>by
 obtain ⟨_,h1,h2⟩:=h.row x hx;have h3:=(zA3 h1).2 y hy;have h4:=h1 y hy;unfold htR at h2;omega
theorem zMj {r:List Int}:∀{l:List (List Int)},l.Nodup→r∉l→(put7 r l).Nodup
 | [],_,_=>by simp [put7]
 | x::l,h,hr=>by
  obtain ⟨h1,h2⟩:=List.nodup_cons.1 h;unfold put7;split
  ·exact List.nodup_cons.2 ⟨hr,h⟩
  ·refine List.nodup_cons.2 ⟨fun hx=>?_,zMj h2 fun k=>hr (List.mem_cons_of_mem _ k)⟩;rcases zB6.1 hx with rfl | hx
   ·exact hr (List.mem_cons_self ..)
   ·exact h1 hx
theorem R4.put {n:Nat} {S:List (List Int)} (h:R4 n S) {y:List Int} (hl:y.length=n) (hs:∀z∈y,0≤z) (ht:htR y≤4) (hy:y∉S):R4 n (put7 y S) :=
 ⟨zMj h.nd hy,fun x hx=>by
  rcases zB6.1 hx with rfl | hx
  ·exact ⟨hl,hs,ht⟩
  ·exact h.row x hx⟩
theorem zUN {y:List Int} (h:zAk y=1):∀z∈y,0≤z:=fun z hz=>by
 unfold zAk at h;split at h
 ·rename_i k
  have hd:=k.2;unfold dnB at hd;have:=List.any_eq_false.1 hd z hz;simp at this;omega
 ·split at h <;> omega
theorem zM9 (n i:Nat):(∀y∈zAE n i,0≤y)∧htR (zAE n i)≤4:=by
 have h1:=zCd n i;refine ⟨fun y hy=>?_,?_⟩
 ·unfold zAE at hy;rcases List.mem_or_eq_of_mem_set hy with hy | rfl
  ·have:=(List.mem_replicate.1 hy).2; omega
  ·omega
 ·rw [zO4];unfold zAE;have:∀(m j:Nat),((List.replicate m (0:Int)).set j 1).sum≤1:=by
   intro m
   induction m with
   | zero=>intro j; simp
   | succ m ih =>
    intro j;cases j with
    | zero =>
     rw [List.replicate_succ,List.set_cons_zero,List.sum_cons];have:(List.replicate m (0:Int)).sum=0:=by
      clear ih
      induction m with
      | zero=>rfl
      | succ m ih=>rw [List.replicate_succ,List.sum_cons,ih]; rfl
     omega
    | succ j =>
     rw [List.replicate_succ,List.set_cons_succ,List.sum_cons];have:=ih j;omega
  have:=this n i;omega
theorem zQK {n i j:Nat} (hi:i<n) (h:zAE n i=zAE n j):i=j:=by
 have h1:=congrArg (fun l=>num l i) h;unfold zAE num at h1;by_cases e:i=j
 ·exact e
 ·rw [List.getElem?_set_self (by simp; exact hi),List.getElem?_set_ne (fun k=>e k.symm)] at h1;simp [hi] at h1
theorem zJ8 (n:Nat):∀m,m≤n→R4 n (zAo n m)∧(zAo n m).length=m∧∀x∈zAo n m,∃i,i<m∧x=zAE n i
 | 0,_=>⟨⟨List.nodup_nil,fun x hx=>by simp [zAo] at hx⟩,rfl,fun x hx=>by simp [zAo] at hx⟩
 | m+1,hm=>by
  obtain ⟨a,b,d⟩:=zJ8 n m (by omega);rw [zFa];refine ⟨a.put (zA4 _ _) (zM9 n m).1 (zM9 n m).2 fun hx=>?_,by rw [zCD,b],fun x hx=>?_⟩
  ·obtain ⟨i,hi,e⟩:=d _ hx;have:=zQK (by omega) e;omega
  ·rcases zB6.1 hx with rfl | hx
   ·exact ⟨m,by omega,rfl⟩
   ·obtain ⟨i,hi,e⟩:=d x hx;exact ⟨i,by omega,e⟩
theorem zN3 {S0:Nat→Prop} {u:Value} {c:List (List Int)} {w:World} (h:RII S0 w u c) (hIC:isC c=true) (hl:total c≤16777216) :
  Calls Tryz.prog 40 #[u,.int .i64 4] w fun e w'=>∃o,e=.returned o∧∃L,FII (New w w') w' o L∧1≤L.length∧L.length≤70∧(∀x∈L,x.length≤4)∧Below w.heap.size w w':=by
 have hcp:=zAK.1 hIC;have h4:c.length≤4:=hcp.le;have hM:=hcp.mx;have HISC:=zWF hIC;have HIN:Hid (inR 4 1 12=true):=zWF rfl;have HSR:=zWF (fun (w1:World) (b1:Below w.heap.size w w1) (i:Nat) (hi:i<c.length)=>zE1 (h.below b1) hIC hl hi);have HRF:=zWF (fun (w1:World) (b1:Below w.heap.size w w1) (i:Nat) (hi:i<c.length) (S9:Nat→Prop) (vv:Value) (x:List Int) (hx:RI S9 w1 vv x) (hxl:x.length=c.length) (hsm:SmI 12 x)=>zCt (h.below b1) hx hM hxl h4 hi (hsm.mono (by omega)));have HML:=zWF (fun (i:Nat) (hi:i<c.length) (x:List Int) (hxl:x.length=c.length) (hsm:SmI 12 x)=>And.intro (zBX c i x) (zEW hM h4 hi hxl (B:=12) (by omega) (by omega) hsm));have HBT:Hid (∀m,m≤c.length→(∀x∈zAo c.length m,x.length=c.length∧SmI 12 x)∧(zAo c.length m).length=m):=zWF (fun m hm=>by
  obtain ⟨a,b,d⟩:=zJ8 c.length m hm;exact ⟨fun x hx=>⟨(a.row x hx).1,a.sm hx⟩,b⟩)
 have HUL:Hid (∀m,(zAE c.length m).length=c.length∧SmI 12 (zAE c.length m)):=zWF (fun m=>⟨zA4 _ _,(zCd _ _).mono (by omega)⟩);have HB0:Hid (zAo c.length 0=[]):=zWF rfl;have HBS:=zWF (fun m=>zFa c.length m);have HI0:Hid (R4 c.length (zAo c.length c.length)):=zWF (zJ8 c.length c.length (zWK _)).1;have HSL:=zWF (fun (S:List (List Int)) (h:R4 c.length S)=>h.few h4);have HPOS:=hcp.pos;clear hIC hcp hM;have h0:=h;obtain ⟨au,cu,rfl⟩:=h.form;generalize hn:c.length=n at *;clear hn;have mixed:Tryz.prog.follows .mixedOrders=true:=by kernel_rfl
 go_enter Tryz.func40,Tryz.ntmps40
 obtain ⟨w1,hw1⟩:∃w1,w1=w.alloc (.cells #[] 28):=⟨_,rfl⟩;have fe:=FII.empty_of (Below.refl _ w) hw1;have hs1:=(HS.nil (Below.refl _ w)).addF fe.2 fe.1;have HW1:=zWF hw1;have hs1:HS w w1 [aF (.slice (some ⟨w.heap.size,0,none⟩) 0 0) (zAo n 0)]:=by rw [HB0.out]; exact hs1
 have hC:=zAd (h0.below hs1.bl) hl;rw [HISC.out] at hC;clear hw1 fe;go_wp2_with fail
 rw [<-HW1.out];go_wp2_with fail
 refine hC.mono ?_;rintro e w0 ⟨rfl,m0,rfl⟩;have hs:=hs1.drewN m0;clear hs1 hC;generalize w1.drewN m0=w2 at *;go_wp2_with fail
 refine (zB5 _ _ _ _).mono ?_;rintro e w' ⟨rfl,rfl⟩;rw [HIN.out];go_wp2_with fail
 go_loopw [5,6] (fun oo ii wr=>∃(i:Nat) (vo:Value),vo=oo∧i≤n∧ii=.int .i64 i∧HS w wr [aF vo (zAo n i)]) (fun _ ii _=>n-(intOf ii).toNat)
 case atStart=>exact ⟨0,_,rfl,Nat.zero_le _,rfl,hs⟩
 case round =>
  clear hs;obtain ⟨i,vo,rfl,hi,rfl,hs⟩:=hrel;by_cases hin:i<n
  ·have i1:(i:Int)<(n:Int):=by omega
   have hcall:=HSR.out wr hs.bl i hin;go_wp2_with fail
   refine hcall.mono ?_;rintro e w3 ⟨r3,rfl,f3,b3⟩;have hs:=hs.addI b3 f3;have hs:HS w w3 [aF vo (zAo n i),aI r3 (zAE n i)]:=hs;clear hcall f3 b3;obtain ⟨F,hF,hFn,HBK⟩:=hs.lend 0 rfl;have hcall:=zFV hF hFn (hs.I 1 rfl).reads (fun x hx=>by have:=(HBT.out i hi).1 x hx; exact ⟨by omega,this.2.mono (by omega)⟩) (by rw [(HBT.out i hi).2]; omega) (by rw [(HUL.out i).1]; omega) ((HUL.out i).2.mono (by omega));have HPC:Hid (zGX F (zAE n i) (zAo n i) w3=fun e w'=>∃r,e=.returned r∧HSx F w3 w' [aF r (put7 (zAE n i) (zAo n i))]):=zWF rfl;rw [HPC.out] at hcall;clear hF HPC;go_wp2_with fail
   refine hcall.mono ?_;rintro e w6 ⟨r6,rfl,h6⟩;rw [<-HBS.out] at h6;have hs7:=(HBK.out w6 _ h6).pick [0] (by decide);have hs7:HS w w6 [aF r6 (zAo n (i+1))]:=hs7;clear hs h6 hcall;go_wp2_with fail
   go_roundw
   case rel=>exact ⟨i+1,r6,rfl,by omega,by go_num,hs7⟩
   case measure=>simp [intOf]; omega
  ·have i1:¬(i:Int)<(n:Int):=by omega
   have e:i=n:=by omega
   rw [e] at hs;clear e hi hin;go_wp2_with fail
   go_loopw [5,7] (fun oo kk wr=>∃(k:Nat) (vo:Value) (S:List (List Int)),vo=oo∧k≤S.length∧kk=.int .i64 k∧HS w wr [aF vo S]∧Hid (R4 n S)∧Hid (1≤S.length)) (fun _ kk _=>71-(intOf kk).toNat)
   case atStart=>exact ⟨0,_,_,rfl,Nat.zero_le _,rfl,hs,HI0,zWF (by rw [(HBT.out n (zWK _)).2]; exact HPOS)⟩
   case round =>
    clear hs;obtain ⟨k,vo,S,rfl,hk,rfl,hs,HSI,HONE⟩:=hrel;have hm24:=HSL.out S HSI.out;have hread:RII _ wr vo S:=(hs.F 0 rfl).read;obtain ⟨aq,cq,rfl⟩:=hread.form;generalize hzl:S.length=m at *;have HZL:=zWF hzl;clear hzl;by_cases hkm:k<m
    ·have i2:(k:Int)<(m:Int):=by omega
     have HKM:Hid (k<S.length):=zWF (by rw [HZL.out]; exact hkm);clear hread;go_wp2_with fail
     go_loopw [5,8] (fun qq ii wr=>∃(i:Nat) (vo:Value) (S:List (List Int)),vo=qq∧i≤n∧ii=.int .i64 i∧HS w wr [aF vo S]∧Hid (R4 n S)∧Hid (k<S.length)) (fun _ ii _=>n-(intOf ii).toNat)
     case atStart=>exact ⟨0,_,S,rfl,Nat.zero_le _,rfl,hs,HSI,HKM⟩
     case round =>
      clear hs HSI HKM HONE;obtain ⟨i,vo,S,rfl,hi,rfl,hs,HSI,HKM⟩:=hrel;have hz24:=HSL.out S HSI.out;have hk2:k<S.length:=HKM.out;have hread:RII _ wr vo S:=(hs.F 0 rfl).read;obtain ⟨aq,cq,rfl⟩:=hread.form;generalize hzl:S.length=m2 at *;have HZL:=zWF hzl;clear hzl;have HKM:Hid (k<S.length):=zWF (by rw [HZL.out]; exact hk2);by_cases hin:i<n
      ·have i3:(i:Int)<(n:Int):=by omega
       have i4:(k:Int)<(m2:Int):=by omega
       obtain ⟨bk,ok,rk,xk',rfl,hck,hrk,hxk⟩:=RII.at hread hk2;have HXK:=zWF hxk.out;have hxin:=zWH hxk.out;have HXL:=zWF (HSI.out.row xk' hxin).1;have HXS:=zWF (HSI.out.sm hxin);clear hxin;have hcall:=HRF.out wr hs.bl i hin _ _ _ hrk HXL.out HXS.out;obtain ⟨g1,g2⟩:=HML.out i hin xk' HXL.out HXS.out;have hxh:-48≤htR xk'∧htR xk'≤48:=by have:=zBF (B:=12) (by omega) HXS.out; have:=HXL.out; unfold htR; omega
       have hmh:-624≤htR (mirR c i xk')∧htR (mirR c i xk')≤624:=by have:=zBF (B:=13*12) (by omega) g2; have:=HXL.out; unfold htR; omega
       have HXM:Hid (∀x∈S,x.length≤16777216):=zWF (fun x hx=>by have:=(HSI.out.row x hx).1; omega);have HXQ:Hid (∀x∈S,x.length≤1000∧SmI 100000 x):=zWF (fun x hx=>⟨by have:=(HSI.out.row x hx).1; omega,(HSI.out.sm hx).mono (by omega)⟩);have HG1:Hid ((mirR c i xk').length≤1000):=zWF (by have:=HXL.out; omega);have HG0:Hid ((mirR c i xk').length=n):=zWF (by have:=HXL.out; omega);have HG2:Hid (SmI 100000 (mirR c i xk')):=zWF (g2.mono (by omega));obtain ⟨y,hy⟩:∃y,y=mirR c i xk':=⟨_,rfl⟩;rw [<-hy] at hcall hmh HG0 HG1 HG2;have HY:=zWF hy;clear hy g1 g2 hread hrk hxk;go_wp2_with fail
       refine hcall.mono ?_;rintro e w3 ⟨r3,rfl,f3,b3⟩;have hs:=hs.addI b3 f3;have hs:HS w w3 [aF (.slice (some ⟨bk,ok,none⟩) m2 cq) S,aI r3 y]:=hs;clear f3 b3 hck hcall;have hread:RII _ w3 (.slice (some ⟨bk,ok,none⟩) m2 cq) S:=(hs.F 0 rfl).read;obtain ⟨bk',ok',rk2,xk2,ek,hck,hrk,hxk2⟩:=RII.at hread hk2;simp only [Option.some.injEq,Addr.mk.injEq,and_true] at ek;obtain ⟨rfl,rfl⟩:=ek;have exk:xk2=xk':=by have:=hxk2.out; rw [HXK.out] at this; simpa using this.symm
       subst exk;have hr3:=(hs.I 1 rfl).reads;have HC1:=zWF (fun m=>zJP (hr3.drewN m));have HC2:=zWF (fun m=>zBL (hr3.drewN m) HG2.out HG1.out);have HC3:=zWF (fun m=>zO5 (hread.drewN m) (hr3.drewN m) HXM.out (by rw [HZL.out]; omega) (by have:=HG1.out; omega));have HC4:=zWF (fun m=>zBL (hrk.drewN m) (HXS.out.mono (by omega)) (by rw [HXL.out]; omega));have HSG:=zWF (zMr y);have HSN:=zWF (fun h=>zUN (y:=y) h);have HIV:Hid (inV S y=decide (y∈S)):=zWF rfl;obtain ⟨sg,hsg⟩:∃sg,sg=zAk y:=⟨_,rfl⟩;obtain ⟨p,hp⟩:∃p,p=htR y:=⟨_,rfl⟩;obtain ⟨q,hq⟩:∃q,q=htR xk2:=⟨_,rfl⟩;rw [<-hsg] at HC1 HSG HSN;have HP:=zWF hp;rw [<-hp] at HC2 hmh;rw [<-hq] at HC4 hxh;clear hsg hp hq hr3 hrk hread hxk2;obtain ⟨p1,p2⟩:=hmh;obtain ⟨q1,q2⟩:=hxh;by_cases hA:sg=1
       ·subst hA;by_cases hB:p≤4
        ·cases hI:inV S y with
         | true =>
          rw [hI] at HC3;have HYI:Hid (y∈S):=zWF (by have:=HIV.out; rw [hI] at this; exact of_decide_eq_true this.symm);clear hI;go_wp2_with fail
          go_quiet (first | (go_at_call 86; exact Calls.quiet_of (HC1.out _)) | (go_at_call_of 55 (r3); exact Calls.quiet_of (HC2.out _)) | (go_at_call 87; exact Calls.quiet_of (HC3.out _)) | (go_at_call_of 55 (rk2); exact Calls.quiet_of (HC4.out _)))
          have hs7:=(hs.drewN nq).pick [0] (by decide);have hs7:HS w (w3.drewN nq) [aF (.slice (some ⟨bk,ok,none⟩) m2 cq) S]:=hs7;clear hs;go_wp2_with fail
          go_roundw
          case rel=>exact ⟨i+1,_,S,rfl,by omega,by go_num,hs7,HSI,HKM⟩
          case measure=>simp [intOf]; omega
         | false =>
          rw [hI] at HC3;have HYI:Hid (y∉S):=zWF (by have:=HIV.out; rw [hI] at this; exact of_decide_eq_false this.symm);clear hI;by_cases hD:q<p
          ·have HYES:=zWF (HSI.out.put HG0.out (HSN.out rfl) (by rw [<-HP.out]; exact hB) HYI.out);go_wp2_with fail
           go_quiet (first | (go_at_call 86; exact Calls.quiet_of (HC1.out _)) | (go_at_call_of 55 (r3); exact Calls.quiet_of (HC2.out _)) | (go_at_call 87; exact Calls.quiet_of (HC3.out _)) | (go_at_call_of 55 (rk2); exact Calls.quiet_of (HC4.out _)))
           go_wp2_with fail
           have hs:=hs.drewN nq;have hs:HS w (w3.drewN nq) [aF (.slice (some ⟨bk,ok,none⟩) m2 cq) S,aI r3 y]:=hs;generalize w3.drewN nq=w4 at *;obtain ⟨F,hF,hFn,HBK⟩:=hs.lend 0 rfl;have hcall:=zFV hF hFn (hs.I 1 rfl).reads HXQ.out (by rw [HZL.out]; omega) HG1.out HG2.out;have HPC:Hid (zGX F y S w4=fun e w'=>∃r,e=.returned r∧HSx F w4 w' [aF r (put7 y S)]):=zWF rfl;rw [HPC.out] at hcall;clear hF HPC;refine hcall.mono ?_;rintro e w6 ⟨r6,rfl,h6⟩;have hs7:=(HBK.out w6 _ h6).pick [0] (by decide);have hs7:HS w w6 [aF r6 (put7 y S)]:=hs7;have HK2:Hid (k<(put7 y S).length):=zWF (by rw [zCD]; have:=HKM.out; omega);clear hs h6 hcall;go_wp2_with fail
           go_roundw
           case rel=>exact ⟨i+1,r6,_,rfl,by omega,by go_num,hs7,HYES,HK2⟩
           case measure=>simp [intOf]; omega
          ·go_wp2_with fail
           go_quiet (first | (go_at_call 86; exact Calls.quiet_of (HC1.out _)) | (go_at_call_of 55 (r3); exact Calls.quiet_of (HC2.out _)) | (go_at_call 87; exact Calls.quiet_of (HC3.out _)) | (go_at_call_of 55 (rk2); exact Calls.quiet_of (HC4.out _)))
           have hs7:=(hs.drewN nq).pick [0] (by decide);have hs7:HS w (w3.drewN nq) [aF (.slice (some ⟨bk,ok,none⟩) m2 cq) S]:=hs7;clear hs;go_wp2_with fail
           go_roundw
           case rel=>exact ⟨i+1,_,S,rfl,by omega,by go_num,hs7,HSI,HKM⟩
           case measure=>simp [intOf]; omega
        ·have fB:decide (p≤4)=false:=decide_eq_false hB;go_wp2_with fail
         go_quiet (first | (go_at_call 86; exact Calls.quiet_of (HC1.out _)) | (go_at_call_of 55 (r3); exact Calls.quiet_of (HC2.out _)) | (go_at_call 87; exact Calls.quiet_of (HC3.out _)) | (go_at_call_of 55 (rk2); exact Calls.quiet_of (HC4.out _)))
         have hs7:=(hs.drewN nq).pick [0] (by decide);have hs7:HS w (w3.drewN nq) [aF (.slice (some ⟨bk,ok,none⟩) m2 cq) S]:=hs7;clear hs;go_wp2_with fail
         go_roundw
         case rel=>exact ⟨i+1,_,S,rfl,by omega,by go_num,hs7,HSI,HKM⟩
         case measure=>simp [intOf]; omega
       ·have hA2:¬0<sg:=by have:=HSG.out; omega
        have fA:decide (0<sg)=false:=decide_eq_false hA2;go_wp2_with fail
        go_quiet (first | (go_at_call 86; exact Calls.quiet_of (HC1.out _)) | (go_at_call_of 55 (r3); exact Calls.quiet_of (HC2.out _)) | (go_at_call 87; exact Calls.quiet_of (HC3.out _)) | (go_at_call_of 55 (rk2); exact Calls.quiet_of (HC4.out _)))
        have hs7:=(hs.drewN nq).pick [0] (by decide);have hs7:HS w (w3.drewN nq) [aF (.slice (some ⟨bk,ok,none⟩) m2 cq) S]:=hs7;clear hs;go_wp2_with fail
        go_roundw
        case rel=>exact ⟨i+1,_,S,rfl,by omega,by go_num,hs7,HSI,HKM⟩
        case measure=>simp [intOf]; omega
      ·have i3:¬(i:Int)<(n:Int):=by omega
       have HLE:Hid (k+1≤S.length∧1≤S.length):=zWF (by have:=HKM.out; omega);clear hread;go_wp2_with fail
       go_roundw
       case rel=>exact ⟨k+1,_,S,rfl,HLE.out.1,by go_num,hs,HSI,zWF HLE.out.2⟩
       case measure=>simp [intOf]; omega
    ·have i2:¬(k:Int)<(m:Int):=by omega
     clear hread;go_wp2_with fail
     go_ret
     exact ⟨_,rfl,S,hs.F 0 rfl,by rw [HZL.out]; exact HONE.out,by rw [HZL.out]; exact hm24,fun x hx=>by rw [(HSI.out.row x hx).1]; exact h4,hs.bl⟩
theorem zMY {w:World} {v:Value} {n:Nat} (h:RBy Any w v n) (hn:n≤1048576) :
  Calls Tryz.prog 57 #[v] w fun e w'=>∃r1 r2,e=.returned (.tuple #[r1,r2])∧∃M l,WtL w w' r1 r2 M l:=by
 obtain ⟨a,cap,rfl⟩:∃a cap,v=.slice a n cap:=by obtain ⟨a,cap,e,_⟩:=h; exact ⟨a,cap,e⟩
 go_enter Tryz.func57,Tryz.ntmps57
 go_wp2_with fail
 refine (zFM h hn).mono ?_;rintro e w1 ⟨rfl,hc1,b1,hlt⟩;obtain ⟨g,hg⟩:∃g,g=w.heap.size:=⟨_,rfl⟩;rw [<-hg] at hc1 ⊢;have HG:=zWF hg;have hgw1:g<w1.heap.size:=by rw [hg]; exact hlt
 clear hg hlt;go_wp2_with fail
 refine (zJz hc1).mono ?_;rintro e w2 ⟨r,rfl,M,f2,h1,h5,h4,hc2,hg2⟩;have HT:=zWF (zGR h5 h4);obtain ⟨a2,c2,rfl⟩:=f2.form;generalize hm:M.length=m at *;clear hm;go_wp2_with fail
 refine (zHd hc2 (n:=m) (m:=4) (by omega) (by omega)).mono ?_;rintro e w3 ⟨r3,rfl,l,f3,hl,hsm,hc3,hg3⟩;have HL:=zWF hl;clear hl hsm h4;go_wp2_with fail
 refine (zAi hc3 (n:=14) (by omega) (by omega)).mono ?_;rintro e w4 ⟨y,hy,rfl,hc4,hg4⟩;have f4:=f3.turn hg4 hc2.lt;have f2:=(f2.turn hg3 (fun b hb=>by have:=hb.1; omega)).turn hg4 (fun b hb=>by have:=hb.1; omega);have hs34:=Nat.le_trans hg3.size hg4.size;have hg14:w1.grownBy w4 (some g):=Off.tr (Off.tr hg2 hg3) hg4;have b4:Below w.heap.size w w4:=b1.grown hg14 b1.size (fun k hk=>by cases hk; rw [HG.out]; exact zWK _);have hs2:=hg2.size;have hs1:=b1.size;have fL:FI (New w w4) w4 r3 l:=f4.mono (fun b hb=>⟨Nat.le_trans hs1 (Nat.le_trans hs2 hb.1),hb.2⟩);have fM:RII (New w w4) w4 (.slice a2 m c2) M:=f2.mono' (fun b hb=>⟨Nat.le_trans hs1 hb.1,Nat.lt_of_lt_of_le hb.2 hs34⟩);obtain ⟨a3,c3,e3⟩:=fL.form;rw [HL.out] at e3;subst e3;by_cases y0:y=0
 ·subst y0;obtain ⟨W1,hB1⟩:=(Bs.start w2 g).turn hc2.lt hg3;obtain ⟨W0,hB0⟩:=hB1.turn hc2.lt hg4;have F5:=zWF (show FI (New W0 w4) w4 (.slice a3 m c3) l by rw [hB0.new]; exact f4);have HB0:=zWF hB0;have F2:=zWF f2;have HS2:=zWF (show w1.heap.size≤w2.heap.size∧w.heap.size≤w1.heap.size from ⟨hs2,hs1⟩);have bb:=(Below.refl w4.heap.size w4).alloc (zWK _) (.cells #[.int .i64 1] 3);have hB:=HB0.out.below bb;have f4:=F5.out;clear fM fL f2 f3 hg14 hB0 hB1 hg2 hg3 hg4 hc1 hc2 hc3 hc4 b1 h hs2 hs1 hs34 hy;go_wp2_with (at_builtin; go_must (refine zAJ (W:=W0) rfl _ _ rfl rfl (f4.grow bb) hB.bl rfl (RI.one w4 1) ?_ ?_))
  ·have:=HL.out; simp; omega
  ·intro v6 w6 f6 b6 hgr;have hs0:=HB0.out.size;have hs1:=HB0.out.bl.size;have hs2:=b6.size;have hs3:=HS2.out;have e6:∀b,b<w2.heap.size→w6.heap[b]? = w4.heap[b]?:=fun b hb=>(b6.block b (by rw [hs0]; exact hb)).trans (HB0.out.bl.block b (by rw [hs0]; exact hb)).symm;have hsz:w4.heap.size≤w6.heap.size:=by have:=hgr.size; simp at this; omega
   have b06:Below w.heap.size w w6:=⟨b6.os.trans (HB0.out.bl.os.symm.trans b4.os),b6.tape.trans (HB0.out.bl.tape.symm.trans b4.tape),b6.output.trans (HB0.out.bl.output.symm.trans b4.output),Nat.le_trans b4.size hsz,fun k hk=>(e6 k (by omega)).trans (b4.block k hk)⟩;have HE:Hid (WtL w w6 (.slice a2 m c2) v6 M (l++[1])):=zWF ⟨(F2.out.keep fun b hb _=>e6 b hb.2).mono' (fun b hb=>⟨by have:=hb.1; omega,by have:=hb.2; omega⟩),(f6.mono (fun b hb=>⟨by have:=hb.1; rw [hs0] at this; omega,hb.2⟩)).reads,HT.out,by have:=HL.out; simp; omega,b06⟩;clear e6 b06 f6 b6 hgr b4 f4 hB bb hs0 hs1 hs2 hs3 hsz;go_wp2_with fail
   go_ret2
   exact ⟨_,_,rfl,M,_,HE.out⟩
 ·have i0:((y:Int) == 0)=false:=by simp [y0]
  by_cases y1:y=1
  ·subst y1;obtain ⟨gv,rfl,hgv,-⟩:=FI.head fL (by omega);obtain ⟨w5,hw5⟩:∃w5,w5=w4.alloc (.cells #[.int .i64 (-1000),.int .i64 1000,.int .i64 1001] 3):=⟨_,rfl⟩;have b45:Below w4.heap.size w4 w5:=by rw [hw5]; exact (Below.refl _ w4).alloc (zWK _) _
   have f5:=fL.below b45;have hge2:∀b,New w1 w2 b→b≠gv∧b≠g:=fun b hb=>by
    obtain ⟨g',e',hg',-⟩:=FI.head f4 (by omega);cases e';have h1:=hb.2;have h2:=hg'.1;have h3:=hb.1;omega
   have fM5:=f2.below b45;have hlit:RI (Off g) w5 (.slice (some ⟨w4.heap.size,0,none⟩) 3 3) [-1000,1000,1001]:=by
    have hcl:=hc4.lt;have k1:=(FI.of_row (w:=w4) (w':=w5) (B:=w4.heap.size) (l:=[-1000,1000,1001]) (by rw [hw5]; exact World.ownsRow_lit (base:=w4.heap.size) (e:=3) (size:=1) w4 #[.int .i64 (-1000),.int .i64 1000,.int .i64 1001] 3 (zWK _) (by unfold maxLen; omega) rfl) (zWK _) rfl rfl);exact k1.reads.mono (fun b hb=>by have:=hb.1; show b≠g; omega)
   have hc5:=hc4.below b45;have b05:=zAA.step b4 b45;have hne:gv≠g:=by
    have:=FI.head f4 (by omega);obtain ⟨g',e',hg',-⟩:=this;cases e';have:=hg'.1;have:=hc2.lt;omega
   have HS2:=zWF (show w.heap.size≤w1.heap.size∧w2.heap.size≤w4.heap.size from ⟨hs1,hs34⟩);have HGE:=zWF hge2;clear f2 f3 f4 hg14 hg2 hg3 hg4 hc1 hc2 hc3 hc4 b1 h hy b4 hs1 hs2 hs34 hge2 fM;go_wp2_with fail
   rw [<-hw5];clear hw5;refine (zEa hc5 hlit (by simp) (by simp)).mono ?_;rintro e w6 ⟨x,-,rfl,hc6,hg6⟩;have f6:FI (New w w6) w6 (.slice (some ⟨gv,0,none⟩) m c3) l:=(f5.keep (fun b hb=>by
    have:b=gv:=by simp [Value.ownBlock] at hb; exact hb.symm
    subst this;exact hg6.block b (Nat.lt_of_lt_of_le hgv.2 b45.size) (by simpa using hne))).mono (fun b hb=>⟨hb.1,Nat.lt_of_lt_of_le hb.2 (Nat.le_trans b45.size hg6.size)⟩)
   have b06:Below w.heap.size w w6:=b05.grown hg6 b05.size (fun k hk=>by cases hk; rw [HG.out]; exact zWK _);have fz:=f6.froz HL.out 0;have f7:=f6.put HL.out 0 x;have HL2:=HL.out;obtain ⟨z,hz⟩:∃z,l[0]? = some z:=⟨_,zWG (by omega)⟩;have hcz:=f6.cell hz (by omega);have fM6:=(fM5.turn hg6 (fun b hb=>(HGE.out b hb).2)).keep (w':=w6.setCell ⟨gv,0,none⟩ (.int .i64 x)) (fun b hb hl=>(f6.putG HL.out 0 x).block b hl (by have:=(HGE.out b hb).1; simp [Value.ownBlock]; omega));have hsz:=b45.size;have hsz2:=hg6.size;have hsz3:=(f6.putG HL.out 0 x).size;have HE:Hid (WtL w (w6.setCell ⟨gv,0,none⟩ (.int .i64 x)) (.slice a2 m c2) (.slice (some ⟨gv,0,none⟩) m c3) M (l.set 0 x)) :=
    zWF ⟨fM6.mono' (fun b hb=>⟨by have:=hb.1; have:=HS2.out; omega,by have:=hb.2; have:=HS2.out; omega⟩),f7.reads.mono (fun b hb=>⟨hb.1,by simpa using hb.2⟩),HT.out,by simp; omega,b06.grown (f6.putG HL.out 0 x) b06.size (fun k hk=>by simp [Value.ownBlock] at hk; subst hk; exact hgv.1)⟩
   clear hz f7 f6 f5 hg6 hc6 hc5 hlit b45 b05 b06 HL2 hgv fM5 fM6 hsz hsz2 hsz3;go_wp2_with fail
   go_ret2
   exact ⟨_,_,rfl,M,_,HE.out⟩
  ·have i1:((y:Int) == 1)=false:=by simp; omega
   have HE:Hid (WtL w w4 (.slice a2 m c2) (.slice a3 m c3) M l):=zWF ⟨fM,fL.reads,HT.out,by rw [HL.out]; omega,b4⟩;clear f2 f3 f4 hg14 hg2 hg3 hg4 hc1 hc2 hc3 hc4 b1 h hy fL b4 hs1 hs2 hs34 fM y0 y1;go_wp2_with fail
   go_ret2
   exact ⟨_,_,rfl,M,l,HE.out⟩
theorem zNS {w:World} {v:Value} {n:Nat} (h:RBy Any w v n) (hn:n≤1048576) :
  Calls Tryz.prog 16 #[v] w fun e w'=>∃r1 r2,e=.returned (.tuple #[r1,r2])∧∃M l,WtS w w' r1 r2 M l:=by
 obtain ⟨a,cap,rfl⟩:∃a cap,v=.slice a n cap:=by obtain ⟨a,cap,e,_⟩:=h; exact ⟨a,cap,e⟩
 go_enter Tryz.func16,Tryz.ntmps16
 go_wp2_with fail
 refine (zJl h hn).mono ?_;rintro e w2 ⟨r1,r2,rfl,M,l,hD⟩;have HD:=zWF hD;clear hD;go_wp2_with fail
 go_ret2
 exact ⟨_,_,rfl,M,l,HD.out⟩
theorem zNW {w:World} {v:Value} {n:Nat} (h:RBy Any w v n) (hn:n≤1048576) :
  Calls Tryz.prog 20 #[v] w fun e w'=>∃r1 r2,e=.returned (.tuple #[r1,r2])∧∃M l,WtL w w' r1 r2 M l:=by
 obtain ⟨a,cap,rfl⟩:∃a cap,v=.slice a n cap:=by obtain ⟨a,cap,e,_⟩:=h; exact ⟨a,cap,e⟩
 go_enter Tryz.func20,Tryz.ntmps20
 go_wp2_with fail
 refine (ofDr h hn).mono ?_;rintro e w2 ⟨r1,r2,rfl,M,l,hD⟩;have HD:=zWF hD;clear hD;go_wp2_with fail
 go_ret2
 exact ⟨_,_,rfl,M,l,HD.out⟩
theorem zOs {w:World} {v:Value} {n:Nat} (h:RBy Any w v n) (hn:n≤1048576) :
  Calls Tryz.prog 23 #[v] w fun e w'=>∃r1 r2,e=.returned (.tuple #[r1,r2])∧∃M l,WtL w w' r1 r2 M l:=by
 obtain ⟨a,cap,rfl⟩:∃a cap,v=.slice a n cap:=by obtain ⟨a,cap,e,_⟩:=h; exact ⟨a,cap,e⟩
 go_enter Tryz.func23,Tryz.ntmps23
 go_wp2_with fail
 refine (ofDr h hn).mono ?_;rintro e w2 ⟨r1,r2,rfl,M,l,hD⟩;have HD:=zWF hD;clear hD;go_wp2_with fail
 go_ret2
 exact ⟨_,_,rfl,M,l,HD.out⟩
theorem zNT {w:World} {v:Value} {n:Nat} (h:RBy Any w v n) (hn:n≤1048576) :
  Calls Tryz.prog 5 #[v] w fun e w'=>∃r,e=.returned r∧∃M,RII (New w w') w' r M∧total M≤100∧Hid (AnyQ M)∧Below w.heap.size w w':=by
 obtain ⟨a,cap,rfl⟩:∃a cap,v=.slice a n cap:=by obtain ⟨a,cap,e,_⟩:=h; exact ⟨a,cap,e⟩
 go_enter Tryz.func5,Tryz.ntmps5
 go_wp2_with fail
 refine (zFM h hn).mono ?_;rintro e w1 ⟨rfl,hc1,b1,hlt⟩;obtain ⟨g,hg⟩:∃g,g=w.heap.size:=⟨_,rfl⟩;rw [<-hg] at hc1 ⊢;have HG:=zWF hg;clear hg hlt;go_wp2_with fail
 refine (zST hc1).mono ?_;rintro e w2 ⟨r,rfl,M,f2,h1,h5,h4,hc2,hg2,HA⟩;have hs1:=b1.size;have b2:Below w.heap.size w w2:=b1.grown hg2 b1.size (fun k hk=>by cases hk; rw [HG.out]; exact zWK _);have HE:Hid (RII (New w w2) w2 r M∧total M≤100∧Hid (AnyQ M)∧Below w.heap.size w w2):=zWF ⟨f2.mono' (fun b hb=>⟨Nat.le_trans hs1 hb.1,hb.2⟩),zGR h5 h4,HA,b2⟩;clear f2 h4 hc2 hg2 b1 b2 hc1 h hs1;go_wp2_with fail
 go_ret
 exact ⟨_,rfl,M,HE.out⟩
theorem zNU {w:World} {v:Value} {n:Nat} (h:RBy Any w v n) (hn:n≤1048576) :
  Calls Tryz.prog 22 #[v] w fun e w'=>∃r1 r2,e=.returned (.tuple #[r1,r2])∧∃l q,RI (New w w') w' r1 l∧RI (New w w') w' r2 q∧l.length≤6∧q.length≤6∧Below w.heap.size w w':=by
 obtain ⟨a,cap,rfl⟩:∃a cap,v=.slice a n cap:=by obtain ⟨a,cap,e,_⟩:=h; exact ⟨a,cap,e⟩
 go_enter Tryz.func22,Tryz.ntmps22
 go_wp2_with fail
 refine (zTn h hn).mono ?_;rintro e w1 ⟨r0,r1,rfl,l,f1,hl,b1⟩;have HL:=zWF hl;clear hl;have h2:=h.below b1;go_wp2_with fail
 refine (zFM h2 hn).mono ?_;rintro e w2 ⟨rfl,hc2,b2,hlt⟩;obtain ⟨g,hg⟩:∃g,g=w1.heap.size:=⟨_,rfl⟩;rw [<-hg] at hc2 ⊢;have HG:=zWF hg;have f1:=f1.below b2;have hs1:=b1.size;have b02:=zAA.step b1 b2;have hne:∀b,New w w1 b→b≠g:=fun b hb=>by have:=hb.2; omega
 clear hg hlt h h2;go_wp2_with fail
 refine (zMP hc2).mono ?_;rintro e w3 ⟨r3,rfl,M,m,f3,hq,h1,h4,hc3,hg3⟩;obtain ⟨a3,c3,e3⟩:=f3.read.form;rw [hq.len] at e3;subst e3;have f1:=RI.keep f1 (fun b hb hl=>hg3.block b hl (by have:=hne b hb; simpa using this));have b03:Below w.heap.size w w3:=b02.grown hg3 b02.size (fun k hk=>by cases hk; rw [HG.out]; exact hs1);clear hq f3;go_wp2_with fail
 refine (zHd hc3 (n:=m) (m:=3) (by omega) (by omega)).mono ?_;rintro e w4 ⟨r4,rfl,q,f4,hq,-,hc4,hg4⟩;have f1:=RI.keep f1 (fun b hb hl=>hg4.block b hl (by have:=hne b hb; simpa using this));have b04:Below w.heap.size w w4:=b03.grown hg4 b03.size (fun k hk=>by cases hk; rw [HG.out]; exact hs1);have z2:=b2.size;have z3:=hg3.size;have z4:=hg4.size;have z03:=b03.size;have HE:Hid (RI (New w w4) w4 r1 l∧RI (New w w4) w4 r4 q∧l.length≤6∧q.length≤6∧Below w.heap.size w w4):=zWF ⟨f1.mono (fun b hb=>⟨hb.1,by have:=hb.2; omega⟩),(f4.mono (fun b hb=>⟨by have:=hb.1; omega,hb.2⟩)).reads,HL.out,by omega,b04⟩;clear f1 f4 hg3 hg4 hc3 hc4 b03 b04 b02 b1 b2 hc2 hne z2 z3 z4 z03 hs1 hq;go_wp2_with fail
 go_ret2
 exact ⟨_,_,rfl,l,q,HE.out⟩
theorem WtL.after {w w1 w':World} {r1 r2:Value} {M:List (List Int)} {l:List Int} (hb:Below w.heap.size w w1) (h:WtL w1 w' r1 r2 M l):WtL w w' r1 r2 M l :=
 ⟨h.rm.mono' fun b k=>⟨Nat.le_trans hb.size k.1,k.2⟩,h.rl.mono fun b k=>⟨Nat.le_trans hb.size k.1,k.2⟩,h.tot,h.len,zAA.step hb h.bl⟩
theorem zTo {w:World} {v:Value} {n:Nat} (h:RBy Any w v n) (hn:n≤1048576) :
  Calls Tryz.prog 60 #[v] w fun e w'=>∃r1 r2,e=.returned (.tuple #[r1,r2])∧∃M l,WtL w w' r1 r2 M l:=by
 obtain ⟨a,cap,rfl⟩:∃a cap,v=.slice a n cap:=by obtain ⟨a,cap,e,_⟩:=h; exact ⟨a,cap,e⟩
 go_enter Tryz.func60,Tryz.ntmps60
 go_wp2_with fail
 refine (zFM h hn).mono ?_;rintro e w1 ⟨rfl,hc1,b1,hlt⟩;obtain ⟨g,hg⟩:∃g,g=w.heap.size:=⟨_,rfl⟩;rw [<-hg] at hc1 ⊢;have HG:=zWF hg;have hgw1:g<w1.heap.size:=by rw [hg]; exact hlt
 clear hg hlt;go_wp2_with fail
 refine (zJz hc1).mono ?_;rintro e w2 ⟨r,rfl,M,f2,h1,h5,h4,hc2,hg2⟩;have HT:=zWF (zGR h5 h4);obtain ⟨a2,c2,rfl⟩:=f2.form;have b2:Below w.heap.size w w2:=b1.grown hg2 b1.size (fun k hk=>by cases hk; rw [HG.out]; exact zWK _);have hoff:∀b,New w1 w2 b→b≠g:=fun b hb=>by have:=hb.1; omega
 have HOFF:=zWF hoff;have HS1:=zWF b1.size;have HCM:Hid (isC M=true→CartanP M):=zWF zAK.1;generalize hm:M.length=m at *;clear hm h4 b1 hc1 hg2 hoff;go_wp2_with fail
 refine (zAd f2 (by have:=HT.out; omega)).mono ?_;rintro e w3 ⟨rfl,hw3⟩;have b3:=zAW hw3;clear hw3;have f3:=f2.below b3;have hc3:=hc2.below b3;have b03:=zAA.step b2 b3;have HS3:=zWF b3.size;clear f2 hc2 b2 b3;cases hC:isC M
 ·clear f3 hc3 hC HCM;go_wp2_with fail
  refine (zMY (h.below b03) hn).mono ?_;rintro e w4 ⟨r1,r2,rfl,M2,l,hD⟩;have HD:=zWF (hD.after b03);clear hD b03;go_wp2_with fail
  go_ret2
  exact ⟨_,_,rfl,M2,l,HD.out⟩
 ·go_wp2_with fail
  refine (zB0 hc3 (n:=4) (by omega) (by omega)).mono ?_;rintro e w4 ⟨bq,rfl,hc4,hg4⟩;have f4:=f3.turn hg4 HOFF.out;have b04:Below w.heap.size w w4:=b03.grown hg4 b03.size (fun k hk=>by cases hk; rw [HG.out]; exact zWK _);have HS4:=zWF hg4.size;clear f3 hc3 b03 hg4;cases bq
  ·go_wp2_with fail
   refine (zN3 f4 hC (by have:=HT.out; omega)).mono ?_;rintro e w5 ⟨r5,rfl,L,f5,hl1,hl70,hrow,b5⟩;have HROW:=zWF hrow;have f4:=f4.below b5;have hc5:=hc4.below b5;have b05:=zAA.step b04 b5;have g5:=f5.read;obtain ⟨a5,c5,rfl⟩:=g5.form;generalize hln:L.length=q at *;have HS5:=zWF b5.size;have hgl5:=hc5.lt;have hgl4:=hc4.lt;have HO5:Hid (∀b,New w4 w5 b→b≠g):=zWF (fun b hb=>by have:=hb.1; omega);clear hln f5 b04 b5 hc4 hrow hC HCM;obtain ⟨w6,hw6⟩:∃w6,w6=w5.alloc (.cells #[] 3):=⟨_,rfl⟩;obtain ⟨f6,b6⟩:=zAR (Below.refl _ w5) hw6;have hc6:=hc5.below b6;have hB6:=(Bs.start w5 g).below b6;have g6:=g5.below b6;have f4:=f4.below b6;go_wp2_with fail
   rw [<-hw6];clear hw6;refine (zAi hc6 (n:=q) (by omega) (by omega)).mono ?_;rintro e w7 ⟨y,hy,rfl,hc7,hg7⟩;obtain ⟨W0,hB⟩:=hB6.turn hgl5 hg7;have f7:FI (New W0 w7) w7 (.slice (some ⟨w5.heap.size,0,none⟩) 0 0) []:=by rw [hB.new]; exact f6.turn hg7 hgl5
   have g7:=g6.turn hg7 HO5.out;have f4:=f4.turn hg7 HOFF.out;have b07:Below w.heap.size w w7:=(zAA.step b05 b6).grown hg7 (zAA.step b05 b6).size (fun k hk=>by cases hk; rw [HG.out]; exact zWK _);obtain ⟨bb,oo,rr,x,rfl,hcx,hx,hx0⟩:=g7.at hy;obtain ⟨a8,c8,rfl⟩:=hx.form;have hxl:=HROW.out x (zWH hx0.out);have HB:=zWF hB;have F4:=zWF f4;have HX:=zWF hxl;have i1:(y:Int)<(q:Int):=by omega
   have HSZ:=zWF (show w.heap.size≤w1.heap.size∧w2.heap.size≤w5.heap.size∧w.heap.size≤w5.heap.size from ⟨HS1.out,by have:=HS3.out; have:=HS4.out; have:=HS5.out; omega,b05.size⟩);clear f4 f6 g5 g6 g7 b05 b6 hB6 hc5 hc6 hc7 hg7 hB hxl hx0;go_wp2_with (at_builtin; go_must (refine zAJ (W:=W0) rfl _ _ rfl rfl f7 HB.out.bl rfl hx ?_ ?_))
   ·have:=HX.out; simp; omega
   ·intro v8 w8 f8 b8 hgr;have hs0:=HB.out.size;have hs1:=HB.out.bl.size;have hs2:=b8.size;have hs3:=HSZ.out;have e8:∀b,b<w5.heap.size→w8.heap[b]? = w7.heap[b]?:=fun b hb=>(b8.block b (by rw [hs0]; exact hb)).trans (HB.out.bl.block b (by rw [hs0]; exact hb)).symm;have hsz:w7.heap.size≤w8.heap.size:=by have:=hgr.size; simpa using this
    have b08:Below w.heap.size w w8:=⟨b8.os.trans (HB.out.bl.os.symm.trans b07.os),b8.tape.trans (HB.out.bl.tape.symm.trans b07.tape),b8.output.trans (HB.out.bl.output.symm.trans b07.output),Nat.le_trans b07.size hsz,fun k hk=>(e8 k (by omega)).trans (b07.block k hk)⟩;have HE:Hid (WtL w w8 (.slice a2 m c2) v8 M ([]++x)):=zWF ⟨(F4.out.keep fun b hb _=>e8 b (by have:=hb.2; omega)).mono' (fun b hb=>⟨by have:=hb.1; omega,by have:=hb.2; omega⟩),(f8.mono (fun b hb=>⟨by have:=hb.1; rw [hs0] at this; omega,hb.2⟩)).reads,HT.out,by have:=HX.out; simp; omega,b08⟩;clear e8 b08 f8 b8 hgr b07 hs0 hs1 hs2 hs3 hsz;go_wp2_with fail
    go_ret2
    exact ⟨_,_,rfl,M,_,HE.out⟩
  ·clear f4 hc4 hC HCM;go_wp2_with fail
   refine (zMY (h.below b04) hn).mono ?_;rintro e w5 ⟨r1,r2,rfl,M2,l,hD⟩;have HD:=zWF (hD.after b04);clear hD b04;go_wp2_with fail
   go_ret2
   exact ⟨_,_,rfl,M2,l,HD.out⟩
theorem zNV {w:World} {v:Value} {n:Nat} (h:RBy Any w v n) (hn:n≤1048576) :
  Calls Tryz.prog 24 #[v] w fun e w'=>∃r1 r2,e=.returned (.tuple #[r1,r2])∧∃M l,WtL w w' r1 r2 M l:=by
 obtain ⟨a,cap,rfl⟩:∃a cap,v=.slice a n cap:=by obtain ⟨a,cap,e,_⟩:=h; exact ⟨a,cap,e⟩
 go_enter Tryz.func24,Tryz.ntmps24
 go_wp2_with fail
 refine (zTo h hn).mono ?_;rintro e w2 ⟨r1,r2,rfl,M,l,hD⟩;have HD:=zWF hD;clear hD;go_wp2_with fail
 go_ret2
 exact ⟨_,_,rfl,M,l,HD.out⟩
end Go.Proofs.YtphbichgpcicnaaGreatDoor
