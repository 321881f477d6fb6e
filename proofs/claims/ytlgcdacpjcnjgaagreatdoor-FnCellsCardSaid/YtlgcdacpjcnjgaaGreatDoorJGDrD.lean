/- What is drawn: matrices of finite and infinite types. No condition. -/
import Derived.Test.YtlgcdacpjcnjgaaGreatDoorJGDrA
import Derived.Test.YtlgcdacpjcnjgaaGreatDoorJGDrT
namespace Go.Proofs.YtlgcdacpjcnjgaaGreatDoor
open Go.RowKit
set_option maxRecDepth 20000
set_option maxHeartbeats 8000000
theorem FII.turn {S:Nat→Prop} {w w':World} {g:Nat} {v:Value} {L:List (List Int)} (h:FII S w v L) (hg:w.grownBy w' (some g)) (hS:∀b,S b→b≠g):FII S w' v L :=
 FC.keep h fun b hb hl=>hg.block b hl (by have:=hS b hb; simpa using this)
def MxD (w:World) (g:Nat):Ending→World→Prop:=fun e w'=>∃r,e=.returned r∧∃(M:List (List Int)) (n:Nat),FII (New w w') w' r M∧Sqn M n∧1≤n∧n≤4∧Cur w' g∧w.grownBy w' (some g)
def finL:List ByteArray:=[⟨#[65,49]⟩,⟨#[65,50]⟩,⟨#[65,50]⟩,⟨#[65,51]⟩,⟨#[65,51]⟩,⟨#[66,50]⟩,⟨#[66,50]⟩,⟨#[66,51]⟩,⟨#[67,51]⟩,⟨#[71,50]⟩]
def infL:List ByteArray:=[⟨#[65,49,126]⟩,⟨#[65,50,126]⟩,⟨#[67,50,126]⟩,⟨#[71,50,126]⟩,⟨#[65,51,126]⟩,⟨#[68,52]⟩,⟨#[65,52]⟩]
def TcN (s:ByteArray):Prop:=∃(M:List (List Int)) (n:Nat),(∀wv,Calls Tryz.prog 59 #[.string s] wv (TcL M wv))∧Sqn M n∧1≤n∧n≤4∧(n≤2→isC M=true)
theorem zBO {s:ByteArray} (M:List (List Int)) (n:Nat) (h:∀wv,Calls Tryz.prog 59 #[.string s] wv (TcL M wv)) (h1:Sqn M n) (h2:1≤n∧n≤4) (h3:n≤2→isC M=true):TcN s:=⟨M,n,h,h1,h2.1,h2.2,h3⟩
theorem zAO {M:List (List Int)} {n:Nat} (h:(decide (M.length=n) && M.all fun r=>decide (r.length=n))=true):Sqn M n:=by
 simp only [Bool.and_eq_true,decide_eq_true_eq,List.all_eq_true] at h;exact ⟨h.1,h.2⟩
theorem zS8 {s:ByteArray} (h:s∈finL):TcN s:=by
 simp only [finL,List.mem_cons,List.not_mem_nil,or_false] at h;rcases h with rfl | rfl | rfl | rfl | rfl | rfl | rfl | rfl | rfl | rfl
 ·exact zBO (tyMx 0) 1 zDN (zAO (by decide)) (by decide) (by decide)
 ·exact zBO (tyMx 1) 2 zCt (zAO (by decide)) (by decide) (by decide)
 ·exact zBO (tyMx 1) 2 zCt (zAO (by decide)) (by decide) (by decide)
 ·exact zBO (tyMx 2) 3 zCu (zAO (by decide)) (by decide) (by decide)
 ·exact zBO (tyMx 2) 3 zCu (zAO (by decide)) (by decide) (by decide)
 ·exact zBO (tyMx 4) 2 zCv (zAO (by decide)) (by decide) (by decide)
 ·exact zBO (tyMx 4) 2 zCv (zAO (by decide)) (by decide) (by decide)
 ·exact zBO (tyMx 5) 3 zG8 (zAO (by decide)) (by decide) (by decide)
 ·exact zBO (tyMx 7) 3 zG9 (zAO (by decide)) (by decide) (by decide)
 ·exact zBO (tyMx 11) 2 zEX (zAO (by decide)) (by decide) (by decide)
theorem zS9 {s:ByteArray} (h:s∈infL):TcN s:=by
 simp only [infL,List.mem_cons,List.not_mem_nil,or_false] at h;rcases h with rfl | rfl | rfl | rfl | rfl | rfl | rfl
 ·exact zBO _ 2 zHz (zAO (by decide)) (by decide) (by decide)
 ·exact zBO _ 3 zH0 (zAO (by decide)) (by decide) (by decide)
 ·exact zBO _ 3 zH2 (zAO (by decide)) (by decide) (by decide)
 ·exact zBO _ 3 zH3 (zAO (by decide)) (by decide) (by decide)
 ·exact zBO _ 4 zH1 (zAO (by decide)) (by decide) (by decide)
 ·exact zBO (tyMx 9) 4 zHA (zAO (by decide)) (by decide) (by decide)
 ·exact zBO (tyMx 3) 4 zG7 (zAO (by decide)) (by decide) (by decide)
theorem zFD {w:World} {g:Nat} (L:List ByteArray) (hl:L.length≤1000) (hg:g<w.heap.size) {w1:World} (h:w1=w.alloc (.cells (L.map Value.string).toArray 9)):RL none (Off g) RStr w1 (.slice (some ⟨w.heap.size,0,none⟩) L.length L.length) L:=by
 subst h;refine ⟨_,_,rfl,⟨zTI _,by unfold maxLen; omega⟩,.inr ⟨w.heap.size,0,rfl,by show w.heap.size≠g; omega,trivial,fun j s hs=>⟨.string s,?_,rfl⟩⟩⟩;have hj:=(zTG hs).1;have own:=World.ownsRow_lit (base:=0) (e:=9) (size:=1) w (L.map Value.string).toArray L.length (Nat.zero_le _) (by unfold maxLen; omega) (by simp);rw [Nat.zero_add,own.cellAt j (by omega)];simp [hs]
theorem zIk {w:World} {g:Nat} (h:Cur w g) :
  Calls Tryz.prog 95 #[.pointer (some ⟨g,0,none⟩)] w (MxD w g):=by
 have hgl:=h.lt;go_enter Tryz.func95,Tryz.ntmps95
 go_wp2_with fail
 obtain ⟨w1,hw1⟩:∃w1,w1=w.alloc (.cells (finL.map Value.string).toArray 9):=⟨_,rfl⟩;have hr:=zFD finL (by decide) hgl hw1;have b1:Below w.heap.size w w1:=by rw [hw1]; exact (Below.refl _ w).alloc (zTI _) _
 have hw1:w1=w.alloc (.cells #[.string ⟨#[65,49]⟩,.string ⟨#[65,50]⟩,.string ⟨#[65,50]⟩,.string ⟨#[65,51]⟩,.string ⟨#[65,51]⟩,.string ⟨#[66,50]⟩,.string ⟨#[66,50]⟩,.string ⟨#[66,51]⟩,.string ⟨#[67,51]⟩,.string ⟨#[71,50]⟩] 9):=hw1;rw [<-hw1];clear hw1;refine (zE8 (h.below b1) hr (by decide) (by decide)).mono ?_;rintro e w2 ⟨j,s,hj,rfl,hc2,hg2⟩;obtain ⟨M,n,hM,hq,h1,h4,hC⟩:=zS8 (zTF hj);have hg02:w.grownBy w2 (some g):=Off.tr (Off.grown b1) hg2;have HC:=zTD hC;have HQ:=zTD hq;have HS2:=zTD hg2.size;clear hr b1 hj hC hg2;go_wp2_with fail
 refine (hM w2).mono ?_;rintro e w3 ⟨r3,rfl,f3,b3⟩;have hc3:=hc2.below b3;have hg03:=Off.tr hg02 (Off.grown b3);obtain ⟨a3,c3,e3⟩:=f3.read.form;rw [hq.len] at e3;subst e3;have hS3:∀b,New w2 w3 b→b≠g:=fun b hb=>by have:=hb.1; have:=hg02.size; omega
 by_cases hn:n<3
 ·have i1:(n:Int)<3:=by omega
  go_wp2_with fail
  refine (zCG hc3 (n:=4) (by omega) (by omega)).mono ?_;rintro e w4 ⟨bq,rfl,hc4,hg4⟩;have hg04:=Off.tr hg03 hg4;have f4:=FII.turn f3 hg4 hS3;cases bq
  ·go_wp2_with fail
   go_ret
   exact ⟨_,rfl,M,n,FC.mono f4 (fun b hb=>⟨Nat.le_trans hg02.size hb.1,Nat.lt_of_lt_of_le hb.2 hg4.size⟩),HQ.out,h1,h4,hc4,hg04⟩
  ·go_wp2_with fail
   refine (zDN w4).mono ?_;rintro e w5 ⟨r5,rfl,f5,b5⟩;have hc5:=hc4.below b5;have f5:FII (New w4 w5) w5 r5 [[2]]:=f5;have hJ:=zFg (f4.read.below b5) f5.read HQ.out h1 (by omega) (HC.out (by omega));go_wp2_with fail
   refine hJ.mono ?_;rintro e w6 ⟨r6,rfl,f6,b6⟩;go_wp2_with fail
   go_ret
   refine ⟨_,rfl,_,n+1,FC.mono f6 (fun b hb=>⟨Nat.le_trans (Nat.le_trans hg04.size b5.size) hb.1,hb.2⟩),?_,by omega,by omega,hc5.below b6,Off.tr (Off.tr hg04 (Off.grown b5)) (Off.grown b6)⟩;refine ⟨by simp [HQ.out.len],fun r hr=>?_⟩;rcases List.mem_append.1 hr with hr | hr
   ·obtain ⟨x,hx,rfl⟩:=List.mem_map.1 hr;simp [HQ.out.row x hx]
   ·rw [List.mem_singleton] at hr; subst hr; simp
 ·have i1:¬(n:Int)<3:=by omega
  go_wp2_with fail
  go_ret
  exact ⟨_,rfl,M,n,FC.mono f3 (fun b hb=>⟨Nat.le_trans hg02.size hb.1,hb.2⟩),HQ.out,h1,h4,hc3,hg03⟩
theorem zLR {w:World} {g:Nat} (h:Cur w g) :
  Calls Tryz.prog 152 #[.pointer (some ⟨g,0,none⟩)] w (MxD w g):=by
 have hgl:=h.lt;go_enter Tryz.func152,Tryz.ntmps152
 go_wp2_with fail
 obtain ⟨w1,hw1⟩:∃w1,w1=w.alloc (.cells (infL.map Value.string).toArray 9):=⟨_,rfl⟩;have hr:=zFD infL (by decide) hgl hw1;have b1:Below w.heap.size w w1:=by rw [hw1]; exact (Below.refl _ w).alloc (zTI _) _
 have hw1:w1=w.alloc (.cells #[.string ⟨#[65,49,126]⟩,.string ⟨#[65,50,126]⟩,.string ⟨#[67,50,126]⟩,.string ⟨#[71,50,126]⟩,.string ⟨#[65,51,126]⟩,.string ⟨#[68,52]⟩,.string ⟨#[65,52]⟩] 9):=hw1;rw [<-hw1];clear hw1;refine (zE8 (h.below b1) hr (by decide) (by decide)).mono ?_;rintro e w2 ⟨j,s,hj,rfl,hc2,hg2⟩;obtain ⟨M,n,hM,hq,h1,h4,hC⟩:=zS9 (zTF hj);have hg02:w.grownBy w2 (some g):=Off.tr (Off.grown b1) hg2;have HQ:=zTD hq;clear hr b1 hj hC hg2;go_wp2_with fail
 refine (hM w2).mono ?_;rintro e w3 ⟨r3,rfl,f3,b3⟩;have hc3:=hc2.below b3;have hg03:=Off.tr hg02 (Off.grown b3);obtain ⟨a3,c3,e3⟩:=f3.read.form;rw [hq.len] at e3;subst e3;have hS3:∀b,New w2 w3 b→b≠g:=fun b hb=>by have:=hb.1; have:=hg02.size; omega
 have HS3:=zTD hS3;clear hS3;go_wp2_with fail
 refine (zCG hc3 (n:=3) (by omega) (by omega)).mono ?_;rintro e w4 ⟨bq,rfl,hc4,hg4⟩;have hg04:=Off.tr hg03 hg4;have f4:=FII.turn f3 hg4 HS3.out;have hend:MxD w g (.returned (.slice a3 n c3)) w4:=⟨_,rfl,M,n,FC.mono f4 (fun b hb=>⟨Nat.le_trans hg02.size hb.1,Nat.lt_of_lt_of_le hb.2 hg4.size⟩),HQ.out,h1,h4,hc4,hg04⟩;cases bq
 ·have HE:=zTD hend;clear hend;go_wp2_with fail
  go_ret
  exact HE.out
 ·clear hend;go_wp2_with fail
  refine (zBK hc4 (n:=n) (by omega) (by omega)).mono ?_;rintro e w5 ⟨i,hi,rfl,hc5,hg5⟩;have f5:=FII.turn f4 hg5 HS3.out;have hg05:=Off.tr hg04 hg5;go_wp2_with fail
  refine (zBK hc5 (n:=n) (by omega) (by omega)).mono ?_;rintro e w6 ⟨k,hk,rfl,hc6,hg6⟩;have f6:=FII.turn f5 hg6 HS3.out;have hg06:=Off.tr hg05 hg6;by_cases hik:i=k
  ·have i1:((i:Int) != (k:Int))=false:=by simp [hik]
   have hend:MxD w g (.returned (.slice a3 n c3)) w6:=⟨_,rfl,M,n,FC.mono f6 (fun b hb=>⟨Nat.le_trans hg02.size hb.1,Nat.lt_of_lt_of_le hb.2 (Nat.le_trans hg4.size (Nat.le_trans hg5.size hg6.size))⟩),HQ.out,h1,h4,hc6,hg06⟩;have HE:=zTD hend;clear hend hik;go_wp2_with fail
   go_ret
   exact HE.out
  ·have i1:((i:Int) != (k:Int))=true:=by simp; omega
   go_wp2_with fail
   refine (zBK hc6 (n:=3) (by omega) (by omega)).mono ?_;rintro e w7 ⟨p,hp,rfl,hc7,hg7⟩;have f7:=FII.turn f6 hg7 HS3.out;have hg07:=Off.tr hg06 hg7;go_wp2_with fail
   refine (zBK hc7 (n:=3) (by omega) (by omega)).mono ?_;rintro e w8 ⟨q,hq2,rfl,hc8,hg8⟩;have f8:=FII.turn f7 hg8 HS3.out;have hg08:=Off.tr hg07 hg8;have hS:=zAp f8.read HQ.out h4 hi hk (-1-(p:Int)) (-1-(q:Int));go_wp2_with fail
   refine hS.mono ?_;rintro e w9 ⟨r9,rfl,f9,b9⟩;go_wp2_with fail
   go_ret
   exact ⟨_,rfl,_,n,FC.mono f9 (fun b hb=>⟨Nat.le_trans hg08.size hb.1,hb.2⟩),zBv (zBv HQ.out hi) hk,h1,h4,hc8.below b9,Off.tr hg08 (Off.grown b9)⟩
theorem zQX {w:World} {g:Nat} (h:Cur w g) :
  Calls Tryz.prog 99 #[.pointer (some ⟨g,0,none⟩)] w (MxD w g):=by
 go_enter Tryz.func99,Tryz.ntmps99
 go_wp2_with fail
 refine (zCG h (n:=3) (by omega) (by omega)).mono ?_;rintro e w1 ⟨bq,rfl,hc1,hg1⟩;cases bq
 ·go_wp2_with fail
  refine (zIk hc1).mono ?_;rintro e w2 ⟨r,rfl,M,n,f,hq,h1,h4,hc2,hg2⟩;go_wp2_with fail
  go_ret
  exact ⟨_,rfl,M,n,FC.mono f (fun b hb=>⟨Nat.le_trans hg1.size hb.1,hb.2⟩),hq,h1,h4,hc2,Off.tr hg1 hg2⟩
 ·go_wp2_with fail
  refine (zLR hc1).mono ?_;rintro e w2 ⟨r,rfl,M,n,f,hq,h1,h4,hc2,hg2⟩;go_wp2_with fail
  go_ret
  exact ⟨_,rfl,M,n,FC.mono f (fun b hb=>⟨Nat.le_trans hg1.size hb.1,hb.2⟩),hq,h1,h4,hc2,Off.tr hg1 hg2⟩
def AnyD (w:World) (g:Nat):Ending→World→Prop:=fun e w'=>∃r,e=.returned r∧∃M:List (List Int),RII (New w w') w' r M∧1≤M.length∧M.length≤5∧(∀x∈M,x.length≤4)∧Cur w' g∧w.grownBy w' (some g)
theorem AnyD.of {w w':World} {g:Nat} {r:Value} {M:List (List Int)} {n:Nat} (f:FII (New w w') w' r M) (hq:Sqn M n) (h1:1≤n) (h4:n≤4) (hc:Cur w' g) (hg:w.grownBy w' (some g)):AnyD w g (.returned r) w' :=
 ⟨r,rfl,M,f.read,by rw [hq.len]; exact h1,by rw [hq.len]; omega,fun x hx=>by rw [hq.row x hx]; exact h4,hc,hg⟩
theorem RII.turn {S:Nat→Prop} {w w':World} {g:Nat} {v:Value} {L:List (List Int)} (h:RII S w v L) (hg:w.grownBy w' (some g)) (hS:∀b,S b→b≠g):RII S w' v L :=
 RII.keep h fun b hb hl=>hg.block b hl (by have:=hS b hb; simpa using this)
theorem zMC {W1 w5:World} {gv gn n cn cap1 i:Nat} {Z1:Zl} {li lu:List Int} {u:Value} (h:HS W1 w5 [aV 29 (.slice (some ⟨gv,0,none⟩) n cap1) (Z1.map Prod.fst),aRs Z1]) (hz:Z1[i]? = some (.slice (some ⟨gn,0,none⟩) n cn,li)) (hl:Z1.length=n)
  (hu:∀F:Nat→Prop,RI F w5 (.slice (some ⟨gn,0,none⟩) n cn) li→RI F w5 u lu) :
  HS W1 (w5.setCell ⟨gv,i,none⟩ u) []∧RII (New W1 (w5.setCell ⟨gv,i,none⟩ u)) (w5.setCell ⟨gv,i,none⟩ u) (.slice (some ⟨gv,0,none⟩) n cap1) ((Z1.set i (u,lu)).map Prod.snd):=by
 have h1:=h.sToR 1 rfl;have h1:HS W1 w5 [aV 29 (.slice (some ⟨gv,0,none⟩) n cap1) (Z1.map Prod.fst),aRr Z1]:=h1;have h2:=h1.imp 1 rfl (zIL (Z1.set i (u,lu))) (fun F hF x hx=>by
  rcases List.mem_or_eq_of_mem_set hx with hx | rfl
  ·exact hF x hx
  ·exact hu F (hF _ (zTF hz)))
 have h2:HS W1 w5 [aV 29 (.slice (some ⟨gv,0,none⟩) n cap1) (Z1.map Prod.fst),aRr (Z1.set i (u,lu))]:=h2;have h3:=HS.putV h2 0 rfl (by simp [hl]) i u;have h3:HS W1 (w5.setCell ⟨gv,i,none⟩ u) [aV 29 (.slice (some ⟨gv,0,none⟩) n cap1) ((Z1.set i (u,lu)).map Prod.fst),aRr (Z1.set i (u,lu))]:=by rw [List.map_set]; exact h3
 have h4:=h3.shutR 0 1 (by decide) rfl rfl;exact ⟨HS.nil h3.bl,(HS.R h4 0 rfl).reads⟩
theorem zSw {w:World} {g:Nat} (h:Cur w g) :
  Calls Tryz.prog 62 #[.pointer (some ⟨g,0,none⟩)] w (AnyD w g):=by
 have mixed:Tryz.prog.follows .mixedOrders=true:=by kernel_rfl
 have hgl:=h.lt;go_enter Tryz.func62,Tryz.ntmps62
 go_wp2_with fail
 refine (zQX h).mono ?_;rintro e w1 ⟨r1,rfl,M,n,f1,hq,h1,h4,hc1,hg1⟩;obtain ⟨a1,cap1,e1⟩:=f1.read.form;rw [hq.len] at e1;subst e1;have HS1:Hid (∀b,New w w1 b→b≠g):=zTD (fun b hb=>by have:=hb.1; omega);have HQ:=zTD hq;clear hq;go_wp2_with fail
 refine (zCG hc1 (n:=12) (by omega) (by omega)).mono ?_;rintro e w2 ⟨bq,rfl,hc2,hg2⟩;have f2:=FII.turn f1 hg2 HS1.out;have hg02:=Off.tr hg1 hg2;cases bq
 ·have HE:=zTD (AnyD.of (FC.mono f2 (fun b hb=>⟨hb.1,Nat.lt_of_lt_of_le hb.2 hg2.size⟩)) HQ.out h1 h4 hc2 hg02);go_wp2_with fail
  go_ret
  exact HE.out
 ·go_wp2_with fail
  refine (zBK hc2 (n:=n) (by omega) (by omega)).mono ?_;rintro e w3 ⟨i,hi,rfl,hc3,hg3⟩;have f3:=FII.turn f2 hg3 HS1.out;have hg03:=Off.tr hg02 hg3;obtain ⟨W0,z1,z2,z3⟩:=zDq (Below.refl w.heap.size w) hg03 hgl;have f3':FII (New W0 w3) w3 (.slice a1 n cap1) M:=FC.mono f3 (fun b hb=>⟨by rw [z1]; exact hb.1,Nat.lt_of_lt_of_le hb.2 (Nat.le_trans hg2.size hg3.size)⟩);obtain ⟨Z,hZ,hs3⟩:=((HS.nil (Below.refl _ W0)).addF z2 f3').openF 0 rfl;have hs3:HS W0 w3 [aV 29 (.slice a1 n cap1) (Z.map Prod.fst),aRs Z]:=hs3;have HZ:=zTD hZ;have hzl:Z.length=n:=by have:=congrArg List.length hZ; simpa [HQ.out.len] using this
  obtain ⟨gv,cv,ev⟩:=(hs3.formV 0 rfl).2 (by simp; omega);simp only [Value.slice.injEq] at ev;obtain ⟨rfl,-,-⟩:=ev;obtain ⟨z,hz⟩:∃z,Z[i]? = some z:=⟨_,zTE (by omega)⟩;obtain ⟨ri,li⟩:=z;have hli:li.length=n:=HQ.out.row li (by rw [<-hZ]; exact List.mem_map_of_mem (zTF hz));have hri:=hs3.rowS 1 rfl (zTF hz);have hri:RI _ w3 ri li:=hri;obtain ⟨ai,ci,ei⟩:=hri.form;rw [hli] at ei;subst ei;obtain ⟨k1,k2⟩:=hs3.cellV 0 rfl (j:=i) (r:=.slice ai n ci) (by rw [List.getElem?_map,hz]; rfl);have l0:gv<w3.heap.size:=zTH w3 _ k1;have i1:(i:Int)<(n:Int):=by omega
  have HZI:=zTD hz;have HLI:=zTD hli;have HZL:=zTD hzl;have HW:=zTD (show W0.heap.size=w.heap.size∧w.grownBy W0 (some g) from ⟨z1,z3⟩);have HC3:=zTD hc3;clear hz hZ hli hzl f1 f2 f3 f3' hg1 hg2 hg3 hg02 hg03 z1 z2 z3 hc1 hc2 hc3 h HS1;go_wp2_with (at_builtin; go_must (refine zAL (W:=w3) rfl _ _ rfl rfl (FI.fresh0 w3) zAm rfl (hri.below zAm) ?_ ?_))
  ·have:=HLI.out; simp; omega
  ·intro vn wn fn bn _;have fn:FI _ wn vn li:=fn;obtain ⟨an,cn,en⟩:=fn.form;rw [HLI.out] at en;subst en;obtain ⟨gn,rfl,_⟩:=fn.head (by omega);have hsn:=hs3.addI bn fn;have hsn:HS W0 wn [aV 29 (.slice (some ⟨gv,0,none⟩) n cap1) (Z.map Prod.fst),aRs Z,aI (.slice (some ⟨gn,0,none⟩) n cn) li]:=hsn;obtain ⟨k3,k4⟩:=hsn.cellV 0 rfl (j:=i) (r:=.slice ai n ci) (by rw [List.getElem?_map,HZI.out]; rfl);have hs4:=HS.putV hsn 0 rfl (by simp [HZL.out]) i (.slice (some ⟨gn,0,none⟩) n cn);have hs4:HS W0 (wn.setCell ⟨gv,i,none⟩ (.slice (some ⟨gn,0,none⟩) n cn)) [aV 29 (.slice (some ⟨gv,0,none⟩) n cap1) ((Z.map Prod.fst).set i (.slice (some ⟨gn,0,none⟩) n cn)),aRs Z,aI (.slice (some ⟨gn,0,none⟩) n cn) li]:=hs4
   have hs5:=(((hs4.moreS 1 2 (by decide) rfl rfl (zJI (x:=(.slice (some ⟨gn,0,none⟩) n cn,li)) HZI.out)).someS 1 rfl).pick [0,1] (by decide));have hs5:HS W0 (wn.setCell ⟨gv,i,none⟩ (.slice (some ⟨gn,0,none⟩) n cn)) [aV 29 (.slice (some ⟨gv,0,none⟩) n cap1) ((Z.set i (.slice (some ⟨gn,0,none⟩) n cn,li)).map Prod.fst),aRs (Z.set i (.slice (some ⟨gn,0,none⟩) n cn,li))]:=by rw [List.map_set]; exact hs5
   have hzi:(Z.set i (Value.slice (some ⟨gn,0,none⟩) n cn,li))[i]? = some (.slice (some ⟨gn,0,none⟩) n cn,li):=by rw [List.getElem?_set_self (by rw [HZL.out]; exact hi)]
   have hsq:Sqn ((Z.set i (Value.slice (some ⟨gn,0,none⟩) n cn,li)).map Prod.snd) n:=by
    refine ⟨by simp [HZL.out],fun r hr=>?_⟩;rw [List.map_set] at hr;rcases List.mem_or_eq_of_mem_set hr with hr | rfl
    ·exact HQ.out.row r (by rw [<-HZ.out]; exact hr)
    ·exact HLI.out
   have hcS:Cur (wn.setCell ⟨gv,i,none⟩ (.slice (some ⟨gn,0,none⟩) n cn)) g:=Bs.cur (W0:=W0) (wr:=w3) ⟨HW.out.1,HW.out.2,hs3.bl⟩ ⟨HW.out.1,HW.out.2,hs4.bl⟩ hgl HC3.out;have HZ1:=zTD hzi;have HQ1:=zTD hsq;generalize Z.set i (Value.slice (some ⟨gn,0,none⟩) n cn,li)=Z1 at *;clear hsq hzi hsn hs3 fn bn HZ HZI;go_wp2_with fail
   clear hs4 k1 k2 k3 k4 hri l0;generalize wn.setCell ⟨gv,i,none⟩ (.slice (some ⟨gn,0,none⟩) n cn)=w4 at *;refine (zBK hcS (n:=3) (by omega) (by omega)).mono ?_;rintro e w5 ⟨kk,hkk,rfl,hc5,hg5⟩;obtain ⟨W1,y1,y2,hs6⟩:=HSx.turn hs5 hg5 (by rw [HW.out.1]; exact hgl);have HB:=zTD (show Bs w g W1 w5 from ⟨y1.trans HW.out.1,Off.tr HW.out.2 y2,hs6.bl⟩);clear hs5 hcS hg5 y1 y2 HW;obtain ⟨k1,k2⟩:=hs6.cellV 0 rfl (j:=i) (r:=.slice (some ⟨gn,0,none⟩) n cn) (by rw [List.getElem?_map,HZ1.out]; rfl);obtain ⟨x0,hx0⟩:∃x,li[0]? = some x:=⟨_,zTE (by rw [HLI.out]; omega)⟩;obtain ⟨k3,k4⟩:=hs6.cellS 1 rfl HZ1.out hx0;have HX0:=zTD hx0;clear hx0;obtain rfl | rfl | rfl:kk=0∨kk=1∨kk=2:=by omega
   ·obtain ⟨fA,bA⟩:=litN (w:=w5) [-4,1,0,2] (by decide) rfl;obtain ⟨wA,hwA⟩:∃wA,wA=(w5.alloc (.cells #[.int .i64 (-4),.int .i64 1,.int .i64 0,.int .i64 2] 3)).drew:=⟨_,rfl⟩;have bA5:Below w5.heap.size w5 wA:=by rw [hwA]; exact bA.drew
    have fA:FI (New w5 wA) wA (.slice (some ⟨w5.heap.size,0,none⟩) 4 4) [-4,1,0,2]:=by rw [hwA]; exact fA.keep (fun b _=>rfl)
    have hcA:=hc5.below bA5;have hsA:=hs6.below bA5;have hgA:∀b,New w5 wA b→Off g b:=fun b hb=>by have h1:=hb.1; have h2:=hc5.lt; show b≠g; omega
    have hpk:=zHs hcA (RI.mono fA.reads hgA) (by decide) (by decide);obtain ⟨ka1,ka2⟩:=hsA.cellV 0 rfl (j:=i) (r:=.slice (some ⟨gn,0,none⟩) n cn) (by rw [List.getElem?_map,HZ1.out]; rfl);have ll:gv<w5.heap.size:=zTH w5 _ k1;have HWA:=zTD hwA;have HBA:=zTD bA5;have i0:(0:Int)<(n:Int):=by omega
    clear hwA bA bA5 hgA hcA;go_wp2_with fail
    go_region_with (first
     | (go_at_call 100; rw [<-HWA.out]; refine hpk.mono ?_; rintro e w6 ⟨y,hy,rfl,hc6,hg6⟩; obtain ⟨W2,y1,y2,hs7⟩:=HSx.turn hsA hg6 (by rw [HB.out.size]; exact hgl); obtain ⟨kb1,kb2⟩:=hs7.cellV 0 rfl (j:=i) (r:=.slice (some ⟨gn,0,none⟩) n cn) (by rw [List.getElem?_map,HZ1.out]; rfl); obtain ⟨kb3,kb4⟩:=hs7.cellS 1 rfl HZ1.out HX0.out))
    all_goals
     have hs8:=HS.putS hs7 1 rfl HZ1.out 0 y;have hs8:HS W2 (w6.setCell ⟨gn,0,none⟩ (.int .i64 y)) [aV 29 (.slice (some ⟨gv,0,none⟩) n cap1) ((Z1.set i (.slice (some ⟨gn,0,none⟩) n cn,li.set 0 y)).map Prod.fst),aRs (Z1.set i (.slice (some ⟨gn,0,none⟩) n cn,li.set 0 y))]:=by rw [zD4 HZ1.out]; exact hs8
     have hB2:Bs w g W2 w6:=⟨y1.trans HB.out.size,Off.tr HB.out.gr y2,hs7.bl⟩;have hB3:Bs w g W2 (w6.setCell ⟨gn,0,none⟩ (.int .i64 y)):=⟨hB2.size,hB2.gr,hs8.bl⟩;have hF:=HS.F (hs8.shutF 0 1 (by decide) rfl rfl) 0 rfl;rw [hB3.new] at hF;have HFIN:Hid (AnyD w g (.returned (.slice (some ⟨gv,0,none⟩) n cap1)) (w6.setCell ⟨gn,0,none⟩ (.int .i64 y))):=zTD (AnyD.of hF (by
      refine ⟨by have:=HQ1.out.len; simpa using this,fun r hr=>?_⟩;rw [List.map_set] at hr;rcases List.mem_or_eq_of_mem_set hr with hr | rfl
      ·exact HQ1.out.row r hr
      ·simp [HLI.out]) h1 h4 (hB2.cur hB3 hgl hc6) hB3.all)
     clear hs7 hs8 hB2 hB3 hF kb1 kb2 kb3 kb4 ka1 ka2 hsA;go_wp2_with fail
     go_ret
     exact HFIN.out
   ·have hzl1:Z1.length=n:=by have:=HQ1.out.len; simpa using this
    have HC1:=zTD (fun (u:Value) (lu:List Int) hu=>zMC (u:=u) (lu:=lu) hs6 HZ1.out hzl1 hu);have HZL1:=zTD hzl1;have HFIN:Hid (∀(u:Value) (lu:List Int),lu.length≤4→(∀F:Nat→Prop,RI F w5 (.slice (some ⟨gn,0,none⟩) n cn) li→RI F w5 u lu)→AnyD w g (.returned (.slice (some ⟨gv,0,none⟩) n cap1)) (w5.setCell ⟨gv,i,none⟩ u)):=zTD (fun u lu hlu hu=>by
     obtain ⟨q1,q2⟩:=HC1.out u lu hu;have hB2:Bs w g W1 (w5.setCell ⟨gv,i,none⟩ u):=⟨HB.out.size,HB.out.gr,q1.bl⟩;refine ⟨_,rfl,_,by rw [hB2.new] at q2; exact q2,by simp [HZL1.out]; omega,by simp [HZL1.out]; omega,fun x hx=>?_,HB.out.cur hB2 hgl hc5,hB2.all⟩;rw [List.map_set] at hx;rcases List.mem_or_eq_of_mem_set hx with hx | rfl
     ·rw [HQ1.out.row x hx]; exact h4
     ·exact hlu)
    clear HC1 hzl1;go_wp2_with fail
    ·rename_i hc1
     go_ret
     refine HFIN.out _ [] (by simp) (fun F hF=>?_);have:=hF.cap.1;have hn1:n-1=0:=by omega
     rw [hn1];exact RL.nil _ _ (by unfold maxLen; omega)
    ·go_ret
     exact HFIN.out _ (li.drop 1) (by have:=HLI.out; simp; omega) (fun F hF=>by simpa using RL.cutFrom hF h1)
   ·obtain ⟨wA,hwA⟩:∃wA,wA=w5.alloc (.cells #[.int .i64 2] 3):=⟨_,rfl⟩;obtain ⟨fA,bA⟩:=litN (w:=w5) [2] (by decide) hwA;have hsA:=hs6.addI bA fA;have hsA:HS W1 wA [aV 29 (.slice (some ⟨gv,0,none⟩) n cap1) (Z1.map Prod.fst),aRs Z1,aI (.slice (some ⟨w5.heap.size,0,none⟩) 1 1) [2]]:=hsA;obtain ⟨wB,hwB⟩:∃wB,wB=wA.alloc (.cells #[.slice (some ⟨w5.heap.size,0,none⟩) 1 1] 29):=⟨_,rfl⟩;have hsB:=hsA.alloc (.cells #[.slice (some ⟨w5.heap.size,0,none⟩) 1 1] 29);rw [<-hwB] at hsB;have hcB:wB.cell? ⟨wA.heap.size,0,none⟩=some (.slice (some ⟨w5.heap.size,0,none⟩) 1 1):=by rw [hwB]; go_simp
    have eA:wA.heap.size=w5.heap.size+1:=by rw [hwA]; simp
    rw [eA] at hcB;have HWA:=zTD hwA;have HWB:=zTD hwB;have HNV:=zTD (HS.newV hsB 0 rfl);clear eA;have hzl1:Z1.length=n:=by have:=HQ1.out.len; simpa using this
    have HZL1:=zTD hzl1;clear hwA hwB hsA fA bA hzl1;go_wp2_with (at_builtin; go_must (rw [<-HWA.out,<-HWB.out]; refine zAH rfl _ _ rfl rfl hsB 0 rfl HNV.out rfl hcB rfl (by have:=HZL1.out; simp; omega) ?_))
    intro v6 w6 hs7 _;have hs8:=(hs7.moreS 1 2 (by decide) rfl rfl (Z':=Z1++[(.slice (some ⟨w5.heap.size,0,none⟩) 1 1,[2])]) (List.perm_append_singleton _ _)).pick [0,1] (by decide);have hs8:HS W1 w6 [aV 29 v6 ((Z1++[(Value.slice (some ⟨w5.heap.size,0,none⟩) 1 1,[2])]).map Prod.fst),aRs (Z1++[(Value.slice (some ⟨w5.heap.size,0,none⟩) 1 1,[2])])]:=by
     have e:(Z1++[(Value.slice (some ⟨w5.heap.size,0,none⟩) 1 1,[(2:Int)])]).map Prod.fst=Z1.map Prod.fst++[Value.slice (some ⟨w5.heap.size,0,none⟩) 1 1]:=by simp
     rw [e]; exact hs8
    have hB2:Bs w g W1 w6:=⟨HB.out.size,HB.out.gr,hs8.bl⟩;have hF:=HS.F (hs8.shutF 0 1 (by decide) rfl rfl) 0 rfl;rw [hB2.new] at hF;have HFIN:Hid (AnyD w g (.returned v6) w6):=zTD (by
     refine ⟨_,rfl,_,hF.read,by simp,by simp [HZL1.out]; omega,fun x hx=>?_,HB.out.cur hB2 hgl hc5,hB2.all⟩;rw [List.map_append] at hx;rcases List.mem_append.1 hx with hx | hx
     ·rw [HQ1.out.row x hx]; exact h4
     ·simp at hx; subst hx; simp)
    clear hs7 hs8 hF hB2;go_wp2_with fail
    go_ret
    exact HFIN.out
theorem AnyD.after {w w1 w2:World} {g:Nat} {e:Ending} (h:AnyD w1 g e w2) (hg:w.grownBy w1 (some g)):AnyD w g e w2:=by
 obtain ⟨r,rfl,M,f,h1,h5,h4,hc,hg2⟩:=h;exact ⟨r,rfl,M,RL.mono f (fun b hb=>⟨Nat.le_trans hg.size hb.1,hb.2⟩) (fun _ _ h=>RI.mono h (fun b hb=>⟨Nat.le_trans hg.size hb.1,hb.2⟩)),h1,h5,h4,hc,Off.tr hg hg2⟩
theorem zOd {w:World} {g:Nat} (h:Cur w g) :
  Calls Tryz.prog 56 #[.pointer (some ⟨g,0,none⟩)] w (AnyD w g):=by
 go_enter Tryz.func56,Tryz.ntmps56
 go_wp2_with fail
 refine (zCG h (n:=6) (by omega) (by omega)).mono ?_;rintro e w1 ⟨bq,rfl,hc1,hg1⟩;cases bq
 ·go_wp2_with fail
  refine (zIk hc1).mono ?_;rintro e w2 ⟨r,rfl,M,n,f,hq,h1,h4,hc2,hg2⟩;have HE:=zTD ((AnyD.of f hq h1 h4 hc2 hg2).after hg1);go_wp2_with fail
  go_ret
  exact HE.out
 ·go_wp2_with fail
  refine (zSw hc1).mono ?_;rintro e w2 hE;obtain ⟨r,rfl,hE2⟩:∃r,e=.returned r∧AnyD w1 g e w2:=by
   have hE':=hE; obtain ⟨r,e1,_⟩:=hE'; exact ⟨r,e1,hE⟩
  have HE:=zTD (hE2.after hg1);clear hE hE2;go_wp2_with fail
  go_ret
  exact HE.out
structure WtD (w w':World) (r1 r2:Value) (M:List (List Int)) (l:List Int):Prop where
 rm:RII (New w w') w' r1 M
 rl:RI (New w w') w' r2 l
 m1:1≤M.length
 m5:M.length≤5
 row:∀x∈M,x.length≤4
 len:l.length≤6
 small:∀x∈l,-2≤x∧x≤2
 bl:Below w.heap.size w w'
theorem WtD.total {w w':World} {r1 r2:Value} {M:List (List Int)} {l:List Int} (h:WtD w w' r1 r2 M l):total M≤100:=by
 have:=zC8 h.m5 h.row;omega
theorem zPr {w:World} {a:Option Addr} {n cap:Nat} :
  Calls Tryz.prog 4 #[.slice a n cap] w fun e w'=>e=.returned (.bool (decide (1048576<n)))∧w=w':=by
 by_cases h:1048576<n
 ·have i1:(n:Int) > 1048576:=by omega
  go_enter Tryz.func4,Tryz.ntmps4
  go_wp2_with fail
  go_ret
  exact ⟨zAG (by simp [h]),rfl⟩
 ·have i1:¬(n:Int) > 1048576:=by omega
  go_enter Tryz.func4,Tryz.ntmps4
  go_wp2_with fail
  go_ret
  exact ⟨zAG (by simp [h]),rfl⟩
theorem zGj {S S':Nat→Prop} {w:World} {u v:Value} {l l':List Int} (h:RI S w u l) (h':RI S' w v l') (hl:l.length≤16777216) :
  Calls Tryz.prog 12 #[u,v] w fun e w'=>e=.returned (.bool (decide (l=l')))∧Below w.heap.size w w':=by
 have mixed:Tryz.prog.follows .mixedOrders=true:=by kernel_rfl
 obtain ⟨a,cap,rfl⟩:=h.form;obtain ⟨a',cap',rfl⟩:=h'.form;by_cases hne:l.length=l'.length
 ·have i0:((l.length:Int) != (l'.length:Int))=false:=by simp; omega
  have HY:Hid ((∀j,j<l.length→l[j]? = l'[j]?)→l=l'):=zTD (fun k=>List.ext_getElem? fun j=>by
   rcases Nat.lt_or_ge j l.length with hj | hj
   ·exact k j hj
   ·rw [List.getElem?_eq_none hj,List.getElem?_eq_none (by omega)])
  have HN:Hid (∀(j:Nat) (x y:Int),l[j]? = some x→l'[j]? = some y→x≠y→l≠l'):=zTD (fun j x y hx hy hxy e=>by subst e; rw [hx] at hy; cases hy; exact hxy rfl);rw [<-hne] at h' i0 ⊢;generalize l.length=n at *;clear hne;go_enter Tryz.func12,Tryz.ntmps12
  go_wp2_with fail
  go_loopw [5] (fun kk wr=>∃(k:Nat),k≤n∧kk=.int .i64 k∧Hid (∀j,j<k→l[j]? = l'[j]?)∧Below w.heap.size w wr) (fun kk _=>n-(intOf kk).toNat)
  case atStart=>exact ⟨0,Nat.zero_le _,rfl,zTD (fun j hj=>by omega),Below.refl _ _⟩
  case round =>
   obtain ⟨k,hk,rfl,HK,hb⟩:=hrel;by_cases hlt:k<n
   ·have i1:(k:Int)<(n:Int):=by omega
    obtain ⟨b,o,x,rfl,hc0,hx⟩:=(h.below hb).atI hlt;obtain ⟨b',o',y,rfl,hc1,hy⟩:=(h'.below hb).atI hlt;have HX:=zTD hx.out;have HY2:=zTD hy.out;by_cases hxy:x=y
    ·have i2:(x != y)=false:=by simp [hxy]
     have HK2:Hid (∀j,j<k+1→l[j]? = l'[j]?):=zTD (fun j hj=>by
      rcases Nat.lt_or_ge j k with h1 | h1
      ·exact HK.out j h1
      ·obtain rfl:j=k:=by omega
       rw [HX.out,HY2.out,hxy])
     clear hxy;go_wp2_with fail
     go_big_region_o
     go_wp2_with fail
     go_roundw
     case rel=>exact ⟨k+1,by omega,by go_num,HK2,hb.drew⟩
     case measure=>simp [intOf]; omega
    ·have i2:(x != y)=true:=by simp [hxy]
     have HF:=zTD (HN.out k x y HX.out HY2.out hxy);clear hxy;go_wp2_with fail
     go_big_region_o
     go_wp2_with fail
     go_ret
     exact ⟨zAG (by simp [HF.out]),hb.drew⟩
   ·have i1:¬(k:Int)<(n:Int):=by omega
    have hkn:k=n:=by omega
    have HF:=zTD (HY.out (by rw [<-hkn]; exact HK.out));clear hkn;go_wp2_with fail
    go_ret
    exact ⟨zAG (by simp [HF.out]),hb⟩
 ·have i0:((l.length:Int) != (l'.length:Int))=true:=by simp; omega
  have HF:Hid (l≠l'):=zTD (fun e=>hne (congrArg List.length e));clear hne;generalize l.length=n at *;generalize l'.length=n' at *;go_enter Tryz.func12,Tryz.ntmps12
  go_wp2_with fail
  go_ret
  exact ⟨zAG (by simp [HF.out]),Below.refl _ _⟩
end Go.Proofs.YtlgcdacpjcnjgaaGreatDoor
