/- What the law of dominant weights draws. Condition: at most 2^20 bytes. -/
import Derived.Test.YtiohpndgemonjaaGreatJGDrD
import Derived.Test.YtiohpndgemonjaaGreatJWor
namespace Go.Proofs.YtiohpndgemonjaaGreat
open Go.RowKit
set_option maxRecDepth 20000
set_option maxHeartbeats 8000000
theorem zN0 {w:World} {g n cap:Nat} {a:Option Addr} (h:Cur w g) (hn:n≤16) :
  Calls Tryz.prog 67 #[.pointer (some ⟨g,0,none⟩),.slice a n cap] w fun e w'=>∃r,e=.returned r∧∃l:List Int,FI (New w w') w' r l∧l.length=n∧(∀x∈l,0≤x∧x≤2)∧Cur w' g∧w.grownBy w' (some g):=by
 have hgl:=h.lt;go_enter Tryz.func67,Tryz.ntmps67
 go_wp2_with fail
 obtain ⟨w1,hw1⟩:∃w1,w1=w.alloc (.cells #[] 3):=⟨_,rfl⟩;obtain ⟨f1,b1⟩:=zAN (Below.refl _ w) hw1;rw [<-hw1];clear hw1;have hc1:=h.below b1;have hB:=(Bs.start w g).below b1;go_loopw [5,6] (fun zz j wr=>∃(k:Nat) (z:Value) (acc:List Int) (W0:World),z=zz∧k≤n∧j=.int .i64 k∧FI (New W0 wr) wr z acc∧Hid (acc.length=k)∧Hid (∀x∈acc,0≤x∧x≤2)∧Cur wr g∧Hid (Bs w g W0 wr)) (fun _ j _=>n-(intOf j).toNat)
 case atStart=>exact ⟨0,_,[],w,rfl,Nat.zero_le _,rfl,f1,zQe rfl,zQe (by simp),hc1,zQe hB⟩
 case round =>
  clear hB f1 b1 hc1 h;obtain ⟨k,z,acc,W0,rfl,hk,rfl,hf,HA,HX,hc,HB⟩:=hrel;by_cases hkn:k<n
  ·have i1:(k:Int)<(n:Int):=by omega
   have hW:W0.heap.size=w.heap.size:=HB.out.size;go_wp2_with fail
   refine (zA1 hc (n:=3) (by omega) (by omega)).mono ?_;rintro e w2 ⟨x,hx,rfl,hc2,hg2⟩;go_wp2_with fail
   refine (zA1 hc2 (n:=2) (by omega) (by omega)).mono ?_;rintro e w3 ⟨y,hy,rfl,hc3,hg3⟩;obtain ⟨W1,hB1⟩:=HB.out.turn hgl (Off.tr hg2 hg3);have hf3:FI (New W1 w3) w3 z acc:=by
    have:=hf.turn (Off.tr hg2 hg3) (by rw [hW]; exact hgl);rw [hB1.new]; rw [show New W0 w3=New w w3 by unfold New; rw [hW]] at this; exact this
   obtain ⟨p,hp⟩:∃p:Nat,p=x*y:=⟨_,rfl⟩;have hp2:p≤2:=by
    have h1:x*y≤2*1:=Nat.mul_le_mul (by omega) (by omega);omega
   have e1:(x:Int)*(y:Int)=(p:Int):=by rw [hp,Int.natCast_mul]
   have HP:=zQe hp;clear hp;have bb:=(Below.refl w3.heap.size w3).alloc (zQj _) (.cells #[.int .i64 (p:Int)] 3);have HB2:=zQe hB1;have HC3:=zQe hc3;clear hB1 hf hc3 hc2 hg2 hg3;go_wp2_with (at_builtin; go_must (refine zAE (W:=W1) rfl _ _ rfl rfl (hf3.grow bb) (HB2.out.below bb).bl rfl (RI.one w3 (p:Int)) ?_ ?_))
   ·have:=HA.out; simp; omega
   ·intro v' w4 f4 b4 _;have hB4:Bs w g W1 w4:=⟨HB2.out.size,HB2.out.gr,b4⟩;have hc4:Cur w4 g:=HB2.out.cur hB4 hgl HC3.out;have HB5:=zQe hB4;clear hB4 HC3;go_wp2_with fail
    go_roundw
    case rel=>exact ⟨k+1,_,acc++[(p:Int)],W1,rfl,by omega,by go_num,f4,zQe (by have:=HA.out; simp; omega),zQe (fun x hx=>by
     rcases List.mem_append.1 hx with hx | hx
     ·exact HX.out x hx
     ·rw [List.mem_singleton] at hx; subst hx; omega),hc4,HB5⟩
    case measure=>first | (simp [intOf]; done) | (simp [intOf]; omega)
  ·have i1:¬(k:Int)<(n:Int):=by omega
   go_wp2_with fail
   go_ret
   exact ⟨_,rfl,acc,by rw [<-HB.out.new]; exact hf,by have:=HA.out; omega,HX.out,hc,HB.out.all⟩
structure WtL (w w':World) (r1 r2:Value) (M:List (List Int)) (l:List Int):Prop where
 rm:RII (New w w') w' r1 M
 rl:RI (New w w') w' r2 l
 tot:total M≤100
 len:l.length≤6
 bl:Below w.heap.size w w'
theorem zMk {M:List (List Int)} (h5:M.length≤5) (h4:∀x∈M,x.length≤4):total M≤100:=by
 have:=zEw h5 h4;omega
theorem ofDr {w:World} {v:Value} {n:Nat} (h:RBy Any w v n) (hn:n≤1048576) :
  Calls Tryz.prog 54 #[v] w fun e w'=>∃r1 r2,e=.returned (.tuple #[r1,r2])∧∃M l,WtL w w' r1 r2 M l:=by
 obtain ⟨a,cap,rfl⟩:∃a cap,v=.slice a n cap:=by obtain ⟨a,cap,e,_⟩:=h; exact ⟨a,cap,e⟩
 go_enter Tryz.func54,Tryz.ntmps54
 go_wp2_with fail
 refine (zGM h hn).mono ?_;rintro e w1 ⟨rfl,hc1,b1,hlt⟩;obtain ⟨g,hg⟩:∃g,g=w.heap.size:=⟨_,rfl⟩;rw [<-hg] at hc1 ⊢;have HG:=zQe hg;have hgw1:g<w1.heap.size:=by rw [hg]; exact hlt
 clear hg hlt;go_wp2_with fail
 refine (zFh hc1).mono ?_;rintro e w2 ⟨r,rfl,M,f2,h1,h5,h4,hc2,hg2⟩;have HT:=zQe (zMk h5 h4);obtain ⟨a2,c2,rfl⟩:=f2.form;generalize hm:M.length=m at *;clear hm;go_wp2_with fail
 refine (zN0 hc2 (n:=m) (by omega)).mono ?_;rintro e w3 ⟨r3,rfl,l,f3,hl,hsm,hc3,hg3⟩;have f2:=f2.turn hg3 (fun b hb=>by have:=hb.1; omega);have HL:=zQe hl;clear hl hsm;go_wp2_with fail
 refine (zC0 hc3 (n:=12) (by omega) (by omega)).mono ?_;rintro e w4 ⟨bq,rfl,hc4,hg4⟩;have f2:=f2.turn hg4 (fun b hb=>by have:=hb.1; omega);have f4:=f3.turn hg4 hc2.lt;have hg14:w1.grownBy w4 (some g):=Off.tr (Off.tr hg2 hg3) hg4;have b4:Below w.heap.size w w4:=b1.grown hg14 b1.size (fun k hk=>by cases hk; rw [HG.out]; exact zQj _);have hs2:=hg2.size;have hs1:=b1.size;have hs34:=Nat.le_trans hg3.size hg4.size;have fM:RII (New w w4) w4 (.slice a2 m c2) M:=f2.mono' (fun b hb=>⟨Nat.le_trans hs1 hb.1,Nat.lt_of_lt_of_le hb.2 hs34⟩);have fL:FI (New w w4) w4 r3 l:=f4.mono (fun b hb=>⟨Nat.le_trans hs1 (Nat.le_trans hs2 hb.1),hb.2⟩);cases bq
 ·have HE:Hid (WtL w w4 (.slice a2 m c2) r3 M l):=zQe ⟨fM,fL.reads,HT.out,by rw [HL.out]; omega,b4⟩;clear fM fL b4 f2 f4 f3 h4 hg14 hg2 hg3 hg4 hc1 hc2 hc3 hc4 b1 h;go_wp2_with fail
  go_ret2
  exact ⟨_,_,rfl,M,l,HE.out⟩
 ·go_wp2_with fail
  refine (zA1 hc4 (n:=7) (by omega) (by omega)).mono ?_;rintro e w5 ⟨y,hy,rfl,hc5,hg5⟩;obtain ⟨W1,hB1⟩:=(Bs.start w2 g).turn hc2.lt hg3;obtain ⟨W2,hB2⟩:=hB1.turn hc2.lt hg4;obtain ⟨W0,hB0⟩:=hB2.turn hc2.lt hg5;have f2:=f2.turn hg5 (fun b hb=>by have:=hb.1; omega);have f5:=f4.turn hg5 hc2.lt;have F5:=zQe (show FI (New W0 w5) w5 r3 l by rw [hB0.new]; exact f5);have HB0:=zQe hB0;have F2:=zQe f2;have b5:Below w.heap.size w w5:=b1.grown (Off.tr hg14 hg5) b1.size (fun k hk=>by cases hk; rw [HG.out]; exact zQj _);have HS2:=zQe (show w1.heap.size≤w2.heap.size∧w.heap.size≤w1.heap.size from ⟨hs2,hs1⟩);obtain ⟨a3,c3,e3⟩:=f5.form;rw [HL.out] at e3;subst e3;have bb:=(Below.refl w5.heap.size w5).alloc (zQj _) (.cells #[.int .i64 ((y:Int)-1)] 3);have hB:=HB0.out.below bb;have f4:=F5.out
  clear fM fL f2 f5 f3 h4 hg14 hB0 hB1 hB2 hg2 hg3 hg4 hg5 hc1 hc2 hc3 hc4 hc5 b1 h b4 hs2 hs1 hs34;go_wp2_with (at_builtin; go_must (refine zAE (W:=W0) rfl _ _ rfl rfl (f4.grow bb) hB.bl rfl (RI.one w5 ((y:Int)-1)) ?_ ?_))
  ·have:=HL.out; simp; omega
  ·intro v6 w6 f6 b6 hgr;have hs0:=HB0.out.size;have hs1:=HB0.out.bl.size;have hs2:=b6.size;have hs3:=HS2.out;have e6:∀b,b<w2.heap.size→w6.heap[b]? = w5.heap[b]?:=fun b hb=>(b6.block b (by rw [hs0]; exact hb)).trans (HB0.out.bl.block b (by rw [hs0]; exact hb)).symm;have hsz:w5.heap.size≤w6.heap.size:=by have:=hgr.size; simp at this; omega
   have b06:Below w.heap.size w w6:=⟨b6.os.trans (HB0.out.bl.os.symm.trans b5.os),b6.tape.trans (HB0.out.bl.tape.symm.trans b5.tape),b6.output.trans (HB0.out.bl.output.symm.trans b5.output),Nat.le_trans b5.size hsz,fun k hk=>(e6 k (by omega)).trans (b5.block k hk)⟩;have HE:Hid (WtL w w6 (.slice a2 m c2) v6 M (l++[(y:Int)-1])):=zQe ⟨(F2.out.keep fun b hb _=>e6 b hb.2).mono' (fun b hb=>⟨by have:=hb.1; omega,by have:=hb.2; omega⟩),(f6.mono (fun b hb=>⟨by have:=hb.1; rw [hs0] at this; omega,hb.2⟩)).reads,HT.out,by have:=HL.out; simp; omega,b06⟩;clear e6 b06 f6 b6 hgr b5 f4 hB bb hs0 hs1 hs2 hs3 hsz;go_wp2_with fail
   go_ret2
   exact ⟨_,_,rfl,M,_,HE.out⟩
theorem WtD.toL {w w':World} {r1 r2:Value} {M:List (List Int)} {l:List Int} (h:WtD w w' r1 r2 M l):WtL w w' r1 r2 M l:=⟨h.rm,h.rl,h.total,h.len,h.bl⟩
theorem zIJ {w:World} {v:Value} {n:Nat} (h:RBy Any w v n) (hn:n≤1048576) :
  Calls Tryz.prog 5 #[v] w fun e w'=>∃r1 r2,e=.returned (.tuple #[r1,r2])∧∃M l,WtD w w' r1 r2 M l:=by
 obtain ⟨a,cap,rfl⟩:∃a cap,v=.slice a n cap:=by obtain ⟨a,cap,e,_⟩:=h; exact ⟨a,cap,e⟩
 go_enter Tryz.func5,Tryz.ntmps5
 go_wp2_with fail
 refine (zDk h hn).mono ?_;rintro e w2 ⟨r1,r2,rfl,M,l,hD⟩;have HD:=zQe hD;clear hD;go_wp2_with fail
 go_ret2
 exact ⟨_,_,rfl,M,l,HD.out⟩
theorem zMB {w:World} {v:Value} {n:Nat} (h:RBy Any w v n) (hn:n≤1048576) :
  Calls Tryz.prog 26 #[v] w fun e w'=>∃r1 r2,e=.returned (.tuple #[r1,r2])∧∃M l,WtL w w' r1 r2 M l:=by
 obtain ⟨a,cap,rfl⟩:∃a cap,v=.slice a n cap:=by obtain ⟨a,cap,e,_⟩:=h; exact ⟨a,cap,e⟩
 go_enter Tryz.func26,Tryz.ntmps26
 go_wp2_with fail
 refine (zDk h hn).mono ?_;rintro e w2 ⟨r1,r2,rfl,M,l,hD⟩;have HD:=zQe hD.toL;clear hD;go_wp2_with fail
 go_ret2
 exact ⟨_,_,rfl,M,l,HD.out⟩
theorem zGC {w:World} {v:Value} {n:Nat} (h:RBy Any w v n) (hn:n≤1048576) :
  Calls Tryz.prog 19 #[v] w fun e w'=>∃r1 r2,e=.returned (.tuple #[r1,r2])∧∃M l,WtL w w' r1 r2 M l:=by
 obtain ⟨a,cap,rfl⟩:∃a cap,v=.slice a n cap:=by obtain ⟨a,cap,e,_⟩:=h; exact ⟨a,cap,e⟩
 go_enter Tryz.func19,Tryz.ntmps19
 go_wp2_with fail
 refine (ofDr h hn).mono ?_;rintro e w2 ⟨r1,r2,rfl,M,l,hD⟩;have HD:=zQe hD;clear hD;go_wp2_with fail
 go_ret2
 exact ⟨_,_,rfl,M,l,HD.out⟩
theorem zJf {w:World} {v:Value} {n:Nat} (h:RBy Any w v n) (hn:n≤1048576) :
  Calls Tryz.prog 23 #[v] w fun e w'=>∃r1 r2,e=.returned (.tuple #[r1,r2])∧∃M l,WtL w w' r1 r2 M l:=by
 obtain ⟨a,cap,rfl⟩:∃a cap,v=.slice a n cap:=by obtain ⟨a,cap,e,_⟩:=h; exact ⟨a,cap,e⟩
 go_enter Tryz.func23,Tryz.ntmps23
 go_wp2_with fail
 refine (ofDr h hn).mono ?_;rintro e w2 ⟨r1,r2,rfl,M,l,hD⟩;have HD:=zQe hD;clear hD;go_wp2_with fail
 go_ret2
 exact ⟨_,_,rfl,M,l,HD.out⟩
theorem zGx {w:World} {v:Value} {n:Nat} (h:RBy Any w v n) (hn:n≤1048576) :
  Calls Tryz.prog 28 #[v] w fun e w'=>∃r1 r2,e=.returned (.tuple #[r1,r2])∧∃M l,WtL w w' r1 r2 M l:=by
 obtain ⟨a,cap,rfl⟩:∃a cap,v=.slice a n cap:=by obtain ⟨a,cap,e,_⟩:=h; exact ⟨a,cap,e⟩
 go_enter Tryz.func28,Tryz.ntmps28
 go_wp2_with fail
 refine (zGM h hn).mono ?_;rintro e w1 ⟨rfl,hc1,b1,hlt⟩;obtain ⟨g,hg⟩:∃g,g=w.heap.size:=⟨_,rfl⟩;rw [<-hg] at hc1 ⊢;have HG:=zQe hg;have hgw1:g<w1.heap.size:=by rw [hg]; exact hlt
 clear hg hlt;go_wp2_with fail
 refine (zFh hc1).mono ?_;rintro e w2 ⟨r,rfl,M,f2,h1,h5,h4,hc2,hg2⟩;have HT:=zQe (zMk h5 h4);obtain ⟨a2,c2,rfl⟩:=f2.form;generalize hm:M.length=m at *;clear hm;go_wp2_with fail
 refine (zN0 hc2 (n:=m) (by omega)).mono ?_;rintro e w3 ⟨r3,rfl,l,f3,hl,hsm,hc3,hg3⟩;have f2:=f2.turn hg3 (fun b hb=>by have:=hb.1; omega);have hg13:w1.grownBy w3 (some g):=Off.tr hg2 hg3;have b3:Below w.heap.size w w3:=b1.grown hg13 b1.size (fun k hk=>by cases hk; rw [HG.out]; exact zQj _);have hs2:=hg2.size;have hs1:=b1.size;have hs3:=hg3.size;have fM:RII (New w w3) w3 (.slice a2 m c2) M:=f2.mono' (fun b hb=>⟨Nat.le_trans hs1 hb.1,Nat.lt_of_lt_of_le hb.2 hs3⟩);have fL:FI (New w w3) w3 r3 l:=f3.mono (fun b hb=>⟨Nat.le_trans hs1 (Nat.le_trans hs2 hb.1),hb.2⟩);have HE:Hid (WtL w w3 (.slice a2 m c2) r3 M l):=zQe ⟨fM,fL.reads,HT.out,by rw [hl]; omega,b3⟩;clear fM fL b3 f2 f3 h4 hg13 hg2 hg3 hc1 hc2 hc3 b1 h hl hsm hs1 hs2 hs3;go_wp2_with fail
 go_ret2
 exact ⟨_,_,rfl,M,l,HE.out⟩
theorem FI.putG {S:Nat→Prop} {w:World} {g n cap:Nat} {l:List Int} (h:FI S w (.slice (some ⟨g,0,none⟩) n cap) l) (hl:l.length=n) (k:Nat) (x:Int):w.grownBy (w.setCell ⟨g,k,none⟩ (.int .i64 x)) (Value.slice (some ⟨g,0,none⟩) n cap).ownBlock:=by
 subst hl;exact (h.1.stored k _).2
theorem zOo {w:World} {v:Value} {n:Nat} (h:RBy Any w v n) (hn:n≤1048576) :
  Calls Tryz.prog 68 #[v] w fun e w'=>∃r1 r2,e=.returned (.tuple #[r1,r2])∧∃l,RI (New w w') w' r2 l∧l.length≤6∧Below w.heap.size w w':=by
 obtain ⟨a,cap,rfl⟩:∃a cap,v=.slice a n cap:=by obtain ⟨a,cap,e,_⟩:=h; exact ⟨a,cap,e⟩
 go_enter Tryz.func68,Tryz.ntmps68
 go_wp2_with fail
 refine (zGM h hn).mono ?_;rintro e w1 ⟨rfl,hc1,b1,hlt⟩;obtain ⟨g,hg⟩:∃g,g=w.heap.size:=⟨_,rfl⟩;rw [<-hg] at hc1 ⊢;have HG:=zQe hg;have hgw1:g<w1.heap.size:=by rw [hg]; exact hlt
 clear hg hlt;go_wp2_with fail
 refine (zNu hc1).mono ?_;rintro e w2 ⟨r,rfl,M,f2,h1,h5,h4,hc2,hg2⟩;obtain ⟨a2,c2,rfl⟩:=f2.form;generalize hm:M.length=m at *;clear hm;go_wp2_with fail
 refine (zFz hc2 (n:=m) (m:=4) (by omega) (by omega)).mono ?_;rintro e w3 ⟨r3,rfl,l,f3,hl,hsm,hc3,hg3⟩;have HL:=zQe hl;clear hl hsm h4;go_wp2_with fail
 refine (zA1 hc3 (n:=14) (by omega) (by omega)).mono ?_;rintro e w4 ⟨y,hy,rfl,hc4,hg4⟩;have f4:=f3.turn hg4 hc2.lt;have hg14:w1.grownBy w4 (some g):=Off.tr (Off.tr hg2 hg3) hg4;have b4:Below w.heap.size w w4:=b1.grown hg14 b1.size (fun k hk=>by cases hk; rw [HG.out]; exact zQj _);have hs2:=hg2.size;have hs1:=b1.size;have fL:FI (New w w4) w4 r3 l:=f4.mono (fun b hb=>⟨Nat.le_trans hs1 (Nat.le_trans hs2 hb.1),hb.2⟩);obtain ⟨a3,c3,e3⟩:=fL.form;rw [HL.out] at e3;subst e3;by_cases y0:y=0
 ·subst y0;have bb:=(Below.refl w4.heap.size w4).alloc (zQj _) (.cells #[.int .i64 1] 3);clear f2 f3 f4 hg14 hg2 hg3 hg4 hc1 hc2 hc3 hc4 b1 h hy;go_wp2_with (at_builtin; go_must (refine zAE (W:=w) rfl _ _ rfl rfl (fL.grow bb) (zAA.step b4 bb) rfl (RI.one w4 1) ?_ ?_))
  ·have:=HL.out; simp; omega
  ·intro v5 w5 f5 b5 hgr;have HE:Hid (∃l,RI (New w w5) w5 v5 l∧l.length≤6∧Below w.heap.size w w5):=zQe ⟨_,f5.reads,by have:=HL.out; simp; omega,b5⟩;clear f5 b5 hgr fL b4 bb;go_wp2_with fail
   go_ret2
   exact ⟨_,_,rfl,HE.out⟩
 ·have i0:((y:Int) == 0)=false:=by simp [y0]
  by_cases y1:y=1
  ·subst y1;obtain ⟨gv,rfl,hgv,-⟩:=FI.head fL (by omega);obtain ⟨w5,hw5⟩:∃w5,w5=w4.alloc (.cells #[.int .i64 (-1000),.int .i64 1000,.int .i64 1001] 3):=⟨_,rfl⟩;have b45:Below w4.heap.size w4 w5:=by rw [hw5]; exact (Below.refl _ w4).alloc (zQj _) _
   have f5:=fL.below b45;have hlit:RI (Off g) w5 (.slice (some ⟨w4.heap.size,0,none⟩) 3 3) [-1000,1000,1001]:=by
    have hcl:=hc4.lt;have k1:=(FI.of_row (w:=w4) (w':=w5) (B:=w4.heap.size) (l:=[-1000,1000,1001]) (by rw [hw5]; exact World.ownsRow_lit (base:=w4.heap.size) (e:=3) (size:=1) w4 #[.int .i64 (-1000),.int .i64 1000,.int .i64 1001] 3 (zQj _) (by unfold maxLen; omega) rfl) (zQj _) rfl rfl);exact k1.reads.mono (fun b hb=>by have:=hb.1; show b≠g; omega)
   have hc5:=hc4.below b45;have b05:=zAA.step b4 b45;have hne:gv≠g:=by
    have:=FI.head f4 (by omega);obtain ⟨g',e',hg',-⟩:=this;cases e';have:=hg'.1;have:=hc2.lt;omega
   clear f2 f3 f4 hg14 hg2 hg3 hg4 hc1 hc2 hc3 hc4 b1 h hy b4 hs1 hs2;go_wp2_with fail
   rw [<-hw5];clear hw5;refine (zHf hc5 hlit (by simp) (by simp)).mono ?_;rintro e w6 ⟨x,-,rfl,hc6,hg6⟩;have f6:FI (New w w6) w6 (.slice (some ⟨gv,0,none⟩) m c3) l:=(f5.keep (fun b hb=>by
    have:b=gv:=by simp [Value.ownBlock] at hb; exact hb.symm
    subst this;exact hg6.block b (Nat.lt_of_lt_of_le hgv.2 b45.size) (by simpa using hne))).mono (fun b hb=>⟨hb.1,Nat.lt_of_lt_of_le hb.2 (Nat.le_trans b45.size hg6.size)⟩)
   have b06:Below w.heap.size w w6:=b05.grown hg6 b05.size (fun k hk=>by cases hk; rw [HG.out]; exact zQj _);have fz:=f6.froz HL.out 0;have f7:=f6.put HL.out 0 x;have HL2:=HL.out;obtain ⟨z,hz⟩:∃z,l[0]? = some z:=⟨_,zQf (by omega)⟩;have hcz:=f6.cell hz (by omega);have HE:Hid (∃l',RI (New w (w6.setCell ⟨gv,0,none⟩ (.int .i64 x))) (w6.setCell ⟨gv,0,none⟩ (.int .i64 x)) (.slice (some ⟨gv,0,none⟩) m c3) l'∧l'.length≤6∧Below w.heap.size w (w6.setCell ⟨gv,0,none⟩ (.int .i64 x))) :=
    zQe ⟨l.set 0 x,f7.reads.mono (fun b hb=>⟨hb.1,by simpa using hb.2⟩),by simp; omega,b06.grown (f6.putG HL.out 0 x) b06.size (fun k hk=>by simp [Value.ownBlock] at hk; subst hk; exact hgv.1)⟩
   clear hz f7 f6 f5 hg6 hc6 hc5 hlit b45 b05 b06 HL2 hgv;go_wp2_with fail
   go_ret2
   exact ⟨_,_,rfl,HE.out⟩
  ·have i1:((y:Int) == 1)=false:=by simp; omega
   have HE:Hid (∃l,RI (New w w4) w4 (.slice a3 m c3) l∧l.length≤6∧Below w.heap.size w w4):=zQe ⟨_,fL.reads,by rw [HL.out]; omega,b4⟩;clear f2 f3 f4 hg14 hg2 hg3 hg4 hc1 hc2 hc3 hc4 b1 h hy fL b4 hs1 hs2 y0 y1;go_wp2_with fail
   go_ret2
   exact ⟨_,_,rfl,HE.out⟩
theorem zIX {w:World} {v:Value} {n:Nat} (h:RBy Any w v n) (hn:n≤1048576) :
  Calls Tryz.prog 30 #[v] w fun e w'=>∃r,e=.returned r∧∃l,RI (New w w') w' r l∧l.length≤6∧Below w.heap.size w w':=by
 obtain ⟨a,cap,rfl⟩:∃a cap,v=.slice a n cap:=by obtain ⟨a,cap,e,_⟩:=h; exact ⟨a,cap,e⟩
 go_enter Tryz.func30,Tryz.ntmps30
 go_wp2_with fail
 refine (zOo h hn).mono ?_;rintro e w2 ⟨r1,r2,rfl,l,hD⟩;have HD:=zQe hD;clear hD;go_wp2_with fail
 go_ret
 exact ⟨_,rfl,l,HD.out⟩
structure WtB (w w':World) (r1 r2 r3:Value) (M:List (List Int)) (l q:List Int):Prop where
 rm:RII (New w w') w' r1 M
 rl:RI (New w w') w' r2 l
 rq:RI (New w w') w' r3 q
 tot:total M≤100
 len:l.length≤6
 qlen:q.length≤6
 bl:Below w.heap.size w w'
theorem zGI {w:World} {v:Value} {n:Nat} (h:RBy Any w v n) (hn:n≤1048576) :
  Calls Tryz.prog 18 #[v] w fun e w'=>∃r1 r2 r3,e=.returned (.tuple #[r1,r2,r3])∧∃M l q,WtB w w' r1 r2 r3 M l q:=by
 obtain ⟨a,cap,rfl⟩:∃a cap,v=.slice a n cap:=by obtain ⟨a,cap,e,_⟩:=h; exact ⟨a,cap,e⟩
 go_enter Tryz.func18,Tryz.ntmps18
 go_wp2_with fail
 refine (zGM h hn).mono ?_;rintro e w1 ⟨rfl,hc1,b1,hlt⟩;obtain ⟨g,hg⟩:∃g,g=w.heap.size:=⟨_,rfl⟩;rw [<-hg] at hc1 ⊢;have HG:=zQe hg;clear hg hlt;have h2:=h.below b1;go_wp2_with fail
 refine (zDk h2 hn).mono ?_;rintro e w2 ⟨r1,r2,rfl,M,l,hD⟩;have hc2:=hc1.below hD.bl;have hM5:=hD.m5;have hT:total M≤16777216:=by have:=hD.total; omega
 obtain ⟨a2,c2,e2⟩:=hD.rm.form;subst e2;obtain ⟨al,cl,el⟩:=hD.rl.form;subst el;have HD:=zQe hD;clear hD;have HN0:Hid (isC M=true→CartanP M):=zQe zAM.1;generalize hm:M.length=m at *;generalize hnl:l.length=nl at *;have HM:=zQe hm;have HNL:=zQe hnl;clear hm hnl;go_wp2_with fail
 refine (zFz hc2 (n:=m) (m:=2) (by omega) (by omega)).mono ?_;rintro e w3 ⟨r3,rfl,q,f3,hq,-,hc3,hg3⟩;have hoff:∀b,New w1 w2 b→b≠g:=fun b hb=>by have:=hb.1; have:=hc1.lt; omega
 have rm3:=HD.out.rm.turn hg3 hoff;have rl3:=RI.keep HD.out.rl (fun b hb hl=>hg3.block b hl (by have:=hoff b hb; simpa using this));have hs:=HD.out.bl.size;have hs3:=hg3.size;have hs1:=b1.size;have b3:Below w.heap.size w w3:=(zAA.step b1 HD.out.bl).grown hg3 (by omega) (fun k hk=>by cases hk; rw [HG.out]; exact zQj _);have HQ:=zQe hq;clear hq;go_wp2_with fail
 refine (zC0 hc3 (n:=2) (by omega) (by omega)).mono ?_;rintro e w4 ⟨bq,rfl,hc4,hg4⟩;have rm4:=rm3.turn hg4 hoff;have rl4:=RI.keep rl3 (fun b hb hl=>hg4.block b hl (by have:=hoff b hb; simpa using this));have f4:=f3.turn hg4 hc2.lt;have b4:Below w.heap.size w w4:=b3.grown hg4 b3.size (fun k hk=>by cases hk; rw [HG.out]; exact zQj _);have hs4:=hg4.size;have sM:RII (New w w4) w4 (.slice a2 m c2) M:=rm4.mono' (fun b hb=>⟨by have:=hb.1; omega,by have:=hb.2; omega⟩);have sL:RI (New w w4) w4 (.slice al nl cl) l:=rl4.mono (fun b hb=>⟨by have:=hb.1; omega,by have:=hb.2; omega⟩);have sQ:RI (New w w4) w4 r3 q:=(f4.mono (fun b hb=>⟨by have:=hb.1; omega,hb.2⟩)).reads;clear hoff hs hs3 hs4 hs1 rm3 rl3 rm4 rl4 f3 f4 hg3 hg4 hc1 hc2 hc3 hc4 b1 b3 h h2
 have HE0:Hid (∀wx,Below w4.heap.size w4 wx→WtB w wx (.slice a2 m c2) (.slice al nl cl) r3 M l q):=zQe (fun wx hb =>
  ⟨(sM.below hb).mono' (fun b k=>⟨k.1,Nat.lt_of_lt_of_le k.2 hb.size⟩),(sL.below hb).mono (fun b k=>⟨k.1,Nat.lt_of_lt_of_le k.2 hb.size⟩),(sQ.below hb).mono (fun b k=>⟨k.1,Nat.lt_of_lt_of_le k.2 hb.size⟩),HD.out.total,HD.out.len,by rw [HQ.out]; omega,zAA.step b4 hb⟩)
 cases bq
 ·have HE:=zQe (HE0.out w4 (Below.refl _ _));clear HE0 sM sL sQ b4;go_wp2_with fail
  go_ret3
  exact ⟨_,_,_,rfl,M,l,q,HE.out⟩
 ·go_wp2_with fail
  refine (zAT sM hT).mono ?_;rintro e w5 ⟨rfl,hw5⟩;have b5:=zAO hw5;clear hw5;cases hC:isC M
  ·have HE:=zQe (HE0.out w5 b5);clear HE0 sM sL sQ b4 b5 HN0 hC;go_wp2_with fail
   go_ret3
   exact ⟨_,_,_,rfl,M,l,q,HE.out⟩
  ·by_cases hnm:nl=m
   ·have e0:((nl:Int) == (m:Int))=true:=by simp [hnm]
    have HNM:=zQe hnm;clear hnm;go_wp2_with fail
    refine (zKf (sM.below b5) (sQ.below b5) hC (by rw [HQ.out,HM.out]) hT).mono ?_;rintro e w6 ⟨r6,rfl,f6,b6⟩;have b06:=zAA.step b5 b6;have hW:(worR M q).length≤5:=by rw [zCr,HM.out]; omega
    go_wp2_with fail
    refine (zGf (sL.below b06) f6.reads (by have:=HD.out.len; omega) (by omega)).mono ?_;rintro e w7 ⟨r7,rfl,f7,b7⟩;have b07:=zAA.step b06 b7;have hA:(addW l (worR M q)).length≤6:=by
     have h9:=HD.out.len;have:∀a b:List Int,(addW a b).length≤a.length:=by
      intro a
      induction a with
      | nil=>intro b; cases b <;> simp [addW]
      |cons x a ih=>intro b; cases b with
       | nil=>simp [addW]
       | cons y b=>simp only [addW,List.length_cons]; have:=ih b; omega
     have:=this l (worR M q);omega
    have hEx:=HE0.out w7 b07;have hs04:=b4.size;have hs06:=b06.size;have HE:Hid (WtB w w7 (.slice a2 m c2) (.slice al nl cl) r7 M l (addW l (worR M q))):=zQe ⟨hEx.rm,hEx.rl,f7.reads.mono (fun b k=>⟨by have:=k.1; omega,k.2⟩),hEx.tot,hEx.len,hA,hEx.bl⟩;clear HE0 sM sL sQ b4 b5 b6 b7 b06 b07 HN0 hC f6 f7 hEx hA hW hs04 hs06;go_wp2_with fail
    go_ret3
    exact ⟨_,_,_,rfl,M,l,_,HE.out⟩
   ·have e0:((nl:Int) == (m:Int))=false:=by simp; omega
    have HE:=zQe (HE0.out w5 b5);clear HE0 sM sL sQ b4 b5 HN0 hC hnm;go_wp2_with fail
    go_ret3
    exact ⟨_,_,_,rfl,M,l,q,HE.out⟩
end Go.Proofs.YtiohpndgemonjaaGreat
