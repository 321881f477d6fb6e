/- What the law of dominant weights draws. Condition: at most 2^20 bytes. -/
import Derived.Test.YtphbichgpcicnaaGreatDoorJGDrD
import Derived.Test.YtphbichgpcicnaaGreatDoorJGWor
namespace Go.Proofs.YtphbichgpcicnaaGreatDoor
open Go.RowKit
set_option maxRecDepth 20000
set_option maxHeartbeats 8000000
theorem zV0 {w:World} {g n cap:Nat} {a:Option Addr} (h:Cur w g) (hn:n≤16) :
  Calls Tryz.prog 107 #[.pointer (some ⟨g,0,none⟩),.slice a n cap] w fun e w'=>∃r,e=.returned r∧∃l:List Int,FI (New w w') w' r l∧l.length=n∧(∀x∈l,0≤x∧x≤2)∧Cur w' g∧w.grownBy w' (some g):=by
 have hgl:=h.lt;go_enter Tryz.func107,Tryz.ntmps107
 go_wp2_with fail
 obtain ⟨w1,hw1⟩:∃w1,w1=w.alloc (.cells #[] 3):=⟨_,rfl⟩;obtain ⟨f1,b1⟩:=zAR (Below.refl _ w) hw1;rw [<-hw1];clear hw1;have hc1:=h.below b1;have hB:=(Bs.start w g).below b1;go_loopw [5,6] (fun zz j wr=>∃(k:Nat) (z:Value) (acc:List Int) (W0:World),z=zz∧k≤n∧j=.int .i64 k∧FI (New W0 wr) wr z acc∧Hid (acc.length=k)∧Hid (∀x∈acc,0≤x∧x≤2)∧Cur wr g∧Hid (Bs w g W0 wr)) (fun _ j _=>n-(intOf j).toNat)
 case atStart=>exact ⟨0,_,[],w,rfl,Nat.zero_le _,rfl,f1,zWF rfl,zWF (by simp),hc1,zWF hB⟩
 case round =>
  clear hB f1 b1 hc1 h;obtain ⟨k,z,acc,W0,rfl,hk,rfl,hf,HA,HX,hc,HB⟩:=hrel;by_cases hkn:k<n
  ·have i1:(k:Int)<(n:Int):=by omega
   have hW:W0.heap.size=w.heap.size:=HB.out.size;go_wp2_with fail
   refine (zAi hc (n:=3) (by omega) (by omega)).mono ?_;rintro e w2 ⟨x,hx,rfl,hc2,hg2⟩;go_wp2_with fail
   refine (zAi hc2 (n:=2) (by omega) (by omega)).mono ?_;rintro e w3 ⟨y,hy,rfl,hc3,hg3⟩;obtain ⟨W1,hB1⟩:=HB.out.turn hgl (Off.tr hg2 hg3);have hf3:FI (New W1 w3) w3 z acc:=by
    have:=hf.turn (Off.tr hg2 hg3) (by rw [hW]; exact hgl);rw [hB1.new]; rw [show New W0 w3=New w w3 by unfold New; rw [hW]] at this; exact this
   obtain ⟨p,hp⟩:∃p:Nat,p=x*y:=⟨_,rfl⟩;have hp2:p≤2:=by
    have h1:x*y≤2*1:=Nat.mul_le_mul (by omega) (by omega);omega
   have e1:(x:Int)*(y:Int)=(p:Int):=by rw [hp,Int.natCast_mul]
   have HP:=zWF hp;clear hp;have bb:=(Below.refl w3.heap.size w3).alloc (zWK _) (.cells #[.int .i64 (p:Int)] 3);have HB2:=zWF hB1;have HC3:=zWF hc3;clear hB1 hf hc3 hc2 hg2 hg3;go_wp2_with (at_builtin; go_must (refine zAJ (W:=W1) rfl _ _ rfl rfl (hf3.grow bb) (HB2.out.below bb).bl rfl (RI.one w3 (p:Int)) ?_ ?_))
   ·have:=HA.out; simp; omega
   ·intro v' w4 f4 b4 _;have hB4:Bs w g W1 w4:=⟨HB2.out.size,HB2.out.gr,b4⟩;have hc4:Cur w4 g:=HB2.out.cur hB4 hgl HC3.out;have HB5:=zWF hB4;clear hB4 HC3;go_wp2_with fail
    go_roundw
    case rel=>exact ⟨k+1,_,acc++[(p:Int)],W1,rfl,by omega,by go_num,f4,zWF (by have:=HA.out; simp; omega),zWF (fun x hx=>by
     rcases List.mem_append.1 hx with hx | hx
     ·exact HX.out x hx
     ·rw [List.mem_singleton] at hx; subst hx; omega),hc4,HB5⟩
    case measure=>first | (simp [intOf]; done) | (simp [intOf]; omega)
  ·have i1:¬(k:Int)<(n:Int):=by omega
   go_wp2_with fail
   go_ret
   exact ⟨_,rfl,acc,by rw [<-HB.out.new]; exact hf,by have:=HA.out; omega,HX.out,hc,HB.out.all⟩
structure WtL (w w':World) (r1 r2:Value) (M:List (List Int)) (l:List Int):Prop where
 rm:RII (New w w') w' r1 M
 rl:RI (New w w') w' r2 l
 tot:total M≤100
 len:l.length≤6
 bl:Below w.heap.size w w'
theorem zGR {M:List (List Int)} (h5:M.length≤5) (h4:∀x∈M,x.length≤4):total M≤100:=by
 have:=zGS h5 h4;omega
theorem ofDr {w:World} {v:Value} {n:Nat} (h:RBy Any w v n) (hn:n≤1048576) :
  Calls Tryz.prog 51 #[v] w fun e w'=>∃r1 r2,e=.returned (.tuple #[r1,r2])∧∃M l,WtL w w' r1 r2 M l:=by
 obtain ⟨a,cap,rfl⟩:∃a cap,v=.slice a n cap:=by obtain ⟨a,cap,e,_⟩:=h; exact ⟨a,cap,e⟩
 go_enter Tryz.func51,Tryz.ntmps51
 go_wp2_with fail
 refine (zFM h hn).mono ?_;rintro e w1 ⟨rfl,hc1,b1,hlt⟩;obtain ⟨g,hg⟩:∃g,g=w.heap.size:=⟨_,rfl⟩;rw [<-hg] at hc1 ⊢;have HG:=zWF hg;have hgw1:g<w1.heap.size:=by rw [hg]; exact hlt
 clear hg hlt;go_wp2_with fail
 refine (zRP hc1).mono ?_;rintro e w2 ⟨r,rfl,M,f2,h1,h5,h4,hc2,hg2⟩;have HT:=zWF (zGR h5 h4);obtain ⟨a2,c2,rfl⟩:=f2.form;generalize hm:M.length=m at *;clear hm;go_wp2_with fail
 refine (zV0 hc2 (n:=m) (by omega)).mono ?_;rintro e w3 ⟨r3,rfl,l,f3,hl,hsm,hc3,hg3⟩;have f2:=f2.turn hg3 (fun b hb=>by have:=hb.1; omega);have HL:=zWF hl;clear hl hsm;go_wp2_with fail
 refine (zB0 hc3 (n:=12) (by omega) (by omega)).mono ?_;rintro e w4 ⟨bq,rfl,hc4,hg4⟩;have f2:=f2.turn hg4 (fun b hb=>by have:=hb.1; omega);have f4:=f3.turn hg4 hc2.lt;have hg14:w1.grownBy w4 (some g):=Off.tr (Off.tr hg2 hg3) hg4;have b4:Below w.heap.size w w4:=b1.grown hg14 b1.size (fun k hk=>by cases hk; rw [HG.out]; exact zWK _);have hs2:=hg2.size;have hs1:=b1.size;have hs34:=Nat.le_trans hg3.size hg4.size;have fM:RII (New w w4) w4 (.slice a2 m c2) M:=f2.mono' (fun b hb=>⟨Nat.le_trans hs1 hb.1,Nat.lt_of_lt_of_le hb.2 hs34⟩);have fL:FI (New w w4) w4 r3 l:=f4.mono (fun b hb=>⟨Nat.le_trans hs1 (Nat.le_trans hs2 hb.1),hb.2⟩);cases bq
 ·have HE:Hid (WtL w w4 (.slice a2 m c2) r3 M l):=zWF ⟨fM,fL.reads,HT.out,by rw [HL.out]; omega,b4⟩;clear fM fL b4 f2 f4 f3 h4 hg14 hg2 hg3 hg4 hc1 hc2 hc3 hc4 b1 h;go_wp2_with fail
  go_ret2
  exact ⟨_,_,rfl,M,l,HE.out⟩
 ·go_wp2_with fail
  refine (zAi hc4 (n:=7) (by omega) (by omega)).mono ?_;rintro e w5 ⟨y,hy,rfl,hc5,hg5⟩;obtain ⟨W1,hB1⟩:=(Bs.start w2 g).turn hc2.lt hg3;obtain ⟨W2,hB2⟩:=hB1.turn hc2.lt hg4;obtain ⟨W0,hB0⟩:=hB2.turn hc2.lt hg5;have f2:=f2.turn hg5 (fun b hb=>by have:=hb.1; omega);have f5:=f4.turn hg5 hc2.lt;have F5:=zWF (show FI (New W0 w5) w5 r3 l by rw [hB0.new]; exact f5);have HB0:=zWF hB0;have F2:=zWF f2;have b5:Below w.heap.size w w5:=b1.grown (Off.tr hg14 hg5) b1.size (fun k hk=>by cases hk; rw [HG.out]; exact zWK _);have HS2:=zWF (show w1.heap.size≤w2.heap.size∧w.heap.size≤w1.heap.size from ⟨hs2,hs1⟩);obtain ⟨a3,c3,e3⟩:=f5.form;rw [HL.out] at e3;subst e3;have bb:=(Below.refl w5.heap.size w5).alloc (zWK _) (.cells #[.int .i64 ((y:Int)-1)] 3);have hB:=HB0.out.below bb;have f4:=F5.out
  clear fM fL f2 f5 f3 h4 hg14 hB0 hB1 hB2 hg2 hg3 hg4 hg5 hc1 hc2 hc3 hc4 hc5 b1 h b4 hs2 hs1 hs34;go_wp2_with (at_builtin; go_must (refine zAJ (W:=W0) rfl _ _ rfl rfl (f4.grow bb) hB.bl rfl (RI.one w5 ((y:Int)-1)) ?_ ?_))
  ·have:=HL.out; simp; omega
  ·intro v6 w6 f6 b6 hgr;have hs0:=HB0.out.size;have hs1:=HB0.out.bl.size;have hs2:=b6.size;have hs3:=HS2.out;have e6:∀b,b<w2.heap.size→w6.heap[b]? = w5.heap[b]?:=fun b hb=>(b6.block b (by rw [hs0]; exact hb)).trans (HB0.out.bl.block b (by rw [hs0]; exact hb)).symm;have hsz:w5.heap.size≤w6.heap.size:=by have:=hgr.size; simp at this; omega
   have b06:Below w.heap.size w w6:=⟨b6.os.trans (HB0.out.bl.os.symm.trans b5.os),b6.tape.trans (HB0.out.bl.tape.symm.trans b5.tape),b6.output.trans (HB0.out.bl.output.symm.trans b5.output),Nat.le_trans b5.size hsz,fun k hk=>(e6 k (by omega)).trans (b5.block k hk)⟩;have HE:Hid (WtL w w6 (.slice a2 m c2) v6 M (l++[(y:Int)-1])):=zWF ⟨(F2.out.keep fun b hb _=>e6 b hb.2).mono' (fun b hb=>⟨by have:=hb.1; omega,by have:=hb.2; omega⟩),(f6.mono (fun b hb=>⟨by have:=hb.1; rw [hs0] at this; omega,hb.2⟩)).reads,HT.out,by have:=HL.out; simp; omega,b06⟩;clear e6 b06 f6 b6 hgr b5 f4 hB bb hs0 hs1 hs2 hs3 hsz;go_wp2_with fail
   go_ret2
   exact ⟨_,_,rfl,M,_,HE.out⟩
theorem FI.putG {S:Nat→Prop} {w:World} {g n cap:Nat} {l:List Int} (h:FI S w (.slice (some ⟨g,0,none⟩) n cap) l) (hl:l.length=n) (k:Nat) (x:Int):w.grownBy (w.setCell ⟨g,k,none⟩ (.int .i64 x)) (Value.slice (some ⟨g,0,none⟩) n cap).ownBlock:=by
 subst hl;exact (h.1.stored k _).2
theorem zTn {w:World} {v:Value} {n:Nat} (h:RBy Any w v n) (hn:n≤1048576) :
  Calls Tryz.prog 57 #[v] w fun e w'=>∃r1 r2,e=.returned (.tuple #[r1,r2])∧∃l,RI (New w w') w' r2 l∧l.length≤6∧Below w.heap.size w w':=by
 obtain ⟨a,cap,rfl⟩:∃a cap,v=.slice a n cap:=by obtain ⟨a,cap,e,_⟩:=h; exact ⟨a,cap,e⟩
 go_enter Tryz.func57,Tryz.ntmps57
 go_wp2_with fail
 refine (zFM h hn).mono ?_;rintro e w1 ⟨rfl,hc1,b1,hlt⟩;obtain ⟨g,hg⟩:∃g,g=w.heap.size:=⟨_,rfl⟩;rw [<-hg] at hc1 ⊢;have HG:=zWF hg;have hgw1:g<w1.heap.size:=by rw [hg]; exact hlt
 clear hg hlt;go_wp2_with fail
 refine (zJz hc1).mono ?_;rintro e w2 ⟨r,rfl,M,f2,h1,h5,h4,hc2,hg2⟩;obtain ⟨a2,c2,rfl⟩:=f2.form;generalize hm:M.length=m at *;clear hm;go_wp2_with fail
 refine (zHd hc2 (n:=m) (m:=4) (by omega) (by omega)).mono ?_;rintro e w3 ⟨r3,rfl,l,f3,hl,hsm,hc3,hg3⟩;have HL:=zWF hl;clear hl hsm h4;go_wp2_with fail
 refine (zAi hc3 (n:=14) (by omega) (by omega)).mono ?_;rintro e w4 ⟨y,hy,rfl,hc4,hg4⟩;have f4:=f3.turn hg4 hc2.lt;have hg14:w1.grownBy w4 (some g):=Off.tr (Off.tr hg2 hg3) hg4;have b4:Below w.heap.size w w4:=b1.grown hg14 b1.size (fun k hk=>by cases hk; rw [HG.out]; exact zWK _);have hs2:=hg2.size;have hs1:=b1.size;have fL:FI (New w w4) w4 r3 l:=f4.mono (fun b hb=>⟨Nat.le_trans hs1 (Nat.le_trans hs2 hb.1),hb.2⟩);obtain ⟨a3,c3,e3⟩:=fL.form;rw [HL.out] at e3;subst e3;by_cases y0:y=0
 ·subst y0;have bb:=(Below.refl w4.heap.size w4).alloc (zWK _) (.cells #[.int .i64 1] 3);clear f2 f3 f4 hg14 hg2 hg3 hg4 hc1 hc2 hc3 hc4 b1 h hy;go_wp2_with (at_builtin; go_must (refine zAJ (W:=w) rfl _ _ rfl rfl (fL.grow bb) (zAA.step b4 bb) rfl (RI.one w4 1) ?_ ?_))
  ·have:=HL.out; simp; omega
  ·intro v5 w5 f5 b5 hgr;have HE:Hid (∃l,RI (New w w5) w5 v5 l∧l.length≤6∧Below w.heap.size w w5):=zWF ⟨_,f5.reads,by have:=HL.out; simp; omega,b5⟩;clear f5 b5 hgr fL b4 bb;go_wp2_with fail
   go_ret2
   exact ⟨_,_,rfl,HE.out⟩
 ·have i0:((y:Int) == 0)=false:=by simp [y0]
  by_cases y1:y=1
  ·subst y1;obtain ⟨gv,rfl,hgv,-⟩:=FI.head fL (by omega);obtain ⟨w5,hw5⟩:∃w5,w5=w4.alloc (.cells #[.int .i64 (-1000),.int .i64 1000,.int .i64 1001] 3):=⟨_,rfl⟩;have b45:Below w4.heap.size w4 w5:=by rw [hw5]; exact (Below.refl _ w4).alloc (zWK _) _
   have f5:=fL.below b45;have hlit:RI (Off g) w5 (.slice (some ⟨w4.heap.size,0,none⟩) 3 3) [-1000,1000,1001]:=by
    have hcl:=hc4.lt;have k1:=(FI.of_row (w:=w4) (w':=w5) (B:=w4.heap.size) (l:=[-1000,1000,1001]) (by rw [hw5]; exact World.ownsRow_lit (base:=w4.heap.size) (e:=3) (size:=1) w4 #[.int .i64 (-1000),.int .i64 1000,.int .i64 1001] 3 (zWK _) (by unfold maxLen; omega) rfl) (zWK _) rfl rfl);exact k1.reads.mono (fun b hb=>by have:=hb.1; show b≠g; omega)
   have hc5:=hc4.below b45;have b05:=zAA.step b4 b45;have hne:gv≠g:=by
    have:=FI.head f4 (by omega);obtain ⟨g',e',hg',-⟩:=this;cases e';have:=hg'.1;have:=hc2.lt;omega
   clear f2 f3 f4 hg14 hg2 hg3 hg4 hc1 hc2 hc3 hc4 b1 h hy b4 hs1 hs2;go_wp2_with fail
   rw [<-hw5];clear hw5;refine (zEa hc5 hlit (by simp) (by simp)).mono ?_;rintro e w6 ⟨x,-,rfl,hc6,hg6⟩;have f6:FI (New w w6) w6 (.slice (some ⟨gv,0,none⟩) m c3) l:=(f5.keep (fun b hb=>by
    have:b=gv:=by simp [Value.ownBlock] at hb; exact hb.symm
    subst this;exact hg6.block b (Nat.lt_of_lt_of_le hgv.2 b45.size) (by simpa using hne))).mono (fun b hb=>⟨hb.1,Nat.lt_of_lt_of_le hb.2 (Nat.le_trans b45.size hg6.size)⟩)
   have b06:Below w.heap.size w w6:=b05.grown hg6 b05.size (fun k hk=>by cases hk; rw [HG.out]; exact zWK _);have fz:=f6.froz HL.out 0;have f7:=f6.put HL.out 0 x;have HL2:=HL.out;obtain ⟨z,hz⟩:∃z,l[0]? = some z:=⟨_,zWG (by omega)⟩;have hcz:=f6.cell hz (by omega);have HE:Hid (∃l',RI (New w (w6.setCell ⟨gv,0,none⟩ (.int .i64 x))) (w6.setCell ⟨gv,0,none⟩ (.int .i64 x)) (.slice (some ⟨gv,0,none⟩) m c3) l'∧l'.length≤6∧Below w.heap.size w (w6.setCell ⟨gv,0,none⟩ (.int .i64 x))) :=
    zWF ⟨l.set 0 x,f7.reads.mono (fun b hb=>⟨hb.1,by simpa using hb.2⟩),by simp; omega,b06.grown (f6.putG HL.out 0 x) b06.size (fun k hk=>by simp [Value.ownBlock] at hk; subst hk; exact hgv.1)⟩
   clear hz f7 f6 f5 hg6 hc6 hc5 hlit b45 b05 b06 HL2 hgv;go_wp2_with fail
   go_ret2
   exact ⟨_,_,rfl,HE.out⟩
  ·have i1:((y:Int) == 1)=false:=by simp; omega
   have HE:Hid (∃l,RI (New w w4) w4 (.slice a3 m c3) l∧l.length≤6∧Below w.heap.size w w4):=zWF ⟨_,fL.reads,by rw [HL.out]; omega,b4⟩;clear f2 f3 f4 hg14 hg2 hg3 hg4 hc1 hc2 hc3 hc4 b1 h hy fL b4 hs1 hs2 y0 y1;go_wp2_with fail
   go_ret2
   exact ⟨_,_,rfl,HE.out⟩
end Go.Proofs.YtphbichgpcicnaaGreatDoor
