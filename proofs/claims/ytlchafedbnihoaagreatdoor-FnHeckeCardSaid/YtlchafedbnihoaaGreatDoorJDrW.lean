/- What is drawn: a word with its letters. Condition: at most 16 points. -/
import Derived.Test.YtlchafedbnihoaaGreatDoorJGDrA
namespace Go.Proofs.YtlchafedbnihoaaGreatDoor
open Go.RowKit
set_option maxRecDepth 20000
set_option maxHeartbeats 16000000
theorem zGY {w:World} {g n cap m:Nat} {a:Option Addr} (h:Cur w g) (hn:n≤16) (hm:m≤100) :
  Calls Tryz.prog 70 #[.pointer (some ⟨g,0,none⟩),.slice a n cap,.int .i64 m] w fun e w'=>∃r,e=.returned r∧∃l:List Int,FI (New w w') w' r l∧l.length≤m∧(∀y∈l,0≤y∧y<((max 1 n:Nat):Int))∧Cur w' g∧w.grownBy w' (some g):=by
 have hgl:=h.lt;obtain ⟨M,hM⟩:∃M:Nat,M=max 1 n:=⟨_,rfl⟩;have hM1:1≤M∧M≤256:=by omega
 have HM:Hid (max (1:Int) (n:Int)=(M:Int)):=zNg (by omega);clear hM;obtain ⟨hM1,hM2⟩:=hM1;go_enter Tryz.func70,Tryz.ntmps70
 go_wp2_with fail
 obtain ⟨w1,hw1⟩:∃w1,w1=w.alloc (.cells #[] 3):=⟨_,rfl⟩;obtain ⟨f1,b1⟩:=zAa (Below.refl _ w) hw1;rw [<-hw1];clear hw1;have hc1:=h.below b1;have e1:(m:Int)+1=((m+1:Nat):Int):=by omega
 rw [e1];refine (zAq hc1 (by omega) (by omega)).mono ?_;rintro e w2 ⟨x,hx,rfl,hc2,hg2⟩;obtain ⟨W0,hB⟩:=((Bs.start w g).below b1).turn hgl hg2;have f2:FI (New W0 w2) w2 (.slice (some ⟨w.heap.size,0,none⟩) 0 0) []:=by
  rw [hB.new];exact f1.turn hg2 hgl
 have HX:=zNg (show x≤m by omega);clear f1 b1 hc1 e1 h hx;go_wp2_with fail
 go_loopw [7,8] (fun zz j wr=>∃(k:Nat) (z:Value) (acc:List Int) (W0:World),z=zz∧k≤x∧j=.int .i64 k∧FI (New W0 wr) wr z acc∧Hid (acc.length+k=x∧∀y∈acc,0≤y∧y<((max 1 n:Nat):Int))∧Cur wr g∧Hid (Bs w g W0 wr)) (fun _ j _=>(intOf j).toNat)
 case atStart=>exact ⟨x,_,[],W0,rfl,zNl _,rfl,f2,zNg ⟨by simp,fun y hy=>by simp at hy⟩,hc2,zNg hB⟩
 case round =>
  clear hB f2 hg2 hc2;obtain ⟨k,z,acc,W0,rfl,hk,rfl,hf,HA,hc,HB⟩:=hrel;rcases k with _ | k
  ·have i1:¬((0:Nat):Int) > 0:=by omega
   go_wp2_with fail
   go_ret
   exact ⟨_,rfl,acc,by rw [<-HB.out.new]; exact hf,by have:=HA.out.1; have:=HX.out; omega,HA.out.2,hc,HB.out.all⟩
  ·have i1:((k+1:Nat):Int) > 0:=by omega
   have i2:((k+1:Nat):Int)-1=(k:Int):=by omega
   have hW:W0.heap.size=w.heap.size:=HB.out.size;have hk100:k+1≤100:=by have:=HX.out; omega
   by_cases hn1:1<n
   ·have i3:(1:Int)<(n:Int):=by omega
    go_wp2_with fail
    refine (zAq hc (n:=n) (by omega) (by omega)).mono ?_;rintro e w3 ⟨y,hy,rfl,hc3,hg3⟩;obtain ⟨W1,hB1⟩:=HB.out.turn hgl hg3;have hf3:FI (New W1 w3) w3 z acc:=by
     have:=hf.turn hg3 (by rw [hW]; exact hgl);rw [hB1.new]; rw [show New W0 w3=New w w3 by unfold New; rw [hW]] at this; exact this
    have bb:=(Below.refl w3.heap.size w3).alloc (zNl _) (.cells #[.int .i64 y] 3);have HB2:=zNg hB1;have HC3:=zNg hc3;clear hB1 hf hc3;go_wp2_with (at_builtin; go_must (refine zAG (W:=W1) rfl _ _ rfl rfl (hf3.grow bb) (HB2.out.below bb).bl rfl (RI.one w3 y) ?_ ?_))
    ·have:=HA.out.1; have:=HX.out; simp; omega
    ·intro v' w4 f4 b4 _;have hB4:Bs w g W1 w4:=⟨HB2.out.size,HB2.out.gr,b4⟩;have hc4:Cur w4 g:=HB2.out.cur hB4 hgl HC3.out;have HB5:=zNg hB4;clear hB4 HC3;go_wp2_with fail
     go_roundw
     case rel=>exact ⟨k,_,acc++[(y:Int)],W1,rfl,by omega,by go_num,f4,zNg ⟨by have:=HA.out.1; simp; omega,fun q hq=>by
      rcases List.mem_append.1 hq with hq | hq
      ·exact HA.out.2 q hq
      ·rw [List.mem_singleton] at hq; omega⟩,hc4,HB5⟩
     case measure=>first | (simp [intOf]; done) | (simp [intOf]; omega)
   ·have i3:¬(1:Int)<(n:Int):=by omega
    go_wp2_with fail
    refine (zAq hc (n:=1) (by omega) (by omega)).mono ?_;rintro e w3 ⟨y,hy,rfl,hc3,hg3⟩;obtain ⟨W1,hB1⟩:=HB.out.turn hgl hg3;have hf3:FI (New W1 w3) w3 z acc:=by
     have:=hf.turn hg3 (by rw [hW]; exact hgl);rw [hB1.new]; rw [show New W0 w3=New w w3 by unfold New; rw [hW]] at this; exact this
    have bb:=(Below.refl w3.heap.size w3).alloc (zNl _) (.cells #[.int .i64 y] 3);have HB2:=zNg hB1;have HC3:=zNg hc3;clear hB1 hf hc3;go_wp2_with (at_builtin; go_must (refine zAG (W:=W1) rfl _ _ rfl rfl (hf3.grow bb) (HB2.out.below bb).bl rfl (RI.one w3 y) ?_ ?_))
    ·have:=HA.out.1; have:=HX.out; simp; omega
    ·intro v' w4 f4 b4 _;have hB4:Bs w g W1 w4:=⟨HB2.out.size,HB2.out.gr,b4⟩;have hc4:Cur w4 g:=HB2.out.cur hB4 hgl HC3.out;have HB5:=zNg hB4;clear hB4 HC3;go_wp2_with fail
     go_roundw
     case rel=>exact ⟨k,_,acc++[(y:Int)],W1,rfl,by omega,by go_num,f4,zNg ⟨by have:=HA.out.1; simp; omega,fun q hq=>by
      rcases List.mem_append.1 hq with hq | hq
      ·exact HA.out.2 q hq
      ·rw [List.mem_singleton] at hq; omega⟩,hc4,HB5⟩
     case measure=>first | (simp [intOf]; done) | (simp [intOf]; omega)
end Go.Proofs.YtlchafedbnihoaaGreatDoor
