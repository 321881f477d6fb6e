/- Putting terms in order by their words: merging in place. Condition: at most 2^20 terms, words of at most 2^24 letters. -/
import Derived.Test.YtlchafedbnihoaaGreatDoorJGRow
namespace Go.Proofs.YtlchafedbnihoaaGreatDoor
open Go.RowKit
open Mrg
set_option maxRecDepth 20000
set_option maxHeartbeats 16000000
def SymP (blk N cap n:Nat):Prop:=∀{A X Y Z L:List El} {w:World} {a m b:Nat},RowT blk N cap w L→L=A++(X++(Y++Z))→A.length=a→A.length+X.length=m→A.length+X.length+Y.length=b→0<X.length→0<Y.length→X.length+Y.length≤n→N≤1048576→WdOk L→Srt leT X→Srt leT Y →
 Calls Tryz.prog 132 #[.slice (some ⟨blk,0,none⟩) N cap,.int .i64 a,.int .i64 m,.int .i64 b,.func (.func 92) #[] #[]] w fun e w' =>
  e=.returned (.tuple #[])∧∃M,M.Perm (X++Y)∧Srt leT M∧RowT blk N cap w' (A++(M++Z))∧w.grownBy w' (some blk)
theorem zCC {α:Type} (A Y Z:List α) {j:Nat} {y:α} (h:Y[j]? = some y):(A++(Y++Z))[A.length+j]? = some y:=by
 rw [List.getElem?_append_right (by omega),Nat.add_sub_cancel_left,List.getElem?_append_left (zNj h).1];exact h
theorem zLI {blk N cap:Nat} {A Y Z L:List El} {x:El} {w:World} {a m b:Nat} (h:RowT blk N cap w L) (hL:L=A++([x]++(Y++Z))) (ha:A.length=a) (hm:A.length+1=m) (hb:A.length+1+Y.length=b) (hN:N≤1048576) (hwd:WdOk L) (hS:Srt leT Y) :
 Calls Tryz.prog 132 #[.slice (some ⟨blk,0,none⟩) N cap,.int .i64 a,.int .i64 m,.int .i64 b,.func (.func 92) #[] #[]] w fun e w' =>
  e=.returned (.tuple #[])∧∃M,M.Perm (x::Y)∧Srt leT M∧RowT blk N cap w' (A++(M++Z))∧w.grownBy w' (some blk):=by
 have hlen:=h.1;have hbN:b≤N:=by rw [hL] at hlen; simp at hlen; omega
 have mixed:Tryz.prog.follows .mixedOrders=true:=by kernel_rfl
 have HA:=zNg ha;have HB:=zNg hb;have HWD:=zNg hwd;have h0:RowT blk N cap w (A++(ins Y 0 x++Z)):=by rw [zDd]; simpa [hL] using h
 have HL:=zNg hL;have HSY:=zNg hS;have HWL:Hid (WdOk (A++(ins Y 0 x++Z))):=zNg (by rw [zDd]; simpa [hL] using hwd);have hm1:a+1≤m:=by omega
 have hm2:m≤a+1:=by omega
 have hab:m≤b:=by omega
 have i0:((m:Int)-(a:Int) == 1)=true:=by simp; omega
 clear ha hb hL hlen h hwd hS hm;go_enter Tryz.func132,Tryz.ntmps132
 go_wp2_with fail
 go_loopw [10,11] (fun iv jv wr=>∃(I J:Nat),iv=.int .i64 (I:Int)∧jv=.int .i64 (J:Int)∧m≤I∧I≤J∧J≤b∧Hid (I=m∨∃y,Y[I-m-1]? = some y∧leT y x)∧Hid (∀y,Y[J-m]? = some y→leT x y)∧RowT blk N cap wr (A++(ins Y 0 x++Z))∧w.grownBy wr (some blk)) (fun iv jv _=>(intOf jv).toNat-(intOf iv).toNat)
 case atStart=>exact ⟨m,b,rfl,rfl,zNl _,hab,zNl _,zNg (.inl rfl),zNg (fun y hy=>by rw [List.getElem?_eq_none (by have:=HA.out; have:=HB.out; omega)] at hy; cases hy),h0,World.grownBy.refl _ _⟩
 case round =>
  obtain ⟨I,J,rfl,rfl,hI,hIJ,hJ,HI,HJ,hr,hg⟩:=hrel;by_cases hlt:I<J
  ·have i1:(I:Int)<(J:Int):=by omega
   obtain ⟨H,hH⟩:∃H:Nat,H=(I+J) / 2:=⟨_,rfl⟩;have hH1:((I:Int)+(J:Int)) / 2=(H:Int):=by omega
   have hH2:I≤H∧H<J:=by omega
   obtain ⟨v,hv⟩:∃v,H=m+v:=⟨H-m,by omega⟩;have hvY:v<Y.length:=by have:=HA.out; have:=HB.out; omega
   obtain ⟨y,hy⟩:∃y,Y[v]? = some y:=⟨_,zNh hvY⟩;have hgx:(A++(ins Y 0 x++Z))[a]? = some x:=by
    rw [zDd,<-HA.out];exact zCC A (x::Y) Z (j:=0) rfl
   have hgy:(A++(ins Y 0 x++Z))[H]? = some y:=by
    rw [zDd,show H=A.length+(v+1) by have:=HA.out; omega];exact zCC A (x::Y) Z (j:=v+1) hy
   obtain ⟨ax,lx,qx,ax',lx',qx',ex,ex'⟩:=hr.forms hgx;obtain ⟨cx,cx'⟩:=hr.cell hgx;have rx:=(hr.reads hgx).1;have hwx:x.x.length≤16777216:=hr.wds HWL.out hgx;rw [ex] at cx rx;rw [ex'] at cx';obtain ⟨ay,ly,qy,ay',ly',qy',ey,ey'⟩:=hr.forms hgy;obtain ⟨cy,cy'⟩:=hr.cell hgy;have ry:=(hr.reads hgy).1;have hwy:y.x.length≤16777216:=hr.wds HWL.out hgy;rw [ey] at cy ry;rw [ey'] at cy';have g0:=fun z:GW wr=>z.cell cx;have g1:=fun z:GW wr=>z.cell cx';have g2:=fun z:GW wr=>z.cell cy;have g3:=fun z:GW wr=>z.cell cy';have jz:(H:Int)<(N:Int):=by omega
   have jz1:(a:Int)<(N:Int):=by omega
   have HY:=zNg hy;have HV:=zNg hv;have HROW:Hid (∀w8,Below wr.heap.size wr w8→RowT blk N cap w8 (A++(ins Y 0 x++Z))):=zNg (fun w8 hb=>hr.below hb);clear hgx hgy hy hv ex ex' ey ey' hH cx cx' cy cy';by_cases hless:cmpW y.x x.x<0
   ·have hless2:=decide_eq_true hless;go_wp2_with fail
    refine zAK (by kernel_rfl) (by kernel_rfl) ?_
    repeat (go_big_quiet_step ((first | (rename_i z; go_at_call 92; exact Calls.grow z (cmpT (ry.below z.le) (rx.below z.le) hwy hwx ⟨_,_,_,rfl⟩ ⟨_,_,_,rfl⟩)))))
    refine wpQuiet_nil ?_;intro w8 hb8;have HR8:=zNg (HROW.out w8 hb8);have HG8:=zNg (Off.tr hg (Off.grown hb8));clear hb8 g0 g1 g2 g3;go_wp2_with fail
    go_roundw
    case rel=>exact ⟨H+1,J,by go_num,rfl,by omega,by omega,hJ,zNg (.inr ⟨y,by rw [show H+1-m-1=v by have:=HV.out; omega]; exact HY.out,zD5 hless⟩),HJ,HR8.out,HG8.out⟩
    case measure=>simp [intOf]; omega
   ·have hless2:=decide_eq_false hless;go_wp2_with fail
    refine zAK (by kernel_rfl) (by kernel_rfl) ?_
    repeat (go_big_quiet_step ((first | (rename_i z; go_at_call 92; exact Calls.grow z (cmpT (ry.below z.le) (rx.below z.le) hwy hwx ⟨_,_,_,rfl⟩ ⟨_,_,_,rfl⟩)))))
    refine wpQuiet_nil ?_;intro w8 hb8;have HR8:=zNg (HROW.out w8 hb8);have HG8:=zNg (Off.tr hg (Off.grown hb8));clear hb8 g0 g1 g2 g3;go_wp2_with fail
    go_roundw
    case rel=>exact ⟨I,H,rfl,rfl,hI,by omega,by omega,HI,zNg (fun y' hy'=>by
     rw [show H-m=v by have:=HV.out; omega,HY.out] at hy';cases hy';exact zDM (by omega)),HR8.out,HG8.out⟩
    case measure=>simp [intOf]; omega
  ·obtain rfl:I=J:=by omega
   have i1:¬(I:Int)<(I:Int):=by omega
   have HP:Hid (Srt leT (ins Y (I-m) x)):=zNg (zFu zBm HSY.out (by
    rcases HI.out with h | h
    ·exact .inl (by omega)
    ·exact .inr h) HJ.out)
   have hsub:(I:Int)-1=((I-1:Nat):Int):=by omega
   have hYI:I-m≤Y.length:=by have:=HA.out; have:=HB.out; omega
   clear HI HJ;go_wp2_with fail
   go_loopw [13] (fun kv wr=>∃(t:Nat),kv=.int .i64 ((a:Int)+(t:Int))∧t≤I-m∧RowT blk N cap wr (A++(ins Y t x++Z))∧w.grownBy wr (some blk)) (fun kv _=>I-(intOf kv).toNat)
   case atStart=>exact ⟨0,by go_num,Nat.zero_le _,hr,hg⟩
   case round =>
    obtain ⟨t,rfl,ht,hr,hg⟩:=hrel;by_cases htI:t<I-m
    ·have i2:(a:Int)+(t:Int)<(I:Int)-1:=by omega
     obtain ⟨k,hk⟩:∃k,a+t=k:=⟨_,rfl⟩;have hk1:(a:Int)+(t:Int)=(k:Int):=by omega
     obtain ⟨y,hy⟩:∃y,Y[t]? = some y:=⟨_,zNh (by omega)⟩;have hst:=zEs A Z (x:=x) hy;rw [HA.out,hk] at hst;obtain ⟨hgx,hgy,hset,_⟩:=hst;obtain ⟨ax,lx,qx,ax',lx',qx',ex,ex'⟩:=hr.forms hgx;obtain ⟨ay,ly,qy,ay',ly',qy',ey,ey'⟩:=hr.forms hgy;obtain ⟨dx,dx'⟩:=hr.cell hgx;obtain ⟨dy,dy'⟩:=hr.cell hgy;have hsw:=hr.swap hgx hgy;rw [hset,ex,ex',ey,ey'] at hsw;rw [ex] at dx;rw [ex'] at dx';rw [ey] at dy;rw [ey'] at dy';have f0:=hr.froz (k*2);have f1:=hr.froz (k*2+1);have f2:=hr.froz ((k+1)*2);have f3:=hr.froz ((k+1)*2+1);have HSW:=zNg hsw;have jz:(k:Int)+1<(N:Int):=by omega
     have jz1:(k:Int)<(N:Int):=by omega
     have i3:(k:Int)<(I:Int)-1:=by omega
     have p0:(0:Int)≤(k:Int)+1:=by omega
     have e0:((k:Int)+1).toNat=k+1:=by omega
     have HK:=zNg hk;clear hsw hgx hgy hset hy ex ex' ey ey' i2;rw [hk1];clear hk hk1;go_wp2_with fail
     go_big_region_o
     go_wp2_with fail
     go_roundw
     case rel=>exact ⟨t+1,by have:=HK.out; go_num,by omega,HSW.out.1.drew,Off.tr hg (Off.drewG HSW.out.2)⟩
     case measure=>have:=HK.out; simp [intOf]; omega
    ·have i2:¬(a:Int)+(t:Int)<(I:Int)-1:=by omega
     have HT:Hid (t=I-m):=zNg (by omega);rw [HT.out] at hr;go_wp2_with fail
     (try simp only [Exit.inBlock,Exit.then])
     refine bodyPost_ret (results_none rfl _ _ _) rfl ?_;exact ⟨rfl,_,zEr Y _ x,HP.out,hr,hg⟩
theorem zKa {blk N cap:Nat} {A X Z L:List El} {y:El} {w:World} {a m b:Nat} (h:RowT blk N cap w L) (hL:L=A++(X++([y]++Z))) (ha:A.length=a) (hm:A.length+X.length=m) (hb:A.length+X.length+1=b) (h2:2≤X.length) (hN:N≤1048576) (hwd:WdOk L) (hS:Srt leT X) :
 Calls Tryz.prog 132 #[.slice (some ⟨blk,0,none⟩) N cap,.int .i64 a,.int .i64 m,.int .i64 b,.func (.func 92) #[] #[]] w fun e w' =>
  e=.returned (.tuple #[])∧∃M,M.Perm (X++[y])∧Srt leT M∧RowT blk N cap w' (A++(M++Z))∧w.grownBy w' (some blk):=by
 have hlen:=h.1;have hbN:b≤N:=by rw [hL] at hlen; simp at hlen; omega
 have mixed:Tryz.prog.follows .mixedOrders=true:=by kernel_rfl
 have HA:=zNg ha;have HB:=zNg hm;have HWD:=zNg hwd;have h0:RowT blk N cap w (A++(ins X X.length y++Z)):=by rw [zDL]; simpa [hL] using h
 have HL:=zNg hL;have HSY:=zNg hS;have HWL:Hid (WdOk (A++(ins X X.length y++Z))):=zNg (by rw [zDL]; simpa [hL] using hwd);have hm1:a+2≤m:=by omega
 have hb1:m+1≤b:=by omega
 have hb2:b≤m+1:=by omega
 have i0:((m:Int)-(a:Int) == 1)=false:=by simp; omega
 have i0b:((b:Int)-(m:Int) == 1)=true:=by simp; omega
 clear ha hb hL hlen h hwd hS hm h2;go_enter Tryz.func132,Tryz.ntmps132
 go_wp2_with fail
 go_loopw [14,15] (fun iv jv wr=>∃(I J:Nat),iv=.int .i64 (I:Int)∧jv=.int .i64 (J:Int)∧a≤I∧I≤J∧J≤m∧Hid (I=a∨∃x,X[I-a-1]? = some x∧leT x y)∧Hid (∀x,X[J-a]? = some x→leT y x)∧RowT blk N cap wr (A++(ins X X.length y++Z))∧w.grownBy wr (some blk)) (fun iv jv _=>(intOf jv).toNat-(intOf iv).toNat)
 case atStart=>exact ⟨a,m,rfl,rfl,zNl _,by omega,zNl _,zNg (.inl rfl),zNg (fun x hx=>by rw [List.getElem?_eq_none (by have:=HA.out; have:=HB.out; omega)] at hx; cases hx),h0,World.grownBy.refl _ _⟩
 case round =>
  obtain ⟨I,J,rfl,rfl,hI,hIJ,hJ,HI,HJ,hr,hg⟩:=hrel;by_cases hlt:I<J
  ·have i1:(I:Int)<(J:Int):=by omega
   obtain ⟨H,hH⟩:∃H:Nat,H=(I+J) / 2:=⟨_,rfl⟩;have hH1:((I:Int)+(J:Int)) / 2=(H:Int):=by omega
   have hH2:I≤H∧H<J:=by omega
   obtain ⟨v,hv⟩:∃v,H=a+v:=⟨H-a,by omega⟩;have hvX:v<X.length:=by have:=HA.out; have:=HB.out; omega
   obtain ⟨x,hx⟩:∃x,X[v]? = some x:=⟨_,zNh hvX⟩;have hgy:(A++(ins X X.length y++Z))[m]? = some y:=by
    rw [zDL,<-HB.out];exact zCC A (X++[y]) Z (j:=X.length) (by simp)
   have hgx:(A++(ins X X.length y++Z))[H]? = some x:=by
    rw [zDL,hv,<-HA.out];exact zCC A (X++[y]) Z (j:=v) (by rw [List.getElem?_append_left hvX]; exact hx)
   obtain ⟨ax,lx,qx,ax',lx',qx',ex,ex'⟩:=hr.forms hgx;obtain ⟨cx,cx'⟩:=hr.cell hgx;have rx:=(hr.reads hgx).1;have hwx:x.x.length≤16777216:=hr.wds HWL.out hgx;rw [ex] at cx rx;rw [ex'] at cx';obtain ⟨ay,ly,qy,ay',ly',qy',ey,ey'⟩:=hr.forms hgy;obtain ⟨cy,cy'⟩:=hr.cell hgy;have ry:=(hr.reads hgy).1;have hwy:y.x.length≤16777216:=hr.wds HWL.out hgy;rw [ey] at cy ry;rw [ey'] at cy';have g0:=fun z:GW wr=>z.cell cx;have g1:=fun z:GW wr=>z.cell cx';have g2:=fun z:GW wr=>z.cell cy;have g3:=fun z:GW wr=>z.cell cy';have jz:(H:Int)<(N:Int):=by omega
   have jz1:(m:Int)<(N:Int):=by omega
   have HY:=zNg hx;have HV:=zNg hv;have HROW:Hid (∀w8,Below wr.heap.size wr w8→RowT blk N cap w8 (A++(ins X X.length y++Z))):=zNg (fun w8 hb=>hr.below hb);clear hgx hgy hx hv ex ex' ey ey' hH cx cx' cy cy';by_cases hless:cmpW y.x x.x<0
   ·have hless2:=decide_eq_true hless;go_wp2_with fail
    refine zAK (by kernel_rfl) (by kernel_rfl) ?_
    repeat (go_big_quiet_step ((first | (rename_i z; go_at_call 92; exact Calls.grow z (cmpT (ry.below z.le) (rx.below z.le) hwy hwx ⟨_,_,_,rfl⟩ ⟨_,_,_,rfl⟩)))))
    refine wpQuiet_nil ?_;intro w8 hb8;have HR8:=zNg (HROW.out w8 hb8);have HG8:=zNg (Off.tr hg (Off.grown hb8));clear hb8 g0 g1 g2 g3;go_wp2_with fail
    go_roundw
    case rel=>exact ⟨I,H,rfl,rfl,hI,by omega,by omega,HI,zNg (fun x' hx'=>by
     rw [show H-a=v by have:=HV.out; omega,HY.out] at hx';cases hx';exact zD5 hless),HR8.out,HG8.out⟩
    case measure=>simp [intOf]; omega
   ·have hless2:=decide_eq_false hless;go_wp2_with fail
    refine zAK (by kernel_rfl) (by kernel_rfl) ?_
    repeat (go_big_quiet_step ((first | (rename_i z; go_at_call 92; exact Calls.grow z (cmpT (ry.below z.le) (rx.below z.le) hwy hwx ⟨_,_,_,rfl⟩ ⟨_,_,_,rfl⟩)))))
    refine wpQuiet_nil ?_;intro w8 hb8;have HR8:=zNg (HROW.out w8 hb8);have HG8:=zNg (Off.tr hg (Off.grown hb8));clear hb8 g0 g1 g2 g3;go_wp2_with fail
    go_roundw
    case rel=>exact ⟨H+1,J,by go_num,rfl,by omega,by omega,hJ,zNg (.inr ⟨x,by rw [show H+1-a-1=v by have:=HV.out; omega]; exact HY.out,zDM (by omega)⟩),HJ,HR8.out,HG8.out⟩
    case measure=>simp [intOf]; omega
  ·obtain rfl:I=J:=by omega
   have i1:¬(I:Int)<(I:Int):=by omega
   have HP:Hid (Srt leT (ins X (I-a) y)):=zNg (zFu zBm HSY.out (by
    rcases HI.out with h | h
    ·exact .inl (by omega)
    ·exact .inr h) HJ.out)
   have hXm:X.length+a≤m∧m≤X.length+a:=by have:=HA.out; have:=HB.out; omega
   obtain ⟨hXm1,hXm2⟩:=hXm;clear HI HJ;go_wp2_with fail
   go_loopw [17] (fun kv wr=>∃(K:Nat),kv=.int .i64 (K:Int)∧I≤K∧K≤m∧RowT blk N cap wr (A++(ins X (K-a) y++Z))∧w.grownBy wr (some blk)) (fun kv _=>(intOf kv).toNat)
   case atStart=>exact ⟨m,rfl,by omega,zNl _,by rw [show m-a=X.length by omega]; exact hr,hg⟩
   case round =>
    obtain ⟨K,rfl,hK1,hK2,hr,hg⟩:=hrel;by_cases htI:I<K
    ·obtain ⟨k,rfl⟩:∃k,K=k+1:=⟨K-1,by omega⟩;have i2:(I:Int)<(k:Int)+1:=by omega
     obtain ⟨x,hx⟩:∃x,X[k-a]? = some x:=⟨_,zNh (by omega)⟩;have hst:=zEs A Z (x:=y) hx;rw [show A.length+(k-a)=k by have:=HA.out; omega,show k-a+1=k+1-a by omega] at hst;obtain ⟨_,_,_,hset,hgx,hgy⟩:=hst;obtain ⟨ax,lx,qx,ax',lx',qx',ex,ex'⟩:=hr.forms hgx;obtain ⟨ay,ly,qy,ay',ly',qy',ey,ey'⟩:=hr.forms hgy;obtain ⟨dx,dx'⟩:=hr.cell hgx;obtain ⟨dy,dy'⟩:=hr.cell hgy;have hsw:=hr.swap hgy hgx;rw [hset,ex,ex',ey,ey'] at hsw;rw [ex] at dx;rw [ex'] at dx';rw [ey] at dy;rw [ey'] at dy';have f0:=hr.froz (k*2);have f1:=hr.froz (k*2+1);have f2:=hr.froz ((k+1)*2);have f3:=hr.froz ((k+1)*2+1);have HSW:=zNg hsw;have jz:(k:Int)+1<(N:Int):=by omega
     have jz1:(k:Int)<(N:Int):=by omega
     have p0:(0:Int)≤(k:Int)+1:=by omega
     have e0:((k:Int)+1).toNat=k+1:=by omega
     clear hsw hgx hgy hset hx ex ex' ey ey';go_wp2_with fail
     go_big_region_o
     go_wp2_with fail
     go_roundw
     case rel=>exact ⟨k,by go_num,by omega,by omega,HSW.out.1.drew,Off.tr hg (Off.drewG HSW.out.2)⟩
     case measure=>simp [intOf]
    ·have i2:¬(I:Int)<(K:Int):=by omega
     have HT:Hid (K=I):=zNg (by omega);rw [HT.out] at hr;go_wp2_with fail
     (try simp only [Exit.inBlock,Exit.then])
     refine bodyPost_ret (results_none rfl _ _ _) rfl ?_;exact ⟨rfl,_,(zEr X _ y).trans (List.perm_append_comm (l₁:=[y])),HP.out,hr,hg⟩
theorem zAM {Y:List El} (h:Srt leT Y) {X:List El} (hx:X=[]):Srt leT (X++Y):=by subst hx; exact h
theorem zAI {X:List El} (h:Srt leT X) {Y:List El} (hy:Y=[]):Srt leT (X++Y):=by subst hy; rw [List.append_nil]; exact h
theorem zAE {X:List El} (h:X.length=0):X=[]:=List.eq_nil_of_length_eq_zero h
theorem zAb {X X1 X2:List El} (e:X1++X2=X) (h:Srt leT X):Srt leT X1:=by subst e; exact (List.pairwise_append.1 h).1
theorem zAC {X X1 X2:List El} (e:X1++X2=X) (h:Srt leT X):Srt leT X2:=by subst e; exact (List.pairwise_append.1 h).2.1
theorem zHQ {A Z X1 X2 Y1 Y2 M1:List El} (h:M1.Perm (X1++Y1)):(A++(M1++(X2++(Y2++Z)))).Perm (A++((X1++X2)++((Y1++Y2)++Z))):=by
 refine List.Perm.append_left A ?_;have e1:M1++(X2++(Y2++Z))=(M1++X2)++(Y2++Z):=by simp
 have e2:(X1++X2)++((Y1++Y2)++Z)=(X1++(X2++Y1))++(Y2++Z):=by simp
 rw [e1,e2];refine List.Perm.append_right _ ?_;refine (h.append_right X2).trans ?_;rw [List.append_assoc];exact List.Perm.append_left _ List.perm_append_comm
theorem zCD {A Z X1 X2 Y1 Y2:List El}:(A++(X1++(Y1++(X2++(Y2++Z))))).Perm (A++((X1++X2)++((Y1++Y2)++Z))):=by
 have:=zHQ (A:=A) (Z:=Z) (X1:=X1) (X2:=X2) (Y1:=Y1) (Y2:=Y2) (List.Perm.refl _);rwa [List.append_assoc X1] at this
theorem zAh {A Z X1 X2 Y1 Y2 M1:List El} (h:M1.Perm (X1++Y1)):((A++M1)++(X2++(Y2++Z))).Perm (A++((X1++X2)++((Y1++Y2)++Z))):=by
 rw [List.append_assoc A];exact zHQ h
theorem zMk {blk N cap n:Nat} (ih:SymP blk N cap n) {A X Y Z L:List El} {w:World} {a m b:Nat} (h:RowT blk N cap w L) (hL:L=A++(X++(Y++Z))) (ha:A.length=a) (hm:A.length+X.length=m) (hb:A.length+X.length+Y.length=b) (hX:2≤X.length) (hY:2≤Y.length) (hn:X.length+Y.length≤n+1) (hN:N≤1048576) (hwd:WdOk L) (hSX:Srt leT X) (hSY:Srt leT Y) :
 Calls Tryz.prog 132 #[.slice (some ⟨blk,0,none⟩) N cap,.int .i64 a,.int .i64 m,.int .i64 b,.func (.func 92) #[] #[]] w fun e w' =>
  e=.returned (.tuple #[])∧∃M,M.Perm (X++Y)∧Srt leT M∧RowT blk N cap w' (A++(M++Z))∧w.grownBy w' (some blk):=by
 have hlen:=h.1;have hbN:b≤N:=by rw [hL] at hlen; simp at hlen; omega
 have mixed:Tryz.prog.follows .mixedOrders=true:=by kernel_rfl
 have HA:=zNg ha;have HM:=zNg hm;have HB:=zNg hb;have HNN:=zNg hn;have HWD:=zNg hwd;have HL:=zNg hL;have HSX:=zNg hSX;have HSY:=zNg hSY;have hm1:a+2≤m:=by omega
 have hb1:m+2≤b:=by omega
 have i0:((m:Int)-(a:Int) == 1)=false:=by simp; omega
 have i0b:((b:Int)-(m:Int) == 1)=false:=by simp; omega
 obtain ⟨D,hD⟩:∃D:Nat,D=(a+b) / 2:=⟨_,rfl⟩;have hD1:((a:Int)+(b:Int)) / 2=(D:Int):=by omega
 have hD2:2*D≤a+b:=by omega
 have hD3:a+b≤2*D+1:=by omega
 obtain ⟨E,hE⟩:∃E:Nat,E=D+m:=⟨_,rfl⟩;have hE1:(D:Int)+(m:Int)=(E:Int):=by omega
 have hE2:E≤D+m:=by omega
 have hE3:D+m≤E:=by omega
 obtain ⟨Q,hQ⟩:∃Q:Nat,Q=E-1:=⟨_,rfl⟩;have hQ1:(E:Int)-1=(Q:Int):=by omega
 have hQ2:Q+1≤E:=by omega
 have hQ3:E≤Q+1:=by omega
 clear hD hE hQ ha hm hb hL hlen hwd hSX hSY hX hY hn;by_cases hmd:D<m
 ·have k0:(D:Int)<(m:Int):=by omega
  obtain ⟨lo,hlo⟩:∃lo:Nat,lo=E-b:=⟨_,rfl⟩;obtain ⟨hi,hhi⟩:∃hi:Nat,hi=D:=⟨_,rfl⟩;have hlo1:(E:Int)-(b:Int)=(lo:Int):=by omega
  have HLO:Hid (lo=a∨E-lo=b):=zNg (.inr (by omega));have HHI:Hid (hi=m∨E-hi=m):=zNg (.inr (by omega));have b1:a≤lo:=by omega
  have b2:hi≤m:=by omega
  have b3:E≤b+lo:=by omega
  have b4:m+hi≤E:=by omega
  have b5:lo≤hi:=by omega
  have b6:hi≤D:=by omega
  have HLH:=zNg (show (E:Int)-(b:Int)=(lo:Int)∧hi=D from ⟨by omega,hhi⟩);clear hlo hhi;go_enter Tryz.func132,Tryz.ntmps132
  go_wp2_with fail
  go_loopw [20,21] (fun sv rv wr=>∃(s r:Nat),sv=.int .i64 (s:Int)∧rv=.int .i64 (r:Int)∧lo≤s∧s≤r∧r≤hi∧Hid (s=lo∨∃x y,X[s-1-a]? = some x∧Y[E-s-m]? = some y∧a+1≤s∧leT x y)∧Hid (r=hi∨∃x y,X[r-a]? = some x∧Y[E-1-r-m]? = some y∧m+r+1≤E∧leT y x)∧RowT blk N cap wr L∧w.grownBy wr (some blk)) (fun sv rv _=>(intOf rv).toNat-(intOf sv).toNat)
  case atStart=>exact ⟨lo,hi,by first | rfl | (rw [HLH.out.1]),by first | rfl | (rw [HLH.out.2]),zNl _,b5,zNl _,zNg (.inl rfl),zNg (.inl rfl),h,World.grownBy.refl _ _⟩
  case round =>
   obtain ⟨s,r,rfl,rfl,hs1,hs2,hs3,HS0,HR0,hr,hg⟩:=hrel;by_cases hlt:s<r
   ·have i1:(s:Int)<(r:Int):=by omega
    obtain ⟨C,hC⟩:∃C:Nat,C=(s+r) / 2:=⟨_,rfl⟩;have hC1:((s:Int)+(r:Int)) / 2=(C:Int):=by omega
    have hC2:s≤C∧C<r:=by omega
    obtain ⟨G,hG⟩:∃G:Nat,G=Q-C:=⟨_,rfl⟩;have hG1:(Q:Int)-(C:Int)=(G:Int):=by omega
    have hG2:m≤G∧G<b:=by omega
    obtain ⟨x,hx⟩:∃x,X[C-a]? = some x:=⟨_,zNh (by have:=HA.out; have:=HM.out; omega)⟩;obtain ⟨y,hy⟩:∃y,Y[G-m]? = some y:=⟨_,zNh (by have:=HA.out; have:=HM.out; have:=HB.out; omega)⟩;have hgx:L[C]? = some x:=by
     have:=zCC A X (Y++Z) hx;rw [show A.length+(C-a)=C by have:=HA.out; omega] at this;rw [HL.out]; exact this
    have hgy:L[G]? = some y:=by
     have:=zCC (A++X) Y Z hy;rw [List.length_append,show A.length+X.length+(G-m)=G by have:=HM.out; omega] at this;rw [HL.out]; simpa using this
    obtain ⟨ax,lx,qx,ax',lx',qx',ex,ex'⟩:=hr.forms hgx;obtain ⟨cx,cx'⟩:=hr.cell hgx;have rx:=(hr.reads hgx).1;have hwx:x.x.length≤16777216:=hr.wds HWD.out hgx;rw [ex] at cx rx;rw [ex'] at cx';obtain ⟨ay,ly,qy,ay',ly',qy',ey,ey'⟩:=hr.forms hgy;obtain ⟨cy,cy'⟩:=hr.cell hgy;have ry:=(hr.reads hgy).1;have hwy:y.x.length≤16777216:=hr.wds HWD.out hgy;rw [ey] at cy ry;rw [ey'] at cy';have g0:=fun z:GW wr=>z.cell cx;have g1:=fun z:GW wr=>z.cell cx';have g2:=fun z:GW wr=>z.cell cy;have g3:=fun z:GW wr=>z.cell cy';have jz:(C:Int)<(N:Int):=by omega
    have jz1:(G:Int)<(N:Int):=by omega
    have HX:=zNg hx;have HY:=zNg hy;have HG:=zNg hG;have HROW:Hid (∀w8,Below wr.heap.size wr w8→RowT blk N cap w8 L):=zNg (fun w8 hb=>hr.below hb);obtain ⟨hC3,hC4⟩:=hC2;clear hgx hgy hx hy ex ex' ey ey' hC hG cx cx' cy cy' hG2;by_cases hless:cmpW y.x x.x<0
    ·have hless2:=decide_eq_true hless;go_wp2_with fail
     refine zAK (by kernel_rfl) (by kernel_rfl) ?_
     repeat (go_big_quiet_step ((first | (rename_i z; go_at_call 92; exact Calls.grow z (cmpT (ry.below z.le) (rx.below z.le) hwy hwx ⟨_,_,_,rfl⟩ ⟨_,_,_,rfl⟩)))))
     refine wpQuiet_nil ?_;intro w8 hb8;have HR8:=zNg (HROW.out w8 hb8);have HG8:=zNg (Off.tr hg (Off.grown hb8));clear hb8 g0 g1 g2 g3;go_wp2_with fail
     go_roundw
     case rel=>exact ⟨s,C,rfl,rfl,hs1,by omega,by omega,HS0,zNg (.inr ⟨x,y,HX.out,by rw [show E-1-C-m=G-m by have:=HG.out; omega]; exact HY.out,by omega,zD5 hless⟩),HR8.out,HG8.out⟩
     case measure=>simp [intOf]; omega
    ·have hless2:=decide_eq_false hless;go_wp2_with fail
     refine zAK (by kernel_rfl) (by kernel_rfl) ?_
     repeat (go_big_quiet_step ((first | (rename_i z; go_at_call 92; exact Calls.grow z (cmpT (ry.below z.le) (rx.below z.le) hwy hwx ⟨_,_,_,rfl⟩ ⟨_,_,_,rfl⟩)))))
     refine wpQuiet_nil ?_;intro w8 hb8;have HR8:=zNg (HROW.out w8 hb8);have HG8:=zNg (Off.tr hg (Off.grown hb8));clear hb8 g0 g1 g2 g3;go_wp2_with fail
     go_roundw
     case rel=>exact ⟨C+1,r,by go_num,rfl,by omega,by omega,hs3,zNg (.inr ⟨x,y,by rw [show C+1-1-a=C-a by omega]; exact HX.out,by rw [show E-(C+1)-m=G-m by have:=HG.out; omega]; exact HY.out,by omega,zDM (by omega)⟩),HR0,HR8.out,HG8.out⟩
     case measure=>simp [intOf]; omega
   ·obtain rfl:s=r:=by omega
    have i1:¬(s:Int)<(s:Int):=by omega
    obtain ⟨F,hF⟩:∃F:Nat,F=E-s:=⟨_,rfl⟩;have hF1:(E:Int)-(s:Int)=(F:Int):=by omega
    have hF2:m≤F∧F≤b:=by omega
    have hF3:F+s≤D+m:=by omega
    have hF4:D+m≤F+s:=by omega
    obtain ⟨hF5,hF6⟩:=hF2;have HXe:Hid (X.take (s-a)++X.drop (s-a)=X):=zNg (List.take_append_drop _ _);have HYe:Hid (Y.take (F-m)++Y.drop (F-m)=Y):=zNg (List.take_append_drop _ _);have HX1:Hid ((X.take (s-a)).length=s-a):=zNg (by have:=HA.out; have:=HM.out; simp; omega);have HX2:Hid ((X.drop (s-a)).length=m-s):=zNg (by have:=HA.out; have:=HM.out; simp; omega);have HY1:Hid ((Y.take (F-m)).length=F-m):=zNg (by have:=HA.out; have:=HM.out; have:=HB.out; simp; omega);have HY2:Hid ((Y.drop (F-m)).length=b-F):=zNg (by have:=HA.out; have:=HM.out; have:=HB.out; simp; omega);have H12:Hid (∀p∈X.take (s-a),∀q∈Y.drop (F-m),leT p q):=zNg (by
     rcases HS0.out with e | ⟨x,y,hx,hy,h1,hle⟩
     ·rcases HLO.out with e2 | e2
      ·rw [zAE (X:=X.take (s-a)) (by have:=HX1.out; omega)]; intro p hp; cases hp
      ·rw [zAE (X:=Y.drop (F-m)) (by have:=HY2.out; omega)]; intro p hp q hq; cases hq
     ·have:=zGf zBm HSX.out HSY.out hx hy hle;rw [show s-1-a+1=s-a by omega,show E-s-m=F-m by omega] at this;exact this)
    have H21:Hid (∀p∈Y.take (F-m),∀q∈X.drop (s-a),leT p q):=zNg (by
     rcases HR0.out with e | ⟨x,y,hx,hy,h1,hle⟩
     ·rcases HHI.out with e2 | e2
      ·rw [zAE (X:=X.drop (s-a)) (by have:=HX2.out; omega)]; intro p hp q hq; cases hq
      ·rw [zAE (X:=Y.take (F-m)) (by have:=HY1.out; omega)]; intro p hp; cases hp
     ·have:=zGf zBm HSY.out HSX.out hy hx hle;rw [show E-1-s-m+1=F-m by omega] at this;exact this)
    generalize X.take (s-a)=X1 at *;generalize X.drop (s-a)=X2 at *;generalize Y.take (F-m)=Y1 at *;generalize Y.drop (F-m)=Y2 at *;clear HS0 HR0 HLO HHI hF;by_cases hrot:s<m∧m<F
    ·have j0:(s:Int)<(m:Int):=by omega
     have j1:(m:Int)<(F:Int):=by omega
     go_wp2_with fail
     refine (zIe (A:=A++X1) (X:=X2) (Y:=Y1) (Z:=Y2++Z) hr (by rw [HL.out,<-HXe.out,<-HYe.out]; simp) (by rw [List.length_append]; have:=HX1.out; have:=HA.out; omega) (by rw [List.length_append]; have:=HX1.out; have:=HX2.out; have:=HA.out; omega) (by rw [List.length_append]; have:=HX1.out; have:=HX2.out; have:=HY1.out; have:=HA.out; omega) (by have:=HX2.out; omega) (by have:=HY1.out; omega) hN).mono ?_;rintro e w5 ⟨rfl,hr5,hg5⟩;have hr5':RowT blk N cap w5 (A++(X1++(Y1++(X2++(Y2++Z))))):=by simpa using hr5
     have hg5':=Off.tr hg hg5;clear hr5 hg5 j0 j1;by_cases hLf:a<s∧s<D
     ·have j2:(a:Int)<(s:Int):=by omega
      have j3:(s:Int)<(D:Int):=by omega
      go_wp2_with fail
      refine (ih (A:=A) (X:=X1) (Y:=Y1) (Z:=X2++(Y2++Z)) hr5' rfl HA.out (by have:=HX1.out; have:=HA.out; omega) (by have:=HX1.out; have:=HY1.out; have:=HA.out; omega) (by have:=HX1.out; omega) (by have:=HY1.out; omega) (by have:=HX1.out; have:=HY1.out; have:=HNN.out; have:=HA.out; have:=HM.out; have:=HB.out; omega) hN (zAS HWD.out (by rw [HL.out,<-HXe.out,<-HYe.out]; exact zCD)) (zAb HXe.out HSX.out) (zAb HYe.out HSY.out)).mono ?_;rintro e w6 ⟨rfl,M1,hP1,hS1,hr6,hg6⟩;have hr6':RowT blk N cap w6 ((A++M1)++(X2++(Y2++Z))):=by simpa using hr6
      have hg6':=Off.tr hg5' hg6;clear hr6 hg6 j2 j3;by_cases hR:D<F∧F<b
      ·have j4:(D:Int)<(F:Int):=by omega
       have j5:(F:Int)<(b:Int):=by omega
       go_wp2_with fail
       all_goals
        refine (ih (A:=A++M1) (X:=X2) (Y:=Y2) (Z:=Z) hr6' (by simp) (by rw [List.length_append,(hP1).length_eq,List.length_append]; have:=HX1.out; have:=HY1.out; have:=HA.out; omega) (by rw [List.length_append,(hP1).length_eq,List.length_append]; have:=HX1.out; have:=HY1.out; have:=HX2.out; have:=HA.out; omega) (by rw [List.length_append,(hP1).length_eq,List.length_append]; have:=HX1.out; have:=HY1.out; have:=HX2.out; have:=HY2.out; have:=HA.out; omega) (by have:=HX2.out; omega) (by have:=HY2.out; omega) (by have:=HX2.out; have:=HY2.out; have:=HNN.out; have:=HA.out; have:=HM.out; have:=HB.out; omega) hN (zAS HWD.out (by rw [HL.out,<-HXe.out,<-HYe.out]; exact zAh hP1)) (zAC HXe.out HSX.out) (zAC HYe.out HSY.out)).mono ?_;rintro e w7 ⟨rfl,M2,hP2,hS2,hr7,hg7⟩
        have hfin:=zAH (le:=leT) (X1:=X1) (X2:=X2) (Y1:=Y1) (Y2:=Y2) (M1:=M1) (M2:=M2) (by rw [HXe.out]; exact HSX.out) (by rw [HYe.out]; exact HSY.out) H12.out H21.out hP1 hP2 hS1 hS2;rw [HXe.out,HYe.out] at hfin;have HFIN:=zNg hfin;clear hfin;go_wp2_with fail
        all_goals first | go_end0 | ((try simp only [Exit.inBlock,Exit.then]); refine bodyPost_ret (results_none rfl _ _ _) rfl ?_)
        all_goals exact ⟨rfl,_,HFIN.out.2,HFIN.out.1,by simpa using hr7,(Off.tr hg6' hg7)⟩
      ·have HS2:Hid (Srt leT (X2++Y2)):=zNg (by
        by_cases hF:F<b
        ·exact zAM (zAC HYe.out HSY.out) (zAE (by have:=HX2.out; omega))
        ·exact zAI (zAC HXe.out HSX.out) (zAE (by have:=HY2.out; omega)))
       have HRow:=zNg hr6';have HG:=zNg hg6';by_cases hF:D<F
       ·have j4:(D:Int)<(F:Int):=by omega
        have j5:¬(F:Int)<(b:Int):=by omega
        have hfin:=zAH (le:=leT) (X1:=X1) (X2:=X2) (Y1:=Y1) (Y2:=Y2) (M1:=M1) (M2:=(X2++Y2)) (by rw [HXe.out]; exact HSX.out) (by rw [HYe.out]; exact HSY.out) H12.out H21.out hP1 (List.Perm.refl _) hS1 HS2.out;rw [HXe.out,HYe.out] at hfin;have HFIN:=zNg hfin;clear hfin;go_wp2_with fail
        all_goals first | go_end0 | ((try simp only [Exit.inBlock,Exit.then]); refine bodyPost_ret (results_none rfl _ _ _) rfl ?_)
        all_goals exact ⟨rfl,_,HFIN.out.2,HFIN.out.1,by simpa using HRow.out,HG.out⟩
       ·have j4:¬(D:Int)<(F:Int):=by omega
        have hfin:=zAH (le:=leT) (X1:=X1) (X2:=X2) (Y1:=Y1) (Y2:=Y2) (M1:=M1) (M2:=(X2++Y2)) (by rw [HXe.out]; exact HSX.out) (by rw [HYe.out]; exact HSY.out) H12.out H21.out hP1 (List.Perm.refl _) hS1 HS2.out;rw [HXe.out,HYe.out] at hfin;have HFIN:=zNg hfin;clear hfin;go_wp2_with fail
        all_goals first | go_end0 | ((try simp only [Exit.inBlock,Exit.then]); refine bodyPost_ret (results_none rfl _ _ _) rfl ?_)
        all_goals exact ⟨rfl,_,HFIN.out.2,HFIN.out.1,by simpa using HRow.out,HG.out⟩
     ·have HS1:Hid (Srt leT (X1++Y1)):=zNg (by
       by_cases hF:a<s
       ·exact zAI (zAb HXe.out HSX.out) (zAE (by have:=HY1.out; omega))
       ·exact zAM (zAb HYe.out HSY.out) (zAE (by have:=HX1.out; omega)))
      have hr6':RowT blk N cap w5 ((A++(X1++Y1))++(X2++(Y2++Z))):=by simpa using hr5'
      have hg6':=hg5';by_cases hF1:a<s
      ·have j2:(a:Int)<(s:Int):=by omega
       have j3:¬(s:Int)<(D:Int):=by omega
       by_cases hR:D<F∧F<b
       ·have j4:(D:Int)<(F:Int):=by omega
        have j5:(F:Int)<(b:Int):=by omega
        go_wp2_with fail
        all_goals
         refine (ih (A:=A++(X1++Y1)) (X:=X2) (Y:=Y2) (Z:=Z) hr6' (by simp) (by rw [List.length_append,((List.Perm.refl _)).length_eq,List.length_append]; have:=HX1.out; have:=HY1.out; have:=HA.out; omega) (by rw [List.length_append,((List.Perm.refl _)).length_eq,List.length_append]; have:=HX1.out; have:=HY1.out; have:=HX2.out; have:=HA.out; omega) (by rw [List.length_append,((List.Perm.refl _)).length_eq,List.length_append]; have:=HX1.out; have:=HY1.out; have:=HX2.out; have:=HY2.out; have:=HA.out; omega) (by have:=HX2.out; omega) (by have:=HY2.out; omega) (by have:=HX2.out; have:=HY2.out; have:=HNN.out; have:=HA.out; have:=HM.out; have:=HB.out; omega) hN (zAS HWD.out (by rw [HL.out,<-HXe.out,<-HYe.out]; exact zAh (List.Perm.refl _))) (zAC HXe.out HSX.out) (zAC HYe.out HSY.out)).mono ?_;rintro e w7 ⟨rfl,M2,hP2,hS2,hr7,hg7⟩
         have hfin:=zAH (le:=leT) (X1:=X1) (X2:=X2) (Y1:=Y1) (Y2:=Y2) (M1:=(X1++Y1)) (M2:=M2) (by rw [HXe.out]; exact HSX.out) (by rw [HYe.out]; exact HSY.out) H12.out H21.out (List.Perm.refl _) hP2 HS1.out hS2;rw [HXe.out,HYe.out] at hfin;have HFIN:=zNg hfin;clear hfin;go_wp2_with fail
         all_goals first | go_end0 | ((try simp only [Exit.inBlock,Exit.then]); refine bodyPost_ret (results_none rfl _ _ _) rfl ?_)
         all_goals exact ⟨rfl,_,HFIN.out.2,HFIN.out.1,by simpa using hr7,(Off.tr hg6' hg7)⟩
       ·have HS2:Hid (Srt leT (X2++Y2)):=zNg (by
         by_cases hF:F<b
         ·exact zAM (zAC HYe.out HSY.out) (zAE (by have:=HX2.out; omega))
         ·exact zAI (zAC HXe.out HSX.out) (zAE (by have:=HY2.out; omega)))
        have HRow:=zNg hr6';have HG:=zNg hg6';by_cases hF:D<F
        ·have j4:(D:Int)<(F:Int):=by omega
         have j5:¬(F:Int)<(b:Int):=by omega
         have hfin:=zAH (le:=leT) (X1:=X1) (X2:=X2) (Y1:=Y1) (Y2:=Y2) (M1:=(X1++Y1)) (M2:=(X2++Y2)) (by rw [HXe.out]; exact HSX.out) (by rw [HYe.out]; exact HSY.out) H12.out H21.out (List.Perm.refl _) (List.Perm.refl _) HS1.out HS2.out;rw [HXe.out,HYe.out] at hfin;have HFIN:=zNg hfin;clear hfin;go_wp2_with fail
         all_goals first | go_end0 | ((try simp only [Exit.inBlock,Exit.then]); refine bodyPost_ret (results_none rfl _ _ _) rfl ?_)
         all_goals exact ⟨rfl,_,HFIN.out.2,HFIN.out.1,by simpa using HRow.out,HG.out⟩
        ·have j4:¬(D:Int)<(F:Int):=by omega
         have hfin:=zAH (le:=leT) (X1:=X1) (X2:=X2) (Y1:=Y1) (Y2:=Y2) (M1:=(X1++Y1)) (M2:=(X2++Y2)) (by rw [HXe.out]; exact HSX.out) (by rw [HYe.out]; exact HSY.out) H12.out H21.out (List.Perm.refl _) (List.Perm.refl _) HS1.out HS2.out;rw [HXe.out,HYe.out] at hfin;have HFIN:=zNg hfin;clear hfin;go_wp2_with fail
         all_goals first | go_end0 | ((try simp only [Exit.inBlock,Exit.then]); refine bodyPost_ret (results_none rfl _ _ _) rfl ?_)
         all_goals exact ⟨rfl,_,HFIN.out.2,HFIN.out.1,by simpa using HRow.out,HG.out⟩
      ·have j2:¬(a:Int)<(s:Int):=by omega
       by_cases hR:D<F∧F<b
       ·have j4:(D:Int)<(F:Int):=by omega
        have j5:(F:Int)<(b:Int):=by omega
        go_wp2_with fail
        all_goals
         refine (ih (A:=A++(X1++Y1)) (X:=X2) (Y:=Y2) (Z:=Z) hr6' (by simp) (by rw [List.length_append,((List.Perm.refl _)).length_eq,List.length_append]; have:=HX1.out; have:=HY1.out; have:=HA.out; omega) (by rw [List.length_append,((List.Perm.refl _)).length_eq,List.length_append]; have:=HX1.out; have:=HY1.out; have:=HX2.out; have:=HA.out; omega) (by rw [List.length_append,((List.Perm.refl _)).length_eq,List.length_append]; have:=HX1.out; have:=HY1.out; have:=HX2.out; have:=HY2.out; have:=HA.out; omega) (by have:=HX2.out; omega) (by have:=HY2.out; omega) (by have:=HX2.out; have:=HY2.out; have:=HNN.out; have:=HA.out; have:=HM.out; have:=HB.out; omega) hN (zAS HWD.out (by rw [HL.out,<-HXe.out,<-HYe.out]; exact zAh (List.Perm.refl _))) (zAC HXe.out HSX.out) (zAC HYe.out HSY.out)).mono ?_;rintro e w7 ⟨rfl,M2,hP2,hS2,hr7,hg7⟩
         have hfin:=zAH (le:=leT) (X1:=X1) (X2:=X2) (Y1:=Y1) (Y2:=Y2) (M1:=(X1++Y1)) (M2:=M2) (by rw [HXe.out]; exact HSX.out) (by rw [HYe.out]; exact HSY.out) H12.out H21.out (List.Perm.refl _) hP2 HS1.out hS2;rw [HXe.out,HYe.out] at hfin;have HFIN:=zNg hfin;clear hfin;go_wp2_with fail
         all_goals first | go_end0 | ((try simp only [Exit.inBlock,Exit.then]); refine bodyPost_ret (results_none rfl _ _ _) rfl ?_)
         all_goals exact ⟨rfl,_,HFIN.out.2,HFIN.out.1,by simpa using hr7,(Off.tr hg6' hg7)⟩
       ·have HS2:Hid (Srt leT (X2++Y2)):=zNg (by
         by_cases hF:F<b
         ·exact zAM (zAC HYe.out HSY.out) (zAE (by have:=HX2.out; omega))
         ·exact zAI (zAC HXe.out HSX.out) (zAE (by have:=HY2.out; omega)))
        have HRow:=zNg hr6';have HG:=zNg hg6';by_cases hF:D<F
        ·have j4:(D:Int)<(F:Int):=by omega
         have j5:¬(F:Int)<(b:Int):=by omega
         have hfin:=zAH (le:=leT) (X1:=X1) (X2:=X2) (Y1:=Y1) (Y2:=Y2) (M1:=(X1++Y1)) (M2:=(X2++Y2)) (by rw [HXe.out]; exact HSX.out) (by rw [HYe.out]; exact HSY.out) H12.out H21.out (List.Perm.refl _) (List.Perm.refl _) HS1.out HS2.out;rw [HXe.out,HYe.out] at hfin;have HFIN:=zNg hfin;clear hfin;go_wp2_with fail
         all_goals first | go_end0 | ((try simp only [Exit.inBlock,Exit.then]); refine bodyPost_ret (results_none rfl _ _ _) rfl ?_)
         all_goals exact ⟨rfl,_,HFIN.out.2,HFIN.out.1,by simpa using HRow.out,HG.out⟩
        ·have j4:¬(D:Int)<(F:Int):=by omega
         have hfin:=zAH (le:=leT) (X1:=X1) (X2:=X2) (Y1:=Y1) (Y2:=Y2) (M1:=(X1++Y1)) (M2:=(X2++Y2)) (by rw [HXe.out]; exact HSX.out) (by rw [HYe.out]; exact HSY.out) H12.out H21.out (List.Perm.refl _) (List.Perm.refl _) HS1.out HS2.out;rw [HXe.out,HYe.out] at hfin;have HFIN:=zNg hfin;clear hfin;go_wp2_with fail
         all_goals first | go_end0 | ((try simp only [Exit.inBlock,Exit.then]); refine bodyPost_ret (results_none rfl _ _ _) rfl ?_)
         all_goals exact ⟨rfl,_,HFIN.out.2,HFIN.out.1,by simpa using HRow.out,HG.out⟩
    ·have hr5':RowT blk N cap wr (A++(X1++(Y1++(X2++(Y2++Z))))):=by
      rw [HL.out,<-HXe.out,<-HYe.out] at hr;by_cases hF:s<m
      ·have e:=zAE (X:=Y1) (by have:=HY1.out; omega);rw [e] at hr ⊢;simpa using hr
      ·have e:=zAE (X:=X2) (by have:=HX2.out; omega);rw [e] at hr ⊢;simpa using hr
     by_cases hF0:s<m
     ·have j0:(s:Int)<(m:Int):=by omega
      have j1:¬(m:Int)<(F:Int):=by omega
      by_cases hLf:a<s∧s<D
      ·have j2:(a:Int)<(s:Int):=by omega
       have j3:(s:Int)<(D:Int):=by omega
       go_wp2_with fail
       refine (ih (A:=A) (X:=X1) (Y:=Y1) (Z:=X2++(Y2++Z)) hr5' rfl HA.out (by have:=HX1.out; have:=HA.out; omega) (by have:=HX1.out; have:=HY1.out; have:=HA.out; omega) (by have:=HX1.out; omega) (by have:=HY1.out; omega) (by have:=HX1.out; have:=HY1.out; have:=HNN.out; have:=HA.out; have:=HM.out; have:=HB.out; omega) hN (zAS HWD.out (by rw [HL.out,<-HXe.out,<-HYe.out]; exact zCD)) (zAb HXe.out HSX.out) (zAb HYe.out HSY.out)).mono ?_;rintro e w6 ⟨rfl,M1,hP1,hS1,hr6,hg6⟩;have hr6':RowT blk N cap w6 ((A++M1)++(X2++(Y2++Z))):=by simpa using hr6
       have hg6':=Off.tr hg hg6;clear hr6 hg6 j2 j3;by_cases hR:D<F∧F<b
       ·have j4:(D:Int)<(F:Int):=by omega
        have j5:(F:Int)<(b:Int):=by omega
        go_wp2_with fail
        all_goals
         refine (ih (A:=A++M1) (X:=X2) (Y:=Y2) (Z:=Z) hr6' (by simp) (by rw [List.length_append,(hP1).length_eq,List.length_append]; have:=HX1.out; have:=HY1.out; have:=HA.out; omega) (by rw [List.length_append,(hP1).length_eq,List.length_append]; have:=HX1.out; have:=HY1.out; have:=HX2.out; have:=HA.out; omega) (by rw [List.length_append,(hP1).length_eq,List.length_append]; have:=HX1.out; have:=HY1.out; have:=HX2.out; have:=HY2.out; have:=HA.out; omega) (by have:=HX2.out; omega) (by have:=HY2.out; omega) (by have:=HX2.out; have:=HY2.out; have:=HNN.out; have:=HA.out; have:=HM.out; have:=HB.out; omega) hN (zAS HWD.out (by rw [HL.out,<-HXe.out,<-HYe.out]; exact zAh hP1)) (zAC HXe.out HSX.out) (zAC HYe.out HSY.out)).mono ?_;rintro e w7 ⟨rfl,M2,hP2,hS2,hr7,hg7⟩
         have hfin:=zAH (le:=leT) (X1:=X1) (X2:=X2) (Y1:=Y1) (Y2:=Y2) (M1:=M1) (M2:=M2) (by rw [HXe.out]; exact HSX.out) (by rw [HYe.out]; exact HSY.out) H12.out H21.out hP1 hP2 hS1 hS2;rw [HXe.out,HYe.out] at hfin;have HFIN:=zNg hfin;clear hfin;go_wp2_with fail
         all_goals first | go_end0 | ((try simp only [Exit.inBlock,Exit.then]); refine bodyPost_ret (results_none rfl _ _ _) rfl ?_)
         all_goals exact ⟨rfl,_,HFIN.out.2,HFIN.out.1,by simpa using hr7,(Off.tr hg6' hg7)⟩
       ·have HS2:Hid (Srt leT (X2++Y2)):=zNg (by
         by_cases hF:F<b
         ·exact zAM (zAC HYe.out HSY.out) (zAE (by have:=HX2.out; omega))
         ·exact zAI (zAC HXe.out HSX.out) (zAE (by have:=HY2.out; omega)))
        have HRow:=zNg hr6';have HG:=zNg hg6';by_cases hF:D<F
        ·have j4:(D:Int)<(F:Int):=by omega
         have j5:¬(F:Int)<(b:Int):=by omega
         have hfin:=zAH (le:=leT) (X1:=X1) (X2:=X2) (Y1:=Y1) (Y2:=Y2) (M1:=M1) (M2:=(X2++Y2)) (by rw [HXe.out]; exact HSX.out) (by rw [HYe.out]; exact HSY.out) H12.out H21.out hP1 (List.Perm.refl _) hS1 HS2.out;rw [HXe.out,HYe.out] at hfin;have HFIN:=zNg hfin;clear hfin;go_wp2_with fail
         all_goals first | go_end0 | ((try simp only [Exit.inBlock,Exit.then]); refine bodyPost_ret (results_none rfl _ _ _) rfl ?_)
         all_goals exact ⟨rfl,_,HFIN.out.2,HFIN.out.1,by simpa using HRow.out,HG.out⟩
        ·have j4:¬(D:Int)<(F:Int):=by omega
         have hfin:=zAH (le:=leT) (X1:=X1) (X2:=X2) (Y1:=Y1) (Y2:=Y2) (M1:=M1) (M2:=(X2++Y2)) (by rw [HXe.out]; exact HSX.out) (by rw [HYe.out]; exact HSY.out) H12.out H21.out hP1 (List.Perm.refl _) hS1 HS2.out;rw [HXe.out,HYe.out] at hfin;have HFIN:=zNg hfin;clear hfin;go_wp2_with fail
         all_goals first | go_end0 | ((try simp only [Exit.inBlock,Exit.then]); refine bodyPost_ret (results_none rfl _ _ _) rfl ?_)
         all_goals exact ⟨rfl,_,HFIN.out.2,HFIN.out.1,by simpa using HRow.out,HG.out⟩
      ·have HS1:Hid (Srt leT (X1++Y1)):=zNg (by
        by_cases hF:a<s
        ·exact zAI (zAb HXe.out HSX.out) (zAE (by have:=HY1.out; omega))
        ·exact zAM (zAb HYe.out HSY.out) (zAE (by have:=HX1.out; omega)))
       have hr6':RowT blk N cap wr ((A++(X1++Y1))++(X2++(Y2++Z))):=by simpa using hr5'
       have hg6':=hg;by_cases hF1:a<s
       ·have j2:(a:Int)<(s:Int):=by omega
        have j3:¬(s:Int)<(D:Int):=by omega
        by_cases hR:D<F∧F<b
        ·have j4:(D:Int)<(F:Int):=by omega
         have j5:(F:Int)<(b:Int):=by omega
         go_wp2_with fail
         all_goals
          refine (ih (A:=A++(X1++Y1)) (X:=X2) (Y:=Y2) (Z:=Z) hr6' (by simp) (by rw [List.length_append,((List.Perm.refl _)).length_eq,List.length_append]; have:=HX1.out; have:=HY1.out; have:=HA.out; omega) (by rw [List.length_append,((List.Perm.refl _)).length_eq,List.length_append]; have:=HX1.out; have:=HY1.out; have:=HX2.out; have:=HA.out; omega) (by rw [List.length_append,((List.Perm.refl _)).length_eq,List.length_append]; have:=HX1.out; have:=HY1.out; have:=HX2.out; have:=HY2.out; have:=HA.out; omega) (by have:=HX2.out; omega) (by have:=HY2.out; omega) (by have:=HX2.out; have:=HY2.out; have:=HNN.out; have:=HA.out; have:=HM.out; have:=HB.out; omega) hN (zAS HWD.out (by rw [HL.out,<-HXe.out,<-HYe.out]; exact zAh (List.Perm.refl _))) (zAC HXe.out HSX.out) (zAC HYe.out HSY.out)).mono ?_;rintro e w7 ⟨rfl,M2,hP2,hS2,hr7,hg7⟩
          have hfin:=zAH (le:=leT) (X1:=X1) (X2:=X2) (Y1:=Y1) (Y2:=Y2) (M1:=(X1++Y1)) (M2:=M2) (by rw [HXe.out]; exact HSX.out) (by rw [HYe.out]; exact HSY.out) H12.out H21.out (List.Perm.refl _) hP2 HS1.out hS2;rw [HXe.out,HYe.out] at hfin;have HFIN:=zNg hfin;clear hfin;go_wp2_with fail
          all_goals first | go_end0 | ((try simp only [Exit.inBlock,Exit.then]); refine bodyPost_ret (results_none rfl _ _ _) rfl ?_)
          all_goals exact ⟨rfl,_,HFIN.out.2,HFIN.out.1,by simpa using hr7,(Off.tr hg6' hg7)⟩
        ·have HS2:Hid (Srt leT (X2++Y2)):=zNg (by
          by_cases hF:F<b
          ·exact zAM (zAC HYe.out HSY.out) (zAE (by have:=HX2.out; omega))
          ·exact zAI (zAC HXe.out HSX.out) (zAE (by have:=HY2.out; omega)))
         have HRow:=zNg hr6';have HG:=zNg hg6';by_cases hF:D<F
         ·have j4:(D:Int)<(F:Int):=by omega
          have j5:¬(F:Int)<(b:Int):=by omega
          have hfin:=zAH (le:=leT) (X1:=X1) (X2:=X2) (Y1:=Y1) (Y2:=Y2) (M1:=(X1++Y1)) (M2:=(X2++Y2)) (by rw [HXe.out]; exact HSX.out) (by rw [HYe.out]; exact HSY.out) H12.out H21.out (List.Perm.refl _) (List.Perm.refl _) HS1.out HS2.out;rw [HXe.out,HYe.out] at hfin;have HFIN:=zNg hfin;clear hfin;go_wp2_with fail
          all_goals first | go_end0 | ((try simp only [Exit.inBlock,Exit.then]); refine bodyPost_ret (results_none rfl _ _ _) rfl ?_)
          all_goals exact ⟨rfl,_,HFIN.out.2,HFIN.out.1,by simpa using HRow.out,HG.out⟩
         ·have j4:¬(D:Int)<(F:Int):=by omega
          have hfin:=zAH (le:=leT) (X1:=X1) (X2:=X2) (Y1:=Y1) (Y2:=Y2) (M1:=(X1++Y1)) (M2:=(X2++Y2)) (by rw [HXe.out]; exact HSX.out) (by rw [HYe.out]; exact HSY.out) H12.out H21.out (List.Perm.refl _) (List.Perm.refl _) HS1.out HS2.out;rw [HXe.out,HYe.out] at hfin;have HFIN:=zNg hfin;clear hfin;go_wp2_with fail
          all_goals first | go_end0 | ((try simp only [Exit.inBlock,Exit.then]); refine bodyPost_ret (results_none rfl _ _ _) rfl ?_)
          all_goals exact ⟨rfl,_,HFIN.out.2,HFIN.out.1,by simpa using HRow.out,HG.out⟩
       ·have j2:¬(a:Int)<(s:Int):=by omega
        by_cases hR:D<F∧F<b
        ·have j4:(D:Int)<(F:Int):=by omega
         have j5:(F:Int)<(b:Int):=by omega
         go_wp2_with fail
         all_goals
          refine (ih (A:=A++(X1++Y1)) (X:=X2) (Y:=Y2) (Z:=Z) hr6' (by simp) (by rw [List.length_append,((List.Perm.refl _)).length_eq,List.length_append]; have:=HX1.out; have:=HY1.out; have:=HA.out; omega) (by rw [List.length_append,((List.Perm.refl _)).length_eq,List.length_append]; have:=HX1.out; have:=HY1.out; have:=HX2.out; have:=HA.out; omega) (by rw [List.length_append,((List.Perm.refl _)).length_eq,List.length_append]; have:=HX1.out; have:=HY1.out; have:=HX2.out; have:=HY2.out; have:=HA.out; omega) (by have:=HX2.out; omega) (by have:=HY2.out; omega) (by have:=HX2.out; have:=HY2.out; have:=HNN.out; have:=HA.out; have:=HM.out; have:=HB.out; omega) hN (zAS HWD.out (by rw [HL.out,<-HXe.out,<-HYe.out]; exact zAh (List.Perm.refl _))) (zAC HXe.out HSX.out) (zAC HYe.out HSY.out)).mono ?_;rintro e w7 ⟨rfl,M2,hP2,hS2,hr7,hg7⟩
          have hfin:=zAH (le:=leT) (X1:=X1) (X2:=X2) (Y1:=Y1) (Y2:=Y2) (M1:=(X1++Y1)) (M2:=M2) (by rw [HXe.out]; exact HSX.out) (by rw [HYe.out]; exact HSY.out) H12.out H21.out (List.Perm.refl _) hP2 HS1.out hS2;rw [HXe.out,HYe.out] at hfin;have HFIN:=zNg hfin;clear hfin;go_wp2_with fail
          all_goals first | go_end0 | ((try simp only [Exit.inBlock,Exit.then]); refine bodyPost_ret (results_none rfl _ _ _) rfl ?_)
          all_goals exact ⟨rfl,_,HFIN.out.2,HFIN.out.1,by simpa using hr7,(Off.tr hg6' hg7)⟩
        ·have HS2:Hid (Srt leT (X2++Y2)):=zNg (by
          by_cases hF:F<b
          ·exact zAM (zAC HYe.out HSY.out) (zAE (by have:=HX2.out; omega))
          ·exact zAI (zAC HXe.out HSX.out) (zAE (by have:=HY2.out; omega)))
         have HRow:=zNg hr6';have HG:=zNg hg6';by_cases hF:D<F
         ·have j4:(D:Int)<(F:Int):=by omega
          have j5:¬(F:Int)<(b:Int):=by omega
          have hfin:=zAH (le:=leT) (X1:=X1) (X2:=X2) (Y1:=Y1) (Y2:=Y2) (M1:=(X1++Y1)) (M2:=(X2++Y2)) (by rw [HXe.out]; exact HSX.out) (by rw [HYe.out]; exact HSY.out) H12.out H21.out (List.Perm.refl _) (List.Perm.refl _) HS1.out HS2.out;rw [HXe.out,HYe.out] at hfin;have HFIN:=zNg hfin;clear hfin;go_wp2_with fail
          all_goals first | go_end0 | ((try simp only [Exit.inBlock,Exit.then]); refine bodyPost_ret (results_none rfl _ _ _) rfl ?_)
          all_goals exact ⟨rfl,_,HFIN.out.2,HFIN.out.1,by simpa using HRow.out,HG.out⟩
         ·have j4:¬(D:Int)<(F:Int):=by omega
          have hfin:=zAH (le:=leT) (X1:=X1) (X2:=X2) (Y1:=Y1) (Y2:=Y2) (M1:=(X1++Y1)) (M2:=(X2++Y2)) (by rw [HXe.out]; exact HSX.out) (by rw [HYe.out]; exact HSY.out) H12.out H21.out (List.Perm.refl _) (List.Perm.refl _) HS1.out HS2.out;rw [HXe.out,HYe.out] at hfin;have HFIN:=zNg hfin;clear hfin;go_wp2_with fail
          all_goals first | go_end0 | ((try simp only [Exit.inBlock,Exit.then]); refine bodyPost_ret (results_none rfl _ _ _) rfl ?_)
          all_goals exact ⟨rfl,_,HFIN.out.2,HFIN.out.1,by simpa using HRow.out,HG.out⟩
     ·have j0:¬(s:Int)<(m:Int):=by omega
      by_cases hLf:a<s∧s<D
      ·have j2:(a:Int)<(s:Int):=by omega
       have j3:(s:Int)<(D:Int):=by omega
       go_wp2_with fail
       refine (ih (A:=A) (X:=X1) (Y:=Y1) (Z:=X2++(Y2++Z)) hr5' rfl HA.out (by have:=HX1.out; have:=HA.out; omega) (by have:=HX1.out; have:=HY1.out; have:=HA.out; omega) (by have:=HX1.out; omega) (by have:=HY1.out; omega) (by have:=HX1.out; have:=HY1.out; have:=HNN.out; have:=HA.out; have:=HM.out; have:=HB.out; omega) hN (zAS HWD.out (by rw [HL.out,<-HXe.out,<-HYe.out]; exact zCD)) (zAb HXe.out HSX.out) (zAb HYe.out HSY.out)).mono ?_;rintro e w6 ⟨rfl,M1,hP1,hS1,hr6,hg6⟩;have hr6':RowT blk N cap w6 ((A++M1)++(X2++(Y2++Z))):=by simpa using hr6
       have hg6':=Off.tr hg hg6;clear hr6 hg6 j2 j3;by_cases hR:D<F∧F<b
       ·have j4:(D:Int)<(F:Int):=by omega
        have j5:(F:Int)<(b:Int):=by omega
        go_wp2_with fail
        all_goals
         refine (ih (A:=A++M1) (X:=X2) (Y:=Y2) (Z:=Z) hr6' (by simp) (by rw [List.length_append,(hP1).length_eq,List.length_append]; have:=HX1.out; have:=HY1.out; have:=HA.out; omega) (by rw [List.length_append,(hP1).length_eq,List.length_append]; have:=HX1.out; have:=HY1.out; have:=HX2.out; have:=HA.out; omega) (by rw [List.length_append,(hP1).length_eq,List.length_append]; have:=HX1.out; have:=HY1.out; have:=HX2.out; have:=HY2.out; have:=HA.out; omega) (by have:=HX2.out; omega) (by have:=HY2.out; omega) (by have:=HX2.out; have:=HY2.out; have:=HNN.out; have:=HA.out; have:=HM.out; have:=HB.out; omega) hN (zAS HWD.out (by rw [HL.out,<-HXe.out,<-HYe.out]; exact zAh hP1)) (zAC HXe.out HSX.out) (zAC HYe.out HSY.out)).mono ?_;rintro e w7 ⟨rfl,M2,hP2,hS2,hr7,hg7⟩
         have hfin:=zAH (le:=leT) (X1:=X1) (X2:=X2) (Y1:=Y1) (Y2:=Y2) (M1:=M1) (M2:=M2) (by rw [HXe.out]; exact HSX.out) (by rw [HYe.out]; exact HSY.out) H12.out H21.out hP1 hP2 hS1 hS2;rw [HXe.out,HYe.out] at hfin;have HFIN:=zNg hfin;clear hfin;go_wp2_with fail
         all_goals first | go_end0 | ((try simp only [Exit.inBlock,Exit.then]); refine bodyPost_ret (results_none rfl _ _ _) rfl ?_)
         all_goals exact ⟨rfl,_,HFIN.out.2,HFIN.out.1,by simpa using hr7,(Off.tr hg6' hg7)⟩
       ·have HS2:Hid (Srt leT (X2++Y2)):=zNg (by
         by_cases hF:F<b
         ·exact zAM (zAC HYe.out HSY.out) (zAE (by have:=HX2.out; omega))
         ·exact zAI (zAC HXe.out HSX.out) (zAE (by have:=HY2.out; omega)))
        have HRow:=zNg hr6';have HG:=zNg hg6';by_cases hF:D<F
        ·have j4:(D:Int)<(F:Int):=by omega
         have j5:¬(F:Int)<(b:Int):=by omega
         have hfin:=zAH (le:=leT) (X1:=X1) (X2:=X2) (Y1:=Y1) (Y2:=Y2) (M1:=M1) (M2:=(X2++Y2)) (by rw [HXe.out]; exact HSX.out) (by rw [HYe.out]; exact HSY.out) H12.out H21.out hP1 (List.Perm.refl _) hS1 HS2.out;rw [HXe.out,HYe.out] at hfin;have HFIN:=zNg hfin;clear hfin;go_wp2_with fail
         all_goals first | go_end0 | ((try simp only [Exit.inBlock,Exit.then]); refine bodyPost_ret (results_none rfl _ _ _) rfl ?_)
         all_goals exact ⟨rfl,_,HFIN.out.2,HFIN.out.1,by simpa using HRow.out,HG.out⟩
        ·have j4:¬(D:Int)<(F:Int):=by omega
         have hfin:=zAH (le:=leT) (X1:=X1) (X2:=X2) (Y1:=Y1) (Y2:=Y2) (M1:=M1) (M2:=(X2++Y2)) (by rw [HXe.out]; exact HSX.out) (by rw [HYe.out]; exact HSY.out) H12.out H21.out hP1 (List.Perm.refl _) hS1 HS2.out;rw [HXe.out,HYe.out] at hfin;have HFIN:=zNg hfin;clear hfin;go_wp2_with fail
         all_goals first | go_end0 | ((try simp only [Exit.inBlock,Exit.then]); refine bodyPost_ret (results_none rfl _ _ _) rfl ?_)
         all_goals exact ⟨rfl,_,HFIN.out.2,HFIN.out.1,by simpa using HRow.out,HG.out⟩
      ·have HS1:Hid (Srt leT (X1++Y1)):=zNg (by
        by_cases hF:a<s
        ·exact zAI (zAb HXe.out HSX.out) (zAE (by have:=HY1.out; omega))
        ·exact zAM (zAb HYe.out HSY.out) (zAE (by have:=HX1.out; omega)))
       have hr6':RowT blk N cap wr ((A++(X1++Y1))++(X2++(Y2++Z))):=by simpa using hr5'
       have hg6':=hg;by_cases hF1:a<s
       ·have j2:(a:Int)<(s:Int):=by omega
        have j3:¬(s:Int)<(D:Int):=by omega
        by_cases hR:D<F∧F<b
        ·have j4:(D:Int)<(F:Int):=by omega
         have j5:(F:Int)<(b:Int):=by omega
         go_wp2_with fail
         all_goals
          refine (ih (A:=A++(X1++Y1)) (X:=X2) (Y:=Y2) (Z:=Z) hr6' (by simp) (by rw [List.length_append,((List.Perm.refl _)).length_eq,List.length_append]; have:=HX1.out; have:=HY1.out; have:=HA.out; omega) (by rw [List.length_append,((List.Perm.refl _)).length_eq,List.length_append]; have:=HX1.out; have:=HY1.out; have:=HX2.out; have:=HA.out; omega) (by rw [List.length_append,((List.Perm.refl _)).length_eq,List.length_append]; have:=HX1.out; have:=HY1.out; have:=HX2.out; have:=HY2.out; have:=HA.out; omega) (by have:=HX2.out; omega) (by have:=HY2.out; omega) (by have:=HX2.out; have:=HY2.out; have:=HNN.out; have:=HA.out; have:=HM.out; have:=HB.out; omega) hN (zAS HWD.out (by rw [HL.out,<-HXe.out,<-HYe.out]; exact zAh (List.Perm.refl _))) (zAC HXe.out HSX.out) (zAC HYe.out HSY.out)).mono ?_;rintro e w7 ⟨rfl,M2,hP2,hS2,hr7,hg7⟩
          have hfin:=zAH (le:=leT) (X1:=X1) (X2:=X2) (Y1:=Y1) (Y2:=Y2) (M1:=(X1++Y1)) (M2:=M2) (by rw [HXe.out]; exact HSX.out) (by rw [HYe.out]; exact HSY.out) H12.out H21.out (List.Perm.refl _) hP2 HS1.out hS2;rw [HXe.out,HYe.out] at hfin;have HFIN:=zNg hfin;clear hfin;go_wp2_with fail
          all_goals first | go_end0 | ((try simp only [Exit.inBlock,Exit.then]); refine bodyPost_ret (results_none rfl _ _ _) rfl ?_)
          all_goals exact ⟨rfl,_,HFIN.out.2,HFIN.out.1,by simpa using hr7,(Off.tr hg6' hg7)⟩
        ·have HS2:Hid (Srt leT (X2++Y2)):=zNg (by
          by_cases hF:F<b
          ·exact zAM (zAC HYe.out HSY.out) (zAE (by have:=HX2.out; omega))
          ·exact zAI (zAC HXe.out HSX.out) (zAE (by have:=HY2.out; omega)))
         have HRow:=zNg hr6';have HG:=zNg hg6';by_cases hF:D<F
         ·have j4:(D:Int)<(F:Int):=by omega
          have j5:¬(F:Int)<(b:Int):=by omega
          have hfin:=zAH (le:=leT) (X1:=X1) (X2:=X2) (Y1:=Y1) (Y2:=Y2) (M1:=(X1++Y1)) (M2:=(X2++Y2)) (by rw [HXe.out]; exact HSX.out) (by rw [HYe.out]; exact HSY.out) H12.out H21.out (List.Perm.refl _) (List.Perm.refl _) HS1.out HS2.out;rw [HXe.out,HYe.out] at hfin;have HFIN:=zNg hfin;clear hfin;go_wp2_with fail
          all_goals first | go_end0 | ((try simp only [Exit.inBlock,Exit.then]); refine bodyPost_ret (results_none rfl _ _ _) rfl ?_)
          all_goals exact ⟨rfl,_,HFIN.out.2,HFIN.out.1,by simpa using HRow.out,HG.out⟩
         ·have j4:¬(D:Int)<(F:Int):=by omega
          have hfin:=zAH (le:=leT) (X1:=X1) (X2:=X2) (Y1:=Y1) (Y2:=Y2) (M1:=(X1++Y1)) (M2:=(X2++Y2)) (by rw [HXe.out]; exact HSX.out) (by rw [HYe.out]; exact HSY.out) H12.out H21.out (List.Perm.refl _) (List.Perm.refl _) HS1.out HS2.out;rw [HXe.out,HYe.out] at hfin;have HFIN:=zNg hfin;clear hfin;go_wp2_with fail
          all_goals first | go_end0 | ((try simp only [Exit.inBlock,Exit.then]); refine bodyPost_ret (results_none rfl _ _ _) rfl ?_)
          all_goals exact ⟨rfl,_,HFIN.out.2,HFIN.out.1,by simpa using HRow.out,HG.out⟩
       ·have j2:¬(a:Int)<(s:Int):=by omega
        by_cases hR:D<F∧F<b
        ·have j4:(D:Int)<(F:Int):=by omega
         have j5:(F:Int)<(b:Int):=by omega
         go_wp2_with fail
         all_goals
          refine (ih (A:=A++(X1++Y1)) (X:=X2) (Y:=Y2) (Z:=Z) hr6' (by simp) (by rw [List.length_append,((List.Perm.refl _)).length_eq,List.length_append]; have:=HX1.out; have:=HY1.out; have:=HA.out; omega) (by rw [List.length_append,((List.Perm.refl _)).length_eq,List.length_append]; have:=HX1.out; have:=HY1.out; have:=HX2.out; have:=HA.out; omega) (by rw [List.length_append,((List.Perm.refl _)).length_eq,List.length_append]; have:=HX1.out; have:=HY1.out; have:=HX2.out; have:=HY2.out; have:=HA.out; omega) (by have:=HX2.out; omega) (by have:=HY2.out; omega) (by have:=HX2.out; have:=HY2.out; have:=HNN.out; have:=HA.out; have:=HM.out; have:=HB.out; omega) hN (zAS HWD.out (by rw [HL.out,<-HXe.out,<-HYe.out]; exact zAh (List.Perm.refl _))) (zAC HXe.out HSX.out) (zAC HYe.out HSY.out)).mono ?_;rintro e w7 ⟨rfl,M2,hP2,hS2,hr7,hg7⟩
          have hfin:=zAH (le:=leT) (X1:=X1) (X2:=X2) (Y1:=Y1) (Y2:=Y2) (M1:=(X1++Y1)) (M2:=M2) (by rw [HXe.out]; exact HSX.out) (by rw [HYe.out]; exact HSY.out) H12.out H21.out (List.Perm.refl _) hP2 HS1.out hS2;rw [HXe.out,HYe.out] at hfin;have HFIN:=zNg hfin;clear hfin;go_wp2_with fail
          all_goals first | go_end0 | ((try simp only [Exit.inBlock,Exit.then]); refine bodyPost_ret (results_none rfl _ _ _) rfl ?_)
          all_goals exact ⟨rfl,_,HFIN.out.2,HFIN.out.1,by simpa using hr7,(Off.tr hg6' hg7)⟩
        ·have HS2:Hid (Srt leT (X2++Y2)):=zNg (by
          by_cases hF:F<b
          ·exact zAM (zAC HYe.out HSY.out) (zAE (by have:=HX2.out; omega))
          ·exact zAI (zAC HXe.out HSX.out) (zAE (by have:=HY2.out; omega)))
         have HRow:=zNg hr6';have HG:=zNg hg6';by_cases hF:D<F
         ·have j4:(D:Int)<(F:Int):=by omega
          have j5:¬(F:Int)<(b:Int):=by omega
          have hfin:=zAH (le:=leT) (X1:=X1) (X2:=X2) (Y1:=Y1) (Y2:=Y2) (M1:=(X1++Y1)) (M2:=(X2++Y2)) (by rw [HXe.out]; exact HSX.out) (by rw [HYe.out]; exact HSY.out) H12.out H21.out (List.Perm.refl _) (List.Perm.refl _) HS1.out HS2.out;rw [HXe.out,HYe.out] at hfin;have HFIN:=zNg hfin;clear hfin;go_wp2_with fail
          all_goals first | go_end0 | ((try simp only [Exit.inBlock,Exit.then]); refine bodyPost_ret (results_none rfl _ _ _) rfl ?_)
          all_goals exact ⟨rfl,_,HFIN.out.2,HFIN.out.1,by simpa using HRow.out,HG.out⟩
         ·have j4:¬(D:Int)<(F:Int):=by omega
          have hfin:=zAH (le:=leT) (X1:=X1) (X2:=X2) (Y1:=Y1) (Y2:=Y2) (M1:=(X1++Y1)) (M2:=(X2++Y2)) (by rw [HXe.out]; exact HSX.out) (by rw [HYe.out]; exact HSY.out) H12.out H21.out (List.Perm.refl _) (List.Perm.refl _) HS1.out HS2.out;rw [HXe.out,HYe.out] at hfin;have HFIN:=zNg hfin;clear hfin;go_wp2_with fail
          all_goals first | go_end0 | ((try simp only [Exit.inBlock,Exit.then]); refine bodyPost_ret (results_none rfl _ _ _) rfl ?_)
          all_goals exact ⟨rfl,_,HFIN.out.2,HFIN.out.1,by simpa using HRow.out,HG.out⟩
 ·have k0:¬(D:Int)<(m:Int):=by omega
  obtain ⟨lo,hlo⟩:∃lo:Nat,lo=a:=⟨_,rfl⟩;obtain ⟨hi,hhi⟩:∃hi:Nat,hi=m:=⟨_,rfl⟩;have HLO:Hid (lo=a∨E-lo=b):=zNg (.inl hlo);have HHI:Hid (hi=m∨E-hi=m):=zNg (.inl hhi);have b1:a≤lo:=by omega
  have b2:hi≤m:=by omega
  have b3:E≤b+lo:=by omega
  have b4:m+hi≤E:=by omega
  have b5:lo≤hi:=by omega
  have b6:hi≤D:=by omega
  have HLH:=zNg (show lo=a∧hi=m from ⟨by omega,hhi⟩);clear hlo hhi;go_enter Tryz.func132,Tryz.ntmps132
  go_wp2_with fail
  go_loopw [20,21] (fun sv rv wr=>∃(s r:Nat),sv=.int .i64 (s:Int)∧rv=.int .i64 (r:Int)∧lo≤s∧s≤r∧r≤hi∧Hid (s=lo∨∃x y,X[s-1-a]? = some x∧Y[E-s-m]? = some y∧a+1≤s∧leT x y)∧Hid (r=hi∨∃x y,X[r-a]? = some x∧Y[E-1-r-m]? = some y∧m+r+1≤E∧leT y x)∧RowT blk N cap wr L∧w.grownBy wr (some blk)) (fun sv rv _=>(intOf rv).toNat-(intOf sv).toNat)
  case atStart=>exact ⟨lo,hi,by first | rfl | (rw [HLH.out.1]),by first | rfl | (rw [HLH.out.2]),zNl _,b5,zNl _,zNg (.inl rfl),zNg (.inl rfl),h,World.grownBy.refl _ _⟩
  case round =>
   obtain ⟨s,r,rfl,rfl,hs1,hs2,hs3,HS0,HR0,hr,hg⟩:=hrel;by_cases hlt:s<r
   ·have i1:(s:Int)<(r:Int):=by omega
    obtain ⟨C,hC⟩:∃C:Nat,C=(s+r) / 2:=⟨_,rfl⟩;have hC1:((s:Int)+(r:Int)) / 2=(C:Int):=by omega
    have hC2:s≤C∧C<r:=by omega
    obtain ⟨G,hG⟩:∃G:Nat,G=Q-C:=⟨_,rfl⟩;have hG1:(Q:Int)-(C:Int)=(G:Int):=by omega
    have hG2:m≤G∧G<b:=by omega
    obtain ⟨x,hx⟩:∃x,X[C-a]? = some x:=⟨_,zNh (by have:=HA.out; have:=HM.out; omega)⟩;obtain ⟨y,hy⟩:∃y,Y[G-m]? = some y:=⟨_,zNh (by have:=HA.out; have:=HM.out; have:=HB.out; omega)⟩;have hgx:L[C]? = some x:=by
     have:=zCC A X (Y++Z) hx;rw [show A.length+(C-a)=C by have:=HA.out; omega] at this;rw [HL.out]; exact this
    have hgy:L[G]? = some y:=by
     have:=zCC (A++X) Y Z hy;rw [List.length_append,show A.length+X.length+(G-m)=G by have:=HM.out; omega] at this;rw [HL.out]; simpa using this
    obtain ⟨ax,lx,qx,ax',lx',qx',ex,ex'⟩:=hr.forms hgx;obtain ⟨cx,cx'⟩:=hr.cell hgx;have rx:=(hr.reads hgx).1;have hwx:x.x.length≤16777216:=hr.wds HWD.out hgx;rw [ex] at cx rx;rw [ex'] at cx';obtain ⟨ay,ly,qy,ay',ly',qy',ey,ey'⟩:=hr.forms hgy;obtain ⟨cy,cy'⟩:=hr.cell hgy;have ry:=(hr.reads hgy).1;have hwy:y.x.length≤16777216:=hr.wds HWD.out hgy;rw [ey] at cy ry;rw [ey'] at cy';have g0:=fun z:GW wr=>z.cell cx;have g1:=fun z:GW wr=>z.cell cx';have g2:=fun z:GW wr=>z.cell cy;have g3:=fun z:GW wr=>z.cell cy';have jz:(C:Int)<(N:Int):=by omega
    have jz1:(G:Int)<(N:Int):=by omega
    have HX:=zNg hx;have HY:=zNg hy;have HG:=zNg hG;have HROW:Hid (∀w8,Below wr.heap.size wr w8→RowT blk N cap w8 L):=zNg (fun w8 hb=>hr.below hb);obtain ⟨hC3,hC4⟩:=hC2;clear hgx hgy hx hy ex ex' ey ey' hC hG cx cx' cy cy' hG2;by_cases hless:cmpW y.x x.x<0
    ·have hless2:=decide_eq_true hless;go_wp2_with fail
     refine zAK (by kernel_rfl) (by kernel_rfl) ?_
     repeat (go_big_quiet_step ((first | (rename_i z; go_at_call 92; exact Calls.grow z (cmpT (ry.below z.le) (rx.below z.le) hwy hwx ⟨_,_,_,rfl⟩ ⟨_,_,_,rfl⟩)))))
     refine wpQuiet_nil ?_;intro w8 hb8;have HR8:=zNg (HROW.out w8 hb8);have HG8:=zNg (Off.tr hg (Off.grown hb8));clear hb8 g0 g1 g2 g3;go_wp2_with fail
     go_roundw
     case rel=>exact ⟨s,C,rfl,rfl,hs1,by omega,by omega,HS0,zNg (.inr ⟨x,y,HX.out,by rw [show E-1-C-m=G-m by have:=HG.out; omega]; exact HY.out,by omega,zD5 hless⟩),HR8.out,HG8.out⟩
     case measure=>simp [intOf]; omega
    ·have hless2:=decide_eq_false hless;go_wp2_with fail
     refine zAK (by kernel_rfl) (by kernel_rfl) ?_
     repeat (go_big_quiet_step ((first | (rename_i z; go_at_call 92; exact Calls.grow z (cmpT (ry.below z.le) (rx.below z.le) hwy hwx ⟨_,_,_,rfl⟩ ⟨_,_,_,rfl⟩)))))
     refine wpQuiet_nil ?_;intro w8 hb8;have HR8:=zNg (HROW.out w8 hb8);have HG8:=zNg (Off.tr hg (Off.grown hb8));clear hb8 g0 g1 g2 g3;go_wp2_with fail
     go_roundw
     case rel=>exact ⟨C+1,r,by go_num,rfl,by omega,by omega,hs3,zNg (.inr ⟨x,y,by rw [show C+1-1-a=C-a by omega]; exact HX.out,by rw [show E-(C+1)-m=G-m by have:=HG.out; omega]; exact HY.out,by omega,zDM (by omega)⟩),HR0,HR8.out,HG8.out⟩
     case measure=>simp [intOf]; omega
   ·obtain rfl:s=r:=by omega
    have i1:¬(s:Int)<(s:Int):=by omega
    obtain ⟨F,hF⟩:∃F:Nat,F=E-s:=⟨_,rfl⟩;have hF1:(E:Int)-(s:Int)=(F:Int):=by omega
    have hF2:m≤F∧F≤b:=by omega
    have hF3:F+s≤D+m:=by omega
    have hF4:D+m≤F+s:=by omega
    obtain ⟨hF5,hF6⟩:=hF2;have HXe:Hid (X.take (s-a)++X.drop (s-a)=X):=zNg (List.take_append_drop _ _);have HYe:Hid (Y.take (F-m)++Y.drop (F-m)=Y):=zNg (List.take_append_drop _ _);have HX1:Hid ((X.take (s-a)).length=s-a):=zNg (by have:=HA.out; have:=HM.out; simp; omega);have HX2:Hid ((X.drop (s-a)).length=m-s):=zNg (by have:=HA.out; have:=HM.out; simp; omega);have HY1:Hid ((Y.take (F-m)).length=F-m):=zNg (by have:=HA.out; have:=HM.out; have:=HB.out; simp; omega);have HY2:Hid ((Y.drop (F-m)).length=b-F):=zNg (by have:=HA.out; have:=HM.out; have:=HB.out; simp; omega);have H12:Hid (∀p∈X.take (s-a),∀q∈Y.drop (F-m),leT p q):=zNg (by
     rcases HS0.out with e | ⟨x,y,hx,hy,h1,hle⟩
     ·rcases HLO.out with e2 | e2
      ·rw [zAE (X:=X.take (s-a)) (by have:=HX1.out; omega)]; intro p hp; cases hp
      ·rw [zAE (X:=Y.drop (F-m)) (by have:=HY2.out; omega)]; intro p hp q hq; cases hq
     ·have:=zGf zBm HSX.out HSY.out hx hy hle;rw [show s-1-a+1=s-a by omega,show E-s-m=F-m by omega] at this;exact this)
    have H21:Hid (∀p∈Y.take (F-m),∀q∈X.drop (s-a),leT p q):=zNg (by
     rcases HR0.out with e | ⟨x,y,hx,hy,h1,hle⟩
     ·rcases HHI.out with e2 | e2
      ·rw [zAE (X:=X.drop (s-a)) (by have:=HX2.out; omega)]; intro p hp q hq; cases hq
      ·rw [zAE (X:=Y.take (F-m)) (by have:=HY1.out; omega)]; intro p hp; cases hp
     ·have:=zGf zBm HSY.out HSX.out hy hx hle;rw [show E-1-s-m+1=F-m by omega] at this;exact this)
    generalize X.take (s-a)=X1 at *;generalize X.drop (s-a)=X2 at *;generalize Y.take (F-m)=Y1 at *;generalize Y.drop (F-m)=Y2 at *;clear HS0 HR0 HLO HHI hF;by_cases hrot:s<m∧m<F
    ·have j0:(s:Int)<(m:Int):=by omega
     have j1:(m:Int)<(F:Int):=by omega
     go_wp2_with fail
     refine (zIe (A:=A++X1) (X:=X2) (Y:=Y1) (Z:=Y2++Z) hr (by rw [HL.out,<-HXe.out,<-HYe.out]; simp) (by rw [List.length_append]; have:=HX1.out; have:=HA.out; omega) (by rw [List.length_append]; have:=HX1.out; have:=HX2.out; have:=HA.out; omega) (by rw [List.length_append]; have:=HX1.out; have:=HX2.out; have:=HY1.out; have:=HA.out; omega) (by have:=HX2.out; omega) (by have:=HY1.out; omega) hN).mono ?_;rintro e w5 ⟨rfl,hr5,hg5⟩;have hr5':RowT blk N cap w5 (A++(X1++(Y1++(X2++(Y2++Z))))):=by simpa using hr5
     have hg5':=Off.tr hg hg5;clear hr5 hg5 j0 j1;by_cases hLf:a<s∧s<D
     ·have j2:(a:Int)<(s:Int):=by omega
      have j3:(s:Int)<(D:Int):=by omega
      go_wp2_with fail
      refine (ih (A:=A) (X:=X1) (Y:=Y1) (Z:=X2++(Y2++Z)) hr5' rfl HA.out (by have:=HX1.out; have:=HA.out; omega) (by have:=HX1.out; have:=HY1.out; have:=HA.out; omega) (by have:=HX1.out; omega) (by have:=HY1.out; omega) (by have:=HX1.out; have:=HY1.out; have:=HNN.out; have:=HA.out; have:=HM.out; have:=HB.out; omega) hN (zAS HWD.out (by rw [HL.out,<-HXe.out,<-HYe.out]; exact zCD)) (zAb HXe.out HSX.out) (zAb HYe.out HSY.out)).mono ?_;rintro e w6 ⟨rfl,M1,hP1,hS1,hr6,hg6⟩;have hr6':RowT blk N cap w6 ((A++M1)++(X2++(Y2++Z))):=by simpa using hr6
      have hg6':=Off.tr hg5' hg6;clear hr6 hg6 j2 j3;by_cases hR:D<F∧F<b
      ·have j4:(D:Int)<(F:Int):=by omega
       have j5:(F:Int)<(b:Int):=by omega
       go_wp2_with fail
       all_goals
        refine (ih (A:=A++M1) (X:=X2) (Y:=Y2) (Z:=Z) hr6' (by simp) (by rw [List.length_append,(hP1).length_eq,List.length_append]; have:=HX1.out; have:=HY1.out; have:=HA.out; omega) (by rw [List.length_append,(hP1).length_eq,List.length_append]; have:=HX1.out; have:=HY1.out; have:=HX2.out; have:=HA.out; omega) (by rw [List.length_append,(hP1).length_eq,List.length_append]; have:=HX1.out; have:=HY1.out; have:=HX2.out; have:=HY2.out; have:=HA.out; omega) (by have:=HX2.out; omega) (by have:=HY2.out; omega) (by have:=HX2.out; have:=HY2.out; have:=HNN.out; have:=HA.out; have:=HM.out; have:=HB.out; omega) hN (zAS HWD.out (by rw [HL.out,<-HXe.out,<-HYe.out]; exact zAh hP1)) (zAC HXe.out HSX.out) (zAC HYe.out HSY.out)).mono ?_;rintro e w7 ⟨rfl,M2,hP2,hS2,hr7,hg7⟩
        have hfin:=zAH (le:=leT) (X1:=X1) (X2:=X2) (Y1:=Y1) (Y2:=Y2) (M1:=M1) (M2:=M2) (by rw [HXe.out]; exact HSX.out) (by rw [HYe.out]; exact HSY.out) H12.out H21.out hP1 hP2 hS1 hS2;rw [HXe.out,HYe.out] at hfin;have HFIN:=zNg hfin;clear hfin;go_wp2_with fail
        all_goals first | go_end0 | ((try simp only [Exit.inBlock,Exit.then]); refine bodyPost_ret (results_none rfl _ _ _) rfl ?_)
        all_goals exact ⟨rfl,_,HFIN.out.2,HFIN.out.1,by simpa using hr7,(Off.tr hg6' hg7)⟩
      ·have HS2:Hid (Srt leT (X2++Y2)):=zNg (by
        by_cases hF:F<b
        ·exact zAM (zAC HYe.out HSY.out) (zAE (by have:=HX2.out; omega))
        ·exact zAI (zAC HXe.out HSX.out) (zAE (by have:=HY2.out; omega)))
       have HRow:=zNg hr6';have HG:=zNg hg6';by_cases hF:D<F
       ·have j4:(D:Int)<(F:Int):=by omega
        have j5:¬(F:Int)<(b:Int):=by omega
        have hfin:=zAH (le:=leT) (X1:=X1) (X2:=X2) (Y1:=Y1) (Y2:=Y2) (M1:=M1) (M2:=(X2++Y2)) (by rw [HXe.out]; exact HSX.out) (by rw [HYe.out]; exact HSY.out) H12.out H21.out hP1 (List.Perm.refl _) hS1 HS2.out;rw [HXe.out,HYe.out] at hfin;have HFIN:=zNg hfin;clear hfin;go_wp2_with fail
        all_goals first | go_end0 | ((try simp only [Exit.inBlock,Exit.then]); refine bodyPost_ret (results_none rfl _ _ _) rfl ?_)
        all_goals exact ⟨rfl,_,HFIN.out.2,HFIN.out.1,by simpa using HRow.out,HG.out⟩
       ·have j4:¬(D:Int)<(F:Int):=by omega
        have hfin:=zAH (le:=leT) (X1:=X1) (X2:=X2) (Y1:=Y1) (Y2:=Y2) (M1:=M1) (M2:=(X2++Y2)) (by rw [HXe.out]; exact HSX.out) (by rw [HYe.out]; exact HSY.out) H12.out H21.out hP1 (List.Perm.refl _) hS1 HS2.out;rw [HXe.out,HYe.out] at hfin;have HFIN:=zNg hfin;clear hfin;go_wp2_with fail
        all_goals first | go_end0 | ((try simp only [Exit.inBlock,Exit.then]); refine bodyPost_ret (results_none rfl _ _ _) rfl ?_)
        all_goals exact ⟨rfl,_,HFIN.out.2,HFIN.out.1,by simpa using HRow.out,HG.out⟩
     ·have HS1:Hid (Srt leT (X1++Y1)):=zNg (by
       by_cases hF:a<s
       ·exact zAI (zAb HXe.out HSX.out) (zAE (by have:=HY1.out; omega))
       ·exact zAM (zAb HYe.out HSY.out) (zAE (by have:=HX1.out; omega)))
      have hr6':RowT blk N cap w5 ((A++(X1++Y1))++(X2++(Y2++Z))):=by simpa using hr5'
      have hg6':=hg5';by_cases hF1:a<s
      ·have j2:(a:Int)<(s:Int):=by omega
       have j3:¬(s:Int)<(D:Int):=by omega
       by_cases hR:D<F∧F<b
       ·have j4:(D:Int)<(F:Int):=by omega
        have j5:(F:Int)<(b:Int):=by omega
        go_wp2_with fail
        all_goals
         refine (ih (A:=A++(X1++Y1)) (X:=X2) (Y:=Y2) (Z:=Z) hr6' (by simp) (by rw [List.length_append,((List.Perm.refl _)).length_eq,List.length_append]; have:=HX1.out; have:=HY1.out; have:=HA.out; omega) (by rw [List.length_append,((List.Perm.refl _)).length_eq,List.length_append]; have:=HX1.out; have:=HY1.out; have:=HX2.out; have:=HA.out; omega) (by rw [List.length_append,((List.Perm.refl _)).length_eq,List.length_append]; have:=HX1.out; have:=HY1.out; have:=HX2.out; have:=HY2.out; have:=HA.out; omega) (by have:=HX2.out; omega) (by have:=HY2.out; omega) (by have:=HX2.out; have:=HY2.out; have:=HNN.out; have:=HA.out; have:=HM.out; have:=HB.out; omega) hN (zAS HWD.out (by rw [HL.out,<-HXe.out,<-HYe.out]; exact zAh (List.Perm.refl _))) (zAC HXe.out HSX.out) (zAC HYe.out HSY.out)).mono ?_;rintro e w7 ⟨rfl,M2,hP2,hS2,hr7,hg7⟩
         have hfin:=zAH (le:=leT) (X1:=X1) (X2:=X2) (Y1:=Y1) (Y2:=Y2) (M1:=(X1++Y1)) (M2:=M2) (by rw [HXe.out]; exact HSX.out) (by rw [HYe.out]; exact HSY.out) H12.out H21.out (List.Perm.refl _) hP2 HS1.out hS2;rw [HXe.out,HYe.out] at hfin;have HFIN:=zNg hfin;clear hfin;go_wp2_with fail
         all_goals first | go_end0 | ((try simp only [Exit.inBlock,Exit.then]); refine bodyPost_ret (results_none rfl _ _ _) rfl ?_)
         all_goals exact ⟨rfl,_,HFIN.out.2,HFIN.out.1,by simpa using hr7,(Off.tr hg6' hg7)⟩
       ·have HS2:Hid (Srt leT (X2++Y2)):=zNg (by
         by_cases hF:F<b
         ·exact zAM (zAC HYe.out HSY.out) (zAE (by have:=HX2.out; omega))
         ·exact zAI (zAC HXe.out HSX.out) (zAE (by have:=HY2.out; omega)))
        have HRow:=zNg hr6';have HG:=zNg hg6';by_cases hF:D<F
        ·have j4:(D:Int)<(F:Int):=by omega
         have j5:¬(F:Int)<(b:Int):=by omega
         have hfin:=zAH (le:=leT) (X1:=X1) (X2:=X2) (Y1:=Y1) (Y2:=Y2) (M1:=(X1++Y1)) (M2:=(X2++Y2)) (by rw [HXe.out]; exact HSX.out) (by rw [HYe.out]; exact HSY.out) H12.out H21.out (List.Perm.refl _) (List.Perm.refl _) HS1.out HS2.out;rw [HXe.out,HYe.out] at hfin;have HFIN:=zNg hfin;clear hfin;go_wp2_with fail
         all_goals first | go_end0 | ((try simp only [Exit.inBlock,Exit.then]); refine bodyPost_ret (results_none rfl _ _ _) rfl ?_)
         all_goals exact ⟨rfl,_,HFIN.out.2,HFIN.out.1,by simpa using HRow.out,HG.out⟩
        ·have j4:¬(D:Int)<(F:Int):=by omega
         have hfin:=zAH (le:=leT) (X1:=X1) (X2:=X2) (Y1:=Y1) (Y2:=Y2) (M1:=(X1++Y1)) (M2:=(X2++Y2)) (by rw [HXe.out]; exact HSX.out) (by rw [HYe.out]; exact HSY.out) H12.out H21.out (List.Perm.refl _) (List.Perm.refl _) HS1.out HS2.out;rw [HXe.out,HYe.out] at hfin;have HFIN:=zNg hfin;clear hfin;go_wp2_with fail
         all_goals first | go_end0 | ((try simp only [Exit.inBlock,Exit.then]); refine bodyPost_ret (results_none rfl _ _ _) rfl ?_)
         all_goals exact ⟨rfl,_,HFIN.out.2,HFIN.out.1,by simpa using HRow.out,HG.out⟩
      ·have j2:¬(a:Int)<(s:Int):=by omega
       by_cases hR:D<F∧F<b
       ·have j4:(D:Int)<(F:Int):=by omega
        have j5:(F:Int)<(b:Int):=by omega
        go_wp2_with fail
        all_goals
         refine (ih (A:=A++(X1++Y1)) (X:=X2) (Y:=Y2) (Z:=Z) hr6' (by simp) (by rw [List.length_append,((List.Perm.refl _)).length_eq,List.length_append]; have:=HX1.out; have:=HY1.out; have:=HA.out; omega) (by rw [List.length_append,((List.Perm.refl _)).length_eq,List.length_append]; have:=HX1.out; have:=HY1.out; have:=HX2.out; have:=HA.out; omega) (by rw [List.length_append,((List.Perm.refl _)).length_eq,List.length_append]; have:=HX1.out; have:=HY1.out; have:=HX2.out; have:=HY2.out; have:=HA.out; omega) (by have:=HX2.out; omega) (by have:=HY2.out; omega) (by have:=HX2.out; have:=HY2.out; have:=HNN.out; have:=HA.out; have:=HM.out; have:=HB.out; omega) hN (zAS HWD.out (by rw [HL.out,<-HXe.out,<-HYe.out]; exact zAh (List.Perm.refl _))) (zAC HXe.out HSX.out) (zAC HYe.out HSY.out)).mono ?_;rintro e w7 ⟨rfl,M2,hP2,hS2,hr7,hg7⟩
         have hfin:=zAH (le:=leT) (X1:=X1) (X2:=X2) (Y1:=Y1) (Y2:=Y2) (M1:=(X1++Y1)) (M2:=M2) (by rw [HXe.out]; exact HSX.out) (by rw [HYe.out]; exact HSY.out) H12.out H21.out (List.Perm.refl _) hP2 HS1.out hS2;rw [HXe.out,HYe.out] at hfin;have HFIN:=zNg hfin;clear hfin;go_wp2_with fail
         all_goals first | go_end0 | ((try simp only [Exit.inBlock,Exit.then]); refine bodyPost_ret (results_none rfl _ _ _) rfl ?_)
         all_goals exact ⟨rfl,_,HFIN.out.2,HFIN.out.1,by simpa using hr7,(Off.tr hg6' hg7)⟩
       ·have HS2:Hid (Srt leT (X2++Y2)):=zNg (by
         by_cases hF:F<b
         ·exact zAM (zAC HYe.out HSY.out) (zAE (by have:=HX2.out; omega))
         ·exact zAI (zAC HXe.out HSX.out) (zAE (by have:=HY2.out; omega)))
        have HRow:=zNg hr6';have HG:=zNg hg6';by_cases hF:D<F
        ·have j4:(D:Int)<(F:Int):=by omega
         have j5:¬(F:Int)<(b:Int):=by omega
         have hfin:=zAH (le:=leT) (X1:=X1) (X2:=X2) (Y1:=Y1) (Y2:=Y2) (M1:=(X1++Y1)) (M2:=(X2++Y2)) (by rw [HXe.out]; exact HSX.out) (by rw [HYe.out]; exact HSY.out) H12.out H21.out (List.Perm.refl _) (List.Perm.refl _) HS1.out HS2.out;rw [HXe.out,HYe.out] at hfin;have HFIN:=zNg hfin;clear hfin;go_wp2_with fail
         all_goals first | go_end0 | ((try simp only [Exit.inBlock,Exit.then]); refine bodyPost_ret (results_none rfl _ _ _) rfl ?_)
         all_goals exact ⟨rfl,_,HFIN.out.2,HFIN.out.1,by simpa using HRow.out,HG.out⟩
        ·have j4:¬(D:Int)<(F:Int):=by omega
         have hfin:=zAH (le:=leT) (X1:=X1) (X2:=X2) (Y1:=Y1) (Y2:=Y2) (M1:=(X1++Y1)) (M2:=(X2++Y2)) (by rw [HXe.out]; exact HSX.out) (by rw [HYe.out]; exact HSY.out) H12.out H21.out (List.Perm.refl _) (List.Perm.refl _) HS1.out HS2.out;rw [HXe.out,HYe.out] at hfin;have HFIN:=zNg hfin;clear hfin;go_wp2_with fail
         all_goals first | go_end0 | ((try simp only [Exit.inBlock,Exit.then]); refine bodyPost_ret (results_none rfl _ _ _) rfl ?_)
         all_goals exact ⟨rfl,_,HFIN.out.2,HFIN.out.1,by simpa using HRow.out,HG.out⟩
    ·have hr5':RowT blk N cap wr (A++(X1++(Y1++(X2++(Y2++Z))))):=by
      rw [HL.out,<-HXe.out,<-HYe.out] at hr;by_cases hF:s<m
      ·have e:=zAE (X:=Y1) (by have:=HY1.out; omega);rw [e] at hr ⊢;simpa using hr
      ·have e:=zAE (X:=X2) (by have:=HX2.out; omega);rw [e] at hr ⊢;simpa using hr
     by_cases hF0:s<m
     ·have j0:(s:Int)<(m:Int):=by omega
      have j1:¬(m:Int)<(F:Int):=by omega
      by_cases hLf:a<s∧s<D
      ·have j2:(a:Int)<(s:Int):=by omega
       have j3:(s:Int)<(D:Int):=by omega
       go_wp2_with fail
       refine (ih (A:=A) (X:=X1) (Y:=Y1) (Z:=X2++(Y2++Z)) hr5' rfl HA.out (by have:=HX1.out; have:=HA.out; omega) (by have:=HX1.out; have:=HY1.out; have:=HA.out; omega) (by have:=HX1.out; omega) (by have:=HY1.out; omega) (by have:=HX1.out; have:=HY1.out; have:=HNN.out; have:=HA.out; have:=HM.out; have:=HB.out; omega) hN (zAS HWD.out (by rw [HL.out,<-HXe.out,<-HYe.out]; exact zCD)) (zAb HXe.out HSX.out) (zAb HYe.out HSY.out)).mono ?_;rintro e w6 ⟨rfl,M1,hP1,hS1,hr6,hg6⟩;have hr6':RowT blk N cap w6 ((A++M1)++(X2++(Y2++Z))):=by simpa using hr6
       have hg6':=Off.tr hg hg6;clear hr6 hg6 j2 j3;by_cases hR:D<F∧F<b
       ·have j4:(D:Int)<(F:Int):=by omega
        have j5:(F:Int)<(b:Int):=by omega
        go_wp2_with fail
        all_goals
         refine (ih (A:=A++M1) (X:=X2) (Y:=Y2) (Z:=Z) hr6' (by simp) (by rw [List.length_append,(hP1).length_eq,List.length_append]; have:=HX1.out; have:=HY1.out; have:=HA.out; omega) (by rw [List.length_append,(hP1).length_eq,List.length_append]; have:=HX1.out; have:=HY1.out; have:=HX2.out; have:=HA.out; omega) (by rw [List.length_append,(hP1).length_eq,List.length_append]; have:=HX1.out; have:=HY1.out; have:=HX2.out; have:=HY2.out; have:=HA.out; omega) (by have:=HX2.out; omega) (by have:=HY2.out; omega) (by have:=HX2.out; have:=HY2.out; have:=HNN.out; have:=HA.out; have:=HM.out; have:=HB.out; omega) hN (zAS HWD.out (by rw [HL.out,<-HXe.out,<-HYe.out]; exact zAh hP1)) (zAC HXe.out HSX.out) (zAC HYe.out HSY.out)).mono ?_;rintro e w7 ⟨rfl,M2,hP2,hS2,hr7,hg7⟩
         have hfin:=zAH (le:=leT) (X1:=X1) (X2:=X2) (Y1:=Y1) (Y2:=Y2) (M1:=M1) (M2:=M2) (by rw [HXe.out]; exact HSX.out) (by rw [HYe.out]; exact HSY.out) H12.out H21.out hP1 hP2 hS1 hS2;rw [HXe.out,HYe.out] at hfin;have HFIN:=zNg hfin;clear hfin;go_wp2_with fail
         all_goals first | go_end0 | ((try simp only [Exit.inBlock,Exit.then]); refine bodyPost_ret (results_none rfl _ _ _) rfl ?_)
         all_goals exact ⟨rfl,_,HFIN.out.2,HFIN.out.1,by simpa using hr7,(Off.tr hg6' hg7)⟩
       ·have HS2:Hid (Srt leT (X2++Y2)):=zNg (by
         by_cases hF:F<b
         ·exact zAM (zAC HYe.out HSY.out) (zAE (by have:=HX2.out; omega))
         ·exact zAI (zAC HXe.out HSX.out) (zAE (by have:=HY2.out; omega)))
        have HRow:=zNg hr6';have HG:=zNg hg6';by_cases hF:D<F
        ·have j4:(D:Int)<(F:Int):=by omega
         have j5:¬(F:Int)<(b:Int):=by omega
         have hfin:=zAH (le:=leT) (X1:=X1) (X2:=X2) (Y1:=Y1) (Y2:=Y2) (M1:=M1) (M2:=(X2++Y2)) (by rw [HXe.out]; exact HSX.out) (by rw [HYe.out]; exact HSY.out) H12.out H21.out hP1 (List.Perm.refl _) hS1 HS2.out;rw [HXe.out,HYe.out] at hfin;have HFIN:=zNg hfin;clear hfin;go_wp2_with fail
         all_goals first | go_end0 | ((try simp only [Exit.inBlock,Exit.then]); refine bodyPost_ret (results_none rfl _ _ _) rfl ?_)
         all_goals exact ⟨rfl,_,HFIN.out.2,HFIN.out.1,by simpa using HRow.out,HG.out⟩
        ·have j4:¬(D:Int)<(F:Int):=by omega
         have hfin:=zAH (le:=leT) (X1:=X1) (X2:=X2) (Y1:=Y1) (Y2:=Y2) (M1:=M1) (M2:=(X2++Y2)) (by rw [HXe.out]; exact HSX.out) (by rw [HYe.out]; exact HSY.out) H12.out H21.out hP1 (List.Perm.refl _) hS1 HS2.out;rw [HXe.out,HYe.out] at hfin;have HFIN:=zNg hfin;clear hfin;go_wp2_with fail
         all_goals first | go_end0 | ((try simp only [Exit.inBlock,Exit.then]); refine bodyPost_ret (results_none rfl _ _ _) rfl ?_)
         all_goals exact ⟨rfl,_,HFIN.out.2,HFIN.out.1,by simpa using HRow.out,HG.out⟩
      ·have HS1:Hid (Srt leT (X1++Y1)):=zNg (by
        by_cases hF:a<s
        ·exact zAI (zAb HXe.out HSX.out) (zAE (by have:=HY1.out; omega))
        ·exact zAM (zAb HYe.out HSY.out) (zAE (by have:=HX1.out; omega)))
       have hr6':RowT blk N cap wr ((A++(X1++Y1))++(X2++(Y2++Z))):=by simpa using hr5'
       have hg6':=hg;by_cases hF1:a<s
       ·have j2:(a:Int)<(s:Int):=by omega
        have j3:¬(s:Int)<(D:Int):=by omega
        by_cases hR:D<F∧F<b
        ·have j4:(D:Int)<(F:Int):=by omega
         have j5:(F:Int)<(b:Int):=by omega
         go_wp2_with fail
         all_goals
          refine (ih (A:=A++(X1++Y1)) (X:=X2) (Y:=Y2) (Z:=Z) hr6' (by simp) (by rw [List.length_append,((List.Perm.refl _)).length_eq,List.length_append]; have:=HX1.out; have:=HY1.out; have:=HA.out; omega) (by rw [List.length_append,((List.Perm.refl _)).length_eq,List.length_append]; have:=HX1.out; have:=HY1.out; have:=HX2.out; have:=HA.out; omega) (by rw [List.length_append,((List.Perm.refl _)).length_eq,List.length_append]; have:=HX1.out; have:=HY1.out; have:=HX2.out; have:=HY2.out; have:=HA.out; omega) (by have:=HX2.out; omega) (by have:=HY2.out; omega) (by have:=HX2.out; have:=HY2.out; have:=HNN.out; have:=HA.out; have:=HM.out; have:=HB.out; omega) hN (zAS HWD.out (by rw [HL.out,<-HXe.out,<-HYe.out]; exact zAh (List.Perm.refl _))) (zAC HXe.out HSX.out) (zAC HYe.out HSY.out)).mono ?_;rintro e w7 ⟨rfl,M2,hP2,hS2,hr7,hg7⟩
          have hfin:=zAH (le:=leT) (X1:=X1) (X2:=X2) (Y1:=Y1) (Y2:=Y2) (M1:=(X1++Y1)) (M2:=M2) (by rw [HXe.out]; exact HSX.out) (by rw [HYe.out]; exact HSY.out) H12.out H21.out (List.Perm.refl _) hP2 HS1.out hS2;rw [HXe.out,HYe.out] at hfin;have HFIN:=zNg hfin;clear hfin;go_wp2_with fail
          all_goals first | go_end0 | ((try simp only [Exit.inBlock,Exit.then]); refine bodyPost_ret (results_none rfl _ _ _) rfl ?_)
          all_goals exact ⟨rfl,_,HFIN.out.2,HFIN.out.1,by simpa using hr7,(Off.tr hg6' hg7)⟩
        ·have HS2:Hid (Srt leT (X2++Y2)):=zNg (by
          by_cases hF:F<b
          ·exact zAM (zAC HYe.out HSY.out) (zAE (by have:=HX2.out; omega))
          ·exact zAI (zAC HXe.out HSX.out) (zAE (by have:=HY2.out; omega)))
         have HRow:=zNg hr6';have HG:=zNg hg6';by_cases hF:D<F
         ·have j4:(D:Int)<(F:Int):=by omega
          have j5:¬(F:Int)<(b:Int):=by omega
          have hfin:=zAH (le:=leT) (X1:=X1) (X2:=X2) (Y1:=Y1) (Y2:=Y2) (M1:=(X1++Y1)) (M2:=(X2++Y2)) (by rw [HXe.out]; exact HSX.out) (by rw [HYe.out]; exact HSY.out) H12.out H21.out (List.Perm.refl _) (List.Perm.refl _) HS1.out HS2.out;rw [HXe.out,HYe.out] at hfin;have HFIN:=zNg hfin;clear hfin;go_wp2_with fail
          all_goals first | go_end0 | ((try simp only [Exit.inBlock,Exit.then]); refine bodyPost_ret (results_none rfl _ _ _) rfl ?_)
          all_goals exact ⟨rfl,_,HFIN.out.2,HFIN.out.1,by simpa using HRow.out,HG.out⟩
         ·have j4:¬(D:Int)<(F:Int):=by omega
          have hfin:=zAH (le:=leT) (X1:=X1) (X2:=X2) (Y1:=Y1) (Y2:=Y2) (M1:=(X1++Y1)) (M2:=(X2++Y2)) (by rw [HXe.out]; exact HSX.out) (by rw [HYe.out]; exact HSY.out) H12.out H21.out (List.Perm.refl _) (List.Perm.refl _) HS1.out HS2.out;rw [HXe.out,HYe.out] at hfin;have HFIN:=zNg hfin;clear hfin;go_wp2_with fail
          all_goals first | go_end0 | ((try simp only [Exit.inBlock,Exit.then]); refine bodyPost_ret (results_none rfl _ _ _) rfl ?_)
          all_goals exact ⟨rfl,_,HFIN.out.2,HFIN.out.1,by simpa using HRow.out,HG.out⟩
       ·have j2:¬(a:Int)<(s:Int):=by omega
        by_cases hR:D<F∧F<b
        ·have j4:(D:Int)<(F:Int):=by omega
         have j5:(F:Int)<(b:Int):=by omega
         go_wp2_with fail
         all_goals
          refine (ih (A:=A++(X1++Y1)) (X:=X2) (Y:=Y2) (Z:=Z) hr6' (by simp) (by rw [List.length_append,((List.Perm.refl _)).length_eq,List.length_append]; have:=HX1.out; have:=HY1.out; have:=HA.out; omega) (by rw [List.length_append,((List.Perm.refl _)).length_eq,List.length_append]; have:=HX1.out; have:=HY1.out; have:=HX2.out; have:=HA.out; omega) (by rw [List.length_append,((List.Perm.refl _)).length_eq,List.length_append]; have:=HX1.out; have:=HY1.out; have:=HX2.out; have:=HY2.out; have:=HA.out; omega) (by have:=HX2.out; omega) (by have:=HY2.out; omega) (by have:=HX2.out; have:=HY2.out; have:=HNN.out; have:=HA.out; have:=HM.out; have:=HB.out; omega) hN (zAS HWD.out (by rw [HL.out,<-HXe.out,<-HYe.out]; exact zAh (List.Perm.refl _))) (zAC HXe.out HSX.out) (zAC HYe.out HSY.out)).mono ?_;rintro e w7 ⟨rfl,M2,hP2,hS2,hr7,hg7⟩
          have hfin:=zAH (le:=leT) (X1:=X1) (X2:=X2) (Y1:=Y1) (Y2:=Y2) (M1:=(X1++Y1)) (M2:=M2) (by rw [HXe.out]; exact HSX.out) (by rw [HYe.out]; exact HSY.out) H12.out H21.out (List.Perm.refl _) hP2 HS1.out hS2;rw [HXe.out,HYe.out] at hfin;have HFIN:=zNg hfin;clear hfin;go_wp2_with fail
          all_goals first | go_end0 | ((try simp only [Exit.inBlock,Exit.then]); refine bodyPost_ret (results_none rfl _ _ _) rfl ?_)
          all_goals exact ⟨rfl,_,HFIN.out.2,HFIN.out.1,by simpa using hr7,(Off.tr hg6' hg7)⟩
        ·have HS2:Hid (Srt leT (X2++Y2)):=zNg (by
          by_cases hF:F<b
          ·exact zAM (zAC HYe.out HSY.out) (zAE (by have:=HX2.out; omega))
          ·exact zAI (zAC HXe.out HSX.out) (zAE (by have:=HY2.out; omega)))
         have HRow:=zNg hr6';have HG:=zNg hg6';by_cases hF:D<F
         ·have j4:(D:Int)<(F:Int):=by omega
          have j5:¬(F:Int)<(b:Int):=by omega
          have hfin:=zAH (le:=leT) (X1:=X1) (X2:=X2) (Y1:=Y1) (Y2:=Y2) (M1:=(X1++Y1)) (M2:=(X2++Y2)) (by rw [HXe.out]; exact HSX.out) (by rw [HYe.out]; exact HSY.out) H12.out H21.out (List.Perm.refl _) (List.Perm.refl _) HS1.out HS2.out;rw [HXe.out,HYe.out] at hfin;have HFIN:=zNg hfin;clear hfin;go_wp2_with fail
          all_goals first | go_end0 | ((try simp only [Exit.inBlock,Exit.then]); refine bodyPost_ret (results_none rfl _ _ _) rfl ?_)
          all_goals exact ⟨rfl,_,HFIN.out.2,HFIN.out.1,by simpa using HRow.out,HG.out⟩
         ·have j4:¬(D:Int)<(F:Int):=by omega
          have hfin:=zAH (le:=leT) (X1:=X1) (X2:=X2) (Y1:=Y1) (Y2:=Y2) (M1:=(X1++Y1)) (M2:=(X2++Y2)) (by rw [HXe.out]; exact HSX.out) (by rw [HYe.out]; exact HSY.out) H12.out H21.out (List.Perm.refl _) (List.Perm.refl _) HS1.out HS2.out;rw [HXe.out,HYe.out] at hfin;have HFIN:=zNg hfin;clear hfin;go_wp2_with fail
          all_goals first | go_end0 | ((try simp only [Exit.inBlock,Exit.then]); refine bodyPost_ret (results_none rfl _ _ _) rfl ?_)
          all_goals exact ⟨rfl,_,HFIN.out.2,HFIN.out.1,by simpa using HRow.out,HG.out⟩
     ·have j0:¬(s:Int)<(m:Int):=by omega
      by_cases hLf:a<s∧s<D
      ·have j2:(a:Int)<(s:Int):=by omega
       have j3:(s:Int)<(D:Int):=by omega
       go_wp2_with fail
       refine (ih (A:=A) (X:=X1) (Y:=Y1) (Z:=X2++(Y2++Z)) hr5' rfl HA.out (by have:=HX1.out; have:=HA.out; omega) (by have:=HX1.out; have:=HY1.out; have:=HA.out; omega) (by have:=HX1.out; omega) (by have:=HY1.out; omega) (by have:=HX1.out; have:=HY1.out; have:=HNN.out; have:=HA.out; have:=HM.out; have:=HB.out; omega) hN (zAS HWD.out (by rw [HL.out,<-HXe.out,<-HYe.out]; exact zCD)) (zAb HXe.out HSX.out) (zAb HYe.out HSY.out)).mono ?_;rintro e w6 ⟨rfl,M1,hP1,hS1,hr6,hg6⟩;have hr6':RowT blk N cap w6 ((A++M1)++(X2++(Y2++Z))):=by simpa using hr6
       have hg6':=Off.tr hg hg6;clear hr6 hg6 j2 j3;by_cases hR:D<F∧F<b
       ·have j4:(D:Int)<(F:Int):=by omega
        have j5:(F:Int)<(b:Int):=by omega
        go_wp2_with fail
        all_goals
         refine (ih (A:=A++M1) (X:=X2) (Y:=Y2) (Z:=Z) hr6' (by simp) (by rw [List.length_append,(hP1).length_eq,List.length_append]; have:=HX1.out; have:=HY1.out; have:=HA.out; omega) (by rw [List.length_append,(hP1).length_eq,List.length_append]; have:=HX1.out; have:=HY1.out; have:=HX2.out; have:=HA.out; omega) (by rw [List.length_append,(hP1).length_eq,List.length_append]; have:=HX1.out; have:=HY1.out; have:=HX2.out; have:=HY2.out; have:=HA.out; omega) (by have:=HX2.out; omega) (by have:=HY2.out; omega) (by have:=HX2.out; have:=HY2.out; have:=HNN.out; have:=HA.out; have:=HM.out; have:=HB.out; omega) hN (zAS HWD.out (by rw [HL.out,<-HXe.out,<-HYe.out]; exact zAh hP1)) (zAC HXe.out HSX.out) (zAC HYe.out HSY.out)).mono ?_;rintro e w7 ⟨rfl,M2,hP2,hS2,hr7,hg7⟩
         have hfin:=zAH (le:=leT) (X1:=X1) (X2:=X2) (Y1:=Y1) (Y2:=Y2) (M1:=M1) (M2:=M2) (by rw [HXe.out]; exact HSX.out) (by rw [HYe.out]; exact HSY.out) H12.out H21.out hP1 hP2 hS1 hS2;rw [HXe.out,HYe.out] at hfin;have HFIN:=zNg hfin;clear hfin;go_wp2_with fail
         all_goals first | go_end0 | ((try simp only [Exit.inBlock,Exit.then]); refine bodyPost_ret (results_none rfl _ _ _) rfl ?_)
         all_goals exact ⟨rfl,_,HFIN.out.2,HFIN.out.1,by simpa using hr7,(Off.tr hg6' hg7)⟩
       ·have HS2:Hid (Srt leT (X2++Y2)):=zNg (by
         by_cases hF:F<b
         ·exact zAM (zAC HYe.out HSY.out) (zAE (by have:=HX2.out; omega))
         ·exact zAI (zAC HXe.out HSX.out) (zAE (by have:=HY2.out; omega)))
        have HRow:=zNg hr6';have HG:=zNg hg6';by_cases hF:D<F
        ·have j4:(D:Int)<(F:Int):=by omega
         have j5:¬(F:Int)<(b:Int):=by omega
         have hfin:=zAH (le:=leT) (X1:=X1) (X2:=X2) (Y1:=Y1) (Y2:=Y2) (M1:=M1) (M2:=(X2++Y2)) (by rw [HXe.out]; exact HSX.out) (by rw [HYe.out]; exact HSY.out) H12.out H21.out hP1 (List.Perm.refl _) hS1 HS2.out;rw [HXe.out,HYe.out] at hfin;have HFIN:=zNg hfin;clear hfin;go_wp2_with fail
         all_goals first | go_end0 | ((try simp only [Exit.inBlock,Exit.then]); refine bodyPost_ret (results_none rfl _ _ _) rfl ?_)
         all_goals exact ⟨rfl,_,HFIN.out.2,HFIN.out.1,by simpa using HRow.out,HG.out⟩
        ·have j4:¬(D:Int)<(F:Int):=by omega
         have hfin:=zAH (le:=leT) (X1:=X1) (X2:=X2) (Y1:=Y1) (Y2:=Y2) (M1:=M1) (M2:=(X2++Y2)) (by rw [HXe.out]; exact HSX.out) (by rw [HYe.out]; exact HSY.out) H12.out H21.out hP1 (List.Perm.refl _) hS1 HS2.out;rw [HXe.out,HYe.out] at hfin;have HFIN:=zNg hfin;clear hfin;go_wp2_with fail
         all_goals first | go_end0 | ((try simp only [Exit.inBlock,Exit.then]); refine bodyPost_ret (results_none rfl _ _ _) rfl ?_)
         all_goals exact ⟨rfl,_,HFIN.out.2,HFIN.out.1,by simpa using HRow.out,HG.out⟩
      ·have HS1:Hid (Srt leT (X1++Y1)):=zNg (by
        by_cases hF:a<s
        ·exact zAI (zAb HXe.out HSX.out) (zAE (by have:=HY1.out; omega))
        ·exact zAM (zAb HYe.out HSY.out) (zAE (by have:=HX1.out; omega)))
       have hr6':RowT blk N cap wr ((A++(X1++Y1))++(X2++(Y2++Z))):=by simpa using hr5'
       have hg6':=hg;by_cases hF1:a<s
       ·have j2:(a:Int)<(s:Int):=by omega
        have j3:¬(s:Int)<(D:Int):=by omega
        by_cases hR:D<F∧F<b
        ·have j4:(D:Int)<(F:Int):=by omega
         have j5:(F:Int)<(b:Int):=by omega
         go_wp2_with fail
         all_goals
          refine (ih (A:=A++(X1++Y1)) (X:=X2) (Y:=Y2) (Z:=Z) hr6' (by simp) (by rw [List.length_append,((List.Perm.refl _)).length_eq,List.length_append]; have:=HX1.out; have:=HY1.out; have:=HA.out; omega) (by rw [List.length_append,((List.Perm.refl _)).length_eq,List.length_append]; have:=HX1.out; have:=HY1.out; have:=HX2.out; have:=HA.out; omega) (by rw [List.length_append,((List.Perm.refl _)).length_eq,List.length_append]; have:=HX1.out; have:=HY1.out; have:=HX2.out; have:=HY2.out; have:=HA.out; omega) (by have:=HX2.out; omega) (by have:=HY2.out; omega) (by have:=HX2.out; have:=HY2.out; have:=HNN.out; have:=HA.out; have:=HM.out; have:=HB.out; omega) hN (zAS HWD.out (by rw [HL.out,<-HXe.out,<-HYe.out]; exact zAh (List.Perm.refl _))) (zAC HXe.out HSX.out) (zAC HYe.out HSY.out)).mono ?_;rintro e w7 ⟨rfl,M2,hP2,hS2,hr7,hg7⟩
          have hfin:=zAH (le:=leT) (X1:=X1) (X2:=X2) (Y1:=Y1) (Y2:=Y2) (M1:=(X1++Y1)) (M2:=M2) (by rw [HXe.out]; exact HSX.out) (by rw [HYe.out]; exact HSY.out) H12.out H21.out (List.Perm.refl _) hP2 HS1.out hS2;rw [HXe.out,HYe.out] at hfin;have HFIN:=zNg hfin;clear hfin;go_wp2_with fail
          all_goals first | go_end0 | ((try simp only [Exit.inBlock,Exit.then]); refine bodyPost_ret (results_none rfl _ _ _) rfl ?_)
          all_goals exact ⟨rfl,_,HFIN.out.2,HFIN.out.1,by simpa using hr7,(Off.tr hg6' hg7)⟩
        ·have HS2:Hid (Srt leT (X2++Y2)):=zNg (by
          by_cases hF:F<b
          ·exact zAM (zAC HYe.out HSY.out) (zAE (by have:=HX2.out; omega))
          ·exact zAI (zAC HXe.out HSX.out) (zAE (by have:=HY2.out; omega)))
         have HRow:=zNg hr6';have HG:=zNg hg6';by_cases hF:D<F
         ·have j4:(D:Int)<(F:Int):=by omega
          have j5:¬(F:Int)<(b:Int):=by omega
          have hfin:=zAH (le:=leT) (X1:=X1) (X2:=X2) (Y1:=Y1) (Y2:=Y2) (M1:=(X1++Y1)) (M2:=(X2++Y2)) (by rw [HXe.out]; exact HSX.out) (by rw [HYe.out]; exact HSY.out) H12.out H21.out (List.Perm.refl _) (List.Perm.refl _) HS1.out HS2.out;rw [HXe.out,HYe.out] at hfin;have HFIN:=zNg hfin;clear hfin;go_wp2_with fail
          all_goals first | go_end0 | ((try simp only [Exit.inBlock,Exit.then]); refine bodyPost_ret (results_none rfl _ _ _) rfl ?_)
          all_goals exact ⟨rfl,_,HFIN.out.2,HFIN.out.1,by simpa using HRow.out,HG.out⟩
         ·have j4:¬(D:Int)<(F:Int):=by omega
          have hfin:=zAH (le:=leT) (X1:=X1) (X2:=X2) (Y1:=Y1) (Y2:=Y2) (M1:=(X1++Y1)) (M2:=(X2++Y2)) (by rw [HXe.out]; exact HSX.out) (by rw [HYe.out]; exact HSY.out) H12.out H21.out (List.Perm.refl _) (List.Perm.refl _) HS1.out HS2.out;rw [HXe.out,HYe.out] at hfin;have HFIN:=zNg hfin;clear hfin;go_wp2_with fail
          all_goals first | go_end0 | ((try simp only [Exit.inBlock,Exit.then]); refine bodyPost_ret (results_none rfl _ _ _) rfl ?_)
          all_goals exact ⟨rfl,_,HFIN.out.2,HFIN.out.1,by simpa using HRow.out,HG.out⟩
       ·have j2:¬(a:Int)<(s:Int):=by omega
        by_cases hR:D<F∧F<b
        ·have j4:(D:Int)<(F:Int):=by omega
         have j5:(F:Int)<(b:Int):=by omega
         go_wp2_with fail
         all_goals
          refine (ih (A:=A++(X1++Y1)) (X:=X2) (Y:=Y2) (Z:=Z) hr6' (by simp) (by rw [List.length_append,((List.Perm.refl _)).length_eq,List.length_append]; have:=HX1.out; have:=HY1.out; have:=HA.out; omega) (by rw [List.length_append,((List.Perm.refl _)).length_eq,List.length_append]; have:=HX1.out; have:=HY1.out; have:=HX2.out; have:=HA.out; omega) (by rw [List.length_append,((List.Perm.refl _)).length_eq,List.length_append]; have:=HX1.out; have:=HY1.out; have:=HX2.out; have:=HY2.out; have:=HA.out; omega) (by have:=HX2.out; omega) (by have:=HY2.out; omega) (by have:=HX2.out; have:=HY2.out; have:=HNN.out; have:=HA.out; have:=HM.out; have:=HB.out; omega) hN (zAS HWD.out (by rw [HL.out,<-HXe.out,<-HYe.out]; exact zAh (List.Perm.refl _))) (zAC HXe.out HSX.out) (zAC HYe.out HSY.out)).mono ?_;rintro e w7 ⟨rfl,M2,hP2,hS2,hr7,hg7⟩
          have hfin:=zAH (le:=leT) (X1:=X1) (X2:=X2) (Y1:=Y1) (Y2:=Y2) (M1:=(X1++Y1)) (M2:=M2) (by rw [HXe.out]; exact HSX.out) (by rw [HYe.out]; exact HSY.out) H12.out H21.out (List.Perm.refl _) hP2 HS1.out hS2;rw [HXe.out,HYe.out] at hfin;have HFIN:=zNg hfin;clear hfin;go_wp2_with fail
          all_goals first | go_end0 | ((try simp only [Exit.inBlock,Exit.then]); refine bodyPost_ret (results_none rfl _ _ _) rfl ?_)
          all_goals exact ⟨rfl,_,HFIN.out.2,HFIN.out.1,by simpa using hr7,(Off.tr hg6' hg7)⟩
        ·have HS2:Hid (Srt leT (X2++Y2)):=zNg (by
          by_cases hF:F<b
          ·exact zAM (zAC HYe.out HSY.out) (zAE (by have:=HX2.out; omega))
          ·exact zAI (zAC HXe.out HSX.out) (zAE (by have:=HY2.out; omega)))
         have HRow:=zNg hr6';have HG:=zNg hg6';by_cases hF:D<F
         ·have j4:(D:Int)<(F:Int):=by omega
          have j5:¬(F:Int)<(b:Int):=by omega
          have hfin:=zAH (le:=leT) (X1:=X1) (X2:=X2) (Y1:=Y1) (Y2:=Y2) (M1:=(X1++Y1)) (M2:=(X2++Y2)) (by rw [HXe.out]; exact HSX.out) (by rw [HYe.out]; exact HSY.out) H12.out H21.out (List.Perm.refl _) (List.Perm.refl _) HS1.out HS2.out;rw [HXe.out,HYe.out] at hfin;have HFIN:=zNg hfin;clear hfin;go_wp2_with fail
          all_goals first | go_end0 | ((try simp only [Exit.inBlock,Exit.then]); refine bodyPost_ret (results_none rfl _ _ _) rfl ?_)
          all_goals exact ⟨rfl,_,HFIN.out.2,HFIN.out.1,by simpa using HRow.out,HG.out⟩
         ·have j4:¬(D:Int)<(F:Int):=by omega
          have hfin:=zAH (le:=leT) (X1:=X1) (X2:=X2) (Y1:=Y1) (Y2:=Y2) (M1:=(X1++Y1)) (M2:=(X2++Y2)) (by rw [HXe.out]; exact HSX.out) (by rw [HYe.out]; exact HSY.out) H12.out H21.out (List.Perm.refl _) (List.Perm.refl _) HS1.out HS2.out;rw [HXe.out,HYe.out] at hfin;have HFIN:=zNg hfin;clear hfin;go_wp2_with fail
          all_goals first | go_end0 | ((try simp only [Exit.inBlock,Exit.then]); refine bodyPost_ret (results_none rfl _ _ _) rfl ?_)
          all_goals exact ⟨rfl,_,HFIN.out.2,HFIN.out.1,by simpa using HRow.out,HG.out⟩
theorem zLK {blk N cap:Nat}:SymP blk N cap 0:=by
 intro A X Y Z L w a m b h hL ha hm hb hX hY hn;omega
theorem zLJ {blk N cap n:Nat} (ih:SymP blk N cap n):SymP blk N cap (n+1):=by
 intro A X Y Z L w a m b h hL ha hm hb hX hY hn hN hwd hSX hSY;by_cases h1:X.length=1
 ·obtain ⟨x,rfl⟩:=List.length_eq_one_iff.1 h1;exact zLI h hL ha (by simpa using hm) (by simpa using hb) hN hwd hSY
 ·by_cases h2:Y.length=1
  ·obtain ⟨y,rfl⟩:=List.length_eq_one_iff.1 h2;exact zKa h hL ha hm (by simpa using hb) (by omega) hN hwd hSX
  ·exact zMk ih h hL ha hm hb (by omega) (by omega) hn hN hwd hSX hSY
theorem zF5 {blk N cap:Nat}:∀n,SymP blk N cap n
 | 0=>zLK
 | n+1=>zLJ (zF5 n)
theorem zMf {blk N cap:Nat} {L:List El} {w:World} (h:RowT blk N cap w L) (hN:N≤1048576) (hwd:WdOk L) :
  Calls Tryz.prog 117 #[.slice (some ⟨blk,0,none⟩) N cap,.int .i64 N,.func (.func 92) #[] #[]] w fun e w' =>
   e=.returned (.tuple #[])∧∃M,M.Perm L∧Srt leT M∧RowT blk N cap w' M∧w.grownBy w' (some blk):=by
 have HWD:=zNg hwd;clear hwd;go_enter Tryz.func117,Tryz.ntmps117
 go_wp2_with fail
 go_loopw [7,8] (fun av bv wr=>∃(q A B:Nat) (P R:List El),av=.int .i64 (A:Int)∧bv=.int .i64 (B:Int)∧A≤N∧B≤A+20∧A+20≤B∧Hid (A=q*20)∧Hid (P.length=q*20)∧Hid (BS leT 20 P)∧Hid ((P++R).Perm L)∧RowT blk N cap wr (P++R)∧w.grownBy wr (some blk)) (fun av _ _=>N+20-(intOf av).toNat)
 case atStart=>exact ⟨0,0,20,[],L,rfl,rfl,Nat.zero_le _,zNl _,zNl _,zNg rfl,zNg rfl,zNg (zJW 20),zNg (List.Perm.refl _),h,World.grownBy.refl _ _⟩
 case round =>
  obtain ⟨q,A,B,P,R,rfl,rfl,hq,hB1,hB2,HQ,HP,HS,HPM,hr,hg⟩:=hrel;have HW:=zNg (zAS HWD.out HPM.out);have HLN:=zNg (show P.length+R.length=N by have:=hr.1; rwa [List.length_append] at this);by_cases hb:B≤N
  ·have i1:(B:Int)≤(N:Int):=by omega
   have HT:Hid (R.take 20++R.drop 20=R):=zNg (List.take_append_drop _ _);have HT1:Hid ((R.take 20).length=20):=zNg (by have:=HLN.out; have:=HP.out; have:=HQ.out; simp; omega);generalize R.take 20=M at *;generalize R.drop 20=R2 at *;go_wp2_with fail
   refine (zFL (A:=P) (M:=M) (Z:=R2) hr (by rw [HT.out]) (by rw [HP.out,HQ.out]) (by rw [HP.out,HT1.out]; have:=HQ.out; omega) hN HW.out).mono ?_;rintro e w1 ⟨rfl,M',hM1,hM2,hr1,hg1⟩;have hML:=hM1.length_eq;have HML:=zNg (hML.trans HT1.out);have HM1:=zNg hM1;clear hML hM1;go_wp2_with fail
   go_roundw
   case rel=>exact ⟨q+1,B,B+20,P++M',R2,rfl,by go_num,hb,zNl _,zNl _,zNg (by have:=HQ.out; omega),zNg (by rw [List.length_append,HP.out,HML.out]; omega),zNg (zAU HS.out HP.out hM2 (by rw [HML.out]; exact zNl _)),zNg (by
    refine List.Perm.trans ?_ HPM.out;rw [List.append_assoc];refine List.Perm.append_left P ?_;rw [<-HT.out];exact HM1.out.append_right R2),by rw [List.append_assoc]; exact hr1,Off.tr hg hg1⟩
   case measure=>simp [intOf]; omega
  ·have i1:¬(B:Int)≤(N:Int):=by omega
   go_wp2_with fail
   refine (zFL (A:=P) (M:=R) (Z:=[]) hr (by rw [List.append_nil]) (by rw [HP.out,HQ.out]) (by rw [HLN.out]) hN HW.out).mono ?_;rintro e w1 ⟨rfl,M',hM1,hM2,hr1,hg1⟩;have HPM2:Hid ((P++M').Perm L):=zNg ((List.Perm.append_left P hM1).trans HPM.out);have HS1:Hid (BS leT 20 (P++M')):=zNg (zAU HS.out HP.out hM2 (by have:=hM1.length_eq; have:=HLN.out; have:=HP.out; have:=HQ.out; omega));rw [List.append_nil] at hr1;have hg1:=Off.tr hg hg1;generalize P++M'=L1 at *;clear hr hM1 hM2 HPM HS HP HQ HW HLN;go_wp2_with fail
   go_loopw [6] (fun sv wr=>∃(s:Nat) (K:List El),sv=.int .i64 (s:Int)∧20≤s∧s≤2*N+20∧Hid (BS leT s K)∧Hid (K.Perm L)∧RowT blk N cap wr K∧w.grownBy wr (some blk)) (fun sv _=>N-(intOf sv).toNat)
   case atStart=>exact ⟨20,L1,rfl,zNl _,by omega,HS1,HPM2,hr1,hg1⟩
   case round =>
    obtain ⟨s,K,rfl,hs1,hs2,HS,HPM,hr,hg⟩:=hrel;by_cases hsN:s<N
    ·have i2:(s:Int)<(N:Int):=by omega
     obtain ⟨T,hT⟩:∃T:Nat,T=2*s:=⟨_,rfl⟩;have hT1:2*(s:Int)=(T:Int):=by omega
     have hT2:(s:Int)*2=(T:Int):=by omega
     have hT3:T≤2*s:=by omega
     have hT4:2*s≤T:=by omega
     have HT:=zNg hT;clear hT;go_wp2_with fail
     go_loopw [7,8] (fun av bv wr=>∃(q A B:Nat) (P R:List El),av=.int .i64 (A:Int)∧bv=.int .i64 (B:Int)∧A≤N∧B≤A+T∧A+T≤B∧Hid (A=q*T)∧Hid (P.length=q*T)∧Hid (BS leT T P)∧Hid (BS leT s R)∧Hid ((P++R).Perm L)∧RowT blk N cap wr (P++R)∧w.grownBy wr (some blk)) (fun av _ _=>N+T-(intOf av).toNat)
     case atStart=>exact ⟨0,0,T,[],K,rfl,rfl,Nat.zero_le _,by omega,by omega,zNg (by omega),zNg (by rw [Nat.zero_mul]; rfl),zNg (zJW T),HS,HPM,hr,hg⟩
     case round =>
      obtain ⟨q,A,B,P,R,rfl,rfl,hq,hB1,hB2,HQ,HP,HS,HSR,HPM,hr,hg⟩:=hrel;have HW:=zNg (zAS HWD.out HPM.out);have HLN:=zNg (show P.length+R.length=N by have:=hr.1; rwa [List.length_append] at this);by_cases hb:B≤N
      ·have i3:(B:Int)≤(N:Int):=by omega
       obtain ⟨U,hU⟩:∃U:Nat,U=A+s:=⟨_,rfl⟩;have hAs:(A:Int)+(s:Int)=(U:Int):=by omega
       have HU:=zNg hU;clear hU;have HX:Hid (Srt leT (R.take s)):=zNg (zH3 HSR.out);have HY:Hid (Srt leT ((R.drop s).take s)):=zNg (zGA HSR.out);have HR2:Hid (BS leT s (R.drop (2*s))):=zNg (zLg HSR.out 2);have HT0:Hid (R.take s++((R.drop s).take s++R.drop (2*s))=R):=zNg (by
        rw [show R.drop (2*s)=(R.drop s).drop s by rw [List.drop_drop]; congr 1; omega,List.take_append_drop,List.take_append_drop])
       have HX1:Hid ((R.take s).length=s):=zNg (by have:=HLN.out; have:=HP.out; have:=HQ.out; simp; omega);have HY1:Hid (((R.drop s).take s).length=s):=zNg (by have:=HLN.out; have:=HP.out; have:=HQ.out; simp; omega);generalize R.take s=X at *;generalize (R.drop s).take s=Y at *;generalize R.drop (2*s)=R2 at *;go_wp2_with fail
       refine (zF5 (N+N) (A:=P) (X:=X) (Y:=Y) (Z:=R2) hr (by rw [HT0.out]) (by rw [HP.out,HQ.out]) (by rw [HP.out,HX1.out,HU.out,HQ.out]) (by rw [HP.out,HX1.out,HY1.out]; have:=HQ.out; omega) (by rw [HX1.out]; omega) (by rw [HY1.out]; omega) (by rw [HX1.out,HY1.out]; omega) hN HW.out HX.out HY.out).mono ?_;rintro e w1 ⟨rfl,M',hM1,hM2,hr1,hg1⟩;have HML:Hid (M'.length=T):=zNg (by have:=hM1.length_eq; rw [List.length_append,HX1.out,HY1.out] at this; omega);have HM1:=zNg hM1;clear hM1;go_wp2_with fail
       go_roundw
       case rel=>exact ⟨q+1,B,B+T,P++M',R2,rfl,by go_num,hb,by omega,by omega,zNg (by have:=HQ.out; rw [Nat.add_mul,Nat.one_mul]; omega),zNg (by rw [List.length_append,HP.out,HML.out,Nat.add_mul,Nat.one_mul]),zNg (zAU HS.out HP.out hM2 (by rw [HML.out]; exact zNl _)),HR2,zNg (by
        refine List.Perm.trans ?_ HPM.out;rw [List.append_assoc];refine List.Perm.append_left P ?_;rw [<-HT0.out,<-List.append_assoc X];exact HM1.out.append_right R2),by rw [List.append_assoc]; exact hr1,Off.tr hg hg1⟩
       case measure=>simp [intOf]; omega
      ·have i3:¬(B:Int)≤(N:Int):=by omega
       by_cases hm:A+s<N
       ·have i4:(A:Int)+(s:Int)<(N:Int):=by omega
        obtain ⟨U,hU⟩:∃U:Nat,U=A+s:=⟨_,rfl⟩;have hAs:(A:Int)+(s:Int)=(U:Int):=by omega
        have HU:=zNg hU;clear hU;have HX:Hid (Srt leT (R.take s)):=zNg (zH3 HSR.out);have HY:Hid (Srt leT (R.drop s)):=zNg (by
         have:=zGA HSR.out;rwa [List.take_of_length_le (by have:=HLN.out; have:=HP.out; have:=HQ.out; simp; omega)] at this)
        have HT0:Hid (R.take s++R.drop s=R):=zNg (List.take_append_drop _ _);have HX1:Hid ((R.take s).length=s):=zNg (by have:=HLN.out; have:=HP.out; have:=HQ.out; simp; omega);have HY1:Hid ((R.drop s).length+(A+s)=N):=zNg (by have:=HLN.out; have:=HP.out; have:=HQ.out; simp; omega);generalize R.take s=X at *;generalize R.drop s=Y at *;go_wp2_with fail
        refine (zF5 (N+N) (A:=P) (X:=X) (Y:=Y) (Z:=[]) hr (by rw [List.append_nil,HT0.out]) (by rw [HP.out,HQ.out]) (by rw [HP.out,HX1.out,HU.out,HQ.out]) (by rw [HP.out,HX1.out]; have:=HQ.out; have:=HY1.out; omega) (by rw [HX1.out]; omega) (by have:=HY1.out; omega) (by rw [HX1.out]; have:=HY1.out; omega) hN HW.out HX.out HY.out).mono ?_;rintro e w1 ⟨rfl,M',hM1,hM2,hr1,hg1⟩;have HBS:Hid (BS leT T (P++M')):=zNg (zAU HS.out HP.out hM2 (by have:=hM1.length_eq; rw [List.length_append,HX1.out] at this; have:=HY1.out; omega));have HPM2:Hid ((P++M').Perm L):=zNg ((List.Perm.append_left P (by rw [<-HT0.out]; exact hM1)).trans HPM.out);rw [List.append_nil] at hr1;clear hM1 hM2;go_wp2_with fail
        go_roundw
        case rel=>exact ⟨T,P++M',rfl,by omega,by omega,HBS,HPM2,hr1,Off.tr hg hg1⟩
        case measure=>simp [intOf]; omega
       ·have i4:¬(A:Int)+(s:Int)<(N:Int):=by omega
        have HBS:Hid (BS leT T (P++R)):=zNg (zAU HS.out HP.out (zJX HSR.out (by have:=HLN.out; have:=HP.out; have:=HQ.out; omega)) (by have:=HLN.out; have:=HP.out; have:=HQ.out; omega));go_wp2_with fail
        go_roundw
        case rel=>exact ⟨T,P++R,rfl,by omega,by omega,HBS,HPM,hr,hg⟩
        case measure=>simp [intOf]; omega
    ·have i2:¬(s:Int)<(N:Int):=by omega
     have HSRT:Hid (Srt leT K):=zNg (zJX HS.out (by have:=hr.1; omega));go_wp2_with fail
     go_end0
     exact ⟨rfl,K,HPM.out,HSRT.out,hr,hg⟩
theorem zHv {blk N cap:Nat} {L:List El} {w:World} (h:RowT blk N cap w L) (hN:N≤1048576) (hwd:WdOk L) :
  Calls Tryz.prog 91 #[.slice (some ⟨blk,0,none⟩) N cap,.func (.func 92) #[] #[]] w fun e w' =>
   e=.returned (.tuple #[])∧∃M,M.Perm L∧Srt leT M∧RowT blk N cap w' M∧w.grownBy w' (some blk):=by
 have hc:=zMf h hN hwd;go_enter Tryz.func91,Tryz.ntmps91
 go_wp2_with fail
 refine hc.mono ?_;rintro e w1 ⟨rfl,hM⟩;go_wp2_with fail
 go_end0
 exact ⟨rfl,hM⟩
end Go.Proofs.YtlchafedbnihoaaGreatDoor
