/- Every block but one: what one block's turning leaves as it was. No condition. -/
import Derived.Shelf.RegionOpenPlain
import Derived.Test.YtlchafedbnihoaaGreatDoorJGHeap
namespace Go.Proofs.YtlchafedbnihoaaGreatDoor
open Go.RowKit
set_option maxRecDepth 20000
set_option maxHeartbeats 16000000
abbrev Off (b:Nat):Nat→Prop:=fun g=>g≠b
theorem Off.keepI {mb:Nat} {w w':World} {v:Value} {l:List Int} (h:RI (Off mb) w v l) (hg:w.grownBy w' (some mb)):RI (Off mb) w' v l:=h.keep fun b hb hl=>hg.block b hl (by simpa using hb)
theorem Off.grown {mb:Nat} {w w':World} (h:Below w.heap.size w w'):w.grownBy w' (some mb):=⟨h.os,h.tape,h.output,h.size,fun i hi _=>h.block i hi⟩
theorem Off.tr {mb:Nat} {a b c:World} (h:a.grownBy b (some mb)) (k:b.grownBy c (some mb)):a.grownBy c (some mb) :=
 ⟨k.os.trans h.os,k.tape.trans h.tape,k.output.trans h.output,Nat.le_trans h.size k.size,fun i hi hn=>(k.block i (Nat.lt_of_lt_of_le hi h.size) hn).trans (h.block i hi hn)⟩
theorem Off.drewG {mb:Nat} {a b:World} (h:a.grownBy b (some mb)):a.grownBy b.drew (some mb):=⟨h.os,h.tape,h.output,h.size,h.block⟩
theorem zJT (x:Int) {m:Nat} (hm:m<4611686018427387904):0≤bits .and .i64 x (m:Int)∧bits .and .i64 x (m:Int)≤m:=by
 have h1:((BitVec.ofInt 64 x) &&& (BitVec.ofInt 64 (m:Int))).toNat≤m:=by
  rw [BitVec.toNat_and];refine Nat.le_trans Nat.and_le_right ?_;rw [BitVec.toNat_ofInt];omega
 have h2:bits .and .i64 x (m:Int)=(((BitVec.ofInt 64 x) &&& (BitVec.ofInt 64 (m:Int))).toNat:Int):=by
  show IntKind.i64.wrap ((((BitVec.ofInt 64 x) &&& (BitVec.ofInt 64 (m:Int))).toNat:Nat):Int)=_;exact IntWalk.i64_in _ (by omega)
 rw [h2];omega
def RBy (S:Nat→Prop) (w:World) (v:Value) (n:Nat):Prop :=
 ∃a cap,v=.slice a n cap∧∀j,j<n→∃b o x,a=some ⟨b,o,none⟩∧S b∧w.cell? ⟨b,o+j,none⟩=some (.int .u8 x)∧Hid (0≤x∧x≤255)
theorem RBy.keep {S:Nat→Prop} {w w':World} {v:Value} {n:Nat} (h:RBy S w v n) (hb:∀b,S b→b<w.heap.size→w'.heap[b]? = w.heap[b]?):RBy S w' v n:=by
 obtain ⟨a,cap,hv,h⟩:=h;refine ⟨a,cap,hv,fun j hj=>?_⟩;obtain ⟨b,o,x,ha,hs,hc,hx⟩:=h j hj;exact ⟨b,o,x,ha,hs,by rw [World.cell?_of_block (w:=w) (hb b hs (zNk w _ hc))]; exact hc,hx⟩
theorem RBy.below {S:Nat→Prop} {w w':World} {v:Value} {n:Nat} (h:RBy S w v n) (hb:Below w.heap.size w w'):RBy S w' v n:=h.keep fun b _ hl=>hb.block b hl
theorem RBy.mono {S S':Nat→Prop} {w:World} {v:Value} {n:Nat} (h:RBy S w v n) (hS:∀b,S b→b<w.heap.size→S' b):RBy S' w v n:=by
 obtain ⟨a,cap,hv,h⟩:=h;refine ⟨a,cap,hv,fun j hj=>?_⟩;obtain ⟨b,o,x,ha,hs,hc,hx⟩:=h j hj;exact ⟨b,o,x,ha,hS b hs (zNk w _ hc),hc,hx⟩
abbrev Lw (g:Nat):Nat→Prop:=fun b=>b<g
def Cur (w:World) (g:Nat):Prop:=∃(a:Option Addr) (n cap i:Nat) (h:Int),n≤1048576 ∧
 w.ownsRow 0 97 3 (.slice (some ⟨g,0,none⟩) 1 1) 1 [.slice a n cap,.int .i64 i,.int .i64 h]∧RBy (Lw g) w (.slice a n cap) n
theorem Cur.below {w w':World} {g:Nat} (h:Cur w g) (hb:Below w.heap.size w w'):Cur w' g:=by
 obtain ⟨a,n,cap,i,x,hn,h1,h2⟩:=h;exact ⟨a,n,cap,i,x,hn,zA4 h1 (fun b hv=>hb.block b (h1.lt b hv).2),h2.below hb⟩
theorem Cur.lt {w:World} {g:Nat} (h:Cur w g):g<w.heap.size:=by
 obtain ⟨a,n,cap,i,x,hn,h1,h2⟩:=h;exact (h1.lt g rfl).2
theorem Off.byt {g:Nat} {w w':World} {v:Value} {n:Nat} (h:RBy (Lw g) w v n) (hg:w.grownBy w' (some g)):RBy (Lw g) w' v n:=h.keep fun b (hb:b<g) hl=>hg.block b hl (by rintro ⟨⟩; omega)
theorem Cur.same {w w':World} {g:Nat} (h:Cur w g) (hb:∀b,b≤g→w'.heap[b]? = w.heap[b]?):Cur w' g:=by
 obtain ⟨a,n,cap,i,x,hn,h1,h2⟩:=h;exact ⟨a,n,cap,i,x,hn,zA4 h1 (fun b hv=>hb b (by cases hv; exact zNl _)),h2.keep fun b (hb':b<g) _=>hb b (by omega)⟩
theorem zMw {w:World} {g:Nat} (h:Cur w g) :
  Calls Tryz.prog 119 #[.pointer (some ⟨g,0,none⟩)] w fun e w'=>∃x:Nat,x<256∧e=.returned (.int .i64 x)∧Cur w' g∧w.grownBy w' (some g):=by
 have mixed:Tryz.prog.follows .mixedOrders=true:=by kernel_rfl
 obtain ⟨a,n,cap,i,h,hn,h1,h2⟩:=h;have c2:=h1.cellAt 2 (by omega);have z2:=h1.frozenAt 2;simp only [List.getElem?_cons_succ,List.getElem?_cons_zero] at c2;obtain ⟨H,hH⟩:∃H,wrap64 (wrap64 (h*6364136223846793005)+1442695040888963407)=H:=⟨_,rfl⟩;obtain ⟨o1,g1⟩:=h1.stored 2 (.int .i64 H);have o1:(w.setCell ⟨g,2,none⟩ (.int .i64 H)).ownsRow 0 97 3 (.slice (some ⟨g,0,none⟩) 1 1) 1 [.slice a n cap,.int .i64 i,.int .i64 H]:=o1;have h2:=Off.byt h2 g1;go_enter Tryz.func119,Tryz.ntmps119
 go_wp2_with fail
 clear hH c2 z2 h1;generalize w.setCell ⟨g,2,none⟩ (.int .i64 H)=w1 at *;have d0:=o1.cellAt 0 (by omega);have d1:=o1.cellAt 1 (by omega);have d2:=o1.cellAt 2 (by omega);simp only [List.getElem?_cons_succ,List.getElem?_cons_zero] at d0 d1 d2;have f1:=o1.frozenAt 1;go_big_region_o
 have hB:=zJT (bits BinOp.xor IntKind.i64 (H / 8589934592) (H / 35184372088832)) (m:=255) (by omega);have e255:((255:Nat):Int)=255:=rfl;rw [e255] at hB;generalize bits BinOp.and IntKind.i64 (bits BinOp.xor IntKind.i64 (H / 8589934592) (H / 35184372088832)) 255=x0 at *;by_cases hi:i<n
 ·have i1:(i:Int)<(n:Int):=by omega
  obtain ⟨ab,cb,eb,hby⟩:=h2;simp only [Value.slice.injEq] at eb;obtain ⟨rfl,-,rfl⟩:=eb;have h2:RBy (Lw g) w1 (.slice a n cap) n:=⟨a,cap,rfl,hby⟩;obtain ⟨b,o,x,rfl,hs,hc,hx⟩:=hby i hi;have HX:=zNg hx.out;clear hby hx;obtain ⟨o2,g2⟩:=o1.stored 1 (.int .i64 ((i:Int)+1));have o2:(w1.setCell ⟨g,1,none⟩ (.int .i64 ((i:Int)+1))).ownsRow 0 97 3 (.slice (some ⟨g,0,none⟩) 1 1) 1 [.slice (some ⟨b,o,none⟩) n cap,.int .i64 ((i+1:Nat):Int),.int .i64 H]:=o2;have h3:=Off.byt h2 g2;go_wp2_with fail
  go_big_region_o
  go_wp2_with fail
  go_big_region_o
  have hB2:=zJT (wrap64 (x0+wrap64 x)) (m:=255) (by omega);rw [e255] at hB2;go_wp2_with fail
  go_ret
  refine ⟨(bits BinOp.and IntKind.i64 (wrap64 (x0+wrap64 x)) 255).toNat,by omega,zAg (by omega),?_,Off.drewG (Off.drewG (Off.drewG (Off.tr g1 g2)))⟩;have hcur:Cur (w1.setCell ⟨g,1,none⟩ (.int .i64 ((i:Int)+1))) g:=⟨_,n,cap,i+1,H,hn,o2,h3⟩;exact hcur.below (Below.refl _ _).drew.drew.drew
 ·have i1:¬(i:Int)<(n:Int):=by omega
  go_wp2_with fail
  go_big_region_o
  go_wp2_with fail
  go_ret
  have hcur:Cur w1 g:=⟨a,n,cap,i,H,hn,o1,h2⟩;exact ⟨x0.toNat,by omega,zAg (by omega),hcur.below (Below.refl _ _).drew.drew,Off.drewG (Off.drewG g1)⟩
theorem zAq {w:World} {g n:Nat} (h:Cur w g) (h1:1≤n) (h2:n≤256) :
  Calls Tryz.prog 99 #[.pointer (some ⟨g,0,none⟩),.int .i64 n] w fun e w'=>∃x:Nat,x<n∧e=.returned (.int .i64 x)∧Cur w' g∧w.grownBy w' (some g):=by
 have i1:¬(n:Int)≤0:=by omega
 have i2:(n:Int)≤256:=by omega
 have i3:((n:Int) == 0)=false:=by simp; omega
 go_enter Tryz.func99,Tryz.ntmps99
 go_wp2_with fail
 refine (zMw h).mono ?_;rintro e w1 ⟨x,hx,rfl,hc,hg⟩;go_wp2_with fail
 go_ret
 exact ⟨x % n,Nat.mod_lt _ (by omega),by first | rfl | exact zAg (by omega),hc,hg⟩
theorem zCw {w:World} {g n:Nat} (h:Cur w g) (h1:1≤n) (h2:n≤256) :
  Calls Tryz.prog 69 #[.pointer (some ⟨g,0,none⟩),.int .i64 n] w fun e w'=>∃b:Bool,e=.returned (.bool b)∧Cur w' g∧w.grownBy w' (some g):=by
 go_enter Tryz.func69,Tryz.ntmps69
 go_wp2_with fail
 refine (zAq h h1 h2).mono ?_;rintro e w1 ⟨x,hx,rfl,hc,hg⟩;go_wp2_with fail
 go_ret
 exact ⟨_,rfl,hc,hg⟩
def RStr (_:World) (r:Value) (s:ByteArray):Prop:=r=.string s
theorem zJ9 {w:World} {g:Nat} {v:Value} {L:List ByteArray} (h:Cur w g) (hv:RL none (Off g) RStr w v L) (h1:1≤L.length) (h2:L.length≤256) :
  Calls Tryz.prog 137 #[.pointer (some ⟨g,0,none⟩),v] w fun e w'=>∃(j:Nat) (s:ByteArray),L[j]? = some s∧e=.returned (.string s)∧Cur w' g∧w.grownBy w' (some g):=by
 obtain ⟨a,cap,rfl,hcap,hv⟩:=hv;rcases hv with hv | ⟨b,o,rfl,hs,_,hv⟩
 ·rw [hv] at h1; simp at h1
 have HV:=zNg hv;generalize hn:L.length=n at *;have HN:=zNg hn;clear hn hv;go_enter Tryz.func137,Tryz.ntmps137
 go_wp2_with fail
 refine (zAq h h1 h2).mono ?_;rintro e w1 ⟨x,hx,rfl,hc,hg⟩;obtain ⟨s,hs2⟩:∃s,L[x]? = some s:=⟨_,zNh (by rw [HN.out]; exact hx)⟩;obtain ⟨r,hr1,hr2⟩:=HV.out x s hs2;have hr2:r=.string s:=hr2;subst hr2;have hr3:w1.cell? ⟨b,o+x,none⟩=some (.string s):=by rw [World.cell?_of_block (w:=w) (hg.block b (zNk w _ hr1) (by simpa using hs))]; exact hr1
 have i1:(x:Int)<(n:Int):=by omega
 have HX:=zNg hs2;clear hs2;go_wp2_with fail
 go_ret
 exact ⟨x,s,HX.out,rfl,hc,hg⟩
theorem zGT {w:World} {g:Nat} {v:Value} {L:List Int} (h:Cur w g) (hv:RI (Off g) w v L) (h1:1≤L.length) (h2:L.length≤256) :
  Calls Tryz.prog 104 #[.pointer (some ⟨g,0,none⟩),v] w fun e w'=>∃x,x∈L∧e=.returned (.int .i64 x)∧Cur w' g∧w.grownBy w' (some g):=by
 obtain ⟨a,cap,rfl⟩:=hv.form;generalize hn:L.length=n at *;have HN:=zNg hn;clear hn;go_enter Tryz.func104,Tryz.ntmps104
 go_wp2_with fail
 refine (zAq h h1 h2).mono ?_;rintro e w1 ⟨x,hx,rfl,hc,hg⟩;obtain ⟨b,o,y,rfl,hc2,hy⟩:=(Off.keepI hv hg).atI hx;have i1:(x:Int)<(n:Int):=by omega
 go_wp2_with fail
 go_ret
 exact ⟨y,zNi hy.out,rfl,hc,hg⟩
theorem zEJ {w w1 w2:World} {g:Nat} (hb:Below w.heap.size w w1) (hg:w1.grownBy w2 (some g)) (_:g<w.heap.size):∃w0:World,w0.heap.size=w.heap.size∧Below w0.heap.size w0 w2∧w.grownBy w0 (some g):=by
 have hgl:g<w2.heap.size:=by have:=hb.size; have:=hg.size; omega
 refine ⟨{ w with heap:=w.heap.setIfInBounds g w2.heap[g] },by simp,⟨hg.os.trans hb.os,hg.tape.trans hb.tape,hg.output.trans hb.output,by simp; exact Nat.le_trans hb.size hg.size,fun k hk=>?_⟩,⟨rfl,rfl,rfl,by simp,fun k hk hne=>?_⟩⟩
 ·simp only [Array.size_setIfInBounds] at hk;show w2.heap[k]? = (w.heap.setIfInBounds g w2.heap[g])[k]?;by_cases e:k=g
  ·subst e;rw [Array.getElem?_setIfInBounds_self_of_lt hk,Array.getElem?_eq_getElem hgl]
  ·rw [Array.getElem?_setIfInBounds_ne (by omega),hg.block k (Nat.lt_of_lt_of_le hk hb.size) (by simpa using fun e2=>e e2),hb.block k hk]
 ·show (w.heap.setIfInBounds g w2.heap[g])[k]? = w.heap[k]?;rw [Array.getElem?_setIfInBounds_ne (by rintro rfl; exact hne rfl)]
theorem zFU {w:World} {v:Value} {n:Nat} (h:RBy Any w v n) (hn:n≤1048576) :
  Calls Tryz.prog 57 #[v] w fun e w'=>e=.returned (.pointer (some ⟨w.heap.size,0,none⟩))∧Cur w' w.heap.size∧Below w.heap.size w w'∧w.heap.size<w'.heap.size:=by
 obtain ⟨a,cap,rfl,hby⟩:=h;have H:=zNg hby;clear hby;go_enter Tryz.func57,Tryz.ntmps57
 go_wp2_with fail
 go_loopw [3,4] (fun hh kk wr=>∃(k:Nat) (x:Int),hh=.int .i64 x∧k≤n∧kk=.int .i64 k∧w=wr) (fun _ kk _=>n-(intOf kk).toNat)
 case atStart=>exact ⟨0,_,rfl,Nat.zero_le _,rfl,rfl⟩
 case round =>
  obtain ⟨k,x,rfl,hk,rfl,rfl⟩:=hrel;have hfin:∀y:Int,Cur (w.alloc (.cells #[.slice a n cap,.int .i64 0,.int .i64 y] 97)) w.heap.size:=fun y =>
   ⟨a,n,cap,0,y,hn,World.ownsRow_lit w #[.slice a n cap,.int .i64 0,.int .i64 y] 1 (Nat.zero_le _) (by unfold maxLen; omega) rfl,RBy.below (RBy.mono (S:=Any) ⟨a,cap,rfl,H.out⟩ (fun b _ hb=>hb)) ((Below.refl _ w).alloc (zNl _) _)⟩
  by_cases hkn:k<n
  ·have i1:(k:Int)<(n:Int):=by omega
   by_cases h4:k<4000
   ·have i2:(k:Int)<4000:=by omega
    obtain ⟨b,o,y,rfl,-,hc,hy⟩:=H.out k hkn;go_wp2_with fail
    go_roundw
    case rel=>exact ⟨k+1,_,rfl,by omega,by go_num,trivial⟩
    case measure=>simp [intOf]; omega
   ·have i2:¬(k:Int)<4000:=by omega
    have HF:=zNg hfin;go_wp2_with fail
    go_ret
    exact ⟨rfl,HF.out x,(Below.refl _ w).alloc (zNl _) _,by simp⟩
  ·have i1:¬(k:Int)<(n:Int):=by omega
   have HF:=zNg hfin;go_wp2_with fail
   go_ret
   exact ⟨rfl,HF.out x,(Below.refl _ w).alloc (zNl _) _,by simp⟩
structure Bs (w:World) (g:Nat) (W0 wr:World):Prop where
 size:W0.heap.size=w.heap.size
 gr:w.grownBy W0 (some g)
 bl:Below W0.heap.size W0 wr
theorem Bs.start (w:World) (g:Nat):Bs w g w w:=⟨rfl,World.grownBy.refl _ _,Below.refl _ _⟩
theorem Bs.turn {w W0 wr w2:World} {g:Nat} (h:Bs w g W0 wr) (hg:g<w.heap.size) (k:wr.grownBy w2 (some g)):∃W1,Bs w g W1 w2:=by
 obtain ⟨W1,a,b,c⟩:=zEJ h.bl k (by rw [h.size]; exact hg);exact ⟨W1,a.trans h.size,Off.tr h.gr c,b⟩
theorem Bs.below {w W0 wr w2:World} {g:Nat} (h:Bs w g W0 wr) (k:Below wr.heap.size wr w2):Bs w g W0 w2:=⟨h.size,h.gr,zAA.step h.bl k⟩
theorem Bs.all {w W0 wr:World} {g:Nat} (h:Bs w g W0 wr):w.grownBy wr (some g):=Off.tr h.gr (Off.grown h.bl)
theorem Bs.new {w W0 wr:World} {g:Nat} (h:Bs w g W0 wr):New W0 wr=New w wr:=by unfold New; rw [h.size]
theorem Bs.cur {w W0 wr w2:World} {g:Nat} (h:Bs w g W0 wr) (k:Bs w g W0 w2) (hg:g<w.heap.size) (hc:Cur wr g):Cur w2 g :=
 hc.same fun b hb=>(k.bl.block b (by rw [h.size]; omega)).trans (h.bl.block b (by rw [h.size]; omega)).symm
theorem FI.turn {w w1 w2:World} {g:Nat} {v:Value} {l:List Int} (f:FI (New w w1) w1 v l) (hg:w1.grownBy w2 (some g)) (hl:g<w.heap.size):FI (New w w2) w2 v l :=
 (f.keep (fun b hb=>hg.block b (f.2 b hb).2 (by have:=(f.2 b hb).1; rintro ⟨⟩; omega))).mono (fun b hb=>⟨hb.1,Nat.lt_of_lt_of_le hb.2 hg.size⟩)
theorem zFc {S:Nat→Prop} {v:Value} {l:List Int} {w:World} (h:RI S w v l) (hl:l.length≤16777216) :
  Calls Tryz.prog 89 #[v] w fun e w'=>∃r,e=.returned r∧FI (New w w') w' r l.reverse∧Below w.heap.size w w':=by
 obtain ⟨a,cap,rfl⟩:=h.form;have HR:Hid ((l.drop 0).reverse=l.reverse):=zNg (by simp);have H0:Hid ((l.drop l.length).reverse=[]):=zNg (by simp);generalize hres:l.reverse=res at *;generalize hn:l.length=n at *;have HN:=zNg hn;clear hres hn;go_enter Tryz.func89,Tryz.ntmps89
 go_wp2_with fail
 obtain ⟨w1,hw1⟩:∃w1,w1=w.alloc (.cells #[] 3):=⟨_,rfl⟩;obtain ⟨f1,b1⟩:=zAa (Below.refl _ w) hw1;rw [<-hw1];clear hw1;rw [<-H0.out] at f1;go_loopw [3,4] (fun z j wr=>∃(k:Nat),k≤n∧j=.int .i64 ((k:Int)-1)∧FI (New w wr) wr z (l.drop k).reverse∧Below w.heap.size w wr) (fun _ j _=>(intOf j+1).toNat)
 case atStart=>exact ⟨n,zNl _,by go_num,f1,b1⟩
 case round =>
  obtain ⟨k,hk,rfl,hf,hb⟩:=hrel;rcases k with _ | k
  ·have i1:¬(((0:Nat):Int)-1≥0):=by omega
   rw [HR.out] at hf;go_wp2_with fail
   go_ret
   exact ⟨_,rfl,hf,hb⟩
  ·obtain ⟨b,o,x,rfl,hc0,hx⟩:=h.at (show k<n by omega);have hc:=(hb.cell (zNk w _ hc0)).trans hc0;have HX:Hid ((l.drop (k+1)).reverse++[x]=(l.drop k).reverse):=zNg (by rw [zAJ hx.out]; simp);have HLN:Hid ((l.drop (k+1)).reverse.length+1≤67108864):=zNg (by have:=HN.out; simp; omega);have bb:=(Below.refl wr.heap.size wr).alloc (zNl _) (.cells #[.int .i64 x] 3);have e1:((k+1:Nat):Int)-1=(k:Int):=by omega
   rw [e1];have i1:(0:Int)≤(k:Int):=by omega
   have i2:(k:Int)<(n:Int):=by omega
   generalize (l.drop (k+1)).reverse=acc at *;clear hc0;go_wp2_with (at_builtin; go_must (refine zAG (W:=w) rfl _ _ rfl rfl (hf.grow bb) (zAA.step hb bb) rfl (RI.one wr x) ?_ ?_))
   ·exact HLN.out
   ·intro v' w3 f3 b4 _;rw [HX.out] at f3;go_wp2_with fail
    go_roundw
    case rel=>exact ⟨k,by omega,by go_num,f3,b4⟩
    case measure=>simp [intOf]
theorem zHm {w:World} {g n cap m:Nat} {a:Option Addr} (h:Cur w g) (hn:n≤16) (hm:m≤100) :
  Calls Tryz.prog 70 #[.pointer (some ⟨g,0,none⟩),.slice a n cap,.int .i64 m] w fun e w'=>∃r,e=.returned r∧∃l:List Int,FI (New w w') w' r l∧l.length≤m∧Cur w' g∧w.grownBy w' (some g):=by
 have hgl:=h.lt;obtain ⟨M,hM⟩:∃M:Nat,M=max 1 n:=⟨_,rfl⟩;have hM1:1≤M∧M≤256:=by omega
 have HM:Hid (max (1:Int) (n:Int)=(M:Int)):=zNg (by omega);clear hM;obtain ⟨hM1,hM2⟩:=hM1;go_enter Tryz.func70,Tryz.ntmps70
 go_wp2_with fail
 obtain ⟨w1,hw1⟩:∃w1,w1=w.alloc (.cells #[] 3):=⟨_,rfl⟩;obtain ⟨f1,b1⟩:=zAa (Below.refl _ w) hw1;rw [<-hw1];clear hw1;have hc1:=h.below b1;have e1:(m:Int)+1=((m+1:Nat):Int):=by omega
 rw [e1];refine (zAq hc1 (by omega) (by omega)).mono ?_;rintro e w2 ⟨x,hx,rfl,hc2,hg2⟩;obtain ⟨W0,hB⟩:=((Bs.start w g).below b1).turn hgl hg2;have f2:FI (New W0 w2) w2 (.slice (some ⟨w.heap.size,0,none⟩) 0 0) []:=by
  rw [hB.new];exact f1.turn hg2 hgl
 have HX:=zNg (show x≤m by omega);clear f1 b1 hc1 e1 h hx;go_wp2_with fail
 go_loopw [7,8] (fun zz j wr=>∃(k:Nat) (z:Value) (acc:List Int) (W0:World),z=zz∧k≤x∧j=.int .i64 k∧FI (New W0 wr) wr z acc∧Hid (acc.length+k=x)∧Cur wr g∧Hid (Bs w g W0 wr)) (fun _ j _=>(intOf j).toNat)
 case atStart=>exact ⟨x,_,[],W0,rfl,zNl _,rfl,f2,zNg (by simp),hc2,zNg hB⟩
 case round =>
  clear hB f2 hg2 hc2;obtain ⟨k,z,acc,W0,rfl,hk,rfl,hf,HA,hc,HB⟩:=hrel;rcases k with _ | k
  ·have i1:¬((0:Nat):Int) > 0:=by omega
   go_wp2_with fail
   go_ret
   exact ⟨_,rfl,acc,by rw [<-HB.out.new]; exact hf,by have:=HA.out; have:=HX.out; omega,hc,HB.out.all⟩
  ·have i1:((k+1:Nat):Int) > 0:=by omega
   have i2:((k+1:Nat):Int)-1=(k:Int):=by omega
   have hW:W0.heap.size=w.heap.size:=HB.out.size;have hk100:k+1≤100:=by have:=HX.out; omega
   by_cases hn1:1<n
   ·have i3:(1:Int)<(n:Int):=by omega
    go_wp2_with fail
    refine (zAq hc (n:=n) (by omega) (by omega)).mono ?_;rintro e w3 ⟨y,hy,rfl,hc3,hg3⟩;obtain ⟨W1,hB1⟩:=HB.out.turn hgl hg3;have hf3:FI (New W1 w3) w3 z acc:=by
     have:=hf.turn hg3 (by rw [hW]; exact hgl);rw [hB1.new]; rw [show New W0 w3=New w w3 by unfold New; rw [hW]] at this; exact this
    have bb:=(Below.refl w3.heap.size w3).alloc (zNl _) (.cells #[.int .i64 y] 3);have HB2:=zNg hB1;have HC3:=zNg hc3;clear hB1 hf hc3;go_wp2_with (at_builtin; go_must (refine zAG (W:=W1) rfl _ _ rfl rfl (hf3.grow bb) (HB2.out.below bb).bl rfl (RI.one w3 y) ?_ ?_))
    ·have:=HA.out; have:=HX.out; simp; omega
    ·intro v' w4 f4 b4 _;have hB4:Bs w g W1 w4:=⟨HB2.out.size,HB2.out.gr,b4⟩;have hc4:Cur w4 g:=HB2.out.cur hB4 hgl HC3.out;have HB5:=zNg hB4;clear hB4 HC3;go_wp2_with fail
     go_roundw
     case rel=>exact ⟨k,_,acc++[(y:Int)],W1,rfl,by omega,by go_num,f4,zNg (by have:=HA.out; simp; omega),hc4,HB5⟩
     case measure=>first | (simp [intOf]; done) | (simp [intOf]; omega)
   ·have i3:¬(1:Int)<(n:Int):=by omega
    go_wp2_with fail
    refine (zAq hc (n:=1) (by omega) (by omega)).mono ?_;rintro e w3 ⟨y,hy,rfl,hc3,hg3⟩;obtain ⟨W1,hB1⟩:=HB.out.turn hgl hg3;have hf3:FI (New W1 w3) w3 z acc:=by
     have:=hf.turn hg3 (by rw [hW]; exact hgl);rw [hB1.new]; rw [show New W0 w3=New w w3 by unfold New; rw [hW]] at this; exact this
    have bb:=(Below.refl w3.heap.size w3).alloc (zNl _) (.cells #[.int .i64 y] 3);have HB2:=zNg hB1;have HC3:=zNg hc3;clear hB1 hf hc3;go_wp2_with (at_builtin; go_must (refine zAG (W:=W1) rfl _ _ rfl rfl (hf3.grow bb) (HB2.out.below bb).bl rfl (RI.one w3 y) ?_ ?_))
    ·have:=HA.out; have:=HX.out; simp; omega
    ·intro v' w4 f4 b4 _;have hB4:Bs w g W1 w4:=⟨HB2.out.size,HB2.out.gr,b4⟩;have hc4:Cur w4 g:=HB2.out.cur hB4 hgl HC3.out;have HB5:=zNg hB4;clear hB4 HC3;go_wp2_with fail
     go_roundw
     case rel=>exact ⟨k,_,acc++[(y:Int)],W1,rfl,by omega,by go_num,f4,zNg (by have:=HA.out; simp; omega),hc4,HB5⟩
     case measure=>first | (simp [intOf]; done) | (simp [intOf]; omega)
theorem HSx.turn {w w1 w2:World} {g:Nat} {Ps:List zAp} (h:HS w w1 Ps) (hg:w1.grownBy w2 (some g)) (hl:g<w.heap.size):∃w0,w0.heap.size=w.heap.size∧w.grownBy w0 (some g)∧HS w0 w2 Ps:=by
 obtain ⟨h0,Fs,h1,h2⟩:=h;obtain ⟨w0,a,b,c⟩:=zEJ h0 hg hl;refine ⟨w0,a,c,b,Fs,fun i P hi=>?_,h2⟩;obtain ⟨s,p,n⟩:=h1 i P hi;refine ⟨s,s _ _ _ p (fun k hk hkl=>hg.block k hkl ?_),fun k hk=>⟨.inr (by rw [a]; exact (n k hk).1.elim (fun h=>h.elim) id),Nat.lt_of_lt_of_le (n k hk).2 hg.size⟩⟩;have:=(n k hk).1.elim (fun h=>h.elim) id;simp; omega
theorem HS.putV {w0 w:World} {Ps:List zAp} {e:TypeId} {g n cap:Nat} {vs:List Value} (h:HS w0 w Ps) (i:Nat) (hi:Ps[i]? = some (aV e (.slice (some ⟨g,0,none⟩) n cap) vs)) (hn:vs.length=n) (j:Nat) (r:Value) :
  HS w0 (w.setCell ⟨g,j,none⟩ r) (Ps.set i (aV e (.slice (some ⟨g,0,none⟩) n cap) (vs.set j r))):=by
 have hnew:=HS.newV h i hi g rfl;have hz:=zAw w ⟨g,j,none⟩ r;refine h.upd i hi (st_V _ _ _) (h.bl.setCell hnew _) (by rw [hz]; exact zNl _) fun F hF _=>⟨F,?_,fun _ hb=>.inl hb,fun b _ hb=>heap_setCell_other w ⟨g,j,none⟩ b _ (fun e=>hb (by have e:b=g:=e; subst e; exact hF.2 b rfl))⟩;subst hn;obtain ⟨a1,_⟩:=hF.1.stored j r;exact ⟨by rw [List.length_set]; exact a1,hF.2⟩
theorem HSx.someS {A:Nat→Prop} {w0 w:World} {Ps:List zAp} {Z Y:Zl} (h:HSx A w0 w Ps) (j:Nat) (hj:Ps[j]? = some (aRs (Z++Y))):HSx A w0 w (Ps.set j (aRs Z)) :=
 h.imp j hj (zDn _) fun F hF=>⟨fun x hx=>hF.1 x (List.mem_append_left _ hx),by have:=hF.2; rw [List.map_append] at this; exact (List.pairwise_append.1 this).1⟩
theorem zLB {α:Type} {Z:List α} {i:Nat} {x z:α} (h:Z[i]? = some z):(Z.set i x++[z]).Perm (x::Z):=by
 have hi:=(zNj h).1;have e1:Z=Z.take i++z::Z.drop (i+1):=by rw [<-zAJ h,List.take_append_drop]
 have e2:Z.set i x=Z.take i++x::Z.drop (i+1):=by
  rw [List.set_eq_take_append_cons_drop,if_pos hi]
 rw [e2]
 conv=>rhs; rw [e1]
 exact (List.perm_append_singleton z _).trans ((List.Perm.cons z List.perm_middle).trans ((List.Perm.swap x z _).trans (List.Perm.cons x List.perm_middle.symm)))
end Go.Proofs.YtlchafedbnihoaaGreatDoor
