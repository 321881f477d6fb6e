/- What is drawn: a cursor over bytes, and numbers drawn by it. Condition: at most 2^20 bytes; bounds of at most 256. -/
import Derived.Test.YtlgcdacpjcnjgaaGreatDoorJGKzA
namespace Go.Proofs.YtlgcdacpjcnjgaaGreatDoor
open Go.RowKit
set_option maxRecDepth 20000
set_option maxHeartbeats 8000000
theorem zLy (x:Int) {m:Nat} (hm:m<4611686018427387904):0≤bits .and .i64 x (m:Int)∧bits .and .i64 x (m:Int)≤m:=by
 have h1:((BitVec.ofInt 64 x) &&& (BitVec.ofInt 64 (m:Int))).toNat≤m:=by
  rw [BitVec.toNat_and];refine Nat.le_trans Nat.and_le_right ?_;rw [BitVec.toNat_ofInt];omega
 have h2:bits .and .i64 x (m:Int)=(((BitVec.ofInt 64 x) &&& (BitVec.ofInt 64 (m:Int))).toNat:Int):=by
  show IntKind.i64.wrap ((((BitVec.ofInt 64 x) &&& (BitVec.ofInt 64 (m:Int))).toNat:Nat):Int)=_;exact IntWalk.i64_in _ (by omega)
 rw [h2];omega
def RBy (S:Nat→Prop) (w:World) (v:Value) (n:Nat):Prop :=
 ∃a cap,v=.slice a n cap∧∀j,j<n→∃b o x,a=some ⟨b,o,none⟩∧S b∧w.cell? ⟨b,o+j,none⟩=some (.int .u8 x)∧Hid (0≤x∧x≤255)
theorem RBy.keep {S:Nat→Prop} {w w':World} {v:Value} {n:Nat} (h:RBy S w v n) (hb:∀b,S b→b<w.heap.size→w'.heap[b]? = w.heap[b]?):RBy S w' v n:=by
 obtain ⟨a,cap,hv,h⟩:=h;refine ⟨a,cap,hv,fun j hj=>?_⟩;obtain ⟨b,o,x,ha,hs,hc,hx⟩:=h j hj;exact ⟨b,o,x,ha,hs,by rw [World.cell?_of_block (w:=w) (hb b hs (zTH w _ hc))]; exact hc,hx⟩
theorem RBy.below {S:Nat→Prop} {w w':World} {v:Value} {n:Nat} (h:RBy S w v n) (hb:Below w.heap.size w w'):RBy S w' v n:=h.keep fun b _ hl=>hb.block b hl
theorem RBy.mono {S S':Nat→Prop} {w:World} {v:Value} {n:Nat} (h:RBy S w v n) (hS:∀b,S b→b<w.heap.size→S' b):RBy S' w v n:=by
 obtain ⟨a,cap,hv,h⟩:=h;refine ⟨a,cap,hv,fun j hj=>?_⟩;obtain ⟨b,o,x,ha,hs,hc,hx⟩:=h j hj;exact ⟨b,o,x,ha,hS b hs (zTH w _ hc),hc,hx⟩
abbrev Lw (g:Nat):Nat→Prop:=fun b=>b<g
def Cur (w:World) (g:Nat):Prop:=∃(a:Option Addr) (n cap i:Nat) (h:Int),n≤1048576 ∧
 w.ownsRow 0 78 3 (.slice (some ⟨g,0,none⟩) 1 1) 1 [.slice a n cap,.int .i64 i,.int .i64 h]∧RBy (Lw g) w (.slice a n cap) n
theorem Cur.below {w w':World} {g:Nat} (h:Cur w g) (hb:Below w.heap.size w w'):Cur w' g:=by
 obtain ⟨a,n,cap,i,x,hn,h1,h2⟩:=h;exact ⟨a,n,cap,i,x,hn,zAk h1 (fun b hv=>hb.block b (h1.lt b hv).2),h2.below hb⟩
theorem Cur.lt {w:World} {g:Nat} (h:Cur w g):g<w.heap.size:=by
 obtain ⟨a,n,cap,i,x,hn,h1,h2⟩:=h;exact (h1.lt g rfl).2
theorem Off.byt {g:Nat} {w w':World} {v:Value} {n:Nat} (h:RBy (Lw g) w v n) (hg:w.grownBy w' (some g)):RBy (Lw g) w' v n:=h.keep fun b (hb:b<g) hl=>hg.block b hl (by rintro ⟨⟩; omega)
theorem Cur.same {w w':World} {g:Nat} (h:Cur w g) (hb:∀b,b≤g→w'.heap[b]? = w.heap[b]?):Cur w' g:=by
 obtain ⟨a,n,cap,i,x,hn,h1,h2⟩:=h;exact ⟨a,n,cap,i,x,hn,zAk h1 (fun b hv=>hb b (by cases hv; exact zTI _)),h2.keep fun b (hb':b<g) _=>hb b (by omega)⟩
theorem zRv {w:World} {g:Nat} (h:Cur w g) :
  Calls Tryz.prog 151 #[.pointer (some ⟨g,0,none⟩)] w fun e w'=>∃x:Nat,x<256∧e=.returned (.int .i64 x)∧Cur w' g∧w.grownBy w' (some g):=by
 have mixed:Tryz.prog.follows .mixedOrders=true:=by kernel_rfl
 obtain ⟨a,n,cap,i,h,hn,h1,h2⟩:=h;have c2:=h1.cellAt 2 (by omega);have z2:=h1.frozenAt 2;simp only [List.getElem?_cons_succ,List.getElem?_cons_zero] at c2;obtain ⟨H,hH⟩:∃H,wrap64 (wrap64 (h*6364136223846793005)+1442695040888963407)=H:=⟨_,rfl⟩;obtain ⟨o1,g1⟩:=h1.stored 2 (.int .i64 H);have o1:(w.setCell ⟨g,2,none⟩ (.int .i64 H)).ownsRow 0 78 3 (.slice (some ⟨g,0,none⟩) 1 1) 1 [.slice a n cap,.int .i64 i,.int .i64 H]:=o1;have h2:=Off.byt h2 g1;go_enter Tryz.func151,Tryz.ntmps151
 go_wp2_with fail
 clear hH c2 z2 h1;generalize w.setCell ⟨g,2,none⟩ (.int .i64 H)=w1 at *;have d0:=o1.cellAt 0 (by omega);have d1:=o1.cellAt 1 (by omega);have d2:=o1.cellAt 2 (by omega);simp only [List.getElem?_cons_succ,List.getElem?_cons_zero] at d0 d1 d2;have f1:=o1.frozenAt 1;go_big_region_o
 have hB:=zLy (bits BinOp.xor IntKind.i64 (H / 8589934592) (H / 35184372088832)) (m:=255) (by omega);have e255:((255:Nat):Int)=255:=rfl;rw [e255] at hB;generalize bits BinOp.and IntKind.i64 (bits BinOp.xor IntKind.i64 (H / 8589934592) (H / 35184372088832)) 255=x0 at *;by_cases hi:i<n
 ·have i1:(i:Int)<(n:Int):=by omega
  obtain ⟨ab,cb,eb,hby⟩:=h2;simp only [Value.slice.injEq] at eb;obtain ⟨rfl,-,rfl⟩:=eb;have h2:RBy (Lw g) w1 (.slice a n cap) n:=⟨a,cap,rfl,hby⟩;obtain ⟨b,o,x,rfl,hs,hc,hx⟩:=hby i hi;have HX:=zTD hx.out;clear hby hx;obtain ⟨o2,g2⟩:=o1.stored 1 (.int .i64 ((i:Int)+1));have o2:(w1.setCell ⟨g,1,none⟩ (.int .i64 ((i:Int)+1))).ownsRow 0 78 3 (.slice (some ⟨g,0,none⟩) 1 1) 1 [.slice (some ⟨b,o,none⟩) n cap,.int .i64 ((i+1:Nat):Int),.int .i64 H]:=o2;have h3:=Off.byt h2 g2;go_wp2_with fail
  go_big_region_o
  go_wp2_with fail
  go_big_region_o
  have hB2:=zLy (wrap64 (x0+wrap64 x)) (m:=255) (by omega);rw [e255] at hB2;go_wp2_with fail
  go_ret
  refine ⟨(bits BinOp.and IntKind.i64 (wrap64 (x0+wrap64 x)) 255).toNat,by omega,zAR (by omega),?_,Off.drewG (Off.drewG (Off.drewG (Off.tr g1 g2)))⟩;have hcur:Cur (w1.setCell ⟨g,1,none⟩ (.int .i64 ((i:Int)+1))) g:=⟨_,n,cap,i+1,H,hn,o2,h3⟩;exact hcur.below (Below.refl _ _).drew.drew.drew
 ·have i1:¬(i:Int)<(n:Int):=by omega
  go_wp2_with fail
  go_big_region_o
  go_wp2_with fail
  go_ret
  have hcur:Cur w1 g:=⟨a,n,cap,i,H,hn,o1,h2⟩;exact ⟨x0.toNat,by omega,zAR (by omega),hcur.below (Below.refl _ _).drew.drew,Off.drewG (Off.drewG g1)⟩
theorem zBK {w:World} {g n:Nat} (h:Cur w g) (h1:1≤n) (h2:n≤256) :
  Calls Tryz.prog 98 #[.pointer (some ⟨g,0,none⟩),.int .i64 n] w fun e w'=>∃x:Nat,x<n∧e=.returned (.int .i64 x)∧Cur w' g∧w.grownBy w' (some g):=by
 have i1:¬(n:Int)≤0:=by omega
 have i2:(n:Int)≤256:=by omega
 have i3:((n:Int) == 0)=false:=by simp; omega
 go_enter Tryz.func98,Tryz.ntmps98
 go_wp2_with fail
 refine (zRv h).mono ?_;rintro e w1 ⟨x,hx,rfl,hc,hg⟩;go_wp2_with fail
 go_ret
 exact ⟨x % n,Nat.mod_lt _ (by omega),by first | rfl | exact zAR (by omega),hc,hg⟩
theorem zCG {w:World} {g n:Nat} (h:Cur w g) (h1:1≤n) (h2:n≤256) :
  Calls Tryz.prog 61 #[.pointer (some ⟨g,0,none⟩),.int .i64 n] w fun e w'=>∃b:Bool,e=.returned (.bool b)∧Cur w' g∧w.grownBy w' (some g):=by
 go_enter Tryz.func61,Tryz.ntmps61
 go_wp2_with fail
 refine (zBK h h1 h2).mono ?_;rintro e w1 ⟨x,hx,rfl,hc,hg⟩;go_wp2_with fail
 go_ret
 exact ⟨_,rfl,hc,hg⟩
def RStr (_:World) (r:Value) (s:ByteArray):Prop:=r=.string s
theorem zE8 {w:World} {g:Nat} {v:Value} {L:List ByteArray} (h:Cur w g) (hv:RL none (Off g) RStr w v L) (h1:1≤L.length) (h2:L.length≤256) :
  Calls Tryz.prog 60 #[.pointer (some ⟨g,0,none⟩),v] w fun e w'=>∃(j:Nat) (s:ByteArray),L[j]? = some s∧e=.returned (.string s)∧Cur w' g∧w.grownBy w' (some g):=by
 obtain ⟨a,cap,rfl,hcap,hv⟩:=hv;rcases hv with hv | ⟨b,o,rfl,hs,_,hv⟩
 ·rw [hv] at h1; simp at h1
 have HV:=zTD hv;generalize hn:L.length=n at *;have HN:=zTD hn;clear hn hv;go_enter Tryz.func60,Tryz.ntmps60
 go_wp2_with fail
 refine (zBK h h1 h2).mono ?_;rintro e w1 ⟨x,hx,rfl,hc,hg⟩;obtain ⟨s,hs2⟩:∃s,L[x]? = some s:=⟨_,zTE (by rw [HN.out]; exact hx)⟩;obtain ⟨r,hr1,hr2⟩:=HV.out x s hs2;have hr2:r=.string s:=hr2;subst hr2;have hr3:w1.cell? ⟨b,o+x,none⟩=some (.string s):=by rw [World.cell?_of_block (w:=w) (hg.block b (zTH w _ hr1) (by simpa using hs))]; exact hr1
 have i1:(x:Int)<(n:Int):=by omega
 have HX:=zTD hs2;clear hs2;go_wp2_with fail
 go_ret
 exact ⟨x,s,HX.out,rfl,hc,hg⟩
theorem zHs {w:World} {g:Nat} {v:Value} {L:List Int} (h:Cur w g) (hv:RI (Off g) w v L) (h1:1≤L.length) (h2:L.length≤256) :
  Calls Tryz.prog 100 #[.pointer (some ⟨g,0,none⟩),v] w fun e w'=>∃x,x∈L∧e=.returned (.int .i64 x)∧Cur w' g∧w.grownBy w' (some g):=by
 obtain ⟨a,cap,rfl⟩:=hv.form;generalize hn:L.length=n at *;have HN:=zTD hn;clear hn;go_enter Tryz.func100,Tryz.ntmps100
 go_wp2_with fail
 refine (zBK h h1 h2).mono ?_;rintro e w1 ⟨x,hx,rfl,hc,hg⟩;obtain ⟨b,o,y,rfl,hc2,hy⟩:=(Off.keepI hv hg).atI hx;have i1:(x:Int)<(n:Int):=by omega
 go_wp2_with fail
 go_ret
 exact ⟨y,zTF hy.out,rfl,hc,hg⟩
theorem zDq {w w1 w2:World} {g:Nat} (hb:Below w.heap.size w w1) (hg:w1.grownBy w2 (some g)) (_:g<w.heap.size):∃w0:World,w0.heap.size=w.heap.size∧Below w0.heap.size w0 w2∧w.grownBy w0 (some g):=by
 have hgl:g<w2.heap.size:=by have:=hb.size; have:=hg.size; omega
 refine ⟨{ w with heap:=w.heap.setIfInBounds g w2.heap[g] },by simp,⟨hg.os.trans hb.os,hg.tape.trans hb.tape,hg.output.trans hb.output,by simp; exact Nat.le_trans hb.size hg.size,fun k hk=>?_⟩,⟨rfl,rfl,rfl,by simp,fun k hk hne=>?_⟩⟩
 ·simp only [Array.size_setIfInBounds] at hk;show w2.heap[k]? = (w.heap.setIfInBounds g w2.heap[g])[k]?;by_cases e:k=g
  ·subst e;rw [Array.getElem?_setIfInBounds_self_of_lt hk,Array.getElem?_eq_getElem hgl]
  ·rw [Array.getElem?_setIfInBounds_ne (by omega),hg.block k (Nat.lt_of_lt_of_le hk hb.size) (by simpa using fun e2=>e e2),hb.block k hk]
 ·show (w.heap.setIfInBounds g w2.heap[g])[k]? = w.heap[k]?;rw [Array.getElem?_setIfInBounds_ne (by rintro rfl; exact hne rfl)]
theorem zLa {w:World} {v:Value} {n:Nat} (h:RBy Any w v n) (hn:n≤1048576) :
  Calls Tryz.prog 24 #[v] w fun e w'=>e=.returned (.pointer (some ⟨w.heap.size,0,none⟩))∧Cur w' w.heap.size∧Below w.heap.size w w'∧w.heap.size<w'.heap.size:=by
 obtain ⟨a,cap,rfl,hby⟩:=h;have H:=zTD hby;clear hby;go_enter Tryz.func24,Tryz.ntmps24
 go_wp2_with fail
 go_loopw [3,4] (fun hh kk wr=>∃(k:Nat) (x:Int),hh=.int .i64 x∧k≤n∧kk=.int .i64 k∧w=wr) (fun _ kk _=>n-(intOf kk).toNat)
 case atStart=>exact ⟨0,_,rfl,Nat.zero_le _,rfl,rfl⟩
 case round =>
  obtain ⟨k,x,rfl,hk,rfl,rfl⟩:=hrel;have hfin:∀y:Int,Cur (w.alloc (.cells #[.slice a n cap,.int .i64 0,.int .i64 y] 78)) w.heap.size:=fun y =>
   ⟨a,n,cap,0,y,hn,World.ownsRow_lit w #[.slice a n cap,.int .i64 0,.int .i64 y] 1 (Nat.zero_le _) (by unfold maxLen; omega) rfl,RBy.below (RBy.mono (S:=Any) ⟨a,cap,rfl,H.out⟩ (fun b _ hb=>hb)) ((Below.refl _ w).alloc (zTI _) _)⟩
  by_cases hkn:k<n
  ·have i1:(k:Int)<(n:Int):=by omega
   by_cases h4:k<4000
   ·have i2:(k:Int)<4000:=by omega
    obtain ⟨b,o,y,rfl,-,hc,hy⟩:=H.out k hkn;go_wp2_with fail
    go_roundw
    case rel=>exact ⟨k+1,_,rfl,by omega,by go_num,trivial⟩
    case measure=>simp [intOf]; omega
   ·have i2:¬(k:Int)<4000:=by omega
    have HF:=zTD hfin;go_wp2_with fail
    go_ret
    exact ⟨rfl,HF.out x,(Below.refl _ w).alloc (zTI _) _,by simp⟩
  ·have i1:¬(k:Int)<(n:Int):=by omega
   have HF:=zTD hfin;go_wp2_with fail
   go_ret
   exact ⟨rfl,HF.out x,(Below.refl _ w).alloc (zTI _) _,by simp⟩
structure Bs (w:World) (g:Nat) (W0 wr:World):Prop where
 size:W0.heap.size=w.heap.size
 gr:w.grownBy W0 (some g)
 bl:Below W0.heap.size W0 wr
theorem Bs.start (w:World) (g:Nat):Bs w g w w:=⟨rfl,World.grownBy.refl _ _,Below.refl _ _⟩
theorem Bs.turn {w W0 wr w2:World} {g:Nat} (h:Bs w g W0 wr) (hg:g<w.heap.size) (k:wr.grownBy w2 (some g)):∃W1,Bs w g W1 w2:=by
 obtain ⟨W1,a,b,c⟩:=zDq h.bl k (by rw [h.size]; exact hg);exact ⟨W1,a.trans h.size,Off.tr h.gr c,b⟩
theorem Bs.below {w W0 wr w2:World} {g:Nat} (h:Bs w g W0 wr) (k:Below wr.heap.size wr w2):Bs w g W0 w2:=⟨h.size,h.gr,zAC.step h.bl k⟩
theorem Bs.all {w W0 wr:World} {g:Nat} (h:Bs w g W0 wr):w.grownBy wr (some g):=Off.tr h.gr (Off.grown h.bl)
theorem Bs.new {w W0 wr:World} {g:Nat} (h:Bs w g W0 wr):New W0 wr=New w wr:=by unfold New; rw [h.size]
theorem Bs.cur {w W0 wr w2:World} {g:Nat} (h:Bs w g W0 wr) (k:Bs w g W0 w2) (hg:g<w.heap.size) (hc:Cur wr g):Cur w2 g :=
 hc.same fun b hb=>(k.bl.block b (by rw [h.size]; omega)).trans (h.bl.block b (by rw [h.size]; omega)).symm
theorem FI.turn {w w1 w2:World} {g:Nat} {v:Value} {l:List Int} (f:FI (New w w1) w1 v l) (hg:w1.grownBy w2 (some g)) (hl:g<w.heap.size):FI (New w w2) w2 v l :=
 (f.keep (fun b hb=>hg.block b (f.2 b hb).2 (by have:=(f.2 b hb).1; rintro ⟨⟩; omega))).mono (fun b hb=>⟨hb.1,Nat.lt_of_lt_of_le hb.2 hg.size⟩)
theorem HSx.turn {w w1 w2:World} {g:Nat} {Ps:List zAI} (h:HS w w1 Ps) (hg:w1.grownBy w2 (some g)) (hl:g<w.heap.size):∃w0,w0.heap.size=w.heap.size∧w.grownBy w0 (some g)∧HS w0 w2 Ps:=by
 obtain ⟨h0,Fs,h1,h2⟩:=h;obtain ⟨w0,a,b,c⟩:=zDq h0 hg hl;refine ⟨w0,a,c,b,Fs,fun i P hi=>?_,h2⟩;obtain ⟨s,p,n⟩:=h1 i P hi;refine ⟨s,s _ _ _ p (fun k hk hkl=>hg.block k hkl ?_),fun k hk=>⟨.inr (by rw [a]; exact (n k hk).1.elim (fun h=>h.elim) id),Nat.lt_of_lt_of_le (n k hk).2 hg.size⟩⟩;have:=(n k hk).1.elim (fun h=>h.elim) id;simp; omega
theorem HS.putV {w0 w:World} {Ps:List zAI} {e:TypeId} {g n cap:Nat} {vs:List Value} (h:HS w0 w Ps) (i:Nat) (hi:Ps[i]? = some (aV e (.slice (some ⟨g,0,none⟩) n cap) vs)) (hn:vs.length=n) (j:Nat) (r:Value) :
  HS w0 (w.setCell ⟨g,j,none⟩ r) (Ps.set i (aV e (.slice (some ⟨g,0,none⟩) n cap) (vs.set j r))):=by
 have hnew:=HS.newV h i hi g rfl;have hz:=zAM w ⟨g,j,none⟩ r;refine h.upd i hi (st_V _ _ _) (h.bl.setCell hnew _) (by rw [hz]; exact zTI _) fun F hF _=>⟨F,?_,fun _ hb=>.inl hb,fun b _ hb=>heap_setCell_other w ⟨g,j,none⟩ b _ (fun e=>hb (by have e:b=g:=e; subst e; exact hF.2 b rfl))⟩;subst hn;obtain ⟨a1,_⟩:=hF.1.stored j r;exact ⟨by rw [List.length_set]; exact a1,hF.2⟩
theorem HSx.someS {A:Nat→Prop} {w0 w:World} {Ps:List zAI} {Z Y:Zl} (h:HSx A w0 w Ps) (j:Nat) (hj:Ps[j]? = some (aRs (Z++Y))):HSx A w0 w (Ps.set j (aRs Z)) :=
 h.imp j hj (zA7 _) fun F hF=>⟨fun x hx=>hF.1 x (List.mem_append_left _ hx),by have:=hF.2; rw [List.map_append] at this; exact (List.pairwise_append.1 this).1⟩
theorem zJI {α:Type} {Z:List α} {i:Nat} {x z:α} (h:Z[i]? = some z):(Z.set i x++[z]).Perm (x::Z):=by
 have hi:=(zTG h).1;have e1:Z=Z.take i++z::Z.drop (i+1):=by rw [<-zAK h,List.take_append_drop]
 have e2:Z.set i x=Z.take i++x::Z.drop (i+1):=by
  rw [List.set_eq_take_append_cons_drop,if_pos hi]
 rw [e2]
 conv=>rhs; rw [e1]
 exact (List.perm_append_singleton z _).trans ((List.Perm.cons z List.perm_middle).trans ((List.Perm.swap x z _).trans (List.Perm.cons x List.perm_middle.symm)))
end Go.Proofs.YtlgcdacpjcnjgaaGreatDoor
