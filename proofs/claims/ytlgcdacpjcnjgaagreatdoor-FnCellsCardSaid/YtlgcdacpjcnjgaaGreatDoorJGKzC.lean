/- The table of a small group in memory, as the program keeps it: what is read of it; whether a letter shortens an element; greatest coefficients. Condition: at most 24 elements. -/
import Derived.Test.YtlgcdacpjcnjgaaGreatDoorJGKlC
namespace Go.Proofs.YtlgcdacpjcnjgaaGreatDoor
open Go.RowKit
set_option maxRecDepth 20000
set_option maxHeartbeats 8000000
structure KzW (w:World) (g:Nat) (E:List (List Int)) (tab:Nat→Nat→Nat) (r N bE oE cE bT oT cT:Nat) (mb:Value) (bP oP cP:Nat) (P:Nat→Nat→List Int):Prop where
 c0:w.cell? ⟨g,0,none⟩=some (.slice (some ⟨bE,oE,none⟩) N cE)
 c1:w.cell? ⟨g,1,none⟩=some (.slice (some ⟨bT,oT,none⟩) N cT)
 c2:w.cell? ⟨g,2,none⟩=some mb
 c3:w.cell? ⟨g,3,none⟩=some (.slice (some ⟨bP,oP,none⟩) N cP)
 e:∀z,z<N→∃a c,w.cell? ⟨bE,oE+z,none⟩=some (.slice a (lenE E z) c)
 h:∀z,0<z→z<N→∃b o c,w.cell? ⟨bE,oE+z,none⟩=some (.slice (some ⟨b,o,none⟩) (lenE E z) c)∧w.cell? ⟨b,o,none⟩=some (.int .i64 (hdE E z))
 t:∀z i,z<N→i<r→∃b o c,w.cell? ⟨bT,oT+z,none⟩=some (.slice (some ⟨b,o,none⟩) r c)∧w.cell? ⟨b,o+i,none⟩=some (.int .i64 (tab z i))
 p:∀u,u<N→∃b o c,w.cell? ⟨bP,oP+u,none⟩=some (.slice (some ⟨b,o,none⟩) N c)∧∀v,v<N→∃a c',w.cell? ⟨b,o+v,none⟩=some (.slice a (P u v).length c')∧RI Any w (.slice a (P u v).length c') (P u v)
section
variable {w w':World} {g r N bE oE cE bT oT cT bP oP cP:Nat} {mb:Value} {E:List (List Int)} {tab:Nat→Nat→Nat} {P:Nat→Nat→List Int}
theorem zBB {w w':World} (hb:Below w.heap.size w w') {b o:Nat} {v:Value} (h:w.cell? ⟨b,o,none⟩=some v):w'.cell? ⟨b,o,none⟩=some v:=(hb.cell (p:=⟨b,o,none⟩) (zTH _ _ h)).trans h
theorem KzW.below (K:KzW w g E tab r N bE oE cE bT oT cT mb bP oP cP P) (hb:Below w.heap.size w w'):KzW w' g E tab r N bE oE cE bT oT cT mb bP oP cP P where
 c0:=zBB hb K.c0
 c1:=zBB hb K.c1
 c2:=zBB hb K.c2
 c3:=zBB hb K.c3
 e:=fun z hz=>let ⟨a,c,h⟩:=K.e z hz; ⟨a,c,zBB hb h⟩
 h:=fun z h0 hz=>let ⟨b,o,c,h1,h2⟩:=K.h z h0 hz; ⟨b,o,c,zBB hb h1,zBB hb h2⟩
 t:=fun z i hz hi=>let ⟨b,o,c,h1,h2⟩:=K.t z i hz hi; ⟨b,o,c,zBB hb h1,zBB hb h2⟩
 p:=fun u hu=>let ⟨b,o,c,h1,h2⟩:=K.p u hu; ⟨b,o,c,zBB hb h1,fun v hv=>let ⟨a,c',h3,h4⟩:=h2 v hv; ⟨a,c',zBB hb h3,h4.below hb⟩⟩
theorem zC0 (K:KzW w g E tab r N bE oE cE bT oT cT mb bP oP cP P) {i z:Nat} (hi:i<r) (hz:z<N) (ht:tab z i<N) :
  Calls Tryz.prog 53 #[.pointer (some ⟨g,0,none⟩),.int .i64 i,.int .i64 z] w fun e w'=>e=.returned (.bool (decide (lenE E (tab z i)<lenE E z)))∧Below w.heap.size w w':=by
 have mixed:Tryz.prog.follows .mixedOrders=true:=by kernel_rfl
 have Kd:=K.below (Below.refl _ w).drew;have hc0:=Kd.c0;have hc1:=Kd.c1;obtain ⟨b1,o1,c1,ht1,ht2⟩:=Kd.t z i hz hi;obtain ⟨a2,c2,he2⟩:=Kd.e _ ht;obtain ⟨a3,c3,he3⟩:=Kd.e z hz;generalize hx:tab z i=x at *;have i1:(x:Int)<(N:Int):=by omega
 have i2:(z:Int)<(N:Int):=by omega
 have i3:(i:Int)<(r:Int):=by omega
 generalize lenE E x=lx at *;generalize lenE E z=lz at *;clear K Kd hx;go_enter Tryz.func53,Tryz.ntmps53
 go_wp2_with fail
 go_big_region_o
 go_wp2_with fail
 go_ret
 exact ⟨rfl,(Below.refl _ w).drew⟩
theorem zI3 (K:KzW w g E tab r N bE oE cE bT oT cT mb bP oP cP P) {z v:Nat} (hz:z<N) (hv:v<N) (hd:∀x,lenE E x≤24) (_hl:(P z v).length≤16777216) :
  Calls Tryz.prog 52 #[.pointer (some ⟨g,0,none⟩),.int .i64 z,.int .i64 v] w fun e w'=>e=.returned (.int .i64 (muI (P z v) ((lenE E v:Int)-lenE E z)))∧Below w.heap.size w w':=by
 have mixed:Tryz.prog.follows .mixedOrders=true:=by kernel_rfl
 have b1:Below w.heap.size w w.drew:=(Below.refl _ w).drew;have Kd:=K.below b1;have hc0:=Kd.c0;have hc3:=Kd.c3;obtain ⟨av,cv,hev⟩:=Kd.e v hv;obtain ⟨az,cz,hez⟩:=Kd.e z hz;obtain ⟨b2,o2,c2,hp1,hrow⟩:=Kd.p z hz;obtain ⟨a4,c4,hp2,hp3⟩:=hrow v hv;have HR:Hid (muI (P z v) ((lenE E v:Int)-lenE E z)=if (lenE E v:Int)-lenE E z≤0∨((lenE E v:Int)-lenE E z) % 2=0∨(P z v).length≤((((lenE E v:Int)-lenE E z)-1) / 2).toNat then 0 else num (P z v) ((((lenE E v:Int)-lenE E z)-1) / 2).toNat):=zTD rfl;have hdv:=hd v;have hdz:=hd z;have i1:(v:Int)<(N:Int):=by omega
 have i2:(z:Int)<(N:Int):=by omega
 generalize muI (P z v) ((lenE E v:Int)-lenE E z)=res at *;generalize lenE E v=lv at *;generalize lenE E z=lz at *;generalize P z v=p at *;clear K Kd hrow hd;by_cases h0:lv≤lz
 ·have HZ:Hid (res=0):=zTD (by rw [HR.out,if_pos (.inl (by omega))]);have e0:(lv:Int)-(lz:Int)≤0:=by omega
  clear HR;go_enter Tryz.func52,Tryz.ntmps52
  go_wp2_with fail
  go_big_region_o
  go_wp2_with fail
  go_ret
  exact ⟨zAR HZ.out.symm,b1⟩
 ·have e0:¬(lv:Int)-(lz:Int)≤0:=by omega
  have e00:0≤(lv:Int)-(lz:Int):=by omega
  by_cases he:((lv:Int)-(lz:Int)) % 2=0
  ·have HZ:Hid (res=0):=zTD (by rw [HR.out,if_pos (.inr (.inl he))]);have e1:((((lv:Int)-(lz:Int)).tmod 2) == 0)=true:=zRl he;have e2:((((lv:Int)-(lz:Int)) % 2) == 0)=true:=by simp [he]
   clear HR he;go_enter Tryz.func52,Tryz.ntmps52
   go_wp2_with fail
   go_big_region_o
   go_wp2_with fail
   go_ret
   exact ⟨zAR HZ.out.symm,b1⟩
  ·have e1:((((lv:Int)-(lz:Int)).tmod 2) == 0)=false:=zJf he;have e2:((((lv:Int)-(lz:Int)) % 2) == 0)=false:=by simp [he]
   obtain ⟨k,hk⟩:∃k:Nat,((lv:Int)-(lz:Int)-1) / 2=(k:Int):=⟨(((lv:Int)-(lz:Int)-1) / 2).toNat,by omega⟩;have hk2:((lv:Int)-(lz:Int)-1).tdiv 2=(k:Int):=by rw [Int.tdiv_eq_ediv_of_nonneg (by omega)]; exact hk
   rw [hk] at HR;have hkn:((k:Int)).toNat=k:=by omega
   rw [hkn] at HR;by_cases hp:p.length≤k
   ·have HZ:Hid (res=0):=zTD (by rw [HR.out,if_pos (.inr (.inr hp))]);have e3:(p.length:Int)≤(k:Int):=by omega
    clear HR he hp hkn;go_enter Tryz.func52,Tryz.ntmps52
    go_wp2_with fail
    go_big_region_o
    go_wp2_with fail
    go_ret
    exact ⟨zAR HZ.out.symm,b1⟩
   ·have HZ:Hid (res=num p k):=zTD (by rw [HR.out,if_neg (fun h=>h.elim (by omega) fun h=>h.elim he hp)]);have e3:¬(p.length:Int)≤(k:Int):=by omega
    have e4:(k:Int)<(p.length:Int):=by omega
    obtain ⟨b,o,x,rfl,hc,hx⟩:=RI.at hp3 (show k<p.length by omega);have HX:Hid (x=res):=zTD (by rw [HZ.out]; unfold num; rw [hx.out]; rfl);clear HR he hp hkn hx HZ;generalize p.length=m at *;go_enter Tryz.func52,Tryz.ntmps52
    go_wp2_with fail
    go_big_region_o
    go_wp2_with fail
    go_ret
    exact ⟨zAR HX.out,b1⟩
end
end Go.Proofs.YtlgcdacpjcnjgaaGreatDoor
namespace Go.Proofs.YtlgcdacpjcnjgaaGreatDoor
open Go.RowKit
set_option maxRecDepth 20000
set_option maxHeartbeats 8000000
theorem zEV {S:Nat→Prop} {v:Value} {l:List Int} {w:World} (h:RI S w v l) (k:Nat) (hk:k≤1000) (hl:l.length≤8388608) :
  Calls Tryz.prog 144 #[v,.int .i64 k] w fun e w'=>∃r,e=.returned r∧FI (New w w') w' r (zAQ l k)∧Below w.heap.size w w':=by
 obtain ⟨i0,hi,hz0,hz1,hz2⟩:=info_parts zA8;have HLE:=zDO l;have HSH:Hid (zAQ l k=if trim l=[] then [] else List.replicate k 0++trim l):=zTD (by rw [<-zSl]; rfl);generalize zAQ l k=res at *;go_enter Tryz.func144,Tryz.ntmps144
 go_wp2_with fail
 refine (zBm h (by omega)).mono ?_;rintro e w1 ⟨r1,rfl,f1,b1⟩;generalize trim l=t at *;obtain ⟨a1,c1,rfl⟩:=f1.reads.form;by_cases h0:t.length=0
 ·have i1:((t.length:Int) == 0)=true:=beq_iff_eq.2 (by omega);have ht:t=[]:=List.eq_nil_of_length_eq_zero h0;have hr:=HSH.out;rw [if_pos ht,<-ht] at hr;have HR:Hid (t=res):=zTD hr.symm;clear HSH hr ht h0;go_wp2_with fail
  go_ret
  rw [HR.out] at f1;have:=HR.out;subst this;exact ⟨_,rfl,f1,b1⟩
 ·have i1:((t.length:Int) == 0)=false:=beq_eq_false_iff_ne.2 (by omega);have hr:=HSH.out;rw [if_neg (fun e=>h0 (by rw [e]; rfl))] at hr;have HR:Hid (List.replicate k 0++t=res):=zTD hr.symm;clear HSH hr h0;have i2:(0:Int)≤(k:Int):=by omega
  go_wp2_with (at_make; refine wpList_make_full _ rfl _ _ 29 rfl w1.heap.size 3 i0 (.int .i64 0) 1 Tryz.underlying29 hi hz0 hz1 _ _ _ _ k rfl rfl rfl rfl ?hb ?hm ?hs ?_)
  case hb=>first | (rw [hz2]; omega) | omega
  case hm=>unfold maxLen; omega
  case hs=>exact zTI _
  intro w2 hown hgr;have hb1:Below w.heap.size w w2:=b1.grown hgr (Nat.le_trans b1.size (zTI _)) (by simp);have hb2:Below w1.heap.size w1 w2:=(Below.refl _ w1).grown hgr (zTI _) (by simp);have hf1:FI (New w w2) w2 (.slice (some ⟨w1.heap.size,0,none⟩) k k) (List.replicate k 0):=(FI.of_row hown (zTI _) (by simp) (by simp [toList_madeCells_one])).mono (fun b hb=>⟨Nat.le_trans b1.size hb.1,hb.2⟩);clear hgr hi hz0 hz1 hz2 hown;have f2:=f1.reads.below hb2;go_wp2_with (at_builtin; go_must (refine zAL (W:=w) rfl _ _ rfl rfl hf1 hb1 rfl f2 ?_ ?_))
  ·simp; omega
  ·intro v3 w3 f3 b3 _;rw [HR.out] at f3;go_wp2_with fail
   go_ret
   exact ⟨_,rfl,f3,b3⟩
end Go.Proofs.YtlgcdacpjcnjgaaGreatDoor
