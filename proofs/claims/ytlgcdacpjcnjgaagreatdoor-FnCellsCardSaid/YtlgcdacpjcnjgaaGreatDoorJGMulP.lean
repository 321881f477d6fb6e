/- Products of polynomials, by the reference. Condition: sizes up to 2^23. -/
import Derived.Test.YtlgcdacpjcnjgaaGreatDoorJGColl
namespace Go.Proofs.YtlgcdacpjcnjgaaGreatDoor
open Go.RowKit
set_option maxRecDepth 20000
set_option maxHeartbeats 8000000
theorem FI.drewF {W w:World} {v:Value} {l:List Int} (h:FI (New W w) w v l):FI (New W w.drew) w.drew v l:=h.grow ((Below.refl _ w).drew)
theorem zKj {S S':Nat→Prop} {u v:Value} {l l':List Int} {w:World} (h:RI S w u l) (h':RI S' w v l') (hl:l.length≤8388608) (hl':l'.length≤8388608) :
  Calls Tryz.prog 181 #[u,v] w fun e w'=>∃r,e=.returned r∧FI (New w w') w' r (mulP l l')∧Below w.heap.size w w':=by
 obtain ⟨a,cap,rfl⟩:=h.form;obtain ⟨a',cap',rfl⟩:=h'.form;obtain ⟨i0,hi0,hz0,hz1,hz2⟩:=info_parts zA8;have mixed:Tryz.prog.follows .mixedOrders=true:=by kernel_rfl
 have HP0:=zTD (show l.length=0∨l'.length=0∨62<l.length+l'.length→mulP l l'=[] from fun e=>by unfold mulP; rw [if_pos e]);have HP1:=zTD (show ¬(l.length=0∨l'.length=0∨62<l.length+l'.length)→mulP l l'=trim (zAV l l' l.length) from fun e=>by unfold mulP; rw [if_neg e]);have HS:=zTD (fun i k=>(show zAe l l' i (zAV l l' i) (k+1)=(zAe l l' i (zAV l l' i) k).set (i+k) (wrap64 (num (zAe l l' i (zAV l l' i) k) (i+k)+wrap64 (num l i*num l' k))) from rfl));have HT:=zTD (fun i=>(show zAV l l' (i+1)=zAe l l' i (zAV l l' i) l'.length from rfl));have HT0:=zTD (fun i=>(show zAe l l' i (zAV l l' i) 0=zAV l l' i from rfl));have H0:=zTD (show zAV l l' 0=List.replicate (l.length+l'.length-1) 0 from rfl);have HL:=zTD (fun i k=>(zCb l l' i (zAV l l' i) k).trans (zBo l l' i));have HLT:=zTD (zBo l l')
 generalize mulP l l'=res at *;generalize hn:l.length=n at *;have HN:=zTD hn;clear hn;generalize hm:l'.length=m at *;have HM:=zTD hm;clear hm;by_cases hz:n=0∨m=0∨62<n+m
 ·have HR:=zTD (HP0.out hz);have hcs:(n=0)∨(n≠0∧m=0)∨(n≠0∧m≠0∧62<n+m):=by omega
  clear hz hi0 hz0 hz1 hz2;rcases hcs with hc | ⟨hc,hc2⟩ | ⟨hc,hc2,hc3⟩
  ·have i0n:((n:Int) == 0)=true:=by simp; omega
   clear hc;go_enter Tryz.func181,Tryz.ntmps181
   go_wp2_with fail
   go_ret
   rw [HR.out];exact ⟨_,rfl,FI.of_row (w:=w) (World.ownsRow_lit (base:=w.heap.size) (e:=3) (size:=1) w #[] 0 (zTI _) (by unfold maxLen; omega) rfl) (zTI _) rfl rfl,(Below.refl _ w).alloc (zTI _) _⟩
  ·have i0n:((n:Int) == 0)=false:=by simp; omega
   have i0m:((m:Int) == 0)=true:=by simp; omega
   clear hc hc2;go_enter Tryz.func181,Tryz.ntmps181
   go_wp2_with fail
   go_ret
   rw [HR.out];exact ⟨_,rfl,FI.of_row (w:=w) (World.ownsRow_lit (base:=w.heap.size) (e:=3) (size:=1) w #[] 0 (zTI _) (by unfold maxLen; omega) rfl) (zTI _) rfl rfl,(Below.refl _ w).alloc (zTI _) _⟩
  ·have i0n:((n:Int) == 0)=false:=by simp; omega
   have i0m:((m:Int) == 0)=false:=by simp; omega
   have i62:(62:Int)<(n:Int)+(m:Int):=by omega
   clear hc hc2 hc3;go_enter Tryz.func181,Tryz.ntmps181
   go_wp2_with fail
   go_ret
   rw [HR.out];exact ⟨_,rfl,FI.of_row (w:=w) (World.ownsRow_lit (base:=w.heap.size) (e:=3) (size:=1) w #[] 0 (zTI _) (by unfold maxLen; omega) rfl) (zTI _) rfl rfl,(Below.refl _ w).alloc (zTI _) _⟩
 ·have HR:=zTD (HP1.out hz);obtain ⟨M,hM⟩:∃M,M+1=n+m:=⟨n+m-1,by omega⟩;have i0n:((n:Int) == 0)=false:=by simp; omega
  have i0m:((m:Int) == 0)=false:=by simp; omega
  have i62:¬(62:Int)<(n:Int)+(m:Int):=by omega
  have hn62:n≤62:=by omega
  have hm62:m≤62:=by omega
  have hn1:1≤n:=by omega
  have hm1:1≤m:=by omega
  rw [show n+m-1=M by omega] at H0 HL HLT;have eM:(n:Int)+(m:Int)-1=(M:Int):=by omega
  clear hz;go_enter Tryz.func181,Tryz.ntmps181
  go_wp2_with (at_make; (refine wpList_make_full _ rfl _ _ 29 rfl w.heap.size 3 i0 (.int .i64 0) 1 Tryz.underlying29 hi0 hz0 hz1 _ _ _ _ M rfl rfl (by first | exact eM | rfl | (simp only [wrap64]; omega)) (by first | exact eM | rfl | (simp only [wrap64]; omega)) ?hb ?hm ?hs ?_))
  case hb=>first | (rw [hz2]; omega) | omega
  case hm=>unfold maxLen; omega
  intro w1 hown hgr;have hb1:Below w.heap.size w w1:=(Below.refl _ w).grown hgr (zTI _) (by simp);have hf1:FI (New w w1) w1 (.slice (some ⟨w.heap.size,0,none⟩) M M) (List.replicate M 0):=FI.of_row hown (zTI _) (by simp) (by simp [toList_madeCells_one]);clear hgr hi0 hz0 hz1 hz2 hown eM;rw [<-H0.out] at hf1;go_wp2_with fail
  go_loopw [6] (fun ii wr=>∃i:Nat,i≤n∧ii=.int .i64 i∧FI (New w wr) wr (.slice (some ⟨w.heap.size,0,none⟩) M M) (zAV l l' i)∧Below w.heap.size w wr) (fun ii _=>n-(intOf ii).toNat)
  case atStart=>exact ⟨0,Nat.zero_le _,rfl,hf1,hb1⟩
  case round =>
   obtain ⟨i,hi,rfl,hf,hb⟩:=hrel;by_cases h1:i<n
   ·have i1:(i:Int)<(n:Int):=by omega
    have hf:=hf;rw [<-HT0.out i] at hf;go_wp2_with fail
    go_loopw [7] (fun jj wr=>∃k:Nat,k≤m∧jj=.int .i64 k∧FI (New w wr) wr (.slice (some ⟨w.heap.size,0,none⟩) M M) (zAe l l' i (zAV l l' i) k)∧Below w.heap.size w wr) (fun jj _=>m-(intOf jj).toNat)
    case atStart=>exact ⟨0,Nat.zero_le _,rfl,hf,hb⟩
    case round =>
     obtain ⟨k,hk,rfl,hf,hb⟩:=hrel;by_cases h2:k<m
     ·have i2:(k:Int)<(m:Int):=by omega
      obtain ⟨b,o,y,e8,hcy,hy⟩:=(h.below hb).at h1;obtain ⟨b',o',z,e9,hcz,hz'⟩:=(h'.below hb).at h2;have hPk:=HL.out i k;have hkM:i+k<M:=by omega
      obtain ⟨b5,o5,x,e5,hcx,hx⟩:=RI.at hf.any hkM;simp only [Option.some.injEq,Addr.mk.injEq,and_true] at e5;obtain ⟨rfl,rfl⟩:=e5;rw [Nat.zero_add] at hcx;subst e8 e9;have hfr:=hf.froz hPk (i+k);have hst:=hf.put hPk (i+k) (wrap64 (x+wrap64 (y*z)));rw [show (zAe l l' i (zAV l l' i) k).set (i+k) (wrap64 (x+wrap64 (y*z)))=zAe l l' i (zAV l l' i) (k+1) from by rw [HS.out,zAx hx.out,zAx hy.out,zAx hz'.out]] at hst;have e1:((i:Int)+(k:Int)).toNat=i+k:=by omega
      have HST:=zTD hst;have hPk2:=HL.out i (k+1);clear hst hx hy hz';go_wp2_with fail
      go_big_region_o
      go_wp2_with fail
      go_roundw
      case rel=>exact ⟨k+1,by omega,by go_num,(HST.out.mono (fun b hb'=>⟨hb'.1,Nat.lt_of_lt_of_le hb'.2 ((Below.refl 0 wr).setCell (Nat.zero_le _) _).size⟩)).drewF,(hb.setCell (zTI _) _).drew⟩
      case measure=>simp [intOf]; omega
     ·have hkm:k=m:=by omega
      have i2:¬(k:Int)<(m:Int):=by omega
      rw [hkm,<-HT.out i] at hf;clear hkm;go_wp2_with fail
      go_roundw
      case rel=>exact ⟨i+1,by omega,by go_num,hf,hb⟩
      case measure=>simp [intOf]; omega
   ·have hkm:i=n:=by omega
    have i1:¬(i:Int)<(n:Int):=by omega
    rw [hkm] at hf;clear hkm;go_wp2_with fail
    refine (zCe hf.reads (by rw [HLT.out]; omega)).mono ?_;rintro e w5 ⟨r5,rfl,f5,b5⟩;rw [<-HR.out] at f5;go_wp2_with fail
    go_ret
    exact ⟨_,rfl,f5.mono (fun b hb'=>⟨Nat.le_trans hb.size hb'.1,hb'.2⟩),zAC.step hb b5⟩
theorem zQw {S S':Nat→Prop} {u v:Value} {l l':List Int} {w:World} (h:RI S w u l) (h':RI S' w v l') (hl:l.length≤8388608) (hl':l'.length≤8388608) :
  Calls Tryz.prog 146 #[u,v] w fun e w'=>∃r,e=.returned r∧FI (New w w') w' r (mulP l l')∧Below w.heap.size w w':=by
 obtain ⟨a,cap,rfl⟩:=h.form;obtain ⟨a',cap',rfl⟩:=h'.form;obtain ⟨i0,hi0,hz0,hz1,hz2⟩:=info_parts zA8;have mixed:Tryz.prog.follows .mixedOrders=true:=by kernel_rfl
 have HP0:=zTD (show l.length=0∨l'.length=0∨62<l.length+l'.length→mulP l l'=[] from fun e=>by unfold mulP; rw [if_pos e]);have HP1:=zTD (show ¬(l.length=0∨l'.length=0∨62<l.length+l'.length)→mulP l l'=trim (zAV l l' l.length) from fun e=>by unfold mulP; rw [if_neg e]);have HS:=zTD (fun i k=>(show zAe l l' i (zAV l l' i) (k+1)=(zAe l l' i (zAV l l' i) k).set (i+k) (wrap64 (num (zAe l l' i (zAV l l' i) k) (i+k)+wrap64 (num l i*num l' k))) from rfl));have HT:=zTD (fun i=>(show zAV l l' (i+1)=zAe l l' i (zAV l l' i) l'.length from rfl));have HT0:=zTD (fun i=>(show zAe l l' i (zAV l l' i) 0=zAV l l' i from rfl));have H0:=zTD (show zAV l l' 0=List.replicate (l.length+l'.length-1) 0 from rfl);have HL:=zTD (fun i k=>(zCb l l' i (zAV l l' i) k).trans (zBo l l' i));have HLT:=zTD (zBo l l')
 generalize mulP l l'=res at *;generalize hn:l.length=n at *;have HN:=zTD hn;clear hn;generalize hm:l'.length=m at *;have HM:=zTD hm;clear hm;by_cases hz:n=0∨m=0∨62<n+m
 ·have HR:=zTD (HP0.out hz);have hcs:(62<n+m)∨(¬62<n+m∧n=0)∨(¬62<n+m∧n≠0∧m=0):=by omega
  clear hz hi0 hz0 hz1 hz2;rcases hcs with hc | ⟨hc,hc2⟩ | ⟨hc,hc2,hc3⟩
  ·have i62:(62:Int)<(n:Int)+(m:Int):=by omega
   clear hc;go_enter Tryz.func146,Tryz.ntmps146
   go_wp2_with fail
   go_ret
   rw [HR.out];exact ⟨_,rfl,FI.of_row (w:=w) (World.ownsRow_lit (base:=w.heap.size) (e:=3) (size:=1) w #[] 0 (zTI _) (by unfold maxLen; omega) rfl) (zTI _) rfl rfl,(Below.refl _ w).alloc (zTI _) _⟩
  ·have i62:¬(62:Int)<(n:Int)+(m:Int):=by omega
   have i0n:((n:Int) == 0)=true:=by simp; omega
   clear hc hc2;go_enter Tryz.func146,Tryz.ntmps146
   go_wp2_with fail
   go_ret
   rw [HR.out];exact ⟨_,rfl,FI.of_row (w:=w) (World.ownsRow_lit (base:=w.heap.size) (e:=3) (size:=1) w #[] 0 (zTI _) (by unfold maxLen; omega) rfl) (zTI _) rfl rfl,(Below.refl _ w).alloc (zTI _) _⟩
  ·have i62:¬(62:Int)<(n:Int)+(m:Int):=by omega
   have i0n:((n:Int) == 0)=false:=by simp; omega
   have i0m:((m:Int) == 0)=true:=by simp; omega
   clear hc hc2 hc3;go_enter Tryz.func146,Tryz.ntmps146
   go_wp2_with fail
   go_ret
   rw [HR.out];exact ⟨_,rfl,FI.of_row (w:=w) (World.ownsRow_lit (base:=w.heap.size) (e:=3) (size:=1) w #[] 0 (zTI _) (by unfold maxLen; omega) rfl) (zTI _) rfl rfl,(Below.refl _ w).alloc (zTI _) _⟩
 ·have HR:=zTD (HP1.out hz);obtain ⟨M,hM⟩:∃M,M+1=n+m:=⟨n+m-1,by omega⟩;have i0n:((n:Int) == 0)=false:=by simp; omega
  have i0m:((m:Int) == 0)=false:=by simp; omega
  have i62:¬(62:Int)<(n:Int)+(m:Int):=by omega
  have hn62:n≤62:=by omega
  have hm62:m≤62:=by omega
  have hn1:1≤n:=by omega
  have hm1:1≤m:=by omega
  rw [show n+m-1=M by omega] at H0 HL HLT;have eM:(n:Int)+(m:Int)-1=(M:Int):=by omega
  clear hz;go_enter Tryz.func146,Tryz.ntmps146
  go_wp2_with (at_make; (refine wpList_make_full _ rfl _ _ 29 rfl w.heap.size 3 i0 (.int .i64 0) 1 Tryz.underlying29 hi0 hz0 hz1 _ _ _ _ M rfl rfl (by first | exact eM | rfl | (simp only [wrap64]; omega)) (by first | exact eM | rfl | (simp only [wrap64]; omega)) ?hb ?hm ?hs ?_))
  case hb=>first | (rw [hz2]; omega) | omega
  case hm=>unfold maxLen; omega
  intro w1 hown hgr;have hb1:Below w.heap.size w w1:=(Below.refl _ w).grown hgr (zTI _) (by simp);have hf1:FI (New w w1) w1 (.slice (some ⟨w.heap.size,0,none⟩) M M) (List.replicate M 0):=FI.of_row hown (zTI _) (by simp) (by simp [toList_madeCells_one]);clear hgr hi0 hz0 hz1 hz2 hown eM;rw [<-H0.out] at hf1;go_wp2_with fail
  go_loopw [36] (fun ii wr=>∃i:Nat,i≤n∧ii=.int .i64 i∧FI (New w wr) wr (.slice (some ⟨w.heap.size,0,none⟩) M M) (zAV l l' i)∧Below w.heap.size w wr) (fun ii _=>n-(intOf ii).toNat)
  case atStart=>exact ⟨0,Nat.zero_le _,rfl,hf1,hb1⟩
  case round =>
   obtain ⟨i,hi,rfl,hf,hb⟩:=hrel;by_cases h1:i<n
   ·have i1:(i:Int)<(n:Int):=by omega
    have hf:=hf;rw [<-HT0.out i] at hf;obtain ⟨b,o,y,e8,hcy,hy⟩:=(h.below hb).at h1;subst e8;go_wp2_with fail
    go_loopw [43] (fun jj wr=>∃k:Nat,k≤m∧jj=.int .i64 k∧FI (New w wr) wr (.slice (some ⟨w.heap.size,0,none⟩) M M) (zAe l l' i (zAV l l' i) k)∧Below w.heap.size w wr) (fun jj _=>m-(intOf jj).toNat)
    case atStart=>exact ⟨0,Nat.zero_le _,rfl,hf,hb⟩
    case round =>
     obtain ⟨k,hk,rfl,hf,hb⟩:=hrel;by_cases h2:k<m
     ·have i2:(k:Int)<(m:Int):=by omega
      obtain ⟨b',o',z,e9,hcz,hz'⟩:=(h'.below hb).at h2;have hPk:=HL.out i k;have hkM:i+k<M:=by omega
      obtain ⟨b5,o5,x,e5,hcx,hx⟩:=RI.at hf.any hkM;simp only [Option.some.injEq,Addr.mk.injEq,and_true] at e5;obtain ⟨rfl,rfl⟩:=e5;rw [Nat.zero_add] at hcx;subst e9;have hfr:=hf.froz hPk (i+k);have hst:=hf.put hPk (i+k) (wrap64 (x+wrap64 (y*z)));rw [show (zAe l l' i (zAV l l' i) k).set (i+k) (wrap64 (x+wrap64 (y*z)))=zAe l l' i (zAV l l' i) (k+1) from by rw [HS.out,zAx hx.out,zAx hy.out,zAx hz'.out]] at hst;have e1:((i:Int)+(k:Int)).toNat=i+k:=by omega
      have HST:=zTD hst;have hPk2:=HL.out i (k+1);clear hst hx hz';go_wp2_with fail
      go_roundw
      case rel=>exact ⟨k+1,by omega,by go_num,HST.out.mono (fun b hb'=>⟨hb'.1,Nat.lt_of_lt_of_le hb'.2 ((Below.refl 0 wr).setCell (Nat.zero_le _) _).size⟩),hb.setCell (zTI _) _⟩
      case measure=>simp [intOf]; omega
     ·have hkm:k=m:=by omega
      have i2:¬(k:Int)<(m:Int):=by omega
      rw [hkm,<-HT.out i] at hf;clear hkm;go_wp2_with fail
      go_roundw
      case rel=>exact ⟨i+1,by omega,by go_num,hf,hb⟩
      case measure=>simp [intOf]; omega
   ·have hkm:i=n:=by omega
    have i1:¬(i:Int)<(n:Int):=by omega
    rw [hkm] at hf;clear hkm;go_wp2_with fail
    refine (zBm hf.reads (by rw [HLT.out]; omega)).mono ?_;rintro e w5 ⟨r5,rfl,f5,b5⟩;rw [<-HR.out] at f5;go_wp2_with fail
    go_ret
    exact ⟨_,rfl,f5.mono (fun b hb'=>⟨Nat.le_trans hb.size hb'.1,hb'.2⟩),zAC.step hb b5⟩
end Go.Proofs.YtlgcdacpjcnjgaaGreatDoor
