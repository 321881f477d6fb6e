/- Lists of terms added one by one: their words, lengths and numbers. Plain lists. -/
import Derived.Test.YtlchafedbnihoaaGreatDoorJGColl
namespace Go.Proofs.YtlchafedbnihoaaGreatDoor
open Go.RowKit
theorem zHV (w p:List Int):∀h:List Trm,(putT w p h).length≤h.length+1
 | []=>by unfold putT; split <;> simp
 | t::h=>by
  have:=zHV w p h;unfold putT;split
  ·split <;> simp <;> omega
  ·split
   ·split <;> simp <;> omega
   ·simp; omega
theorem zDk {w p:List Int}:∀{h:List Trm} {s:Trm},s∈putT w p h→s.1=w∨∃t∈h,s.1=t.1
 | [],s,hs=>by
  unfold putT at hs;split at hs
  ·simp at hs
  ·simp at hs; subst hs; exact .inl rfl
 | t::h,s,hs=>by
  unfold putT at hs;split at hs
  ·rw [List.mem_append] at hs;rcases hs with hs | hs
   ·split at hs
    ·simp at hs
    ·simp at hs; subst hs; exact .inl rfl
   ·exact .inr ⟨s,hs,rfl⟩
  ·split at hs
   ·rw [List.mem_append] at hs;rcases hs with hs | hs
    ·split at hs
     ·simp at hs
     ·simp at hs; subst hs; exact .inl rfl
    ·exact .inr ⟨s,List.mem_cons_of_mem _ hs,rfl⟩
   ·rcases List.mem_cons.1 hs with rfl | hs
    ·exact .inr ⟨s,List.mem_cons_self ..,rfl⟩
    ·rcases zDk hs with h1 | ⟨r,hr,h1⟩
     ·exact .inl h1
     ·exact .inr ⟨r,List.mem_cons_of_mem _ hr,h1⟩
theorem zFb {w p:List Int} {B:Nat} (hp:p.length≤B):∀{h:List Trm},(∀t∈h,t.2.length≤B)→∀s∈putT w p h,s.2.length≤B
 | [],_,s,hs=>by
  unfold putT at hs;split at hs
  ·simp at hs
  ·simp at hs; subst hs; exact hp
 | t::h,hh,s,hs=>by
  have ht:=hh t (List.mem_cons_self ..);have ha:=zEM t.2 p;unfold putT at hs;split at hs
  ·rw [List.mem_append] at hs;rcases hs with hs | hs
   ·split at hs
    ·simp at hs
    ·simp at hs; subst hs; exact hp
   ·exact hh s hs
  ·split at hs
   ·rw [List.mem_append] at hs;rcases hs with hs | hs
    ·split at hs
     ·simp at hs
     ·simp at hs; subst hs; show (addP t.2 p).length≤B; omega
    ·exact hh s (List.mem_cons_of_mem _ hs)
   ·rcases List.mem_cons.1 hs with rfl | hs
    ·exact ht
    ·exact zFb hp (fun r hr=>hh r (List.mem_cons_of_mem _ hr)) s hs
theorem zCx {A B:Nat}:∀(n:Nat) (L:List Trm),L.length=n→(∀t∈L,t.1.length≤A∧t.2.length≤B)→(puts L).length≤n∧∀t∈puts L,t.1.length≤A∧t.2.length≤B
 | 0,L,hn,_=>by
  have:=List.eq_nil_of_length_eq_zero hn;subst this;exact ⟨zNl _,fun t h=>by simp [puts] at h⟩
 | n+1,L,hn,hi=>by
  rcases zBG L with rfl | ⟨a,t,rfl⟩
  ·simp at hn
  ·have ha:a.length=n:=by simp at hn; exact hn
   obtain ⟨g1,g2⟩:=zCx n a ha (fun s h=>hi s (List.mem_append_left _ h));have ht:=hi t (List.mem_append_right _ (List.mem_singleton.2 rfl));rw [zCG];have h1:=zHV t.1 t.2 (puts a);refine ⟨by omega,fun s hs=>⟨?_,zFb ht.2 (fun r hr=>(g2 r hr).2) s hs⟩⟩;rcases zDk hs with e | ⟨r,hr,e⟩
   ·rw [e]; exact ht.1
   ·rw [e]; exact (g2 r hr).1
theorem zKI {L:List Trm} {k:Nat} {t:Trm} (h:L[k]? = some t):puts (L.take (k+1))=putT t.1 t.2 (puts (L.take k)):=by rw [zAV h,zCG]
def scT (p:List Int) (h:List Trm):List Trm:=h.map fun t=>(t.1,mulP t.2 p)
theorem zEF (p:List Int) (h:List Trm):∀t∈scT p h,Trd t.2∧InI t.2:=fun t ht=>by
 obtain ⟨s,_,rfl⟩:=List.mem_map.1 ht;exact ⟨(zDO s.2 p).1,(zDO s.2 p).2.1⟩
theorem zIh {p:List Int} {h:List Trm} {A:Nat} (hA:∀t∈h,t.1.length≤A):∀t∈scT p h,t.1.length≤A∧t.2.length≤62:=fun t ht=>by
 obtain ⟨s,hs,rfl⟩:=List.mem_map.1 ht;exact ⟨hA s hs,(zDO s.2 p).2.2⟩
def scOk (p:List Int) (h:List Trm):Bool:=h.all fun t=>decide (t.2.length+p.length≤62)
set_option maxRecDepth 20000
set_option maxHeartbeats 16000000
theorem FI.drewF {W w:World} {v:Value} {l:List Int} (h:FI (New W w) w v l):FI (New W w.drew) w.drew v l:=h.grow ((Below.refl _ w).drew)
theorem zMF {S S':Nat→Prop} {u v:Value} {l l':List Int} {w:World} (h:RI S w u l) (h':RI S' w v l') (hl:l.length≤8388608) (hl':l'.length≤8388608) :
  Calls Tryz.prog 59 #[u,v] w fun e w'=>∃r,e=.returned r∧FI (New w w') w' r (mulP l l')∧Below w.heap.size w w':=by
 obtain ⟨a,cap,rfl⟩:=h.form;obtain ⟨a',cap',rfl⟩:=h'.form;obtain ⟨i0,hi0,hz0,hz1,hz2⟩:=info_parts zBK;have mixed:Tryz.prog.follows .mixedOrders=true:=by kernel_rfl
 have HP0:=zNg (show l.length=0∨l'.length=0∨62<l.length+l'.length→mulP l l'=[] from fun e=>by unfold mulP; rw [if_pos e]);have HP1:=zNg (show ¬(l.length=0∨l'.length=0∨62<l.length+l'.length)→mulP l l'=trim (zAY l l' l.length) from fun e=>by unfold mulP; rw [if_neg e]);have HS:=zNg (fun i k=>(show zAl l l' i (zAY l l' i) (k+1)=(zAl l l' i (zAY l l' i) k).set (i+k) (wrap64 (num (zAl l l' i (zAY l l' i) k) (i+k)+wrap64 (num l i*num l' k))) from rfl));have HT:=zNg (fun i=>(show zAY l l' (i+1)=zAl l l' i (zAY l l' i) l'.length from rfl));have HT0:=zNg (fun i=>(show zAl l l' i (zAY l l' i) 0=zAY l l' i from rfl));have H0:=zNg (show zAY l l' 0=List.replicate (l.length+l'.length-1) 0 from rfl);have HL:=zNg (fun i k=>(zCL l l' i (zAY l l' i) k).trans (zBo l l' i));have HLT:=zNg (zBo l l')
 generalize mulP l l'=res at *;generalize hn:l.length=n at *;have HN:=zNg hn;clear hn;generalize hm:l'.length=m at *;have HM:=zNg hm;clear hm;by_cases hz:n=0∨m=0∨62<n+m
 ·have HR:=zNg (HP0.out hz);have hcs:(n=0)∨(n≠0∧m=0)∨(n≠0∧m≠0∧62<n+m):=by omega
  clear hz hi0 hz0 hz1 hz2;rcases hcs with hc | ⟨hc,hc2⟩ | ⟨hc,hc2,hc3⟩
  ·have i0n:((n:Int) == 0)=true:=by simp; omega
   clear hc;go_enter Tryz.func59,Tryz.ntmps59
   go_wp2_with fail
   go_ret
   rw [HR.out];exact ⟨_,rfl,FI.of_row (w:=w) (World.ownsRow_lit (base:=w.heap.size) (e:=3) (size:=1) w #[] 0 (zNl _) (by unfold maxLen; omega) rfl) (zNl _) rfl rfl,(Below.refl _ w).alloc (zNl _) _⟩
  ·have i0n:((n:Int) == 0)=false:=by simp; omega
   have i0m:((m:Int) == 0)=true:=by simp; omega
   clear hc hc2;go_enter Tryz.func59,Tryz.ntmps59
   go_wp2_with fail
   go_ret
   rw [HR.out];exact ⟨_,rfl,FI.of_row (w:=w) (World.ownsRow_lit (base:=w.heap.size) (e:=3) (size:=1) w #[] 0 (zNl _) (by unfold maxLen; omega) rfl) (zNl _) rfl rfl,(Below.refl _ w).alloc (zNl _) _⟩
  ·have i0n:((n:Int) == 0)=false:=by simp; omega
   have i0m:((m:Int) == 0)=false:=by simp; omega
   have i62:(62:Int)<(n:Int)+(m:Int):=by omega
   clear hc hc2 hc3;go_enter Tryz.func59,Tryz.ntmps59
   go_wp2_with fail
   go_ret
   rw [HR.out];exact ⟨_,rfl,FI.of_row (w:=w) (World.ownsRow_lit (base:=w.heap.size) (e:=3) (size:=1) w #[] 0 (zNl _) (by unfold maxLen; omega) rfl) (zNl _) rfl rfl,(Below.refl _ w).alloc (zNl _) _⟩
 ·have HR:=zNg (HP1.out hz);obtain ⟨M,hM⟩:∃M,M+1=n+m:=⟨n+m-1,by omega⟩;have i0n:((n:Int) == 0)=false:=by simp; omega
  have i0m:((m:Int) == 0)=false:=by simp; omega
  have i62:¬(62:Int)<(n:Int)+(m:Int):=by omega
  have hn62:n≤62:=by omega
  have hm62:m≤62:=by omega
  have hn1:1≤n:=by omega
  have hm1:1≤m:=by omega
  rw [show n+m-1=M by omega] at H0 HL HLT;have eM:(n:Int)+(m:Int)-1=(M:Int):=by omega
  clear hz;go_enter Tryz.func59,Tryz.ntmps59
  go_wp2_with (at_make; (refine wpList_make_full _ rfl _ _ 33 rfl w.heap.size 3 i0 (.int .i64 0) 1 Tryz.underlying33 hi0 hz0 hz1 _ _ _ _ M rfl rfl (by first | exact eM | rfl | (simp only [wrap64]; omega)) (by first | exact eM | rfl | (simp only [wrap64]; omega)) ?hb ?hm ?hs ?_))
  case hb=>first | (rw [hz2]; omega) | omega
  case hm=>unfold maxLen; omega
  intro w1 hown hgr;have hb1:Below w.heap.size w w1:=(Below.refl _ w).grown hgr (zNl _) (by simp);have hf1:FI (New w w1) w1 (.slice (some ⟨w.heap.size,0,none⟩) M M) (List.replicate M 0):=FI.of_row hown (zNl _) (by simp) (by simp [toList_madeCells_one]);clear hgr hi0 hz0 hz1 hz2 hown eM;rw [<-H0.out] at hf1;go_wp2_with fail
  go_loopw [6] (fun ii wr=>∃i:Nat,i≤n∧ii=.int .i64 i∧FI (New w wr) wr (.slice (some ⟨w.heap.size,0,none⟩) M M) (zAY l l' i)∧Below w.heap.size w wr) (fun ii _=>n-(intOf ii).toNat)
  case atStart=>exact ⟨0,Nat.zero_le _,rfl,hf1,hb1⟩
  case round =>
   obtain ⟨i,hi,rfl,hf,hb⟩:=hrel;by_cases h1:i<n
   ·have i1:(i:Int)<(n:Int):=by omega
    have hf:=hf;rw [<-HT0.out i] at hf;go_wp2_with fail
    go_loopw [7] (fun jj wr=>∃k:Nat,k≤m∧jj=.int .i64 k∧FI (New w wr) wr (.slice (some ⟨w.heap.size,0,none⟩) M M) (zAl l l' i (zAY l l' i) k)∧Below w.heap.size w wr) (fun jj _=>m-(intOf jj).toNat)
    case atStart=>exact ⟨0,Nat.zero_le _,rfl,hf,hb⟩
    case round =>
     obtain ⟨k,hk,rfl,hf,hb⟩:=hrel;by_cases h2:k<m
     ·have i2:(k:Int)<(m:Int):=by omega
      obtain ⟨b,o,y,e8,hcy,hy⟩:=(h.below hb).at h1;obtain ⟨b',o',z,e9,hcz,hz'⟩:=(h'.below hb).at h2;have hPk:=HL.out i k;have hkM:i+k<M:=by omega
      obtain ⟨b5,o5,x,e5,hcx,hx⟩:=RI.at hf.any hkM;simp only [Option.some.injEq,Addr.mk.injEq,and_true] at e5;obtain ⟨rfl,rfl⟩:=e5;rw [Nat.zero_add] at hcx;subst e8 e9;have hfr:=hf.froz hPk (i+k);have hst:=hf.put hPk (i+k) (wrap64 (x+wrap64 (y*z)));rw [show (zAl l l' i (zAY l l' i) k).set (i+k) (wrap64 (x+wrap64 (y*z)))=zAl l l' i (zAY l l' i) (k+1) from by rw [HS.out,zAv hx.out,zAv hy.out,zAv hz'.out]] at hst;have e1:((i:Int)+(k:Int)).toNat=i+k:=by omega
      have HST:=zNg hst;have hPk2:=HL.out i (k+1);clear hst hx hy hz';go_wp2_with fail
      go_big_region_o
      go_wp2_with fail
      go_roundw
      case rel=>exact ⟨k+1,by omega,by go_num,(HST.out.mono (fun b hb'=>⟨hb'.1,Nat.lt_of_lt_of_le hb'.2 ((Below.refl 0 wr).setCell (Nat.zero_le _) _).size⟩)).drewF,(hb.setCell (zNl _) _).drew⟩
      case measure=>simp [intOf]; omega
     ·have hkm:k=m:=by omega
      have i2:¬(k:Int)<(m:Int):=by omega
      rw [hkm,<-HT.out i] at hf;clear hkm;go_wp2_with fail
      go_roundw
      case rel=>exact ⟨i+1,by omega,by go_num,hf,hb⟩
      case measure=>simp [intOf]; omega
   ·have hkm:i=n:=by omega
    have i1:¬(i:Int)<(n:Int):=by omega
    rw [hkm] at hf;clear hkm;go_wp2_with fail
    refine (zBN hf.reads (by rw [HLT.out]; omega)).mono ?_;rintro e w5 ⟨r5,rfl,f5,b5⟩;rw [<-HR.out] at f5;go_wp2_with fail
    go_ret
    exact ⟨_,rfl,f5.mono (fun b hb'=>⟨Nat.le_trans hb.size hb'.1,hb'.2⟩),zAA.step hb b5⟩
theorem zME {S S':Nat→Prop} {u v:Value} {l l':List Int} {w:World} (h:RI S w u l) (h':RI S' w v l') (hl:l.length≤8388608) (hl':l'.length≤8388608) :
  Calls Tryz.prog 58 #[u,v] w fun e w'=>∃r,e=.returned r∧FI (New w w') w' r (mulP l l')∧Below w.heap.size w w':=by
 obtain ⟨a,cap,rfl⟩:=h.form;obtain ⟨a',cap',rfl⟩:=h'.form;obtain ⟨i0,hi0,hz0,hz1,hz2⟩:=info_parts zBK;have mixed:Tryz.prog.follows .mixedOrders=true:=by kernel_rfl
 have HP0:=zNg (show l.length=0∨l'.length=0∨62<l.length+l'.length→mulP l l'=[] from fun e=>by unfold mulP; rw [if_pos e]);have HP1:=zNg (show ¬(l.length=0∨l'.length=0∨62<l.length+l'.length)→mulP l l'=trim (zAY l l' l.length) from fun e=>by unfold mulP; rw [if_neg e]);have HS:=zNg (fun i k=>(show zAl l l' i (zAY l l' i) (k+1)=(zAl l l' i (zAY l l' i) k).set (i+k) (wrap64 (num (zAl l l' i (zAY l l' i) k) (i+k)+wrap64 (num l i*num l' k))) from rfl));have HT:=zNg (fun i=>(show zAY l l' (i+1)=zAl l l' i (zAY l l' i) l'.length from rfl));have HT0:=zNg (fun i=>(show zAl l l' i (zAY l l' i) 0=zAY l l' i from rfl));have H0:=zNg (show zAY l l' 0=List.replicate (l.length+l'.length-1) 0 from rfl);have HL:=zNg (fun i k=>(zCL l l' i (zAY l l' i) k).trans (zBo l l' i));have HLT:=zNg (zBo l l')
 generalize mulP l l'=res at *;generalize hn:l.length=n at *;have HN:=zNg hn;clear hn;generalize hm:l'.length=m at *;have HM:=zNg hm;clear hm;by_cases hz:n=0∨m=0∨62<n+m
 ·have HR:=zNg (HP0.out hz);have hcs:(62<n+m)∨(¬62<n+m∧n=0)∨(¬62<n+m∧n≠0∧m=0):=by omega
  clear hz hi0 hz0 hz1 hz2;rcases hcs with hc | ⟨hc,hc2⟩ | ⟨hc,hc2,hc3⟩
  ·have i62:(62:Int)<(n:Int)+(m:Int):=by omega
   clear hc;go_enter Tryz.func58,Tryz.ntmps58
   go_wp2_with fail
   go_ret
   rw [HR.out];exact ⟨_,rfl,FI.of_row (w:=w) (World.ownsRow_lit (base:=w.heap.size) (e:=3) (size:=1) w #[] 0 (zNl _) (by unfold maxLen; omega) rfl) (zNl _) rfl rfl,(Below.refl _ w).alloc (zNl _) _⟩
  ·have i62:¬(62:Int)<(n:Int)+(m:Int):=by omega
   have i0n:((n:Int) == 0)=true:=by simp; omega
   clear hc hc2;go_enter Tryz.func58,Tryz.ntmps58
   go_wp2_with fail
   go_ret
   rw [HR.out];exact ⟨_,rfl,FI.of_row (w:=w) (World.ownsRow_lit (base:=w.heap.size) (e:=3) (size:=1) w #[] 0 (zNl _) (by unfold maxLen; omega) rfl) (zNl _) rfl rfl,(Below.refl _ w).alloc (zNl _) _⟩
  ·have i62:¬(62:Int)<(n:Int)+(m:Int):=by omega
   have i0n:((n:Int) == 0)=false:=by simp; omega
   have i0m:((m:Int) == 0)=true:=by simp; omega
   clear hc hc2 hc3;go_enter Tryz.func58,Tryz.ntmps58
   go_wp2_with fail
   go_ret
   rw [HR.out];exact ⟨_,rfl,FI.of_row (w:=w) (World.ownsRow_lit (base:=w.heap.size) (e:=3) (size:=1) w #[] 0 (zNl _) (by unfold maxLen; omega) rfl) (zNl _) rfl rfl,(Below.refl _ w).alloc (zNl _) _⟩
 ·have HR:=zNg (HP1.out hz);obtain ⟨M,hM⟩:∃M,M+1=n+m:=⟨n+m-1,by omega⟩;have i0n:((n:Int) == 0)=false:=by simp; omega
  have i0m:((m:Int) == 0)=false:=by simp; omega
  have i62:¬(62:Int)<(n:Int)+(m:Int):=by omega
  have hn62:n≤62:=by omega
  have hm62:m≤62:=by omega
  have hn1:1≤n:=by omega
  have hm1:1≤m:=by omega
  rw [show n+m-1=M by omega] at H0 HL HLT;have eM:(n:Int)+(m:Int)-1=(M:Int):=by omega
  clear hz;go_enter Tryz.func58,Tryz.ntmps58
  go_wp2_with (at_make; (refine wpList_make_full _ rfl _ _ 33 rfl w.heap.size 3 i0 (.int .i64 0) 1 Tryz.underlying33 hi0 hz0 hz1 _ _ _ _ M rfl rfl (by first | exact eM | rfl | (simp only [wrap64]; omega)) (by first | exact eM | rfl | (simp only [wrap64]; omega)) ?hb ?hm ?hs ?_))
  case hb=>first | (rw [hz2]; omega) | omega
  case hm=>unfold maxLen; omega
  intro w1 hown hgr;have hb1:Below w.heap.size w w1:=(Below.refl _ w).grown hgr (zNl _) (by simp);have hf1:FI (New w w1) w1 (.slice (some ⟨w.heap.size,0,none⟩) M M) (List.replicate M 0):=FI.of_row hown (zNl _) (by simp) (by simp [toList_madeCells_one]);clear hgr hi0 hz0 hz1 hz2 hown eM;rw [<-H0.out] at hf1;go_wp2_with fail
  go_loopw [36] (fun ii wr=>∃i:Nat,i≤n∧ii=.int .i64 i∧FI (New w wr) wr (.slice (some ⟨w.heap.size,0,none⟩) M M) (zAY l l' i)∧Below w.heap.size w wr) (fun ii _=>n-(intOf ii).toNat)
  case atStart=>exact ⟨0,Nat.zero_le _,rfl,hf1,hb1⟩
  case round =>
   obtain ⟨i,hi,rfl,hf,hb⟩:=hrel;by_cases h1:i<n
   ·have i1:(i:Int)<(n:Int):=by omega
    have hf:=hf;rw [<-HT0.out i] at hf;obtain ⟨b,o,y,e8,hcy,hy⟩:=(h.below hb).at h1;subst e8;go_wp2_with fail
    go_loopw [43] (fun jj wr=>∃k:Nat,k≤m∧jj=.int .i64 k∧FI (New w wr) wr (.slice (some ⟨w.heap.size,0,none⟩) M M) (zAl l l' i (zAY l l' i) k)∧Below w.heap.size w wr) (fun jj _=>m-(intOf jj).toNat)
    case atStart=>exact ⟨0,Nat.zero_le _,rfl,hf,hb⟩
    case round =>
     obtain ⟨k,hk,rfl,hf,hb⟩:=hrel;by_cases h2:k<m
     ·have i2:(k:Int)<(m:Int):=by omega
      obtain ⟨b',o',z,e9,hcz,hz'⟩:=(h'.below hb).at h2;have hPk:=HL.out i k;have hkM:i+k<M:=by omega
      obtain ⟨b5,o5,x,e5,hcx,hx⟩:=RI.at hf.any hkM;simp only [Option.some.injEq,Addr.mk.injEq,and_true] at e5;obtain ⟨rfl,rfl⟩:=e5;rw [Nat.zero_add] at hcx;subst e9;have hfr:=hf.froz hPk (i+k);have hst:=hf.put hPk (i+k) (wrap64 (x+wrap64 (y*z)));rw [show (zAl l l' i (zAY l l' i) k).set (i+k) (wrap64 (x+wrap64 (y*z)))=zAl l l' i (zAY l l' i) (k+1) from by rw [HS.out,zAv hx.out,zAv hy.out,zAv hz'.out]] at hst;have e1:((i:Int)+(k:Int)).toNat=i+k:=by omega
      have HST:=zNg hst;have hPk2:=HL.out i (k+1);clear hst hx hz';go_wp2_with fail
      go_roundw
      case rel=>exact ⟨k+1,by omega,by go_num,HST.out.mono (fun b hb'=>⟨hb'.1,Nat.lt_of_lt_of_le hb'.2 ((Below.refl 0 wr).setCell (Nat.zero_le _) _).size⟩),hb.setCell (zNl _) _⟩
      case measure=>simp [intOf]; omega
     ·have hkm:k=m:=by omega
      have i2:¬(k:Int)<(m:Int):=by omega
      rw [hkm,<-HT.out i] at hf;clear hkm;go_wp2_with fail
      go_roundw
      case rel=>exact ⟨i+1,by omega,by go_num,hf,hb⟩
      case measure=>simp [intOf]; omega
   ·have hkm:i=n:=by omega
    have i1:¬(i:Int)<(n:Int):=by omega
    rw [hkm] at hf;clear hkm;go_wp2_with fail
    refine (zBC hf.reads (by rw [HLT.out]; omega)).mono ?_;rintro e w5 ⟨r5,rfl,f5,b5⟩;rw [<-HR.out] at f5;go_wp2_with fail
    go_ret
    exact ⟨_,rfl,f5.mono (fun b hb'=>⟨Nat.le_trans hb.size hb'.1,hb'.2⟩),zAA.step hb b5⟩
end Go.Proofs.YtlchafedbnihoaaGreatDoor
