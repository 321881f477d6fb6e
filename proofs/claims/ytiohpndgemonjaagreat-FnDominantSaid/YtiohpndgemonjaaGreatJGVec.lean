/- The dot action, by the program and by the reference. Condition: sizes up to 2^24. -/
import Derived.Test.YtiohpndgemonjaaGreatJGPoly
import Derived.Handy
namespace Go.Proofs.YtiohpndgemonjaaGreat
open Go.RowKit
set_option maxRecDepth 20000
set_option maxHeartbeats 8000000
def zCj (c:List (List Int)) (w v:List Int):List Int:=if isWd c w && decide (v.length=c.length) then act c w v else v
theorem zF3 {S S' S'':Nat→Prop} {u z v:Value} {c:List (List Int)} {l l':List Int} {w:World} (h:RII S w u c) (h':RI S' w z l) (h'':RI S'' w v l') (hl:total c≤16777216) (hl':l.length≤16777216) (hl'':l'.length≤16777216) :
  Calls Tryz.prog 10 #[u,z,v] w fun e w'=>∃r,e=.returned r∧FI (New w w') w' r (zCj c l l')∧Below w.heap.size w w':=by
 have hcl:c.length≤16777216:=by unfold total at hl; omega
 obtain ⟨a,cap,rfl⟩:=h.form;obtain ⟨a',cap',rfl⟩:=h'.form;obtain ⟨a'',cap'',rfl⟩:=h''.form;have HG:Hid (isWd c l=true∧l'.length=c.length→zCj c l l'=act c l l'):=zQe (by rintro ⟨h1,h2⟩; simp [zCj,h1,h2]);have HB:Hid (isWd c l=false∨l'.length≠c.length→zCj c l l'=l'):=zQe (by rintro (h | h) <;> simp [zCj,h]);have HE:Hid (l=[]→act c l l'=l'):=zQe (by rintro rfl; rfl);have HLE:Hid (isWd c l=true→CartanP c∧Lets c.length l):=zQe (fun h=>⟨zAM.1 (zGH h).1,(zGH h).2.2⟩);generalize hres:zCj c l l'=res at *;clear hres;have HA0:Hid (act c (l.drop l.length) l'=l'):=zQe (by simp [act]);have HR:Hid (act c (l.drop 0) l'=act c l l'):=zQe (by simp);generalize hm:l.length=m at *;have HM:=zQe hm;clear hm;generalize hn:c.length=n at *;have HN:=zQe hn;clear hn;generalize hq:l'.length=q at *;have HQ:=zQe hq
 clear hq;go_enter Tryz.func10,Tryz.ntmps10
 obtain ⟨f1,b1⟩:=zAN (w:=w) (Below.refl _ w) rfl;go_wp2_with (at_builtin; go_must (refine zAE (W:=w) rfl _ _ rfl rfl f1 b1 rfl (h''.below b1) ?_ ?_))
 ·have:=HQ.out; simp; omega
 ·intro v1 w2 f2 b2 _;clear b1 f1 h'';have f2:FI (New w w2) w2 v1 (act c (l.drop m) l'):=by rw [HA0.out]; exact f2
  go_wp2_with fail
  go_loopw [7,8] (fun z j wr=>∃(k:Nat),k≤m∧j=.int .i64 ((k:Int)-1)∧FI (New w wr) wr z (act c (l.drop k) l')∧Hid (k<m→isWd c l=true∧q=n)∧Below w.heap.size w wr) (fun _ j _=>(intOf j+1).toNat)
  case atStart=>exact ⟨m,zQj _,by go_num,f2,zQe (by omega),b2⟩
  case round =>
   obtain ⟨k,hk,rfl,hf,HK,hb⟩:=hrel;rcases k with _ | k
   ·have e0:Hid (act c (l.drop 0) l'=res):=by
     refine zQe ?_;rw [HR.out];by_cases hm0:0<m
     ·rw [HG.out (HK.out hm0)]
     ·have he:l=[]:=List.eq_nil_of_length_eq_zero (by have:=HM.out; omega);rw [HE.out he];by_cases hg:isWd c l=true∧q=n
      ·rw [HG.out hg,HE.out he]
      ·rw [HB.out];by_cases h1:isWd c l=true
       ·exact .inr (fun e=>hg ⟨h1,e⟩)
       ·exact .inl (by simpa using h1)
    rw [e0.out] at hf;go_wp2_with fail
    go_ret
    exact ⟨_,rfl,hf,hb⟩
   ·obtain ⟨b,o,x,rfl,hc,hx⟩:=((h'.below hb)).at (j:=k) (by omega);have e1:((k+1:Nat):Int)-1=(k:Int):=by omega
    have l1:=zQi wr _ hc;rw [e1];go_wp2_with fail
    refine (zKx (h.below hb) (h'.below hb) hl (by rw [HM.out]; exact hl')).mono ?_;rintro e w3 ⟨rfl,hw3⟩;have b3:=zAO hw3;have hc:=(b3.cell l1).trans hc;clear hw3;have hf:=hf.grow b3;have hb:=zAA.step hb b3;have hstop:Hid ((isWd c l=false∨q≠n)→act c (l.drop (k+1)) l'=res):=by
     refine zQe (fun hbad=>?_);have hkm:k+1=m:=by
      by_cases h:k+1<m
      ·obtain ⟨h1,h2⟩:=HK.out h;rcases hbad with h | h
       ·rw [h1] at h; cases h
       ·exact absurd h2 h
      ·omega
     rw [hkm,HA0.out,HB.out hbad]
    cases hg:isWd c l
    ·rw [hstop.out (.inl hg)] at hf;go_wp2_with fail
     go_ret
     exact ⟨_,rfl,hf,hb⟩
    ·by_cases hqn:q=n
     ·obtain ⟨hcp,hle⟩:=HLE.out hg;obtain ⟨i,rfl,hi⟩:=zJ5 hle hx.out;have hi:i<n:=hi;have hlen:(act c (l.drop (k+1)) l').length=n:=by rw [zBv]; have:=HQ.out; omega
      have HST:Hid (act c (l.drop k) l'=refl c i (act c (l.drop (k+1)) l')):=zQe (by rw [zH4 hx.out]; rfl);have HSq:Hid (Sq c n):=zQe (by have:=hcp.sq; rw [HN.out] at this; exact this);have HG2:=zQe hg;subst hqn;clear hg hcp hle;go_wp2_with fail
      refine (zCo (h.below hb) hf.reads i hi HSq.out hlen hcl).mono ?_;rintro e w4 ⟨r,rfl,f4,b4⟩;go_wp2_with fail
      go_roundw
      case rel=>exact ⟨k,by omega,by go_num,by rw [HST.out]; exact f4.mono (fun b hb'=>⟨by have:=hb.size; have:=hb'.1; omega,hb'.2⟩),zQe (fun _=>⟨HG2.out,by simp⟩),zAA.step hb b4⟩
      case measure=>simp [intOf]
     ·rw [hstop.out (.inr hqn)] at hf;have hqn2:¬(q:Int)=(n:Int):=by omega
      go_wp2_with fail
      go_ret
      exact ⟨_,rfl,hf,hb⟩
def vec (l:List Int):Value:=.agg #[.int .i64 (num l 0),.int .i64 (num l 1),.int .i64 (num l 2),.int .i64 (num l 3)]
theorem zGa {l:List Int} (hl:l.length≤4):splice [Value.int .i64 0,.int .i64 0,.int .i64 0,.int .i64 0] 0 (l.map (Value.int .i64))=[.int .i64 (num l 0),.int .i64 (num l 1),.int .i64 (num l 2),.int .i64 (num l 3)]:=by
 rcases l with _ | ⟨a,_ | ⟨b,_ | ⟨c,_ | ⟨d,_ | ⟨e,l⟩⟩⟩⟩⟩ <;> simp [splice,num] at hl ⊢
theorem zCS {S:Nat→Prop} {v:Value} {l:List Int} {w:World} (h:RI S w v l) (hl:l.length≤4) :
  Calls Tryz.prog 57 #[v] w fun e w'=>e=.returned (vec l)∧Below w.heap.size w w':=by
 obtain ⟨a,cap,rfl⟩:=h.form;have HSP:=zQe (zGa hl);unfold vec;have HL:=zQe hl;go_enter Tryz.func57,Tryz.ntmps57
 have bw1:Below w.heap.size w ((w.alloc (Obj.cells #[Value.int IntKind.i64 0,Value.int IntKind.i64 0,Value.int IntKind.i64 0,Value.int IntKind.i64 0] 61)).alloc (Obj.cells #[Value.int IntKind.i64 0,Value.int IntKind.i64 0,Value.int IntKind.i64 0,Value.int IntKind.i64 0] 61)):=((Below.refl _ _).alloc (zQj _) _).alloc (by simp) _;go_wp2_with (refine wpList_copy_splice (P:=Tryz.prog) rfl _ _ 25 25 rfl 3 Tryz.underlying25 (by kernel_rfl) (some ⟨w.heap.size+1,0,none⟩) a 4 4 l.length cap rfl rfl (w.heap.size+1) 0 [.int .i64 0,.int .i64 0,.int .i64 0,.int .i64 0] 61 ?h0 (l.map (Value.int .i64)) ?hmin ?h1 ?hfit ?h2 (w.heap.size+1) _ (Below.refl _ _) (zQj _) ?h3)
 case h0 =>
  have:=heap_alloc_new (w.alloc (Obj.cells #[Value.int IntKind.i64 0,Value.int IntKind.i64 0,Value.int IntKind.i64 0,Value.int IntKind.i64 0] 61)) (Obj.cells #[Value.int IntKind.i64 0,Value.int IntKind.i64 0,Value.int IntKind.i64 0,Value.int IntKind.i64 0] 61);simpa using this
 case hmin=>have:=HL.out; rw [List.length_map]; exact (Nat.min_eq_left this).symm
 case hfit=>have:=HL.out; simp; omega
 case h1 =>
  intro hp;have h5:=h.below bw1;obtain ⟨a',cap',hv,_,hcase⟩:=h5;simp only [Value.slice.injEq] at hv;obtain ⟨rfl,_,rfl⟩:=hv;rcases hcase with h0 | ⟨b,off,ha,_,_,hc⟩
  ·subst h0; simp at hp
  ·refine ⟨_,ha,fun j v hj=>?_⟩;obtain ⟨r,h1,h2⟩:=hc j v hj;have hadd:(⟨b,off,none⟩:Addr).add j=⟨b,off+j,none⟩:=by unfold Addr.add; split <;> simp_all
   rw [hadd,h1];exact congrArg some h2
 case h2 =>
  intro v hv;first | (obtain ⟨x,_,rfl⟩:=List.mem_map.1 hv; rfl) | (obtain ⟨x,_,rfl⟩:=hv; rfl)
 case h3 =>
  intro w3 hg3 hb3;rw [HSP.out] at hg3;clear HSP HL;have b03:Below w.heap.size w w3:=bw1.trans (hb3.mono (Nat.le_succ _));have c0:w3.cell? ⟨w.heap.size+1,0,none⟩=some (.int .i64 (num l 0)):=by simp [World.cell?,hg3.out]
  have c1:w3.cell? ⟨w.heap.size+1,1,none⟩=some (.int .i64 (num l 1)):=by simp [World.cell?,hg3.out]
  have c2:w3.cell? ⟨w.heap.size+1,2,none⟩=some (.int .i64 (num l 2)):=by simp [World.cell?,hg3.out]
  have c3:w3.cell? ⟨w.heap.size+1,3,none⟩=some (.int .i64 (num l 3)):=by simp [World.cell?,hg3.out]
  have hs:=hb3.cell (p:=⟨w.heap.size,0,none⟩) (Nat.lt_succ_self _);have d0:w3.cell? ⟨w.heap.size,0,none⟩=some (.int .i64 0):=(hb3.cell (p:=⟨w.heap.size,0,none⟩) (Nat.lt_succ_self _)).trans (by go_simp);have d1:w3.cell? ⟨w.heap.size,1,none⟩=some (.int .i64 0):=(hb3.cell (p:=⟨w.heap.size,1,none⟩) (Nat.lt_succ_self _)).trans (by go_simp);have d2:w3.cell? ⟨w.heap.size,2,none⟩=some (.int .i64 0):=(hb3.cell (p:=⟨w.heap.size,2,none⟩) (Nat.lt_succ_self _)).trans (by go_simp);have d3:w3.cell? ⟨w.heap.size,3,none⟩=some (.int .i64 0):=(hb3.cell (p:=⟨w.heap.size,3,none⟩) (Nat.lt_succ_self _)).trans (by go_simp);have f0:w3.frozen? ⟨w.heap.size,0,none⟩=false:=(hb3.frozen (p:=⟨w.heap.size,0,none⟩) (Nat.lt_succ_self _)).trans (by go_simp)
  have f1:w3.frozen? ⟨w.heap.size,1,none⟩=false:=(hb3.frozen (p:=⟨w.heap.size,1,none⟩) (Nat.lt_succ_self _)).trans (by go_simp);have f2:w3.frozen? ⟨w.heap.size,2,none⟩=false:=(hb3.frozen (p:=⟨w.heap.size,2,none⟩) (Nat.lt_succ_self _)).trans (by go_simp);have f3:w3.frozen? ⟨w.heap.size,3,none⟩=false:=(hb3.frozen (p:=⟨w.heap.size,3,none⟩) (Nat.lt_succ_self _)).trans (by go_simp);clear hg3 hs hb3 bw1 h;generalize hN:w.heap.size=N at *;have HN:=zQe hN;clear hN;go_wp2_with fail
  have b4:Below N w ((((w3.setCell ⟨N,0,none⟩ (.int .i64 (num l 0))).setCell ⟨N,1,none⟩ (.int .i64 (num l 1))).setCell ⟨N,2,none⟩ (.int .i64 (num l 2))).setCell ⟨N,3,none⟩ (.int .i64 (num l 3))) :=
   (((b03.setCell (zQj _) _).setCell (zQj _) _).setCell (zQj _) _).setCell (zQj _) _
  have e0:((((w3.setCell ⟨N,0,none⟩ (.int .i64 (num l 0))).setCell ⟨N,1,none⟩ (.int .i64 (num l 1))).setCell ⟨N,2,none⟩ (.int .i64 (num l 2))).setCell ⟨N,3,none⟩ (.int .i64 (num l 3))).cell? ⟨N,0,none⟩=some (.int .i64 (num l 0)):=by
   rw [zAV _ _ _ _ _ (by decide),zAV _ _ _ _ _ (by decide),zAV _ _ _ _ _ (by decide),World.cell?_setCell_same' _ _ _ (by rw [d0]; rfl)]
  have e1:((((w3.setCell ⟨N,0,none⟩ (.int .i64 (num l 0))).setCell ⟨N,1,none⟩ (.int .i64 (num l 1))).setCell ⟨N,2,none⟩ (.int .i64 (num l 2))).setCell ⟨N,3,none⟩ (.int .i64 (num l 3))).cell? ⟨N,1,none⟩=some (.int .i64 (num l 1)):=by
   rw [zAV _ _ _ _ _ (by decide),zAV _ _ _ _ _ (by decide),World.cell?_setCell_same' _ _ _ (by rw [zAV _ _ _ _ _ (by decide),d1]; rfl)]
  have e2:((((w3.setCell ⟨N,0,none⟩ (.int .i64 (num l 0))).setCell ⟨N,1,none⟩ (.int .i64 (num l 1))).setCell ⟨N,2,none⟩ (.int .i64 (num l 2))).setCell ⟨N,3,none⟩ (.int .i64 (num l 3))).cell? ⟨N,2,none⟩=some (.int .i64 (num l 2)):=by
   rw [zAV _ _ _ _ _ (by decide),World.cell?_setCell_same' _ _ _ (by rw [zAV _ _ _ _ _ (by decide),zAV _ _ _ _ _ (by decide),d2]; rfl)]
  have e3:((((w3.setCell ⟨N,0,none⟩ (.int .i64 (num l 0))).setCell ⟨N,1,none⟩ (.int .i64 (num l 1))).setCell ⟨N,2,none⟩ (.int .i64 (num l 2))).setCell ⟨N,3,none⟩ (.int .i64 (num l 3))).cell? ⟨N,3,none⟩=some (.int .i64 (num l 3)):=by
   rw [World.cell?_setCell_same' _ _ _ (by rw [zAV _ _ _ _ _ (by decide),zAV _ _ _ _ _ (by decide),zAV _ _ _ _ _ (by decide),d3]; rfl)]
  generalize (((w3.setCell ⟨N,0,none⟩ (.int .i64 (num l 0))).setCell ⟨N,1,none⟩ (.int .i64 (num l 1))).setCell ⟨N,2,none⟩ (.int .i64 (num l 2))).setCell ⟨N,3,none⟩ (.int .i64 (num l 3))=w4 at *;have hn:=HN.out;subst hn;try simp only [Exit.inBlock,Exit.then]
  refine bodyPost_ret (v:=.agg #[.int .i64 (num l 0),.int .i64 (num l 1),.int .i64 (num l 2),.int .i64 (num l 3)]) (by simp [results,Tryz.results57,go_sem,e0,e1,e2,e3]) rfl ?_;exact ⟨rfl,b4⟩
end Go.Proofs.YtiohpndgemonjaaGreat
