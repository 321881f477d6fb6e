/- What arrows reach from each place, by the program. Condition: at most 24 places, 576 arrows. -/
import Derived.Test.YtlgcdacpjcnjgaaGreatDoorJGRch
import Derived.Test.YtlgcdacpjcnjgaaGreatDoorJWgI
import Derived.Test.YtlgcdacpjcnjgaaGreatDoorJGKzE
namespace Go.Proofs.YtlgcdacpjcnjgaaGreatDoor
open Go.RowKit
set_option maxRecDepth 20000
set_option maxHeartbeats 8000000
section
variable {A:Nat→Prop} {w0 w w1:World} {Ps:List zAI}
theorem zHw {α:Type}:∀{l:List α} {u:Nat} {a:α},u<l.length→(l.set u a).Perm (a::l.eraseIdx u)
 | [],u,a,h=>by simp at h
 | b::l,0,a,h=>List.Perm.refl _
 | b::l,u+1,a,h=>by
  simp only [List.set_cons_succ,List.eraseIdx_cons_succ];exact ((zHw (l:=l) (u:=u) (a:=a) (by simpa using h)).cons b).trans (List.Perm.swap a b _)
theorem HSx.lessS {Z:Zl} (h:HSx A w0 w Ps) (j:Nat) (hj:Ps[j]? = some (aRs Z)) {u:Nat} {r:Value} {l:List Int} (hx:Z[u]? = some (r,l)):HSx A w0 w (Ps.set j (aRs (Z.eraseIdx u))++[aI r l]):=by
 refine h.split j hj (zA7 _) (st_I _ _) fun F hF=>⟨fun b=>F b∧r.ownBlock≠some b,fun b=>r.ownBlock=some b,⟨fun x hxm=>?_,?_⟩,?_,fun b hb=>hb.1,fun b hb=>?_,fun b hb hb'=>hb.2 hb'⟩
 ·obtain ⟨m,hm,hne⟩:∃m,Z[m]? = some x∧m≠u:=by
   obtain ⟨m,h1,h2⟩:=List.mem_eraseIdx_iff_getElem?.1 hxm;exact ⟨m,h2,h1⟩
  have hf:=hF.1 x (zTF hm);refine ⟨hf.1,fun b hb=>⟨hf.2 b hb,fun e=>?_⟩⟩;have hp:=List.pairwise_iff_getElem.1 hF.2;obtain ⟨lm,em⟩:=zTG hm;obtain ⟨lu,eu⟩:=zTG hx;rcases Nat.lt_or_gt_of_ne hne with h2 | h2
  ·have:=hp m u (by simpa using lm) (by simpa using lu) h2;simp only [List.getElem_map,em,eu] at this;exact this b hb e
  ·have:=hp u m (by simpa using lu) (by simpa using lm) h2;simp only [List.getElem_map,em,eu] at this;exact this b e hb
 ·exact List.Pairwise.sublist ((List.eraseIdx_sublist Z u).map Prod.fst) hF.2
 ·have hf:=hF.1 _ (zTF hx);exact ⟨hf.1,fun b hb=>hb⟩
 ·exact (hF.1 _ (zTF hx)).2 b hb
theorem HS.putVr {e:TypeId} {g n cap:Nat} {vs:List Value} (h:HS w0 w Ps) (i:Nat) (hi:Ps[i]? = some (aV e (.slice (some ⟨g,0,none⟩) n cap) vs)) (hn:vs.length=n) (j:Nat) (x:Value) :
  HS w0 (w.setCell ⟨g,j,none⟩ x) (Ps.set i (aV e (.slice (some ⟨g,0,none⟩) n cap) (vs.set j x))):=by
 have hz:=zAM w ⟨g,j,none⟩ x;subst hn;refine h.upd i hi (st_V _ _ _) (h.bl.setCell (h.newV i hi g rfl) _) (by rw [hz]; exact zTI _) fun F hF _=>⟨F,⟨?_,hF.2⟩,fun _ hb=>.inl hb,fun b _ hb=>heap_setCell_other w ⟨g,j,none⟩ b _ (fun e=>hb (by have e:b=g:=e; subst e; exact hF.2 b rfl))⟩;rw [List.length_set];exact (hF.1.stored j x).1
theorem HSx.nilS (h:HSx A w0 w Ps) (n:Nat):HSx A w0 w (Ps++[aRs (List.replicate n (.slice none 0 0,[]))]) :=
 h.add (Below.refl _ w) (zA7 _) (F:=NoB) ⟨fun x hx=>by
  obtain ⟨_,rfl⟩:=List.mem_replicate.1 hx;exact ⟨World.ownsRow_nil w 0 3 1,fun b hb=>by simp [Value.ownBlock] at hb⟩,by
  rw [List.map_replicate];exact List.pairwise_replicate.2 (.inr fun b hb=>by simp [Value.ownBlock] at hb)⟩ (fun b hb=>hb.elim)
end
theorem zQe {A:Nat→Prop} {w0 w w1:World} {Ps:List zAI} (h:HSx A w0 w Ps) (a:Arw) (hw:w1=w.alloc (.cells #[.int .i64 a.1,.int .i64 a.2.1,.int .i64 a.2.2] 39)):HSx A w0 w1 (Ps++[aA (.slice (some ⟨w.heap.size,0,none⟩) 1 1) [a]]):=by
 subst hw;refine h.add ((Below.refl _ w).alloc (zTI _) _) (st_A _ _) (F:=fun b=>b=w.heap.size) ⟨?_,fun b hb=>by simpa [Value.ownBlock] using hb.symm⟩ (fun b hb=>by subst hb; exact ⟨zTI _,by simp⟩);exact World.ownsRow_lit (base:=0) (e:=39) (size:=3) w #[.int .i64 a.1,.int .i64 a.2.1,.int .i64 a.2.2] 1 (Nat.zero_le _) (by unfold maxLen; omega) rfl
theorem zPE {L:List Arw} {k:Nat} {a:Arw} (ha:L[k]? = some a) (q:Nat):nxA (L.take (k+1)) q=nxA (L.take k) q++(if a.1=q then [a.2.1] else []):=by
 unfold nxA;rw [zAP ha,List.filter_append,List.map_append];congr 1;by_cases h:a.1=q
 ·rw [if_pos h]; simp [h]
 ·rw [if_neg h]; simp [h]
def NxOk (L:List Arw) (n k:Nat) (Z:Zl):Prop:=Z.length=n∧∀q,q<n→∃r,Z[q]? = some (r,iN (nxA (L.take k) q))
theorem NxOk.start (L:List Arw) (n:Nat):NxOk L n 0 (List.replicate n (.slice none 0 0,[])):=⟨by simp,fun q hq=>⟨_,by rw [List.getElem?_replicate,if_pos hq]; rfl⟩⟩
theorem NxOk.more {L:List Arw} {n k:Nat} {Z:Zl} (h:NxOk L n k Z) {a:Arw} (ha:L[k]? = some a) (hf:a.1<n) {r:Value}:NxOk L n (k+1) (Z.set a.1 (r,iN (nxA (L.take k) a.1)++[(a.2.1:Int)])):=by
 refine ⟨by rw [List.length_set]; exact h.1,fun q hq=>?_⟩;rw [zPE ha];by_cases e:a.1=q
 ·subst e;rw [List.getElem?_set_self (by rw [h.1]; exact hf),if_pos rfl];exact ⟨r,by simp [iN]⟩
 ·rw [List.getElem?_set_ne e,if_neg e,List.append_nil];exact h.2 q hq
theorem zKo (L:List Arw) (q:Nat):(nxA L q).length≤L.length:=by
 unfold nxA;rw [List.length_map];exact List.length_filter_le _ _
theorem zLg {w w5:World} {G n f g3:Nat} {v5 r0:Value} {Z:Zl} {q q2:List Int} {P:zAI}
  (h:HS w w5 [aV 29 (.slice (some ⟨G,0,none⟩) n n) (Z.map Prod.fst),aRs (Z.eraseIdx f),P,aI v5 q2]) (hZ:Z.length=n) (hx:Z[f]? = some (r0,q)) :
  HS w (w5.setCell ⟨G,f,none⟩ v5) [aV 29 (.slice (some ⟨G,0,none⟩) n n) ((Z.set f (v5,q2)).map Prod.fst),aRs (Z.set f (v5,q2))]:=by
 have h1:=HS.putVr h 0 rfl (by rw [List.length_map]; exact hZ) f v5;have h2:=HSx.moreS h1 1 3 (by decide) rfl rfl (Z':=Z.set f (v5,q2)) (zHw (zTG hx).1);have h3:=h2.pick [0,1] (by decide);have e:(Z.set f (v5,q2)).map Prod.fst=(Z.map Prod.fst).set f v5:=List.map_set;rw [e];exact h3
theorem zNF {S:Nat→Prop} {va:Value} {L:List Arw} {n:Nat} {w:World} (hA:FA S w va L) (hL:∀a∈L,a.1<n∧a.2.1<n) (hn:n≤24) (hn0:0<n) (hm:L.length≤576) :
  Calls Tryz.prog 26 #[.int .i64 n,va] w fun e w'=>∃r,e=.returned r∧∃B:Zb,HS w w' [aV 47 r (B.map Prod.fst),aBr B]∧B.map Prod.snd=(List.range n).map (zA0 (nxA L) n):=by
 have mixed:Tryz.prog.follows .mixedOrders=true:=by kernel_rfl
 obtain ⟨aa,ca,rfl⟩:=F3.form hA;have HA:=zTD (fun (wv:World) (hb:Below w.heap.size w wv)=>F3.below hA hb);have HLT:=zTD hL;obtain ⟨i0,hi0,hz0,hz1,hz2⟩:=info_parts zCN;unfold FA at hA;generalize hml:L.length=m at *;have HML:=zTD hml;clear hA hL hml;go_enter Tryz.func26,Tryz.ntmps26
 go_wp2_with (at_make; (refine wpList_make_full _ rfl _ _ 24 rfl w.heap.size 29 i0 (.slice none 0 0) 1 Tryz.underlying24 hi0 hz0 hz1 _ _ _ _ n rfl rfl rfl rfl ?hb ?hm ?hs ?_))
 case hb=>rw [hz2]; omega
 case hm=>unfold maxLen; omega
 case hs=>exact zTI _
 intro w1 hown hgr;have hs1:=(HSx.madeV (HS.nil (Below.refl _ w)) 29 hown hgr).nilS n;have hs1:HS w w1 [aV 29 (.slice (some ⟨w.heap.size,0,none⟩) n n) ((List.replicate n ((Value.slice none 0 0,[]):Value × List Int)).map Prod.fst),aRs (List.replicate n (.slice none 0 0,[]))]:=by
  rw [List.map_replicate]; exact hs1
 have HX0:=zTD (NxOk.start L n);clear hown hgr hi0 hz0 hz1 hz2;obtain ⟨G,hG⟩:∃G,w.heap.size=G:=⟨_,rfl⟩;rw [hG] at hs1 ⊢;have HG:=zTD hG;clear hG;go_wp2_with fail
 go_loopw [19] (fun kk wr=>∃(k:Nat) (Z:Zl),k≤m∧kk=.int .i64 k∧HS w wr [aV 29 (.slice (some ⟨G,0,none⟩) n n) (Z.map Prod.fst),aRs Z]∧Hid (NxOk L n k Z)) (fun kk _=>m-(intOf kk).toNat)
 case atStart=>exact ⟨0,_,Nat.zero_le _,rfl,hs1,HX0⟩
 case round =>
  clear hs1 HX0;obtain ⟨k,Z,hkm,rfl,hs,HX⟩:=hrel;by_cases hk:k<m
  ·have i1:(k:Int)<(m:Int):=by omega
   have i2:(0:Int)≤(k:Int):=by omega
   obtain ⟨a,ha⟩:∃a,L[k]? = some a:=⟨L[k]'(by rw [HML.out]; exact hk),zTE _⟩;obtain ⟨ha1,ha2⟩:=HLT.out a (zTF ha);obtain ⟨g,eg,_⟩:=F3.head (HA.out wr hs.bl) (by omega);subst eg;obtain ⟨f1,f2,f3⟩:=zDX ha;have hf:=HA.out wr hs.bl;have c1:=F3.cell hf f1;have c2:=F3.cell hf f2;have c3:=F3.cell hf f3;have HAI:=zTD ha;clear f1 f2 f3 hf ha;obtain ⟨f,t,mm⟩:=a;simp only at ha1 ha2 c1 c2 c3;obtain ⟨r,hr⟩:=HX.out.2 f ha1;obtain ⟨w2,hw2⟩:∃w2,w2=wr.alloc (.cells #[.int .i64 f,.int .i64 t,.int .i64 mm] 39):=⟨_,rfl⟩;have hs2:=zQe hs (f,t,mm) hw2;have HW2:=zTD hw2;go_wp2_with fail
   rw [<-HW2.out];clear c1 c2 c3 hw2 hs;generalize wr.heap.size=p at *;have hs2:HS w w2 [aV 29 (.slice (some ⟨G,0,none⟩) n n) (Z.map Prod.fst),aRs Z,aA (.slice (some ⟨p,0,none⟩) 1 1) [(f,t,mm)]]:=hs2;obtain ⟨ar,cr,er⟩:=HS.formI (HSx.lessS hs2 1 rfl hr) 3 rfl;have hll:=zKo (L.take k) f;have hlk:(L.take k).length≤m:=by rw [List.length_take,HML.out]; omega
   have HIL:Hid ((iN (nxA (L.take k) f)).length+1≤67108864):=zTD (by unfold iN; rw [List.length_map]; omega);have HXN:=zTD (fun r'=>HX.out.more HAI.out ha1 (r:=r'));have HZL:=zTD HX.out.1;simp only at HXN;generalize iN (nxA (L.take k) f)=q at *;generalize hql:q.length=ql at *;have HQL:=zTD hql;clear hql;subst er;obtain ⟨hrow,hrowf⟩:=HSx.cellV hs2 0 rfl (j:=f) (r:=.slice ar ql cr) (by rw [List.getElem?_map,hr]; rfl);have hA2:=HS.Ar hs2 2 rfl;have d0:w2.cell? ⟨p,0,none⟩=some (.int .i64 f):=F3.cell hA2 rfl;have d1:w2.cell? ⟨p,1,none⟩=some (.int .i64 t):=F3.cell hA2 rfl;have j1:(f:Int)<(n:Int):=by omega
   have j2:(0:Int)≤(f:Int):=by omega
   have e1:w2.drew.cell? ⟨p,0,none⟩=some (.int .i64 f):=d0;have e2:w2.drew.cell? ⟨p,1,none⟩=some (.int .i64 t):=d1;have e3:w2.drew.cell? ⟨G,f,none⟩=some (.slice ar ql cr):=hrow;have hs3:=HSx.alloc (HSx.lessS (HSx.drew hs2) 1 rfl hr) (.cells #[.int .i64 t] 3);have hc3:(w2.drew.alloc (.cells #[.int .i64 t] 3)).cell? ⟨w2.heap.size,0,none⟩=some (.int .i64 t):=by go_simp
   have g1:(w2.drew.alloc (.cells #[.int .i64 t] 3)).cell? ⟨p,0,none⟩=some (.int .i64 f):=F3.cell (HS.Ar hs3 2 rfl) rfl;have g2:(w2.drew.alloc (.cells #[.int .i64 t] 3)).cell? ⟨p,1,none⟩=some (.int .i64 t):=F3.cell (HS.Ar hs3 2 rfl) rfl;have g3:=(HSx.cellV hs3 0 rfl (j:=f) (r:=.slice ar ql cr) (by rw [List.getElem?_map,hr]; rfl)).1;have g1':(w2.alloc (.cells #[.int .i64 t] 3)).cell? ⟨p,0,none⟩=some (.int .i64 f):=g1;have g2':(w2.alloc (.cells #[.int .i64 t] 3)).cell? ⟨p,1,none⟩=some (.int .i64 t):=g2;have g3':(w2.alloc (.cells #[.int .i64 t] 3)).cell? ⟨G,f,none⟩=some (.slice ar ql cr):=g3;have HQA:Hid ((q++[(t:Int)]).length=ql+1):=zTD (by rw [List.length_append,HQL.out]; rfl);have HHR:=zTD hr;clear hr HX d0 d1 hrow hrowf hA2
   go_region_law (refine zPb (by rfl) _ _ (by rfl) (by rfl) hs3 3 rfl (by rfl) hc3 (by rw [HQL.out]; exact HIL.out) ?_; intro v5 w5 hs5; have q0:w5.cell? ⟨p,0,none⟩=some (.int .i64 f):=F3.cell (HS.Ar hs5 2 rfl) rfl; obtain ⟨q1,q2⟩:=HSx.cellV hs5 0 rfl (j:=f) (r:=.slice ar ql cr) (by rw [List.getElem?_map,HHR.out]; rfl); obtain ⟨a5,c5,e5⟩:=HS.formI hs5 3 rfl; rw [HQA.out] at e5; subst e5)
   all_goals
    have HS6:=zTD (zLg (g3:=0) hs5 HZL.out HHR.out);have HX6:=zTD (HXN.out (.slice a5 (ql+1) c5));clear hs3 hs5 q0 q1 q2 g1 g2 g3 g1' g2' g3' e1 e2 e3 hc3 hs2;go_wp2_with fail
    go_roundw
    case rel=>exact ⟨k+1,_,by omega,by go_num,HS6.out,HX6⟩
    case measure=>simp [intOf]; omega
  ·have i1:¬(k:Int)<(m:Int):=by omega
   have hkm2:k=m:=by omega
   have HXF:=zTD (show ∀q,q<n→∃r,Z[q]? = some (r,iN (nxA L q)) from by
    have h1:=HX.out.2;rw [hkm2,List.take_of_length_le (by rw [HML.out]; exact zTI _)] at h1;exact h1)
   have HZL:=zTD HX.out.1;have HBL:=zTD (fun (i:Nat) (hi:i<n)=>(zDQ (x:=i) (fun q (_:q<n)=>zC7 HLT.out q) hi).1);obtain ⟨w2,hw2⟩:∃w2,w2=wr.alloc (.cells #[] 47):=⟨_,rfl⟩;have hs2:=(zKU hs 47 hw2).noBr;have hs2:HS w w2 [aV 29 (.slice (some ⟨G,0,none⟩) n n) (Z.map Prod.fst),aRs Z,aV 47 (.slice (some ⟨wr.heap.size,0,none⟩) 0 0) (([]:Zb).map Prod.fst),aBr []]:=hs2;have HB0:Hid (([]:Zb).map Prod.snd=(List.range 0).map (zA0 (nxA L) n)):=zTD rfl;have HW2:=zTD hw2;clear hkm2 HX hs hw2;go_wp2_with fail
   rw [<-HW2.out];go_loopw [8,39] (fun oo ii wr=>∃(i:Nat) (vo:Value) (B:Zb),vo=oo∧i≤n∧ii=.int .i64 i∧HS w wr [aV 29 (.slice (some ⟨G,0,none⟩) n n) (Z.map Prod.fst),aRs Z,aV 47 vo (B.map Prod.fst),aBr B]∧Hid (B.map Prod.snd=(List.range i).map (zA0 (nxA L) n))) (fun _ ii _=>n-(intOf ii).toNat)
   case atStart=>exact ⟨0,_,[],rfl,Nat.zero_le _,rfl,hs2,HB0⟩
   case round =>
    clear hs2 HB0;obtain ⟨x,vo,B,rfl,hxn,rfl,hs,HB⟩:=hrel;by_cases hx:x<n
    ·have i1:(x:Int)<(n:Int):=by omega
     have i2:(0:Int)≤(x:Int):=by omega
     have HBN:Hid (∀r,(B++[(r,zA0 (nxA L) n x)]).map Prod.snd=(List.range (x+1)).map (zA0 (nxA L) n)):=zTD (fun r=>by rw [List.map_append,HB.out,List.range_succ,List.map_append]; rfl);have HLB:Hid ((B.map Prod.fst).length+1≤67108864):=zTD (by have:=congrArg List.length HB.out; simp at this; simp; omega);have HOUT:Hid (zA0 (nxA L) n x=(zAv (nxA L) (n+1) 0 (br0 n x)).1):=zTD rfl;have HQL:=zTD (HBL.out x hx);have HOK0:Hid (zAv (nxA L) (n+1-0) 0 (br0 n x)=zAv (nxA L) (n+1) 0 (br0 n x)∧BrOk n (br0 n x)):=zTD ⟨rfl,zLJ hx⟩;have HB0:Hid (br0 n x=((List.replicate n false).set x true,[x])):=zTD rfl;obtain ⟨i0,hi0,hz0,hz1,hz2⟩:=info_parts zDY;obtain ⟨w3,hw3⟩:∃w3,w3=wr:=⟨_,rfl⟩;subst hw3
     go_wp2_with (at_make; (refine wpList_make_full _ rfl _ _ 47 rfl w3.heap.size 4 i0 (.bool false) 1 Tryz.underlying47 hi0 hz0 hz1 _ _ _ _ n rfl rfl rfl rfl ?hb ?hm ?hs ?_))
     case hb=>rw [hz2]; omega
     case hm=>unfold maxLen; omega
     case hs=>exact zTI _
     intro w4 hown hgr;have hs4:=HSx.madeB hs hown hgr;have hs4:HS w w4 [aV 29 (.slice (some ⟨G,0,none⟩) n n) (Z.map Prod.fst),aRs Z,aV 47 vo (B.map Prod.fst),aBr B,aB (.slice (some ⟨w3.heap.size,0,none⟩) n n) (List.replicate n false)]:=hs4;obtain ⟨d1,d2⟩:=HS.cellB hs4 4 rfl (by simp) (j:=x) (x:=false) (by rw [List.getElem?_replicate,if_pos hx]);have hs5:=HS.putB hs4 4 rfl (by simp) x true;clear hown hgr hi0 hz0 hz1 hz2 hs4 hs;generalize w3.heap.size=g4 at *;obtain ⟨w6,hw6⟩:∃w6,w6=(w4.setCell ⟨g4,x,none⟩ (.bool true)).alloc (.cells #[.int .i64 x] 3):=⟨_,rfl⟩;have hs6:=zKT hs5 (x:Int) hw6;have hsz:(w4.setCell ⟨g4,x,none⟩ (.bool true)).heap.size=w4.heap.size:=zAM _ _ _;rw [hsz] at hs6
     have hs6:HS w w6 [aV 29 (.slice (some ⟨G,0,none⟩) n n) (Z.map Prod.fst),aRs Z,aV 47 vo (B.map Prod.fst),aBr B,aB (.slice (some ⟨g4,0,none⟩) n n) (br0 n x).1,aI (.slice (some ⟨w4.heap.size,0,none⟩) 1 1) ((br0 n x).2.map fun (j:Nat)=>(j:Int))]:=by rw [HB0.out]; exact hs6
     have HW6:=zTD hw6;clear hs5 hw6 hsz HB0;go_wp2_with fail
     rw [<-HW6.out];clear d1 d2;go_loopw [11,12] (fun qq kk wr=>∃(k:Nat) (vq:Value) (st:Bq),vq=qq∧k≤st.2.length∧k≤n∧kk=.int .i64 k∧HS w wr [aV 29 (.slice (some ⟨G,0,none⟩) n n) (Z.map Prod.fst),aRs Z,aV 47 vo (B.map Prod.fst),aBr B,aB (.slice (some ⟨g4,0,none⟩) n n) st.1,aI vq (st.2.map fun (j:Nat)=>(j:Int))]∧Hid (zAv (nxA L) (n+1-k) k st=zAv (nxA L) (n+1) 0 (br0 n x)∧BrOk n st)) (fun _ kk _=>n-(intOf kk).toNat)
     case atStart=>exact ⟨0,_,_,rfl,Nat.zero_le _,Nat.zero_le _,rfl,hs6,HOK0⟩
     case round =>
      clear hs6 HOK0;obtain ⟨k,vq,st,rfl,hks,hkn,rfl,hs,HOK⟩:=hrel;obtain ⟨aq,cq,rfl⟩:=HS.formI hs 5 rfl;rw [List.length_map] at hs ⊢;have hfew:=HOK.out.2.few;by_cases hk:k<st.2.length
      ·have j1:(k:Int)<(st.2.length:Int):=by omega
       have j0:(0:Int)≤(k:Int):=by omega
       obtain ⟨q,hq⟩:∃q,st.2[k]? = some q:=⟨_,zTE hk⟩;have hqn:=HOK.out.2.lt (zTF hq);have HNEXT:Hid (zAv (nxA L) (n+1-(k+1)) (k+1) ((nxA L q).foldl zAW st)=zAv (nxA L) (n+1) 0 (br0 n x)):=zTD (by
        have h1:=HOK.out.1;rw [show n+1-k=(n+1-(k+1))+1 by omega] at h1;unfold zAv at h1;rw [hq] at h1;exact h1)
       have HR0:Hid (RcOk n k q (((nxA L q).take 0).foldl zAW st)):=zTD ⟨HOK.out.2,hq⟩;obtain ⟨bq,cqq,eq1,_,_⟩:=HS.headI hs 5 rfl (by rw [List.length_map]; omega);simp only [Value.slice.injEq] at eq1;obtain ⟨eq2,eq3,eq4⟩:=eq1;subst eq2 eq4;clear eq3;obtain ⟨c1,_⟩:=HS.cellI hs 5 rfl (by rw [List.length_map]) (j:=k) (x:=(q:Int)) (zIU hq);obtain ⟨r,hr⟩:=HXF.out q hqn;obtain ⟨ar,cr,er⟩:=RL.form (HSx.rowS hs 1 rfl (zTF hr));have er:r=.slice ar (iN (nxA L q)).length cr:=er;have hrow:=(HSx.cellV hs 0 rfl (j:=q) (r:=r) (by rw [List.getElem?_map,hr]; rfl)).1;subst er;have HHR:=zTD hr
       have hs:HS w wr [aV 29 (.slice (some ⟨G,0,none⟩) n n) (Z.map Prod.fst),aRs Z,aV 47 vo (B.map Prod.fst),aBr B,aB (.slice (some ⟨g4,0,none⟩) n n) (((nxA L q).take 0).foldl zAW st).1,aI (.slice (some ⟨bq,0,none⟩) st.2.length cq) ((((nxA L q).take 0).foldl zAW st).2.map fun (j:Nat)=>(j:Int))]:=hs;have HNL:=zTD (zC7 HLT.out q);have hkn2:k<n:=by omega
       have j2:(q:Int)<(n:Int):=by omega
       have j3:(0:Int)≤(q:Int):=by omega
       have hil:(iN (nxA L q)).length=(nxA L q).length:=by unfold iN; rw [List.length_map]
       have HRE:=zTD (fun (wv:World) (P1 P2:zAI) (h:HS w wv [aV 29 (.slice (some ⟨G,0,none⟩) n n) (Z.map Prod.fst),aRs Z,aV 47 vo (B.map Prod.fst),aBr B,P1,P2])=>RI.any (HSx.rowS h 1 rfl (zTF HHR.out)));rw [hil] at hrow HRE;have HINE:Hid (∀(s j:Nat),(nxA L q)[s]? = some j→(iN (nxA L q))[s]? = some (j:Int)):=zTD (fun s j h=>zIU h);have hTm:=zKo L q;rw [HML.out] at hTm;clear HOK hq hr hil;generalize nxA L q=T at *;generalize iN T=TI at *;obtain ⟨tl,htl⟩:∃tl,T.length=tl:=⟨_,rfl⟩;rw [htl] at hrow HRE hTm;have HTL:=zTD htl;have HFIN:Hid ((T.take tl).foldl zAW st=T.foldl zAW st):=zTD (by rw [List.take_of_length_le (by omega)]);have HST:=zTD (fun (s j:Nat) (h:T[s]? = some j)=>(show (T.take (s+1)).foldl zAW st=zAW ((T.take s).foldl zAW st) j by rw [zAP h,List.foldl_append]; rfl));generalize hsl:st.2.length=sl at *
       clear hsl htl;go_wp2_with fail
       clear c1 hrow;go_loopw [11,63] (fun qq ss wr=>∃(s:Nat) (vq:Value),vq=qq∧s≤tl∧ss=.int .i64 s∧HS w wr [aV 29 (.slice (some ⟨G,0,none⟩) n n) (Z.map Prod.fst),aRs Z,aV 47 vo (B.map Prod.fst),aBr B,aB (.slice (some ⟨g4,0,none⟩) n n) ((T.take s).foldl zAW st).1,aI vq (((T.take s).foldl zAW st).2.map fun (j:Nat)=>(j:Int))]∧Hid (RcOk n k q ((T.take s).foldl zAW st))) (fun _ ss _=>tl-(intOf ss).toNat)
       case atStart=>exact ⟨0,_,rfl,Nat.zero_le _,rfl,hs,HR0⟩
       case round =>
        clear hs HR0;obtain ⟨s,vq,rfl,hstl,rfl,hs,HR⟩:=hrel;by_cases hsT:s<tl
        ·have k1:(s:Int)<(tl:Int):=by omega
         have k2:(0:Int)≤(s:Int):=by omega
         obtain ⟨j,hj⟩:∃j,T[s]? = some j:=⟨T[s]'(by rw [HTL.out]; exact hsT),zTE _⟩;have hjn:=HNL.out j (zTF hj);have HS1:=zTD (HST.out s j hj);obtain ⟨b3,o3,xx,e3,c2,hxx⟩:=RI.at (HRE.out wr _ _ hs) hsT;have exx:xx=(j:Int):=by have h1:=hxx.out; rw [HINE.out s j hj] at h1; simpa using h1.symm
         subst exx;subst e3;have HR2:Hid (RcOk n k q (zAW ((T.take s).foldl zAW st) j)):=zTD (by
          obtain ⟨h1,_,T1,h2⟩:=zEn HR.out.ok hjn;refine ⟨h1,?_⟩;rw [h2,List.getElem?_append_left (zTG HR.out.pos).1];exact HR.out.pos)
         have k5:(j:Int)<(n:Int):=by omega
         have k6:(0:Int)≤(j:Int):=by omega
         generalize hst2:(T.take (s+1)).foldl zAW st=st2 at *;have HST2:=zTD hst2;clear hst2 hj hxx;rw [<-HS1.out] at HR2;generalize (T.take s).foldl zAW st=st1 at *;have hlen1:=HR.out.ok.few;obtain ⟨sb,hsb⟩:∃sb,st1.1[j]? = some sb:=⟨_,zTE (by rw [HR.out.ok.len]; exact hjn)⟩;have hl1:=HR.out.ok.len;obtain ⟨c4,z4⟩:=HS.cellB hs 4 rfl hl1 hsb;have HSB:=zTD hsb;have HL1:=zTD hl1;have HLN:Hid ((st1.2.map fun (j:Nat)=>(j:Int)).length+1≤67108864):=zTD (by rw [List.length_map]; omega);clear hsb hl1 hlen1 HST;cases sb with
         | true =>
          have HE:Hid (st2=st1):=zTD (by rw [HS1.out]; unfold zAW; rw [if_neg (by rw [HSB.out]; simp)]);go_wp2_with fail
          go_roundw
          case rel=>exact ⟨s+1,_,rfl,by omega,by go_num,by rw [HST2.out,HE.out]; exact hs,by rw [HST2.out]; exact HR2⟩
          case measure=>simp [intOf]; omega
         | false =>
          have HE:Hid (st2=(st1.1.set j true,st1.2++[j])):=zTD (by rw [HS1.out]; unfold zAW; rw [if_pos HSB.out]);have hs7:=HS.putB hs 4 rfl HL1.out j true;have hs7:HS w (wr.setCell ⟨g4,j,none⟩ (.bool true)) [aV 29 (.slice (some ⟨G,0,none⟩) n n) (Z.map Prod.fst),aRs Z,aV 47 vo (B.map Prod.fst),aBr B,aB (.slice (some ⟨g4,0,none⟩) n n) (st1.1.set j true),aI vq (st1.2.map fun (j:Nat)=>(j:Int))]:=hs7;obtain ⟨w8,hw8⟩:∃w8,w8=(wr.setCell ⟨g4,j,none⟩ (.bool true)).alloc (.cells #[.int .i64 j] 3):=⟨_,rfl⟩;have hs8:=HSx.alloc hs7 (.cells #[.int .i64 j] 3);rw [<-hw8] at hs8;have hsz:(wr.setCell ⟨g4,j,none⟩ (.bool true)).heap.size=wr.heap.size:=zAM _ _ _;have hc8:w8.cell? ⟨wr.heap.size,0,none⟩=some (.int .i64 j):=by rw [hw8,<-hsz]; go_simp
          have HW8:=zTD hw8;have HE2:Hid (st2.2.map (fun (j:Nat)=>(j:Int))=(st1.2.map fun (j:Nat)=>(j:Int))++[(j:Int)]∧st2.1=st1.1.set j true):=zTD (by rw [HE.out]; exact ⟨by simp,rfl⟩);clear hs hw8 hs7 hsz;go_wp2_with (at_builtin; go_must (rw [<-HW8.out]; refine zAd rfl _ _ rfl rfl hs8 5 rfl rfl hc8 HLN.out ?_))
          intro v9 w9 hs9;have hs9:HS w w9 [aV 29 (.slice (some ⟨G,0,none⟩) n n) (Z.map Prod.fst),aRs Z,aV 47 vo (B.map Prod.fst),aBr B,aB (.slice (some ⟨g4,0,none⟩) n n) st2.1,aI v9 (st2.2.map fun (j:Nat)=>(j:Int))]:=by rw [HE2.out.1,HE2.out.2]; exact hs9
          clear hs8 hc8 c2 c4 z4;go_wp2_with fail
          go_roundw
          case rel=>exact ⟨s+1,v9,rfl,by omega,by go_num,by rw [HST2.out]; exact hs9,by rw [HST2.out]; exact HR2⟩
          case measure=>simp [intOf]; omega
        ·have k1:¬(s:Int)<(tl:Int):=by omega
         have hs2:s=tl:=by omega
         rw [hs2,HFIN.out] at hs HR;have HOKN:Hid (zAv (nxA L) (n+1-(k+1)) (k+1) (T.foldl zAW st)=zAv (nxA L) (n+1) 0 (br0 n x)∧BrOk n (T.foldl zAW st)):=zTD ⟨HNEXT.out,HR.out.ok⟩;have hkl:=(zTG HR.out.pos).1;clear hs2 HR HNEXT HFIN HST;go_wp2_with fail
         go_roundw
         case rel=>exact ⟨k+1,vq,_,rfl,by omega,by omega,by go_num,hs,HOKN⟩
         case measure=>simp [intOf]; omega
      ·have j1:¬(k:Int)<(st.2.length:Int):=by omega
       have HE:Hid (st=zAv (nxA L) (n+1) 0 (br0 n x)):=zTD (by
        have h1:=HOK.out.1;rw [show n+1-k=(n-k)+1 by omega] at h1;unfold zAv at h1;rw [List.getElem?_eq_none (by omega)] at h1;exact h1)
       rw [HE.out,<-HOUT.out] at hs;generalize zA0 (nxA L) n x=qq at *;obtain ⟨w7,hw7⟩:∃w7,w7=wr.alloc (.cells #[.slice (some ⟨g4,0,none⟩) n n] 47):=⟨_,rfl⟩;have hs7:=HSx.alloc hs (.cells #[.slice (some ⟨g4,0,none⟩) n n] 47);rw [<-hw7] at hs7;have hc7:w7.cell? ⟨wr.heap.size,0,none⟩=some (.slice (some ⟨g4,0,none⟩) n n):=by rw [hw7]; go_simp
       have HW7:=zTD hw7;have HNV:=zTD (HS.newV hs7 2 rfl);clear hs hw7;go_wp2_with (at_builtin; go_must (rw [<-HW7.out]; refine zCg rfl _ _ Tryz.underlying45 zHb rfl (by decide) rfl rfl hs7 2 rfl HNV.out rfl hc7 rfl HLB.out ?_))
       intro v8 w8 hs8 _;have hs9:=(HSx.moreBr hs8 3 4 (by decide) rfl rfl).pick [0,1,2,3] (by decide);have hs9:HS w w8 [aV 29 (.slice (some ⟨G,0,none⟩) n n) (Z.map Prod.fst),aRs Z,aV 47 v8 ((B++[(Value.slice (some ⟨g4,0,none⟩) n n,qq)]).map Prod.fst),aBr (B++[(Value.slice (some ⟨g4,0,none⟩) n n,qq)])]:=by rw [List.map_append]; exact hs9
       clear hs7 hc7 hs8;go_wp2_with fail
       go_roundw
       case rel=>exact ⟨x+1,v8,_,rfl,by omega,by go_num,hs9,zTD (HBN.out _)⟩
       case measure=>simp [intOf]; omega
    ·have i1:¬(x:Int)<(n:Int):=by omega
     have hxn2:x=n:=by omega
     rw [hxn2] at HB;have hs9:HS w wr [aV 47 vo (B.map Prod.fst),aBr B]:=hs.pick [2,3] (by decide);clear hxn2 hs;go_wp2_with fail
     go_ret
     exact ⟨_,rfl,B,hs9,HB.out⟩
end Go.Proofs.YtlgcdacpjcnjgaaGreatDoor
namespace Go.Proofs.YtlgcdacpjcnjgaaGreatDoor
open Go.RowKit
set_option maxRecDepth 20000
set_option maxHeartbeats 8000000
theorem HSx.addAll {A:Nat→Prop} {w0 w w':World} {Ps Qs:List zAI} (h:HSx A w0 w Ps) (k:HS w w' Qs):HSx A w0 w' (Ps++Qs):=by
 obtain ⟨kb,Gs,k1,k2⟩:=k;obtain ⟨h0,Fs,h1,h2⟩:=h;refine ⟨zAC.step h0 kb,fun m b=>if m<Ps.length then Fs m b else Gs (m-Ps.length) b,fun m R hm=>?_,fun m j b hm hj hmj=>?_⟩
 ·by_cases e1:m<Ps.length
  ·rw [List.getElem?_append_left e1] at hm;obtain ⟨s,p,n⟩:=h1 m R hm;simp only [if_pos e1];exact ⟨s,s _ _ _ p (fun b _ hl=>kb.block b hl),fun b hb=>⟨(n b hb).1,Nat.lt_of_lt_of_le (n b hb).2 kb.size⟩⟩
  ·rw [List.getElem?_append_right (by omega)] at hm;obtain ⟨s,p,n⟩:=k1 _ R hm;simp only [if_neg e1];refine ⟨s,p,fun b hb=>⟨.inr ?_,(n b hb).2⟩⟩;rcases (n b hb).1 with e | e
   ·exact e.elim
   ·exact Nat.le_trans h0.size e
 ·have off:∀m j b,m<Ps.length→j<Qs.length→Fs m b→¬Gs j b:=fun m j b lm lj hf hg=>by
   have hx:Ps[m]? = some Ps[m]:=zTE lm;have hy:Qs[j]? = some Qs[j]:=zTE lj;have q1:=((h1 m _ hx).2.2 b hf).2;rcases ((k1 j _ hy).2.2 b hg).1 with e | e
   ·exact e
   ·omega
  simp only [List.length_append] at hm hj;by_cases e1:m<Ps.length
  ·simp only [if_pos e1];by_cases e2:j<Ps.length
   ·simp only [if_pos e2]; exact h2 m j b e1 e2 hmj
   ·simp only [if_neg e2]; exact off m _ b e1 (by omega)
  ·simp only [if_neg e1];by_cases e2:j<Ps.length
   ·simp only [if_pos e2]; exact fun hg hf=>off j _ b e2 (by omega) hf hg
   ·simp only [if_neg e2]; exact k2 _ _ b (by omega) (by omega) (by omega)
theorem zHg:∀(l:List Nat) (s:List Bool) (j:Nat),zBJ (l++[j]) s=(zBJ l s).set j true
 | [],_,_=>rfl
 | i::l,s,j=>zHg l (s.set i true) j
theorem zMH (m:Nat→Nat→Bool) (i k:Nat):((List.range (k+1)).filter (m i))=(List.range k).filter (m i)++(if m i k=true then [k] else []):=zGE m 0 i k
theorem zMh {S:Nat→Prop} {x:Value} {c:List (List Int)} {w:World} (h:RII S w x c) (hl:total c≤16777216) (hm:HasM w) :
  Calls Tryz.prog 6 #[x] w fun e w'=>∃r,e=.returned (.tuple #[r,.bool (okK c)])∧FII (New w w') w' r (lcR c)∧Below w.heap.size w w':=by
 have mixed:Tryz.prog.follows .mixedOrders=true:=by kernel_rfl
 have hwg:=zNl h hl hm;have HSZ:=zTD (fun (wv:World) (hb:Below w.heap.size w wv)=>zF4 (h.below hb) (hm.below hb) hl);obtain ⟨aa,ca,rfl⟩:=h.form;clear h hm;cases hk:okK c with
 | false =>
  have HR:Hid (lcR c=[]):=zTD (by unfold lcR; rw [hk]; rfl);rw [hk] at hwg;clear hk HSZ;go_enter Tryz.func6,Tryz.ntmps6
  go_wp2_with fail
  refine hwg.mono ?_;rintro e w2 ⟨p,rfl,_,b2⟩;obtain ⟨w3,hw3⟩:∃w3,w3=w2.alloc (.cells #[] 29):=⟨_,rfl⟩;have hs2:=(zAj (HS.nil b2) hw3).add (Below.refl _ _) (zA7 []) (F:=NoB) ⟨fun x hx=>by simp at hx,List.Pairwise.nil⟩ (fun b hb=>hb.elim);have hs2:HS w w3 [aV 29 (.slice (some ⟨w2.heap.size,0,none⟩) 0 0) (([]:Zl).map Prod.fst),aRs []]:=hs2;have hs7:HS w w3 [aF (.slice (some ⟨w2.heap.size,0,none⟩) 0 0) (([]:Zl).map Prod.snd)]:=((HSx.shutF hs2 (Z:=[]) (v:=.slice (some ⟨w2.heap.size,0,none⟩) 0 0) 0 1 (by decide) rfl rfl).pick [0] (by decide));have hfa:=HS.F hs7 0 rfl;have hbl:=hs7.bl;subst hw3;clear hwg hs2 hs7;go_wp2_with fail
  go_ret2
  exact ⟨_,rfl,by rw [HR.out]; exact hfa,hbl⟩
 | true =>
  have HR:Hid (lcR c=(celS (mutC c) (elL c).length (elL c).length).map iN):=zTD (by unfold lcR; rw [if_pos hk]);have HTO:=zTD (zGr hk);have HWL:=zTD (zHE c);have hN24:=(KlOk.of hk).few;have hN0:=(KlOk.of hk).pos;rw [zKc hk] at HSZ;rw [hk] at hwg;unfold mutC at HR;generalize lcR c=res at *;generalize wgR c=L at *;generalize (elL c).length=N at *;have HEQ:Hid (EqvB N (mutB (nxA L) N)):=zTD (zEK (fun q _=>zC7 HTO.out q));have HBL:=zTD (fun (i:Nat) (hi:i<N)=>(zDQ (x:=i) (fun q (_:q<N)=>zC7 HTO.out q) hi).1);have HCS:=zTD (fun (i:Nat) (hi:i≤N)=>zIa HEQ.out i hi);have HSL:=zTD (fun i=>zCi (mutB (nxA L) N) N i);clear hk;go_enter Tryz.func6,Tryz.ntmps6
  go_wp2_with fail
  refine hwg.mono ?_;rintro e w2 ⟨va,rfl,fa,b2⟩;have hs2:=HSx.add (HS.nil (Below.refl _ w)) b2 (st_A va L) fa (fun _ h=>h);have hs2:HS w w2 [aA va L]:=hs2;have hsz:=HSZ.out w2 hs2.bl;clear hwg fa b2 HSZ;go_wp2_with fail
  refine hsz.mono ?_;rintro e w3 ⟨rfl,b3⟩;have hs3:=HSx.below hs2 b3;have hrc:=zNF (HS.Ar hs3 0 rfl) HTO.out hN24 hN0 HWL.out;clear hsz hs2 b3;go_wp2_with fail
  refine hrc.mono ?_;rintro e w4 ⟨r4,rfl,B,hsB,hB⟩;have hs4:=(HSx.addAll hs3 hsB).pick [1,2] (by decide);have hs4:HS w w4 [aV 47 r4 (B.map Prod.fst),aBr B]:=hs4;have hBl:B.length=N:=by have:=congrArg List.length hB; simpa using this
  have HBA:=zTD (fun (u:Nat) (hu:u<N)=>(show ∃r,B[u]? = some (r,zA0 (nxA L) N u) from by
   obtain ⟨⟨r,l⟩,hx⟩:∃y,B[u]? = some y:=⟨B[u]'(by rw [hBl]; exact hu),zTE _⟩;have h1:=congrArg (fun l=>l[u]?) hB;simp only [List.getElem?_map,hx,List.getElem?_range hu,Option.map_some,Option.some.injEq] at h1;exact ⟨r,by rw [hx]; exact congrArg (fun z=>some (r,z)) h1⟩))
  have HBL2:=zTD hBl;obtain ⟨i0,hi0,hz0,hz1,hz2⟩:=info_parts zDY;clear hrc hs3 hsB hB hBl;go_wp2_with (at_make; (refine wpList_make_full _ rfl _ _ 47 rfl w4.heap.size 4 i0 (.bool false) 1 Tryz.underlying47 hi0 hz0 hz1 _ _ _ _ N rfl rfl rfl rfl ?hb ?hm ?hs ?_))
  case hb=>rw [hz2]; omega
  case hm=>unfold maxLen; omega
  case hs=>exact zTI _
  intro w5 hown hgr;have hs5:=HSx.madeB hs4 hown hgr;clear hown hgr hi0 hz0 hz1 hz2 hs4;generalize w4.heap.size=g5 at *;have hs5:HS w w5 [aV 47 r4 (B.map Prod.fst),aBr B,aB (.slice (some ⟨g5,0,none⟩) N N) (celI (mutB (nxA L) N) N 0).1]:=hs5;obtain ⟨w6,hw6⟩:∃w6,w6=w5.alloc (.cells #[] 29):=⟨_,rfl⟩;have hs6:=(zAj hs5 hw6).add (Below.refl _ _) (zA7 []) (F:=NoB) ⟨fun x hx=>by simp at hx,List.Pairwise.nil⟩ (fun b hb=>hb.elim);have hs6:HS w w6 [aV 47 r4 (B.map Prod.fst),aBr B,aB (.slice (some ⟨g5,0,none⟩) N N) (celI (mutB (nxA L) N) N 0).1,aV 29 (.slice (some ⟨w5.heap.size,0,none⟩) 0 0) (([]:Zl).map Prod.fst),aRs []]:=hs6;have HZ0:Hid (([]:Zl).map Prod.snd=(celI (mutB (nxA L) N) N 0).2.map iN):=zTD rfl;have HW6:=zTD hw6;clear hw6 hs5;go_wp2_with fail
  rw [<-HW6.out];go_loopw [9,30] (fun oo ii wr=>∃(i:Nat) (vo:Value) (Z:Zl),vo=oo∧i≤N∧ii=.int .i64 i∧HS w wr [aV 47 r4 (B.map Prod.fst),aBr B,aB (.slice (some ⟨g5,0,none⟩) N N) (celI (mutB (nxA L) N) N i).1,aV 29 vo (Z.map Prod.fst),aRs Z]∧Hid (Z.map Prod.snd=(celI (mutB (nxA L) N) N i).2.map iN)) (fun _ ii _=>N-(intOf ii).toNat)
  case atStart=>exact ⟨0,_,[],rfl,Nat.zero_le _,rfl,hs6,HZ0⟩
  case round =>
   clear hs6 HZ0;obtain ⟨i,vo,Z,rfl,hiN,rfl,hs,HZ⟩:=hrel;by_cases hi:i<N
   ·have i1:(i:Int)<(N:Int):=by omega
    have i0:(0:Int)≤(i:Int):=by omega
    have HCN:Hid (celI (mutB (nxA L) N) N (i+1)=if ((celI (mutB (nxA L) N) N i).1[i]?).getD false then celI (mutB (nxA L) N) N i else (zBJ (zAX (mutB (nxA L) N) N i) (celI (mutB (nxA L) N) N i).1,(celI (mutB (nxA L) N) N i).2++[zAX (mutB (nxA L) N) N i])):=zTD rfl;obtain ⟨q1,q2,_⟩:=HCS.out i (by omega);have hll:=HSL.out i;rw [<-q1] at hll;have HCF:Hid ((List.range N).filter (mutB (nxA L) N i)=zAX (mutB (nxA L) N) N i):=zTD rfl;have HM0:Hid (zBJ ((List.range 0).filter (mutB (nxA L) N i)) (celI (mutB (nxA L) N) N i).1=(celI (mutB (nxA L) N) N i).1):=zTD rfl;have HCL:=zTD (zBy (mutB (nxA L) N) N i);clear q1;generalize hci1:celI (mutB (nxA L) N) N (i+1)=s1 at *;have HCI1:=zTD hci1;clear hci1;generalize celI (mutB (nxA L) N) N i=s0 at *;obtain ⟨sb,hsb⟩:∃sb,s0.1[i]? = some sb:=⟨_,zTE (by rw [q2]; exact hi)⟩
    obtain ⟨c4,_⟩:=HS.cellB hs 2 rfl q2 hsb;have HQ2:=zTD q2;have HSB:=zTD hsb;clear q2 hsb;cases sb with
    | true =>
     have HE:Hid (s1=s0):=zTD (by rw [HCN.out,HSB.out]; rfl);clear HCN;go_wp2_with fail
     go_roundw
     case rel=>exact ⟨i+1,vo,Z,rfl,by omega,by go_num,by rw [HCI1.out,HE.out]; exact hs,by rw [HCI1.out,HE.out]; exact HZ⟩
     case measure=>simp [intOf]; omega
    | false =>
     have HE:Hid (s1=(zBJ (zAX (mutB (nxA L) N) N i) s0.1,s0.2++[zAX (mutB (nxA L) N) N i])):=zTD (by rw [HCN.out,HSB.out]; rfl);have HLZ:Hid ((Z.map Prod.fst).length+1≤67108864):=zTD (by have h1:=congrArg List.length HZ.out; simp only [List.length_map] at h1; rw [List.length_map]; omega);obtain ⟨w7,hw7⟩:∃w7,w7=wr.alloc (.cells #[] 3):=⟨_,rfl⟩;have hs7:=zBe hs hw7;have hs7:HS w w7 [aV 47 r4 (B.map Prod.fst),aBr B,aB (.slice (some ⟨g5,0,none⟩) N N) (zBJ ((List.range 0).filter (mutB (nxA L) N i)) s0.1),aV 29 vo (Z.map Prod.fst),aRs Z,aI (.slice (some ⟨wr.heap.size,0,none⟩) 0 0) (iN ((List.range 0).filter (mutB (nxA L) N i)))]:=hs7;have HW7:=zTD hw7;clear hw7 hs HCN;go_wp2_with fail
     rw [<-HW7.out];clear c4;have HNX:=zTD (fun (k:Nat)=>zMH (mutB (nxA L) N) i k);go_loopw [11,39] (fun oo kk wr=>∃(k:Nat) (v2:Value),v2=oo∧k≤N∧kk=.int .i64 k∧HS w wr [aV 47 r4 (B.map Prod.fst),aBr B,aB (.slice (some ⟨g5,0,none⟩) N N) (zBJ ((List.range k).filter (mutB (nxA L) N i)) s0.1),aV 29 vo (Z.map Prod.fst),aRs Z,aI v2 (iN ((List.range k).filter (mutB (nxA L) N i)))]) (fun _ kk _=>N-(intOf kk).toNat)
     case atStart=>exact ⟨0,_,rfl,Nat.zero_le _,rfl,hs7⟩
     case round =>
      clear hs7;obtain ⟨k,v2,rfl,hkN,rfl,hs⟩:=hrel;by_cases hk:k<N
      ·have j1:(k:Int)<(N:Int):=by omega
       have j0:(0:Int)≤(k:Int):=by omega
       obtain ⟨ri,hri⟩:=HBA.out i hi;obtain ⟨rk,hrk⟩:=HBA.out k hk;obtain ⟨b1,hb1⟩:∃b,(zA0 (nxA L) N i)[k]? = some b:=⟨_,zTE (by rw [HBL.out i hi]; exact hk)⟩;obtain ⟨b2,hb2⟩:∃b,(zA0 (nxA L) N k)[i]? = some b:=⟨_,zTE (by rw [HBL.out k hk]; exact hi)⟩;obtain ⟨g1,c1,g2,c2,e1,k1,k2⟩:=HSx.cellBr hs 0 1 rfl rfl HBL2.out hri (HBL.out i hi) hb1;obtain ⟨g3,c3,g4,c4,e2,k3,k4⟩:=HSx.cellBr hs 0 1 rfl rfl HBL2.out hrk (HBL.out k hk) hb2;rw [e1] at e2;simp only [Value.slice.injEq,Option.some.injEq,Addr.mk.injEq,and_true,true_and] at e2;obtain ⟨e3,e4⟩:=e2;subst e3 e4 e1;have hmu:=zMs hb1 hb2;have HN2:=zTD (HNX.out k);rw [hmu] at HN2;have hfl:((List.range k).filter (mutB (nxA L) N i)).length≤k:=by
        have:=List.length_filter_le (mutB (nxA L) N i) (List.range k);rwa [List.length_range] at this
       have HLL:Hid ((iN ((List.range k).filter (mutB (nxA L) N i))).length+1≤67108864):=zTD (by unfold iN; rw [List.length_map]; omega);have HMA:Hid (∀l,iN (l++[k])=iN l++[(k:Int)]):=zTD (fun l=>by simp [iN]);clear hri hrk hb1 hb2 hmu hfl;generalize (List.range k).filter (mutB (nxA L) N i)=fl at *;generalize hfn:(List.range (k+1)).filter (mutB (nxA L) N i)=fn at *;have HFN:=zTD hfn;clear hfn;by_cases hb:(b1 && b2)=true
       ·rw [Bool.and_eq_true] at hb;obtain ⟨rfl,rfl⟩:=hb;have HN3:Hid (fn=fl++[k]):=zTD HN2.out;have HMK:Hid (zBJ fn s0.1=(zBJ fl s0.1).set k true):=zTD (by rw [HN3.out,zHg]);have hml:(zBJ fl s0.1).length=N:=by rw [zEz]; exact HQ2.out
        obtain ⟨sk,hsk⟩:∃sk,(zBJ fl s0.1)[k]? = some sk:=⟨_,zTE (by rw [hml]; exact hk)⟩;obtain ⟨d1,d2⟩:=HS.cellB hs 2 rfl hml hsk;have hs8:=HS.putB hs 2 rfl hml k true;obtain ⟨w8,hw8⟩:∃w8,w8=(wr.setCell ⟨g5,k,none⟩ (.bool true)).alloc (.cells #[.int .i64 k] 3):=⟨_,rfl⟩;have hs9:=HSx.alloc hs8 (.cells #[.int .i64 k] 3);rw [<-hw8] at hs9;have hsz:(wr.setCell ⟨g5,k,none⟩ (.bool true)).heap.size=wr.heap.size:=zAM _ _ _;have hc8:w8.cell? ⟨wr.heap.size,0,none⟩=some (.int .i64 k):=by rw [hw8,<-hsz]; go_simp
        have HW8:=zTD hw8;clear hs hw8 hsz hs8 hml hsk;go_wp2_with (at_builtin; go_must (rw [<-HW8.out]; refine zAd rfl _ _ rfl rfl hs9 5 rfl rfl hc8 HLL.out ?_))
        intro v7 w7 hs7;have hs7:HS w w7 [aV 47 (.slice (some ⟨g1,0,none⟩) N c1) (B.map Prod.fst),aBr B,aB (.slice (some ⟨g5,0,none⟩) N N) (zBJ ((List.range (k+1)).filter (mutB (nxA L) N i)) s0.1),aV 29 vo (Z.map Prod.fst),aRs Z,aI v7 (iN ((List.range (k+1)).filter (mutB (nxA L) N i)))]:=by rw [HFN.out,HMK.out,HN3.out,HMA.out]; exact hs7
        clear hs9 hc8 d1 d2;go_wp2_with fail
        go_roundw
        case rel=>exact ⟨k+1,v7,rfl,by omega,by go_num,hs7⟩
        case measure=>simp [intOf]; omega
       ·have HN3:Hid (fn=fl):=zTD (by rw [HN2.out,if_neg hb,List.append_nil]);have hs7:HS w wr [aV 47 (.slice (some ⟨g1,0,none⟩) N c1) (B.map Prod.fst),aBr B,aB (.slice (some ⟨g5,0,none⟩) N N) (zBJ ((List.range (k+1)).filter (mutB (nxA L) N i)) s0.1),aV 29 vo (Z.map Prod.fst),aRs Z,aI v2 (iN ((List.range (k+1)).filter (mutB (nxA L) N i)))]:=by rw [HFN.out,HN3.out]; exact hs
        clear hs;cases b1 with
        | false =>
         go_wp2_with fail
         go_roundw
         case rel=>exact ⟨k+1,v2,rfl,by omega,by go_num,hs7⟩
         case measure=>simp [intOf]; omega
        | true =>
         cases b2 with
         | true=>exact absurd rfl hb
         | false =>
          go_wp2_with fail
          go_roundw
          case rel=>exact ⟨k+1,v2,rfl,by omega,by go_num,hs7⟩
          case measure=>simp [intOf]; omega
      ·have j1:¬(k:Int)<(N:Int):=by omega
       have hkN2:k=N:=by omega
       rw [hkN2,HCF.out] at hs;obtain ⟨a6,c6,e6⟩:=HS.formI hs 5 rfl;subst e6;have HZ2:Hid (∀v,(Z++[(v,iN (zAX (mutB (nxA L) N) N i))]).map Prod.snd=s1.2.map iN):=zTD (fun v=>by rw [HE.out,List.map_append,List.map_append,HZ.out]; rfl);have HE1:Hid (s1.1=zBJ (zAX (mutB (nxA L) N) N i) s0.1):=zTD (by rw [HE.out]);clear hkN2 HCF HNX HE;generalize zAX (mutB (nxA L) N) N i=cl at *;obtain ⟨ln,hln⟩:∃ln,(iN cl).length=ln:=⟨_,rfl⟩;rw [hln] at hs ⊢;clear hln;obtain ⟨w6,hw6⟩:∃w6,w6=wr.alloc (.cells #[.slice a6 ln c6] 29):=⟨_,rfl⟩;have hs6:=HSx.alloc hs (.cells #[.slice a6 ln c6] 29);rw [<-hw6] at hs6;have hc6:w6.cell? ⟨wr.heap.size,0,none⟩=some (.slice a6 ln c6):=by rw [hw6]; go_simp
       have HW6:=zTD hw6;have HNV:=zTD (HS.newV hs6 3 rfl);clear hs hw6;go_wp2_with (at_builtin; go_must (rw [<-HW6.out]; refine zAH rfl _ _ rfl rfl hs6 3 rfl HNV.out rfl hc6 rfl HLZ.out ?_))
       intro v7 w7 hs7 _;have hs8:=(HSx.moreS hs7 4 5 (by decide) rfl rfl (Z':=Z++[(.slice a6 ln c6,iN cl)]) (List.perm_append_singleton _ _)).pick [0,1,2,3,4] (by decide);have hs8:HS w w7 [aV 47 r4 (B.map Prod.fst),aBr B,aB (.slice (some ⟨g5,0,none⟩) N N) s1.1,aV 29 v7 ((Z++[(Value.slice a6 ln c6,iN cl)]).map Prod.fst),aRs (Z++[(Value.slice a6 ln c6,iN cl)])]:=by rw [List.map_append,HE1.out]; exact hs8
       clear hs6 hs7 hc6;go_wp2_with fail
       go_roundw
       case rel=>exact ⟨i+1,v7,_,rfl,by omega,by go_num,by rw [HCI1.out]; exact hs8,by rw [HCI1.out]; exact zTD (HZ2.out _)⟩
       case measure=>simp [intOf]; omega
   ·have i1:¬(i:Int)<(N:Int):=by omega
    have hiN2:i=N:=by omega
    rw [hiN2,(HCS.out N (zTI _)).1,<-HR.out] at HZ;have hs7:HS w wr [aF vo (Z.map Prod.snd)]:=((HSx.shutF hs (Z:=Z) (v:=vo) 3 4 (by decide) rfl rfl).pick [3] (by decide));rw [HZ.out] at hs7;have hfa:=HS.F hs7 0 rfl;have hbl:=hs7.bl;clear hs hs7 hiN2 HZ;go_wp2_with fail
    go_ret2
    exact ⟨_,rfl,hfa,hbl⟩
theorem zEA {m:Nat→Nat→Bool} {n:Nat}:∀i,∀l∈celS m n i,l.length≤n
 | 0,l,h=>by simp [celS] at h
 | i+1,l,h=>by
  unfold celS at h;split at h
  ·rcases List.mem_append.1 h with h | h
   ·exact zEA i l h
   ·rw [List.mem_singleton] at h; subst h; exact zBy _ _ _
  ·exact zEA i l h
theorem zEx (c:List (List Int)):total (lcR c)≤600:=by
 unfold lcR;split
 ·rename_i h
  have h24:=(KlOk.of h).few;refine Nat.le_trans (zH4 (A:=24) (B:=24) (by rw [List.length_map]; have:=zCi (mutC c) (elL c).length (elL c).length; omega) (fun x hx=>?_)) (by omega);obtain ⟨l,hl,rfl⟩:=List.mem_map.1 hx;have:=zEA _ l hl;unfold iN;rw [List.length_map]; omega
 ·simp [total]
end Go.Proofs.YtlgcdacpjcnjgaaGreatDoor
