/- The orbits of different dominant weights are apart; what both list as the weights of a representation. Plain lists. -/
import Derived.Test.YtiohpndgemonjaaGreatJGDb
import Derived.Test.YtiohpndgemonjaaGreatJGWsR
namespace Go.Proofs.YtiohpndgemonjaaGreat
open Go.RowKit
set_option maxRecDepth 20000
set_option maxHeartbeats 8000000
def zBS (c:List (List Int)):List (List Int)→List (List Int)→Option (List (List Int))
 | [],acc=>some acc
 | u::ls,acc=>if obOk c u=true∧acc.length+(obR c u).length≤200 then zBS c ls (acc++obR c u) else none
def wsQ (c:List (List Int)) (v:List Int):Option (List (List Int)):=zBS c (dbR c v) []
def wsOk (c:List (List Int)) (v:List Int):Bool:=dbOk c v && (wsQ c v).isSome
def wsR (c:List (List Int)) (v:List Int):List (List Int):=if dbOk c v=true then zAF ((wsQ c v).getD []) else []
def WsC (c:List (List Int)) (v:List Int) (w:World) (e:Ending) (w':World):Prop:=∃r,e=.returned (.tuple #[r,.bool (wsOk c v)])∧FII (New w w') w' r (wsR c v)∧Below w.heap.size w w'
theorem zDE (c ls acc:List (List Int)) (u:List Int):zBS c (u::ls) acc=if obOk c u=true∧acc.length+(obR c u).length≤200 then zBS c ls (acc++obR c u) else none:=rfl
theorem zHp {c ls acc:List (List Int)} {u:List Int} (h1:obOk c u=true) (h2:acc.length+(obR c u).length≤200):zBS c (u::ls) acc=zBS c ls (acc++obR c u):=by rw [zDE,if_pos ⟨h1,h2⟩]
theorem zHn {c ls acc:List (List Int)} {u:List Int} (h1:obOk c u=false):zBS c (u::ls) acc=none:=by rw [zDE,if_neg (fun h=>by rw [h1] at h; cases h.1)]
theorem zHo {c ls acc:List (List Int)} {u:List Int} (h2:200<acc.length+(obR c u).length):zBS c (u::ls) acc=none:=by rw [zDE,if_neg (fun h=>by have:=h.2; omega)]
theorem zCt:∀{v:List Int},dom v=true→zAD v=none
 | [],_=>rfl
 | x::v,h=>by
  unfold dom at h;unfold zAD;by_cases hx:x<0
  ·rw [if_pos hx] at h; cases h
  ·rw [if_neg hx] at h;rw [if_neg hx,zCt h]; rfl
theorem zEl {n:Nat} {l:List (List Int)} (h:Dsc n l):l.Nodup:=h.srt.imp (fun {a b} hab e=>by subst e; rw [zB0] at hab; cases hab)
theorem zGW {n:Nat} {q:List (List Int)} (hn:q.Nodup) (hl:∀x∈q,x.length=n):(zAF q).Perm q:=by
 obtain ⟨h1,h2⟩:=zA3 hl;exact (List.perm_ext_iff_of_nodup (zEl h1) hn).2 h2
theorem zGN {c:List (List Int)} {u:List Int} (h:obOk c u=true) (hd:dom u=true):(obR c u).Nodup∧(∀x∈obR c u,x.length=c.length∧Rch c u x)∧CartanP c∧Cor c (cors c)∧Wt c (cors c) u:=by
 unfold obOk at h;rw [Bool.and_eq_true] at h;obtain ⟨h1,h2⟩:=h;obtain ⟨hf,hc,hT,hw⟩:=zAf h1;have e0:=zGB (c:=c) (zCt hd);have q0:QOk c u 0 [u]:=⟨zBs _,by simp,Nat.zero_le _,fun x hx=>by rw [List.mem_singleton] at hx; subst hx; exact Rch.refl c _,List.mem_singleton.2 rfl,fun j x hj=>by omega⟩;have hor:obR c u=zAF ((obQ c u).getD []):=by unfold obR; rw [if_pos h1]
 have hq:obQ c u=qBfs c 201 0 [u]:=by unfold obQ; rw [e0]
 rcases zCh 201 0 [u] q0 (by omega) with ⟨r,er,hn,_,hr,_,_⟩ | ⟨er,_⟩
 ·rw [hor,hq,er,Option.getD_some];have hl:∀x∈r,x.length=c.length:=fun x hx=>(Rch.wt hT hc hw.1 (hr x hx)).len;obtain ⟨a,b⟩:=zA3 hl;exact ⟨zEl a,fun x hx=>⟨a.len x hx,hr x ((b x).1 hx)⟩,hc,hT,hw.1⟩
 ·rw [hq,er] at h2; cases h2
theorem zQa {c:List (List Int)} {u:List Int} (h:obOk c u=true) (hd:dom u=true):obR c u≠[]:=by
 unfold obOk at h;rw [Bool.and_eq_true] at h;obtain ⟨h1,h2⟩:=h;obtain ⟨hf,hc,hT,hw⟩:=zAf h1;have e0:=zGB (c:=c) (zCt hd);have q0:QOk c u 0 [u]:=⟨zBs _,by simp,Nat.zero_le _,fun x hx=>by rw [List.mem_singleton] at hx; subst hx; exact Rch.refl c _,List.mem_singleton.2 rfl,fun j x hj=>by omega⟩;have hor:obR c u=zAF ((obQ c u).getD []):=by unfold obR; rw [if_pos h1]
 have hq:obQ c u=qBfs c 201 0 [u]:=by unfold obQ; rw [e0]
 rcases zCh 201 0 [u] q0 (by omega) with ⟨r,er,hn,_,hr,hm,_⟩ | ⟨er,_⟩
 ·rw [hor,hq,er,Option.getD_some];intro e;have:=((zA3 (n:=c.length) (fun x hx=>(Rch.wt hT hc hw.1 (hr x hx)).len)).2 u).2 hm;rw [e] at this; cases this
 ·rw [hq,er] at h2; cases h2
theorem zNa {c:List (List Int)} {u u':List Int} (h:obOk c u=true) (hd:dom u=true) (h':obOk c u'=true) (hd':dom u'=true) {x:List Int} (hx:x∈obR c u) (hx':x∈obR c u'):u'=u:=by
 obtain ⟨_,a,hc,hT,hw⟩:=zGN h hd;obtain ⟨_,a',_,_,hw'⟩:=zGN h' hd';exact zDI hT hc hw ((a x hx).2.trans (Rch.symm hT hc hw' (a' x hx').2)) (zCt hd) (zCt hd')
structure WsI (c:List (List Int)) (L:List (List Int)) (k:Nat) (acc:List (List Int)):Prop where
 nd:acc.Nodup
 len:∀x∈acc,x.length=c.length
 src:∀x∈acc,∃j u,j<k∧L[j]? = some u∧obOk c u=true∧x∈obR c u
theorem WsI.start (c L:List (List Int)):WsI c L 0 []:=⟨List.nodup_nil,fun x hx=>by simp at hx,fun x hx=>by simp at hx⟩
theorem WsI.step {c L acc:List (List Int)} {k:Nat} {u:List Int} (h:WsI c L k acc) (hL:L.Nodup) (hd:∀x∈L,dom x=true) (hu:L[k]? = some u) (ho:obOk c u=true):WsI c L (k+1) (acc++obR c u):=by
 obtain ⟨a1,a2,_⟩:=zGN ho (hd u (zQg hu));refine ⟨List.nodup_append.2 ⟨h.nd,a1,fun x hx y hy e=>?_⟩,fun x hx=>?_,fun x hx=>?_⟩
 ·subst e;obtain ⟨j,u',hj,hu',ho',hx'⟩:=h.src x hx;have e:=zNa ho' (hd u' (zQg hu')) ho (hd u (zQg hu)) hx' hy;subst e;have hlt:=(zQh hu').1;have:=(List.getElem?_inj hlt hL).1 (hu'.trans hu.symm);omega
 ·rcases List.mem_append.1 hx with hx | hx
  ·exact h.len x hx
  ·exact (a2 x hx).1
 ·rcases List.mem_append.1 hx with hx | hx
  ·obtain ⟨j,u',hj,r⟩:=h.src x hx;exact ⟨j,u',by omega,r⟩
  ·exact ⟨k,u,by omega,hu,ho,hx⟩
theorem zMO (p q:List (List Int)):zAF (p++q)=q.foldl (fun l v=>putV v l) (zAF p):=by unfold zAF; rw [List.foldl_append]
theorem WsI.puts_len {c L acc:List (List Int)} {k:Nat} (h:WsI c L k acc):(zAF acc).length=acc.length:=(zGW h.nd h.len).length_eq
theorem zEY (c:List (List Int)) (v:List Int):(dbR c v).Nodup:=zEl zDL.2.2
theorem zGi (c:List (List Int)) (v:List Int):∀x∈dbR c v,dom x=true:=fun x hx=>(zDL.2.1 x hx).2
theorem zJO {c L:List (List Int)} (hL:L.Nodup) (hd:∀x∈L,dom x=true):∀(m k:Nat) {acc s:List (List Int)},m=L.length-k→k≤L.length→WsI c L k acc→acc.length≤200→zBS c (L.drop k) acc=some s→WsI c L L.length s∧s.length≤200
 | 0,k,acc,s,hm,hk,h,hl,e=>by
  have:k=L.length:=by omega
  subst this;rw [List.drop_length] at e;simp only [zBS,Option.some.injEq] at e;subst e;exact ⟨h,hl⟩
 | m+1,k,acc,s,hm,hk,h,hl,e=>by
  have hlt:k<L.length:=by omega
  have hu:L[k]? = some L[k]:=zQf hlt;rw [zAC hu,zDE] at e;by_cases hc:obOk c L[k]=true∧acc.length+(obR c L[k]).length≤200
  ·rw [if_pos hc] at e;exact zJO hL hd m (k+1) (by omega) (by omega) (h.step hL hd hu hc.1) (by simp; omega) e
  ·rw [if_neg hc] at e; cases e
theorem zMl {A B:Nat}:∀{L:List (List Int)},L.length≤A→(∀x∈L,x.length≤B)→total L≤A*(B+1):=by
 intro L hA hB;have h1:(L.map List.length).sum≤L.length*B:=by
  clear hA
  induction L with
  | nil=>simp
  | cons x L ih =>
   have:=ih (fun y hy=>hB y (List.mem_cons_of_mem _ hy));have:=hB x (List.mem_cons_self ..);simp only [List.map_cons,List.sum_cons,List.length_cons,Nat.add_mul,Nat.one_mul];omega
 have h2:L.length*B≤A*B:=Nat.mul_le_mul_right _ hA;unfold total;rw [Nat.mul_add,Nat.mul_one];omega
theorem zMr (c:List (List Int)) (l:List Int):total (wsR c l)≤1000:=by
 unfold wsR;split
 ·rename_i hok
  cases hs:wsQ c l with
  | none=>decide
  | some s =>
   have hd:dbC c l=true:=by unfold dbOk at hok; rw [Bool.and_eq_true] at hok; exact hok.1
   have hf:finB c=true:=by unfold dbC at hd; rw [Bool.and_eq_true,Bool.and_eq_true] at hd; exact hd.2.1
   have h4:=(zCG hf).cart.le;obtain ⟨h1,h2⟩:=zJO (zEY c l) (zGi c l) _ 0 rfl (Nat.zero_le _) (WsI.start c _) (by simp) (by rw [List.drop_zero]; exact hs);have hp:=h1.puts_len;rw [Option.getD_some];have hm:=(zGW h1.nd h1.len);refine Nat.le_trans (zMl (A:=200) (B:=4) (by omega) (fun x hx=>?_)) (by omega);rw [h1.len x (hm.mem_iff.1 hx)]; exact h4
 ·decide
theorem zM3 {c:List (List Int)} {l:List Int} (h:dbOk c l=false):dbR c l=[]:=by
 unfold dbOk at h;unfold dbR;split
 ·rename_i h1
  rw [h1,Bool.true_and] at h;cases hs:dbQ c l with
  | none=>rfl
  | some s=>rw [hs] at h; cases h
 ·rfl
theorem zKB (c:List (List Int)) (l:List Int):(obR c l).length≤1000:=by have:=zEo c l; unfold total at this; omega
theorem zQS {S S':Nat→Prop} {u v:Value} {c:List (List Int)} {l:List Int} {w:World} (h:RII S w u c) (h':RI S' w v l) (hl:total c≤16777216) (hl':l.length≤16777216) :
  Calls Tryz.prog 25 #[u,v] w (WsC c l w):=by
 have HRES:Hid (WsC c l w=fun e w'=>∃r,e=.returned (.tuple #[r,.bool (wsOk c l)])∧FII (New w w') w' r (wsR c l)∧Below w.heap.size w w'):=zQe rfl;have hd:Calls Tryz.prog 21 #[u,v] w fun e w'=>∃r,e=.returned (.tuple #[r,.bool (dbOk c l)])∧FII (New w w') w' r (dbR c l)∧Below w.heap.size w w':=zLl h h' hl hl';have mixed:Tryz.prog.follows .mixedOrders=true:=by kernel_rfl
 cases hF:dbOk c l with
 | false =>
  have HR:Hid (wsR c l=[]):=zQe (by unfold wsR; rw [hF]; rfl);have HO:Hid (wsOk c l=false):=zQe (by unfold wsOk; rw [hF]; rfl);rw [hF,zM3 hF] at hd;clear hF;go_enter Tryz.func25,Tryz.ntmps25
  go_wp2_with fail
  refine hd.mono ?_;rintro e w1 ⟨r1,rfl,f1,b1⟩;obtain ⟨a1,c1,rfl⟩:=f1.read.form;have hf:=FII.empty_of b1 (w1:=w1.alloc (.cells #[] 25)) rfl;have HF:=zQe hf;have i0:¬(0:Int)<(([]:List (List Int)).length:Int):=by simp
  clear f1 hd hf;generalize ([]:List (List Int)).length=m at *;go_wp2_with fail
  generalize w1.alloc (.cells #[] 25)=w2 at *;go_loopw [8,9] (fun oo kk wr=>oo=.slice (some ⟨w1.heap.size,0,none⟩) 0 0∧kk=.int .i64 0∧wr=w2) (fun _ _ _=>0)
  case atStart=>exact ⟨rfl,rfl,rfl⟩
  case round =>
   obtain ⟨rfl,rfl,rfl⟩:=hrel;go_wp2_with fail
   go_ret2
   rw [HRES.out];exact ⟨_,by rw [HO.out]; rfl,by rw [HR.out]; exact HF.out.1,HF.out.2⟩
 | true =>
  have HOK:Hid (wsOk c l=(wsQ c l).isSome):=zQe (by unfold wsOk; rw [hF]; rfl);have HR:Hid (wsR c l=zAF ((wsQ c l).getD [])):=zQe (by unfold wsR; rw [hF]; rfl);have HQ0:Hid (zBS c ((dbR c l).drop 0) []=wsQ c l):=zQe rfl;have HW0:Hid (WsI c (dbR c l) 0 []):=zQe (WsI.start c _);have HLL:=zQe (fun (x:List Int) (hx:x∈dbR c l)=>(zDL.2.1 x hx).1);have HND:=zQe (zEY c l);have HDM:=zQe (zGi c l);have h4:c.length≤4:=by
   have hd:dbC c l=true:=by unfold dbOk at hF; rw [Bool.and_eq_true] at hF; exact hF.1
   have hf:finB c=true:=by unfold dbC at hd; rw [Bool.and_eq_true,Bool.and_eq_true] at hd; exact hd.2.1
   exact (zCG hf).cart.le
  have h200:(dbR c l).length≤200:=zDL.1;have HOB:Hid (∀(S9:Nat→Prop) (wv:World) (vv:Value) (x:List Int),Below w.heap.size w wv→RI S9 wv vv x→x.length=c.length→Calls Tryz.prog 27 #[u,vv] wv fun e w'=>∃r,e=.returned (.tuple #[r,.bool (obOk c x)])∧FII (New wv w') w' r (obR c x)∧Below wv.heap.size wv w'):=zQe (fun S9 wv vv x hb hx hxl=>zHb (h.below hb) hx hl (by omega));rw [hF] at hd;clear hF;obtain ⟨au,cu,rfl⟩:=h.form;generalize wsQ c l=R at *;generalize dbR c l=L at *;generalize hn:c.length=n at *;have HN:=zQe hn;clear hn;generalize hm:L.length=m at *;have HM:=zQe hm;clear hm;go_enter Tryz.func25,Tryz.ntmps25
  go_wp2_with fail
  refine hd.mono ?_;rintro e w1 ⟨r1,rfl,f1,b1⟩;have hs1:=(HS.nil (Below.refl _ w)).addF b1 f1;obtain ⟨a1,c1,rfl⟩:=f1.read.form;rw [HM.out] at hs1 ⊢;obtain ⟨w2,hw2⟩:∃w2,w2=w1.alloc (.cells #[] 25):=⟨_,rfl⟩;have hfe:=FII.empty_of (Below.refl _ w1) hw2;have hs2:=hs1.addF hfe.2 hfe.1;have hs2:HS w w2 [aF (.slice a1 m c1) L,aF (.slice (some ⟨w1.heap.size,0,none⟩) 0 0) (zAF [])]:=hs2;have HW2:=zQe hw2;clear hd f1 b1 hs1 hw2 hfe;go_wp2_with fail
  rw [<-HW2.out];go_loopw [8,9] (fun oo kk wr=>∃(k:Nat) (vo:Value) (acc:List (List Int)),vo=oo∧k≤m∧kk=.int .i64 k∧HS w wr [aF (.slice a1 m c1) L,aF vo (zAF acc)]∧Hid (zBS c (L.drop k) acc=R)∧Hid (WsI c L k acc)∧acc.length≤200) (fun _ kk _=>m-(intOf kk).toNat)
  case atStart=>exact ⟨0,_,[],rfl,Nat.zero_le _,rfl,hs2,HQ0,HW0,by simp⟩
  case round =>
   clear hs2 HQ0 HW0;obtain ⟨k,vo,acc,rfl,hk,rfl,hs,HQ,HW,hacc⟩:=hrel;by_cases hkm:k<m
   ·have i1:(k:Int)<(m:Int):=by omega
    have i2:(0:Int)≤(k:Int):=by omega
    have hread:RII _ wr (.slice a1 m c1) L:=(hs.F 0 rfl).read;obtain ⟨b3,o3,r3,x,rfl,hc3,hr3,hx⟩:=RII.at hread hkm;have hxm:=zQg hx.out;have hxl:=HLL.out x hxm;have hcall:=HOB.out _ wr r3 x hs.bl hr3 hxl;have hq:=HQ.out;rw [zAC hx.out] at hq;have HQ2:=zQe hq;have HX:=zQe hx.out;have hpl:=HW.out.puts_len;have hol:=zKB c x;obtain ⟨ao,co,hfo⟩:=(hs.F 1 rfl).read.form;rw [hpl] at hfo;subst hfo;clear hread hx hxm hxl hq;generalize hma:acc.length=ma at *;have HMA:=zQe hma;have HPL:=zQe hpl;clear hma hpl;go_wp2_with fail
    refine hcall.mono ?_;rintro e w4 ⟨r4,rfl,f4,b4⟩;have hs4:=hs.addF b4 f4;obtain ⟨a4,c4,rfl⟩:=f4.read.form;generalize hmi:(obR c x).length=mi at *;have HMI:=zQe hmi;clear hmi hcall hr3 f4 b4 hc3;cases ho:obOk c x with
    | false =>
     have HRN:Hid (R=none):=zQe (by rw [<-HQ2.out,zHn ho]);have hfe:=FII.empty_of hs4.bl (w1:=w4.alloc (.cells #[] 25)) rfl;clear hs4 hs ho;go_wp2_with fail
     go_ret2
     rw [HRES.out];exact ⟨_,by rw [HOK.out,HRN.out]; rfl,by rw [HR.out,HRN.out]; exact hfe.1,hfe.2⟩
    | true =>
     have HO:=zQe ho;clear ho;by_cases hlen:200<ma+mi
     ·have i3:(200:Int)<(ma:Int)+(mi:Int):=by omega
      have HRN:Hid (R=none):=zQe (by rw [<-HQ2.out,zHo (by rw [HMA.out,HMI.out]; exact hlen)]);have hfe:=FII.empty_of hs4.bl (w1:=w4.alloc (.cells #[] 25)) rfl;clear hs4 hs;go_wp2_with fail
      go_ret2
      rw [HRES.out];exact ⟨_,by rw [HOK.out,HRN.out]; rfl,by rw [HR.out,HRN.out]; exact hfe.1,hfe.2⟩
     ·have i3:¬(200:Int)<(ma:Int)+(mi:Int):=by omega
      have HQ3:Hid (zBS c (L.drop (k+1)) (acc++obR c x)=R):=zQe (by rw [<-HQ2.out,zHp HO.out (by rw [HMA.out,HMI.out]; omega)]);have HW3:Hid (WsI c L (k+1) (acc++obR c x)):=zQe (HW.out.step HND.out HDM.out HX.out HO.out);have HA3:Hid ((acc++obR c x).length≤200):=zQe (by rw [List.length_append,HMA.out,HMI.out]; omega);have HXL:Hid (∀y∈acc++obR c x,y.length=n):=zQe (fun y hy=>by rw [<-HN.out]; exact HW3.out.len y hy);have HT0:Hid (acc++(obR c x).take 0=acc):=zQe (by simp);have hs4:HS w w4 [aF (.slice (some ⟨b3,o3,none⟩) m c1) L,aF (.slice ao ma co) (zAF (acc++(obR c x).take 0)),aF (.slice a4 mi c4) (obR c x)]:=by rw [HT0.out]; exact hs4
      have HTS:Hid (∀(t:Nat) (y:List Int),(obR c x)[t]? = some y→putV y (zAF (acc++(obR c x).take t))=zAF (acc++(obR c x).take (t+1))):=zQe (fun t y hy=>by
       rw [zAP hy,<-List.append_assoc,zMO (acc++(obR c x).take t) [y]]; rfl)
      have HPM:Hid (∀t y,y∈zAF (acc++(obR c x).take t)→y.length=n):=zQe (fun t y hy=>by
       have hsub:∀z∈acc++(obR c x).take t,z∈acc++obR c x:=fun z hz=>by
        rcases List.mem_append.1 hz with hz | hz
        ·exact List.mem_append_left _ hz
        ·exact List.mem_append_right _ (List.mem_of_mem_take hz)
       have:=((zA3 (n:=n) (q:=acc++(obR c x).take t) (fun z hz=>HXL.out z (hsub z hz))).2 y).1 hy;exact HXL.out y (hsub y this))
      have HPN:Hid (∀t,(zAF (acc++(obR c x).take t)).length≤1048576):=zQe (fun t=>by
       have:=zBX (acc++(obR c x).take t) [];unfold zAF;rw [List.length_append,List.length_take] at this;have:=HMA.out;have:=HMI.out;simp at *;omega)
      have HTE:Hid ((obR c x).take mi=obR c x):=zQe (List.take_of_length_le (by rw [HMI.out]; exact zQj _));clear hs;generalize obR c x=O at *;go_wp2_with fail
      go_loopw [8,12] (fun oo tt wr=>∃(t:Nat) (vo:Value),vo=oo∧t≤mi∧tt=.int .i64 t∧HS w wr [aF (.slice (some ⟨b3,o3,none⟩) m c1) L,aF vo (zAF (acc++O.take t)),aF (.slice a4 mi c4) O]) (fun _ tt _=>mi-(intOf tt).toNat)
      case atStart=>exact ⟨0,_,rfl,Nat.zero_le _,rfl,hs4⟩
      case round =>
       clear hs4;obtain ⟨t,vo,rfl,ht,rfl,hs⟩:=hrel;by_cases htm:t<mi
       ·have j1:(t:Int)<(mi:Int):=by omega
        have j2:(0:Int)≤(t:Int):=by omega
        have hread:RII _ wr (.slice a4 mi c4) O:=(hs.F 2 rfl).read;obtain ⟨b5,o5,r5,y,rfl,hc5,hr5,hy⟩:=RII.at hread htm;have HST:=zQe (HTS.out t y hy.out);have hyl:y.length=n:=HXL.out y (List.mem_append_right _ (zQg hy.out));obtain ⟨F,hF,hFn,HBK⟩:=hs.lend 1 rfl;have hcall:=zFq hF hFn hr5 (fun z hz=>by rw [HPM.out t z hz]; omega) (HPN.out t) (by rw [hyl]; omega);have HPC:Hid (PutC F y (zAF (acc++O.take t)) wr=fun e w'=>∃r,e=.returned r∧HSx F wr w' [aF r (putV y (zAF (acc++O.take t)))]):=zQe rfl;rw [HPC.out] at hcall;clear hread hy hyl hF hr5;go_wp2_with fail
        refine hcall.mono ?_;rintro e w6 ⟨r6,rfl,h6⟩;rw [HST.out] at h6;have hs7:=HBK.out w6 _ h6;have hs7:HS w w6 [aF (.slice (some ⟨b3,o3,none⟩) m c1) L,aF r6 (zAF (acc++O.take (t+1))),aF (.slice (some ⟨b5,o5,none⟩) mi c4) O]:=hs7;clear hs h6 hcall;go_wp2_with fail
        go_roundw
        case rel=>exact ⟨t+1,r6,rfl,by omega,by go_num,hs7⟩
        case measure=>simp [intOf]; omega
       ·have j1:¬(t:Int)<(mi:Int):=by omega
        have e:t=mi:=by omega
        rw [e,HTE.out] at hs;have hs8:=hs.pick [0,1] (by decide);have hs8:HS w wr [aF (.slice (some ⟨b3,o3,none⟩) m c1) L,aF vo (zAF (acc++O))]:=hs8;clear hs e;go_wp2_with fail
        go_roundw
        case rel=>exact ⟨k+1,_,_,rfl,by omega,by go_num,hs8,HQ3,HW3,HA3.out⟩
        case measure=>simp [intOf]; omega
   ·have i1:¬(k:Int)<(m:Int):=by omega
    have hq:=HQ.out;rw [List.drop_eq_nil_of_le (by rw [HM.out]; omega)] at hq;have HRS:Hid (R=some acc):=zQe (by rw [<-hq]; rfl);clear hq;go_wp2_with fail
    go_ret2
    rw [HRES.out];exact ⟨_,by rw [HOK.out,HRS.out]; rfl,by rw [HR.out,HRS.out]; exact hs.F 1 rfl,hs.bl⟩
theorem zQR {S S':Nat→Prop} {u v:Value} {c:List (List Int)} {l:List Int} {w:World} (h:RII S w u c) (h':RI S' w v l) (hl:total c≤16777216) (hl':l.length≤16777216) :
  Calls Tryz.prog 24 #[u,v] w (WsC c l w):=by
 have HRES:Hid (WsC c l w=fun e w'=>∃r,e=.returned (.tuple #[r,.bool (wsOk c l)])∧FII (New w w') w' r (wsR c l)∧Below w.heap.size w w'):=zQe rfl;have hd:Calls Tryz.prog 20 #[u,v] w fun e w'=>∃r,e=.returned (.tuple #[r,.bool (dbOk c l)])∧FII (New w w') w' r (dbR c l)∧Below w.heap.size w w':=zLk h h' hl hl';have mixed:Tryz.prog.follows .mixedOrders=true:=by kernel_rfl
 cases hF:dbOk c l with
 | false =>
  have HR:Hid (wsR c l=[]):=zQe (by unfold wsR; rw [hF]; rfl);have HO:Hid (wsOk c l=false):=zQe (by unfold wsOk; rw [hF]; rfl);rw [hF] at hd;clear hF;go_enter Tryz.func24,Tryz.ntmps24
  go_wp2_with fail
  refine hd.mono ?_;rintro e w1 ⟨r1,rfl,_,b1⟩;have hf:=FII.empty_of b1 (w1:=w1.alloc (.cells #[] 25)) rfl;clear hd;go_wp2_with fail
  go_ret2
  rw [HRES.out];exact ⟨_,by rw [HO.out]; rfl,by rw [HR.out]; exact hf.1,hf.2⟩
 | true =>
  have HOK:Hid (wsOk c l=(wsQ c l).isSome):=zQe (by unfold wsOk; rw [hF]; rfl);have HR:Hid (wsR c l=zAF ((wsQ c l).getD [])):=zQe (by unfold wsR; rw [hF]; rfl);have HQ0:Hid (zBS c ((dbR c l).drop 0) (([]:Zl).map Prod.snd)=wsQ c l):=zQe rfl;have HW0:Hid (WsI c (dbR c l) 0 (([]:Zl).map Prod.snd)):=zQe (WsI.start c _);have HLL:=zQe (fun (x:List Int) (hx:x∈dbR c l)=>(zDL.2.1 x hx).1);have HND:=zQe (zEY c l);have HDM:=zQe (zGi c l);have h4:c.length≤4:=by
   have hd:dbC c l=true:=by unfold dbOk at hF; rw [Bool.and_eq_true] at hF; exact hF.1
   have hf:finB c=true:=by unfold dbC at hd; rw [Bool.and_eq_true,Bool.and_eq_true] at hd; exact hd.2.1
   exact (zCG hf).cart.le
  have h200:(dbR c l).length≤200:=zDL.1;have HOB:Hid (∀(S9:Nat→Prop) (wv:World) (vv:Value) (x:List Int),Below w.heap.size w wv→RI S9 wv vv x→x.length=c.length→Calls Tryz.prog 13 #[u,vv] wv fun e w'=>∃r,e=.returned (.tuple #[r,.bool (obOk c x)])∧FII (New wv w') w' r (obR c x)∧Below wv.heap.size wv w'):=zQe (fun S9 wv vv x hb hx hxl=>zHa (h.below hb) hx hl (by omega));rw [hF] at hd;clear hF;obtain ⟨au,cu,rfl⟩:=h.form;generalize wsQ c l=R at *;generalize dbR c l=L at *;generalize hn:c.length=n at *;have HN:=zQe hn;clear hn;generalize hm:L.length=m at *;have HM:=zQe hm;clear hm;go_enter Tryz.func24,Tryz.ntmps24
  go_wp2_with fail
  refine hd.mono ?_;rintro e w1 ⟨r1,rfl,f1,b1⟩;have hs1:=(HS.nil (Below.refl _ w)).addF b1 f1;obtain ⟨a1,c1,rfl⟩:=f1.read.form;rw [HM.out] at hs1 ⊢;obtain ⟨w2,hw2⟩:∃w2,w2=w1.alloc (.cells #[] 25):=⟨_,rfl⟩;have hs2:=zBL hs1 hw2;have hs2:=hs2.add (Below.refl _ _) (zBe []) (F:=NoB) ⟨fun x hx=>by simp at hx,List.Pairwise.nil⟩ (fun b hb=>hb.elim);have hs2:HS w w2 [aF (.slice a1 m c1) L,aV 25 (.slice (some ⟨w1.heap.size,0,none⟩) 0 0) (([]:Zl).map Prod.fst),aRs []]:=hs2;have HW2:=zQe hw2;clear hd f1 b1 hs1 hw2;go_wp2_with fail
  rw [<-HW2.out];go_loopw [8,25] (fun oo kk wr=>∃(k:Nat) (vo:Value) (Z:Zl),vo=oo∧k≤m∧kk=.int .i64 k∧HS w wr [aF (.slice a1 m c1) L,aV 25 vo (Z.map Prod.fst),aRs Z]∧Hid (zBS c (L.drop k) (Z.map Prod.snd)=R)∧Hid (WsI c L k (Z.map Prod.snd))∧Z.length≤200) (fun _ kk _=>m-(intOf kk).toNat)
  case atStart=>exact ⟨0,_,[],rfl,Nat.zero_le _,rfl,hs2,HQ0,HW0,by simp⟩
  case round =>
   clear hs2 HQ0 HW0;obtain ⟨k,vo,Z,rfl,hk,rfl,hs,HQ,HW,hz200⟩:=hrel;have hlz:(Z.map Prod.fst).length=Z.length:=by simp
   obtain ⟨⟨ao,co,rfl⟩,_⟩:=hs.formV 1 rfl;rw [hlz] at hs ⊢;generalize hzl:Z.length=mz at *;have HZL:=zQe hzl;clear hzl hlz;by_cases hkm:k<m
   ·have i1:(k:Int)<(m:Int):=by omega
    have i2:(0:Int)≤(k:Int):=by omega
    have hread:RII _ wr (.slice a1 m c1) L:=(hs.F 0 rfl).read;obtain ⟨b3,o3,r3,x,rfl,hc3,hr3,hx⟩:=RII.at hread hkm;have hxm:=zQg hx.out;have hxl:=HLL.out x hxm;have hcall:=HOB.out _ wr r3 x hs.bl hr3 hxl;have hq:=HQ.out;rw [zAC hx.out] at hq;have HQ2:=zQe hq;have HX:=zQe hx.out;have hol:=zKB c x;clear hread hx hxm hxl hq;go_wp2_with fail
    refine hcall.mono ?_;rintro e w4 ⟨r4,rfl,f4,b4⟩;have hs4:=hs.addF b4 f4;obtain ⟨a4,c4,rfl⟩:=f4.read.form;generalize hmi:(obR c x).length=mi at *;have HMI:=zQe hmi;clear hmi hcall hr3 f4 b4 hc3;cases ho:obOk c x with
    | false =>
     have HRN:Hid (R=none):=zQe (by rw [<-HQ2.out,zHn ho]);have hfe:=FII.empty_of hs4.bl (w1:=w4.alloc (.cells #[] 25)) rfl;clear hs4 hs ho;go_wp2_with fail
     go_ret2
     rw [HRES.out];exact ⟨_,by rw [HOK.out,HRN.out]; rfl,by rw [HR.out,HRN.out]; exact hfe.1,hfe.2⟩
    | true =>
     have HO:=zQe ho;clear ho;have HMA:Hid ((Z.map Prod.snd).length=mz):=zQe (by simp [HZL.out]);by_cases hlen:200<mz+mi
     ·have i3:(200:Int)<(mz:Int)+(mi:Int):=by omega
      have HRN:Hid (R=none):=zQe (by rw [<-HQ2.out,zHo (by rw [HMA.out,HMI.out]; exact hlen)]);have hfe:=FII.empty_of hs4.bl (w1:=w4.alloc (.cells #[] 25)) rfl;clear hs4 hs;go_wp2_with fail
      go_ret2
      rw [HRES.out];exact ⟨_,by rw [HOK.out,HRN.out]; rfl,by rw [HR.out,HRN.out]; exact hfe.1,hfe.2⟩
     ·have i3:¬(200:Int)<(mz:Int)+(mi:Int):=by omega
      have hpos:0<mi:=by
       have hmem:(obR c x)≠[]:=by
        intro e;have:=(zGN HO.out (HDM.out x (zQg HX.out))).2.2;exact zQa HO.out (HDM.out x (zQg HX.out)) e
       have:=List.length_pos_iff.2 hmem;rw [HMI.out] at this;exact this
      have HQ3:Hid (zBS c (L.drop (k+1)) (Z.map Prod.snd++obR c x)=R):=zQe (by rw [<-HQ2.out,zHp HO.out (by rw [HMA.out,HMI.out]; omega)]);have HW3:Hid (WsI c L (k+1) (Z.map Prod.snd++obR c x)):=zQe (HW.out.step HND.out HDM.out HX.out HO.out);obtain ⟨Y,hY,hs5⟩:=hs4.openF 3 rfl;have hs5:HS w w4 [aF (.slice (some ⟨b3,o3,none⟩) m c1) L,aV 25 (.slice ao mz co) (Z.map Prod.fst),aRs Z,aV 25 (.slice a4 mi c4) (Y.map Prod.fst),aRs Y]:=hs5;have hyl:(Y.map Prod.fst).length=mi:=by rw [<-HMI.out,<-hY]; simp
      obtain ⟨_,hhead⟩:=hs5.formV 3 rfl;obtain ⟨g,rfl⟩:∃g,a4=some ⟨g,0,none⟩:=by
       obtain ⟨g,c9,e⟩:=hhead (by omega);simp only [Value.slice.injEq] at e;exact ⟨g,e.1⟩
      rw [<-hY] at HQ3 HW3;have HYL:=zQe hyl;have HNV:=zQe (HS.newV hs5 1 rfl);have HONE:Hid (∀u∈Y.map Prod.fst,u.oneCell'=true):=zQe (fun u hu=>by
       obtain ⟨y,hy,rfl⟩:=List.mem_map.1 hu;exact oneC (hs5.rowS 4 rfl hy))
      have HLN:Hid ((Z.map Prod.fst).length+mi≤67108864):=zQe (by rw [List.length_map,HZL.out]; omega);have HYM:Hid (Y.length=mi):=zQe (by simpa using hyl);clear hs4 hs hhead hyl hY;go_wp2_with (at_builtin; go_must (refine zHx rfl _ _ rfl rfl hs5 1 3 rfl rfl HYL.out HNV.out rfl HONE.out HLN.out ?_))
      intro v6 w6 hs6 _;have hs7:=(HSx.bothS hs6 2 4 (by decide) rfl rfl).pick [0,1,2] (by decide);have hs7:HS w w6 [aF (.slice (some ⟨b3,o3,none⟩) m c1) L,aV 25 v6 ((Z++Y).map Prod.fst),aRs (Z++Y)]:=by
       rw [List.map_append]; exact hs7
      rw [<-List.map_append] at HQ3 HW3;clear hs5 hs6;go_wp2_with fail
      go_roundw
      case rel=>exact ⟨k+1,_,_,rfl,by omega,by go_num,hs7,HQ3,HW3,by rw [List.length_append,HZL.out,HYM.out]; omega⟩
      case measure=>simp [intOf]; omega
   ·have i1:¬(k:Int)<(m:Int):=by omega
    have hq:=HQ.out;rw [List.drop_eq_nil_of_le (by rw [HM.out]; omega)] at hq;have HRS:Hid (R=some (Z.map Prod.snd)):=zQe (by rw [<-hq]; rfl);have HLN:Hid (∀z∈Z,z.2.length=n):=zQe (fun z hz=>by rw [<-HN.out]; exact HW.out.len z.2 (List.mem_map_of_mem hz));have hsrt:=(hs.pick [1,2] (by decide)).sortRows (Z:=Z) (v:=.slice ao mz co) (n:=n) 0 1 (by decide) rfl rfl (HS.newV hs 1 rfl) HLN.out (by omega) (by rw [HZL.out]; omega);clear hq hs;go_wp2_with fail
    refine hsrt.mono ?_;rintro e w6 ⟨rfl,Z',hp,hsr,hs6⟩;have HSR:=zQe hsr;clear hsr;have hs7:=((hs6.pick [0,1] (by decide)).shutF (Z:=Z') (v:=.slice ao mz co) 0 1 (by decide) rfl rfl).pick [0] (by decide);have hs7:HS w w6 [aF (.slice ao mz co) (Z'.map Prod.snd)]:=hs7;have HFIN:Hid (Z'.map Prod.snd=wsR c l):=zQe (by
     rw [HR.out,HRS.out];exact zDi (n:=n) (hp.map _) (HSR.out.imp (fun h=>by omega)) HW.out.nd (fun x hx=>by obtain ⟨z,hz,rfl⟩:=List.mem_map.1 hx; exact HLN.out z hz) (fun x=>Iff.rfl))
    rw [HFIN.out] at hs7;clear hs6 hsrt hp;go_wp2_with fail
    go_ret2
    rw [HRES.out];exact ⟨_,by rw [HOK.out,HRS.out]; rfl,hs7.F 0 rfl,hs7.bl⟩
theorem zPk {S S':Nat→Prop} {u v:Value} {c:List (List Int)} {l:List Int} {w:World} (h:RII S w u c) (h':RI S' w v l) (hl:total c≤16777216) (hl':l.length≤16777216) :
  Calls Tryz.prog 25 #[u,v] w fun e w'=>∃r,e=.returned (.tuple #[r,.bool (wsOk c l)])∧FII (New w w') w' r (wsR c l)∧Below w.heap.size w w':=zQS h h' hl hl'
theorem zPj {S S':Nat→Prop} {u v:Value} {c:List (List Int)} {l:List Int} {w:World} (h:RII S w u c) (h':RI S' w v l) (hl:total c≤16777216) (hl':l.length≤16777216) :
  Calls Tryz.prog 24 #[u,v] w fun e w'=>∃r,e=.returned (.tuple #[r,.bool (wsOk c l)])∧FII (New w w') w' r (wsR c l)∧Below w.heap.size w w':=zQR h h' hl hl'
end Go.Proofs.YtiohpndgemonjaaGreat
