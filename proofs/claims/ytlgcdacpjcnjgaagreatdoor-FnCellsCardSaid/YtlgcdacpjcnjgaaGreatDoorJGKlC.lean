/- The table of the products of all elements with letters from the front. Plain lists. -/
import Derived.Test.YtlgcdacpjcnjgaaGreatDoorJGNm
namespace Go.Proofs.YtlgcdacpjcnjgaaGreatDoor
open Go.RowKit
set_option maxRecDepth 20000
def idxE (E:List (List Int)) (w:List Int):Nat:=E.findIdx (fun x=>x == w)
def getE (E:List (List Int)) (z:Nat):List Int:=(E[z]?).getD []
def tabE (c E:List (List Int)) (z i:Nat):Nat:=idxE E (zAD c ((i:Int)::getE E z))
theorem zCo {E:List (List Int)} {w:List Int} (h:w∈E):idxE E w<E.length∧E[idxE E w]? = some w:=by
 have h1:idxE E w<E.length:=List.findIdx_lt_length_of_exists ⟨w,h,by simp⟩;refine ⟨h1,?_⟩;have h2:=List.findIdx_getElem (w:=h1);rw [zTE h1];simp only [beq_iff_eq] at h2;exact congrArg some h2
theorem zF1 {E:List (List Int)} (hn:E.Nodup) {j k:Nat} {w:List Int} (h1:E[j]? = some w) (h2:E[k]? = some w):j=k:=by
 exact (List.getElem?_inj (zTG h1).1 hn).1 (by rw [h1,h2])
theorem zIr {E:List (List Int)} (hn:E.Nodup) {k:Nat} {w:List Int} (h:E[k]? = some w):idxE E w=k:=zF1 hn (zCo (zTF h)).2 h
theorem zCS {E:List (List Int)} {k:Nat} {w:List Int} (h:E[k]? = some w):getE E k=w:=by unfold getE; rw [h]; rfl
section
variable {c:List (List Int)}
theorem zDM (h:FinP c) {w:List Int} (hw:Nf c w) {i:Nat} (hi:i<c.length) :
  Nf c (zAD c ((i:Int)::w))∧zAD c ((i:Int)::zAD c ((i:Int)::w))=w∧((zAD c ((i:Int)::w)).length=w.length+1∨(zAD c ((i:Int)::w)).length+1=w.length):=by
 have hc:=h.cart;have hle:=hw.le;have hl:Lets c.length ((i:Int)::w):=fun x hx=>by
  rcases List.mem_cons.1 hx with rfl | hx
  ·omega
  ·exact hw.lets x hx
 have him:=zAa hc hl (by simp; omega);simp only [List.length_cons] at him;have hN:Nf c (zAD c ((i:Int)::w)):=him.nf h (by omega);have e:zAF c (zAD c ((i:Int)::w))=zAF c ((i:Int)::w):=zBQ hc _ him (by omega);have e2:=zMV (c:=c) [(i:Int)] e;have e3:zAF c ((i:Int)::((i:Int)::w))=zAF c w:=by
  have:=(hw.im hc).turn_two hc (by omega) hi;exact this
 have e4:zAD c ((i:Int)::zAD c ((i:Int)::w))=w:=by
  have e5:zAF c ((i:Int)::zAD c ((i:Int)::w))=zAF c w:=e2.trans e3;unfold zAD at e5 ⊢;rw [e5];exact hw.nf
 refine ⟨hN,e4,?_⟩;have h1:(zAD c ((i:Int)::w)).length≤w.length+1:=zCP hc hl (by simp; omega);have hl2:Lets c.length ((i:Int)::zAD c ((i:Int)::w)):=fun x hx=>by
  rcases List.mem_cons.1 hx with rfl | hx
  ·omega
  ·exact hN.lets x hx
 have h2:=zCP hc hl2 (by have:=hN.le; simp; omega);rw [e4] at h2;simp only [List.length_cons] at h2;have h3:=Im.parity hc (zLb hc him (by omega)) him;have e6:nf c 30 (zAF c ((i:Int)::w))=zAD c ((i:Int)::w):=rfl;rw [e6] at h3;omega
theorem zQ1 (h:FinP c) {s:Nat} {w:List Int} (hw:Nf c ((s:Int)::w)) (hs:s<c.length):(zAD c ((s:Int)::(s:Int)::w)).length≤w.length:=by
 have hc:=h.cart;have hle:=hw.le;simp only [List.length_cons] at hle;have hl:Lets c.length w:=fun x hx=>hw.lets x (List.mem_cons_of_mem _ hx);have e3:zAF c ((s:Int)::((s:Int)::w))=zAF c w:=(zAa hc hl (by omega)).turn_two hc (by omega) hs;have e:zAD c ((s:Int)::(s:Int)::w)=zAD c w:=by unfold zAD; rw [e3]
 rw [e];exact zCP hc hl (by omega)
theorem zME (h:FinP c) (hs:szP c≤24):TabOk (elL c) (tabE c (elL c)) c.length:=by
 obtain ⟨h1,h2⟩:=zDD h (by omega);have hn:=h1.nodup;have hat:∀z,z<(elL c).length→∃w,(elL c)[z]? = some w∧Nf c w∧getE (elL c) z=w:=fun z hz =>
  ⟨_,zTE hz,(h2 _).1 (List.getElem_mem hz),zCS (zTE hz)⟩
 have htab:∀z i,z<(elL c).length→i<c.length→tabE c (elL c) z i<(elL c).length∧(elL c)[tabE c (elL c) z i]? = some (zAD c ((i:Int)::getE (elL c) z)):=fun z i hz hi=>by
  obtain ⟨w,_,hw,e⟩:=hat z hz;unfold tabE;rw [e];exact zCo ((h2 _).2 (zDM h hw hi).1)
 have hud:∀z i,z<(elL c).length→i<c.length→lenE (elL c) (tabE c (elL c) z i)=lenE (elL c) z+1∨lenE (elL c) (tabE c (elL c) z i)+1=lenE (elL c) z:=fun z i hz hi=>by
  obtain ⟨w,hw,hN,e⟩:=hat z hz;have h3:=(htab z i hz hi).2;rw [e] at h3;unfold lenE;rw [h3,hw];exact (zDM h hN hi).2.2
 have hsrt:∀i j,i≤j→j<(elL c).length→lenE (elL c) i≤lenE (elL c) j:=fun i j hij hj=>by
  rcases Nat.lt_or_ge i j with hlt | hge
  ·have:=List.pairwise_iff_getElem.1 h1 i j (by omega) hj hlt;unfold lenE;rw [zTE (by omega),zTE hj];exact zIf this
  ·have:i=j:=by omega
   subst this;exact zTI _
 have hpos:0<(elL c).length:=List.length_pos_of_mem ((h2 []).2 (zDc h.cart));have h00:lenE (elL c) 0=0:=by
  have hm:=zCo ((h2 []).2 (zDc h.cart));have h3:=hsrt 0 _ (Nat.zero_le _) hm.1;have h4:lenE (elL c) (idxE (elL c) [])=0:=by unfold lenE; rw [hm.2]; rfl
  omega
 have h0nil:(elL c)[0]? = some []:=by
  obtain ⟨w,hw,_,_⟩:=hat 0 hpos;have:lenE (elL c) 0=w.length:=by unfold lenE; rw [hw]; rfl
  rw [hw,List.eq_nil_of_length_eq_zero (by omega:w.length=0)]
 refine ⟨by rw [zIj h hs]; exact hs,hsrt,h00,fun i h0 hi=>?_,fun i=>?_,fun z i hz hi=>(htab z i hz hi).1,fun z i hz hi=>?_,hud,fun n h0 hn'=>?_⟩
 ·obtain ⟨w,hw,_,_⟩:=hat i hi;have e:lenE (elL c) i=w.length:=by unfold lenE; rw [hw]; rfl
  rw [e];refine List.length_pos_iff.2 fun e=>?_;subst e;have:=zF1 hn hw h0nil;omega
 ·unfold lenE;cases e:(elL c)[i]? with
  | none=>simp
  | some w=>exact ((h2 w).1 (zTF e)).le
 ·obtain ⟨w,hw,hN,e⟩:=hat z hz;obtain ⟨h3,h4⟩:=htab z i hz hi;rw [e] at h4;have e2:tabE c (elL c) (tabE c (elL c) z i) i=idxE (elL c) w:=by
   show idxE (elL c) (zAD c ((i:Int)::getE (elL c) (tabE c (elL c) z i)))=_;rw [zCS h4,(zDM h hN hi).2.1]
  rw [e2];exact zIr hn hw
 ·obtain ⟨w,hw,hN,e⟩:=hat n hn';have hne:w≠[]:=fun e=>by
   subst e;have:=zF1 hn hw h0nil;omega
  obtain ⟨s,w',rfl⟩:=List.exists_cons_of_ne_nil hne;have hsl:=hN.lets s (List.mem_cons_self ..);have hs1:hdE (elL c) n=s.toNat:=by unfold hdE; rw [hw]; rfl
  have hss:((s.toNat:Nat):Int)=s:=by omega
  rw [hs1];have hsr:s.toNat<c.length:=by omega
  refine ⟨hsr,?_⟩;have h3:=(htab n s.toNat hn' hsr).2;rw [e] at h3;have h5:lenE (elL c) (tabE c (elL c) n s.toNat)≤w'.length:=by
   unfold lenE;rw [h3];rw [<-hss] at hN;have:=zQ1 h hN hsr;rw [hss] at this ⊢;exact this
  have h6:lenE (elL c) n=w'.length+1:=by unfold lenE; rw [hw]; rfl
  have:=hud n s.toNat hn' hsr;omega
end
end Go.Proofs.YtlgcdacpjcnjgaaGreatDoor
namespace Go.Proofs.YtlgcdacpjcnjgaaGreatDoor
open Go.RowKit
set_option maxRecDepth 20000
set_option maxHeartbeats 8000000
theorem zSQ {E:List (List Int)} {w:List Int} {k:Nat} (h:E[k]? = some w):idxE E w≤k:=by
 unfold idxE;rcases Nat.lt_or_ge k (E.findIdx (fun x=>x == w)) with h1 | h1
 ·have h2:=List.not_of_lt_findIdx h1;obtain ⟨hk,e⟩:=zTG h;simp [e] at h2
 ·exact h1
theorem zHa {S S':Nat→Prop} {u v:Value} {L:List (List Int)} {l:List Int} {w:World} (h:RII S w u L) (h':RI S' w v l) (hin:l∈L) (hll:∀x∈L,x.length≤16777216) (hl:L.length≤16777216) (hl':l.length≤16777216) :
  Calls Tryz.prog 38 #[u,v] w fun e w'=>e=.returned (.int .i64 (idxE L l))∧∃m,w'=w.drewN m:=by
 obtain ⟨a,cap,rfl⟩:=h.form;have HE:=zTD (fun (S9:Nat→Prop) (r:Value) (x:List Int) (m:Nat) (hr:RI S9 (w.drewN m) r x) (hx:x∈L)=>zCl hr (h'.drewN m) (hll x hx) hl');have HI:=zTD (zCo hin);have HLE:=zTD (fun (k:Nat) (e:L[k]? = some l)=>zSQ e);generalize idxE L l=q at *;generalize hn:L.length=n at *;have H:=zTD hn;clear hn hll;have mixed:Tryz.prog.follows .mixedOrders=true:=by kernel_rfl
 go_enter Tryz.func38,Tryz.ntmps38
 go_wp2_with fail
 go_loopw [5] (fun i wr=>∃k m:Nat,k≤q∧i=.int .i64 k∧wr=w.drewN m) (fun i _=>n-(intOf i).toNat)
 case atStart=>exact ⟨0,0,Nat.zero_le _,rfl,rfl⟩
 case round =>
  obtain ⟨k,m,hk,rfl,rfl⟩:=hrel;have hqn:=HI.out.1;have hlt:k<n:=by omega
  have i1:(k:Int)<(n:Int):=by omega
  obtain ⟨b,o,r,x,rfl,hc,hr,hx⟩:=(h.drewN m).at hlt;have hcall:=HE.out _ r x m hr (zTF hx.out);have HX:Hid (eqL x l=false→k+1≤q):=zTD (fun e=>by
   rcases Nat.lt_or_ge k q with h1 | h1
   ·omega
   ·have:k=q:=by omega
    subst this;have h2:=HI.out.2;rw [hx.out] at h2;exact absurd (Option.some.inj h2) (zMG e))
  have HY:Hid (eqL x l=true→k=q):=zTD (fun e=>by
   have h2:=HLE.out k (by rw [hx.out,zKQ e]);omega)
  clear hx hqn;go_wp2_with fail
  refine hcall.mono ?_;rintro e w8 ⟨rfl,m8,rfl⟩;cases hq:eqL x l
  ·have HZ:=HX.out hq;clear hq;go_wp2_with fail
   go_roundw
   case rel=>exact ⟨k+1,m+m8,by omega,by go_num,by simp⟩
   case measure=>simp [intOf]; omega
  ·have HZ:=HY.out hq;subst HZ;clear hq;go_wp2_with fail
   go_ret
   exact ⟨rfl,m+m8,by simp⟩
def okK (c:List (List Int)):Bool:=finB c && decide (szP c≤24)
theorem zBl {c:List (List Int)} (h:okK c=true):finB c=true∧FinP c∧szP c≤24∧szC c=szP c∧elOk c=true:=by
 unfold okK at h;rw [Bool.and_eq_true,decide_eq_true_eq] at h;refine ⟨h.1,zEr h.1,h.2,by unfold szC; rw [if_pos h.1],?_⟩;unfold elOk;rw [h.1,decide_eq_true (by omega:szP c≤200)]; rfl
theorem zSb {c:List (List Int)} (h:okK c=false):szC c=0∨24<szC c:=by
 unfold szC;unfold okK at h;split
 ·rename_i hf
  rw [hf,Bool.true_and,decide_eq_false_iff_not] at h;exact .inr (by omega)
 ·exact .inl rfl
def tbL (c:List (List Int)):List (List Int):=(elL c).map fun x=>(List.range c.length).map fun (i:Nat)=>((idxE (elL c) (zAD c ((i:Int)::x)):Nat):Int)
def klT (c:List (List Int)):List (List (List Int)):=rws (elL c) (tabE c (elL c)) (elL c).length
abbrev ixN (c:List (List Int)) (v:List Int):Nat:=idxE (elL c) (zAD c v)
theorem zKu (E:List (List Int)) (tab:Nat→Nat→Nat) {v u n m:Nat} (hv:v<n) (hm:n≤m):zAA (rws E tab n) v u=zAA (rws E tab m) v u:=by
 obtain ⟨d,rfl⟩:∃d,m=n+d:=⟨m-n,by omega⟩;clear hm
 induction d with
 | zero=>rfl
 | succ d ih =>
  have e:rws E tab (n+(d+1))=rws E tab (n+d)++[(List.range E.length).map (rowS E tab (zAA (rws E tab (n+d))) (n+d))]:=rfl;rw [e,zHf (by rw [zCD]; omega)];exact ih
theorem zG4 (E:List (List Int)) (tab:Nat→Nat→Nat) {n m:Nat} (hn:n<m):(rws E tab m)[n]? = some ((List.range E.length).map (zAA (rws E tab m) n)):=by
 have h1:n<(rws E tab m).length:=by rw [zCD]; exact hn
 rw [zTE h1];congr 1;have hl:((rws E tab m)[n]).length=E.length:=by
  have key:∀m,n<m→∀L,(rws E tab m)[n]? = some L→L.length=E.length:=by
   intro m
   induction m with
   | zero=>intro h; omega
   | succ m ih =>
    intro hm L hL;unfold rws at hL;rcases Nat.lt_or_ge n m with h2 | h2
    ·rw [List.getElem?_append_left (by rw [zCD]; exact h2)] at hL;exact ih h2 L hL
    ·have:n=m:=by omega
     subst this;rw [List.getElem?_append_right (by rw [zCD]; exact zTI _),zCD,Nat.sub_self] at hL;simp at hL;subst hL;simp
  exact key m hn _ (zTE h1)
 refine List.ext_getElem? fun u=>?_;rcases Nat.lt_or_ge u E.length with hu | hu
 ·rw [List.getElem?_map,List.getElem?_range hu];simp only [Option.map_some];unfold zAA;rw [zTE h1,Option.getD_some,zTE (by omega)]; rfl
 ·rw [List.getElem?_eq_none (by omega),List.getElem?_eq_none (by simp; omega)]
structure KlOk (c:List (List Int)):Prop where
 fin:FinP c
 sz:szP c≤24
 tab:TabOk (elL c) (tabE c (elL c)) c.length
 nod:(elL c).Nodup
 nf:∀x,x∈elL c↔Nf c x
 rows:∀n,n≤(elL c).length→RowsOk (elL c) (rws (elL c) (tabE c (elL c)) n) n
theorem KlOk.of {c:List (List Int)} (h:okK c=true):KlOk c:=by
 obtain ⟨_,h2,h3,_,_⟩:=zBl h;obtain ⟨h5,h6⟩:=zDD h2 (by omega);refine ⟨h2,h3,zME h2 h3,h5.nodup,h6,fun n hn=>?_⟩;obtain ⟨e,hr⟩:=zD3 (zME h2 h3) n hn;rw [e]; exact hr
section
variable {c:List (List Int)}
theorem KlOk.cart (h:KlOk c):CartanP c:=h.fin.cart
theorem KlOk.few (h:KlOk c):(elL c).length≤24:=h.tab.few
theorem KlOk.pos (h:KlOk c):0<(elL c).length:=List.length_pos_of_mem ((h.nf []).2 (zDc h.cart))
theorem KlOk.word (h:KlOk c) {l:List Int} (hl:Lets c.length l) (h24:l.length≤24):zAD c l∈elL c∧ixN c l<(elL c).length∧(elL c)[ixN c l]? = some (zAD c l):=by
 have hm:=(h.nf _).2 (zQ4 h.cart hl h24).1;exact ⟨hm,(zCo hm).1,(zCo hm).2⟩
theorem KlOk.len (h:KlOk c) {l:List Int} (hl:Lets c.length l) (h24:l.length≤24):lenE (elL c) (ixN c l)=(zAD c l).length:=by
 unfold lenE; rw [(h.word hl h24).2.2]; rfl
theorem KlOk.trow (_h:KlOk c) {z i:Nat} (hz:z<(elL c).length) (hi:i<c.length):∃row,(tbL c)[z]? = some row∧row.length=c.length∧row[i]? = some (tabE c (elL c) z i:Int):=by
 refine ⟨_,by unfold tbL; rw [List.getElem?_map,zTE hz]; rfl,by simp,?_⟩;rw [List.getElem?_map,List.getElem?_range hi];unfold tabE;rw [zCS (zTE hz)]; rfl
theorem KlOk.at (h:KlOk c) {z:Nat} (hz:z<(elL c).length):∃x,(elL c)[z]? = some x∧Nf c x∧lenE (elL c) z=x.length∧x.length≤24:=by
 have e:=zTE hz;have hx:=(h.nf _).1 (zTF e);exact ⟨_,e,hx,by unfold lenE; rw [e]; rfl,hx.le⟩
theorem KlOk.head (h:KlOk c) {z:Nat} (hz:z<(elL c).length) (h0:0<z):∃x,(elL c)[z]? = some x∧x[0]? = some (hdE (elL c) z:Int)∧x.length=lenE (elL c) z:=by
 obtain ⟨x,e,hx,hl,_⟩:=h.at hz;have hp:=h.tab.pos z h0 hz;obtain ⟨a,y,rfl⟩:=List.exists_cons_of_ne_nil (List.length_pos_iff.1 (by omega:0<x.length));refine ⟨_,e,?_,hl.symm⟩;have ha:=hx.lets a (List.mem_cons_self ..);unfold hdE;rw [e];show some a=some _;have:num (a::y) 0=a:=rfl;rw [Option.getD_some,this];congr 1;omega
end
end Go.Proofs.YtlgcdacpjcnjgaaGreatDoor
