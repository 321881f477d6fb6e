/- Lists that are put in order by exchanges: what merging in place needs. Plain. No condition. -/
import Derived.Test.YtlgcdacpjcnjgaaGreatDoorJGEl
import Derived.Test.YtlgcdacpjcnjgaaGreatDoorJGInV
namespace Go.Proofs.YtlgcdacpjcnjgaaGreatDoor
namespace Mrg
set_option maxRecDepth 20000
section
variable {α:Type}
def ins (Y:List α) (t:Nat) (x:α):List α:=Y.take t++x::Y.drop t
variable {le:α→α→Prop}
abbrev Srt (le:α→α→Prop) (L:List α):Prop:=L.Pairwise le
variable (trans:∀a b c,le a b→le b c→le a c)
include trans
omit trans
def BS (le:α→α→Prop) (s:Nat) (L:List α):Prop:=∀k,Srt le ((L.drop (k*s)).take s)
theorem zDx {s q:Nat} {P M:List α} (hP:BS le s P) (hl:P.length=q*s) (hM:Srt le M) (hm:M.length≤s):BS le s (P++M):=by
 intro k;rcases Nat.lt_trichotomy k q with h | h | h
 ·have h1:k*s+s≤q*s:=by
   have:=Nat.mul_le_mul_right s (show k+1≤q from h);rw [Nat.add_mul,Nat.one_mul] at this;exact this
  rw [List.drop_append_of_le_length (by omega),List.take_append_of_le_length (by simp; omega)];exact hP k
 ·subst h;rw [<-hl,List.drop_left,List.take_of_length_le hm];exact hM
 ·have h1:q*s+s≤k*s:=by
   have:=Nat.mul_le_mul_right s (show q+1≤k from h);rw [Nat.add_mul,Nat.one_mul] at this;exact this
  rw [List.drop_of_length_le (by simp; omega)];simp [Srt]
end
end Mrg
end Go.Proofs.YtlgcdacpjcnjgaaGreatDoor
namespace Go.Proofs.YtlgcdacpjcnjgaaGreatDoor
open Go.RowKit
set_option maxRecDepth 20000
set_option maxHeartbeats 8000000
theorem zNC {v:List Int} {l:List (List Int)}:putE v (v::l)=v::l:=by simp [putE]
theorem zRE {v x:List Int} {l:List (List Int)} (h:x≠v) (hg:cmpW v x<0):putE v (x::l)=v::x::l:=by simp [putE,h,hg]
theorem zRD {v x:List Int} {l:List (List Int)} (h:x≠v) (hg:¬cmpW v x<0):putE v (x::l)=x::putE v l:=by simp [putE,h,hg]
structure PutW (v:List Int) (L:List (List Int)) (Z Zo Y:Zl) (k:Nat) (pl:Bool):Prop where
 perm:(Zo++Z.drop k).Perm Y
 txt:Zo.map Prod.snd++(if pl=true then L.drop k else putE v (L.drop k))=putE v L
 len:Zo.length≤k+pl.toNat
section
variable {v:List Int} {L:List (List Int)} {Z Zo Y:Zl} {k:Nat} {pl:Bool} {z:Value × List Int}
theorem PutW.start (_hZ:Z.map Prod.snd=L):PutW v L Z [] Z 0 false:=⟨by simp,by simp,by simp⟩
theorem PutW.at (hZ:Z.map Prod.snd=L) (hz:Z[k]? = some z):L[k]? = some z.2:=by rw [<-hZ,List.getElem?_map,hz]; rfl
theorem PutW.mem (h:PutW v L Z Zo Y k pl) (hz:Z[k]? = some z):z∈Y:=h.perm.mem_iff.1 (List.mem_append_right _ (by rw [zAK hz]; exact List.mem_cons_self ..))
theorem PutW.step (h:PutW v L Z Zo Y k true) (hZ:Z.map Prod.snd=L) (hz:Z[k]? = some z):(Zo++[z]++Z.drop (k+1)).Perm Y∧(Zo++[z]).map Prod.snd++L.drop (k+1)=putE v L:=by
 have h1:=h.perm;have h2:=h.txt;rw [zAK hz] at h1;rw [if_pos rfl,zAK (PutW.at hZ hz)] at h2;exact ⟨by simpa using h1,by simpa using h2⟩
theorem PutW.stepF (h:PutW v L Z Zo Y k false) (hZ:Z.map Prod.snd=L) (hz:Z[k]? = some z) (hne:z.2≠v) (hg:¬cmpW v z.2<0):(Zo++[z]++Z.drop (k+1)).Perm Y∧(Zo++[z]).map Prod.snd++putE v (L.drop (k+1))=putE v L:=by
 have h1:=h.perm;have h2:=h.txt;rw [zAK hz] at h1;rw [if_neg (by simp),zAK (PutW.at hZ hz),zRD hne hg] at h2;exact ⟨by simpa using h1,by simpa using h2⟩
theorem PutW.found (h:PutW v L Z Zo Y k pl) (hZ:Z.map Prod.snd=L) (hz:Z[k]? = some z) (he:z.2=v):PutW v L Z Zo Y k true:=by
 refine ⟨h.perm,?_,by have:=h.len; cases pl <;> simp at * <;> omega⟩;have h2:=h.txt;rw [if_pos rfl];cases pl with
 | true=>rw [if_pos rfl] at h2; exact h2
 | false =>
  rw [if_neg (by simp),zAK (PutW.at hZ hz),he,zNC] at h2;rw [zAK (PutW.at hZ hz),he];exact h2
theorem PutW.ins (h:PutW v L Z Zo Y k false) (hZ:Z.map Prod.snd=L) (hz:Z[k]? = some z) (hne:z.2≠v) (hg:cmpW v z.2<0) (r:Value) :
  (Zo++[(r,v)]++Z.drop k).Perm ((r,v)::Y)∧(Zo++[(r,v)]).map Prod.snd++L.drop k=putE v L:=by
 have h2:=h.txt;rw [if_neg (by simp),zAK (PutW.at hZ hz),zRE hne hg,<-zAK (PutW.at hZ hz)] at h2;refine ⟨?_,by simpa using h2⟩;rw [List.append_assoc];exact List.perm_middle.trans (h.perm.cons _)
theorem zMY {X Y:Zl} {U:List (List Int)} (h1:(X++Z.drop k).Perm Y) (h2:X.map Prod.snd++L.drop k=U) (hZ:Z.map Prod.snd=L) (hz:Z[k]? = some z):(X++[z]++Z.drop (k+1)).Perm Y∧(X++[z]).map Prod.snd++L.drop (k+1)=U:=by
 rw [zAK hz] at h1;rw [zAK (PutW.at hZ hz)] at h2;exact ⟨by simpa using h1,by simpa using h2⟩
theorem PutW.endT (h:PutW v L Z Zo Y k true) (hk:Z.length≤k) (hZ:Z.map Prod.snd=L):Zo.Perm Y∧Zo.map Prod.snd=putE v L:=by
 have h1:=h.perm;have h2:=h.txt;rw [List.drop_eq_nil_of_le hk] at h1;rw [if_pos rfl,List.drop_eq_nil_of_le (show L.length≤k by rw [<-hZ]; simpa using hk)] at h2;exact ⟨by simpa using h1,by simpa using h2⟩
theorem PutW.endF (h:PutW v L Z Zo Y k false) (hk:Z.length≤k) (hZ:Z.map Prod.snd=L) (r:Value):(Zo++[(r,v)]).Perm ((r,v)::Y)∧(Zo++[(r,v)]).map Prod.snd=putE v L:=by
 have h1:=h.perm;have h2:=h.txt;rw [List.drop_eq_nil_of_le hk,List.append_nil] at h1;rw [if_neg (by simp),List.drop_eq_nil_of_le (show L.length≤k by rw [<-hZ]; simpa using hk)] at h2;exact ⟨List.perm_append_comm.trans (h1.cons _),by simpa [putE] using h2⟩
end
def zLE (F:Nat→Prop) (v:List Int) (L:List (List Int)) (w:World) (e:Ending) (w':World):Prop:=∃r,e=.returned r∧HSx F w w' [aF r (putE v L)]
theorem zPM {F S':Nat→Prop} {vl vv:Value} {L:List (List Int)} {v:List Int} {w:World} (h:FII F w vl L) (hF:∀b,F b→b<w.heap.size) (h':RI S' w vv v) (hll:∀x∈L,x.length≤16777216) (hl:L.length≤1048576) (hv:v.length≤16777216) :
  Calls Tryz.prog 80 #[vl,vv] w (zLE F v L w):=by
 have HRES:Hid (zLE F v L w=fun e w'=>∃r,e=.returned r∧HSx F w w' [aF r (putE v L)]):=zTD rfl;obtain ⟨Z,hZ,hs⟩:=(HSx.start (st_F vl L) h hF).openF 0 rfl;have hs:HSx F w w [aV 29 vl (Z.map Prod.fst),aRs Z]:=hs;have hlz:(Z.map Prod.fst).length=Z.length:=by simp
 obtain ⟨av,cv,rfl⟩:=h'.form;generalize hvn:v.length=nv at *;have HVN:=zTD hvn;clear hvn;have HZ:=zTD hZ;have HN:Hid (∀z∈Z,z.2.length≤16777216):=zTD (fun z hz=>hll z.2 (by rw [<-hZ]; exact List.mem_map_of_mem hz));have hzl:Z.length≤1048576:=by
  have:(Z.map Prod.snd).length=L.length:=by rw [hZ]
  simp at this; omega
 have HI0:Hid (PutW v L Z [] Z 0 false):=zTD (PutW.start hZ);have mixed:Tryz.prog.follows .mixedOrders=true:=by kernel_rfl
 obtain ⟨⟨a,cap,rfl⟩,hhead⟩:=hs.formV 0 rfl;rw [hlz] at hs hhead ⊢;generalize hn:Z.length=n at *;have HZL:=zTD hn;have HH:=zTD hhead;clear hn hZ hlz h hF hll hl hhead;go_enter Tryz.func80,Tryz.ntmps80
 go_wp2_with fail
 obtain ⟨w1,hw1⟩:∃w1,w1=w.alloc (.cells #[] 29):=⟨_,rfl⟩;have hs1:=zAj hs hw1;have hs1:HSx F w w1 [aV 29 (.slice a n cap) (Z.map Prod.fst),aRs Z,aV 29 (.slice (some ⟨w.heap.size,0,none⟩) 0 0) (([]:Zl).map Prod.fst)]:=hs1;have HO0:Hid (∀b,(Value.slice (some ⟨w.heap.size,0,none⟩) 0 0).ownBlock=some b→w.heap.size≤b):=zTD (fun b hb=>by simp [Value.ownBlock] at hb; omega);rw [<-hw1];clear hw1 hs;go_wp2_with fail
 go_loopw [5,6,7] (fun oo pp ii wr=>∃(k:Nat) (vo:Value) (pl:Bool) (Zo Y:Zl),vo=oo∧k≤n∧ii=.int .i64 k∧pp=.bool pl∧HSx F w wr [aV 29 (.slice a n cap) (Z.map Prod.fst),aRs Y,aV 29 vo (Zo.map Prod.fst)]∧Hid (PutW v L Z Zo Y k pl)∧Hid (∀b,vo.ownBlock=some b→w.heap.size≤b)) (fun _ _ ii _=>n-(intOf ii).toNat)
 case atStart=>exact ⟨0,_,false,[],Z,rfl,Nat.zero_le _,rfl,rfl,hs1,HI0,HO0⟩
 case round =>
  clear hs1;obtain ⟨k,vo,pl,Zo,Y,rfl,hk,rfl,rfl,hs,HI,HO⟩:=hrel;by_cases hkn:k<n
  ·have i1:(k:Int)<(n:Int):=by omega
   obtain ⟨z,hz⟩:∃z,Z[k]? = some z:=⟨Z[k]'(by rw [HZL.out]; exact hkn),zTE _⟩;obtain ⟨g,rfl⟩:∃g,a=some ⟨g,0,none⟩:=by
    obtain ⟨g,c9,e⟩:=HH.out (by omega);simp only [Value.slice.injEq] at e;exact ⟨g,e.1⟩
   have hcz:=(hs.cellV 0 rfl (j:=k) (r:=z.1) (by simp [hz])).1;have hrz:=hs.rowS 1 rfl (HI.out.mem hz);have hzn:=HN.out z (zTF hz);have HZK:=zTD hz;obtain ⟨rz,lz⟩:=z;have hrz:RI _ wr rz lz:=hrz;have hcz:wr.cell? ⟨g,k,none⟩=some rz:=hcz;have hzn:lz.length≤16777216:=hzn;obtain ⟨az,cz,rfl⟩:=hrz.form;generalize hln:lz.length=nz at *;have HLN:=zTD hln;clear hln;have hv2:=RI.below h' hs.bl;obtain ⟨cm,hcm⟩:∃cm,cm=cmpW v lz:=⟨_,rfl⟩;have HCM:=zTD hcm;clear hz hcm;go_wp2_with fail
   refine (zDS hv2 hrz (by rw [HVN.out]; exact hv) (by rw [HLN.out]; exact hzn)).mono ?_;rintro e w8 ⟨rfl,m8,rfl⟩;rw [<-HCM.out];have hs:=hs.drewN m8;have hcz:=(hs.cellV 0 rfl (j:=k) (r:=.slice az nz cz) (by simp [HZK.out])).1;have hrz:=hs.rowS 1 rfl (HI.out.mem HZK.out);have hrz:RI _ _ (.slice az nz cz) lz:=hrz;have hv2:=hv2.drewN m8;generalize wr.drewN m8=w9 at *;have HZol:Hid ((Zo.map Prod.fst).length+1≤67108864):=zTD (by have:=HI.out.len; have:pl.toNat≤1:=Bool.toNat_le pl; simp; omega);have honez:(Value.slice az nz cz).oneCell'=true:=oneC hrz;by_cases c0:cm=0
   ·have j2:(cm == 0)=true:=by simp [c0]
    have j1:¬cm<0:=by omega
    have HI2:Hid (PutW v L Z Zo Y k true):=zTD (HI.out.found HZ.out HZK.out (zCR.1 (HCM.out.symm.trans c0)).symm);clear c0;obtain ⟨w5,hw5⟩:∃w5,w5=(w9).alloc (.cells #[.slice az nz cz] 29):=⟨_,rfl⟩;have hs5:=hs.alloc (.cells #[.slice az nz cz] 29);rw [<-hw5] at hs5;have hc5:w5.cell? ⟨(w9).heap.size,0,none⟩=some (.slice az nz cz):=by rw [hw5]; go_simp
    have HW:=zTD hw5;have HST:=zTD (HI2.out.step HZ.out HZK.out);clear hw5 hs;go_wp2_with (at_builtin; go_must (rw [<-HW.out]; refine zAH rfl _ _ rfl rfl hs5 2 rfl HO.out rfl hc5 honez HZol.out ?_))
    intro v6 w6 hs6 hn6;have hs6:HSx F w w6 [aV 29 (.slice (some ⟨g,0,none⟩) n cap) (Z.map Prod.fst),aRs Y,aV 29 v6 ((Zo++[(Value.slice az nz cz,lz)]).map Prod.fst)]:=by
     have e:(Zo++[(Value.slice az nz cz,lz)]).map Prod.fst=Zo.map Prod.fst++[Value.slice az nz cz]:=by simp
     rw [e]; exact hs6
    have HI3:Hid (PutW v L Z (Zo++[(Value.slice az nz cz,lz)]) Y (k+1) true):=zTD ⟨HST.out.1,HST.out.2,by have:=HI2.out.len; simp at *; omega⟩;have HO3:=zTD hn6;clear hs5;go_wp2_with fail
    go_roundw
    case rel=>exact ⟨k+1,v6,true,_,_,rfl,by omega,by go_num,rfl,hs6,HI3,HO3⟩
    case measure=>simp [intOf]; omega
   ·have HNE:Hid (lz≠v):=zTD (fun e=>c0 (HCM.out.trans (zCR.2 e.symm)));have j2:(cm == 0)=false:=by simp [c0]
    clear c0;by_cases c1:cm<0
    ·have HG:Hid (cmpW v lz<0):=zTD (by rw [<-HCM.out]; exact c1);cases pl with
     | true =>
      obtain ⟨w5,hw5⟩:∃w5,w5=(w9).alloc (.cells #[.slice az nz cz] 29):=⟨_,rfl⟩;have hs5:=hs.alloc (.cells #[.slice az nz cz] 29);rw [<-hw5] at hs5;have hc5:w5.cell? ⟨(w9).heap.size,0,none⟩=some (.slice az nz cz):=by rw [hw5]; go_simp
      have HW:=zTD hw5;have HST:=zTD (HI.out.step HZ.out HZK.out);clear hw5 hs;go_wp2_with (at_builtin; go_must (rw [<-HW.out]; refine zAH rfl _ _ rfl rfl hs5 2 rfl HO.out rfl hc5 honez HZol.out ?_))
      intro v6 w6 hs6 hn6;have hs6:HSx F w w6 [aV 29 (.slice (some ⟨g,0,none⟩) n cap) (Z.map Prod.fst),aRs Y,aV 29 v6 ((Zo++[(Value.slice az nz cz,lz)]).map Prod.fst)]:=by
       have e:(Zo++[(Value.slice az nz cz,lz)]).map Prod.fst=Zo.map Prod.fst++[Value.slice az nz cz]:=by simp
       rw [e]; exact hs6
      have HI3:Hid (PutW v L Z (Zo++[(Value.slice az nz cz,lz)]) Y (k+1) true):=zTD ⟨HST.out.1,HST.out.2,by have:=HI.out.len; simp at *; omega⟩;have HO3:=zTD hn6;clear hs5;go_wp2_with fail
      go_roundw
      case rel=>exact ⟨k+1,v6,true,_,_,rfl,by omega,by go_num,rfl,hs6,HI3,HO3⟩
      case measure=>simp [intOf]; omega
     | false =>
      go_wp2_with (at_builtin; go_must (refine zAL (W:=w9) rfl _ _ rfl rfl (FI.fresh0 w9) zAm rfl (hv2.below zAm) ?_ ?_))
      ·first | (simp; omega) | omega | (have:=HVN.out; simp; omega)
      ·intro vn wn fn bn _;have fn:FI _ wn vn v:=fn;obtain ⟨an,cn,en⟩:=fn.form;rw [HVN.out] at en;subst en;have hsn:=hs.addI bn fn;have hsn:HSx F w wn [aV 29 (.slice (some ⟨g,0,none⟩) n cap) (Z.map Prod.fst),aRs Y,aV 29 vo (Zo.map Prod.fst),aI (.slice an nv cn) v]:=hsn;obtain ⟨wm,hwm⟩:∃wm,wm=wn.alloc (.cells #[.slice an nv cn] 29):=⟨_,rfl⟩;have hsm:=hsn.alloc (.cells #[.slice an nv cn] 29);rw [<-hwm] at hsm;have hcm:wm.cell? ⟨wn.heap.size,0,none⟩=some (.slice an nv cn):=by rw [hwm]; go_simp
       have HWm:=zTD hwm;have honen:(Value.slice an nv cn).oneCell'=true:=oneC fn.reads;clear hwm hsn hs fn bn;go_wp2_with (at_builtin; go_must (rw [<-HWm.out]; refine zAH rfl _ _ rfl rfl hsm 2 rfl HO.out rfl hcm honen HZol.out ?_))
       intro vi wi hsi hni;have hsj:=(hsi.moreS 1 3 (by decide) rfl rfl (List.Perm.refl _)).pick [0,1,2] (by decide);have hs:HSx F w wi [aV 29 (.slice (some ⟨g,0,none⟩) n cap) (Z.map Prod.fst),aRs ((Value.slice an nv cn,v)::Y),aV 29 vi ((Zo++[(Value.slice an nv cn,v)]).map Prod.fst)]:=by
        have e:(Zo++[(Value.slice an nv cn,v)]).map Prod.fst=Zo.map Prod.fst++[Value.slice an nv cn]:=by simp
        rw [e]; exact hsj
       have HI2:=zTD (HI.out.ins HZ.out HZK.out HNE.out HG.out (.slice an nv cn));have hcz:=(hs.cellV 0 rfl (j:=k) (r:=.slice az nz cz) (by simp [HZK.out])).1;have HO2:=zTD hni;have HL2:=zTD HI.out.len;have HZo2:Hid (((Zo++[(Value.slice an nv cn,v)]).map Prod.fst).length+1≤67108864):=zTD (by have:=HI.out.len; simp at *; omega);clear hsi hsj hsm hcm honen;obtain ⟨w5,hw5⟩:∃w5,w5=(wi).alloc (.cells #[.slice az nz cz] 29):=⟨_,rfl⟩;have hs5:=hs.alloc (.cells #[.slice az nz cz] 29);rw [<-hw5] at hs5;have hc5:w5.cell? ⟨(wi).heap.size,0,none⟩=some (.slice az nz cz):=by rw [hw5]; go_simp
       have HW:=zTD hw5;have HST:=zTD (zMY HI2.out.1 HI2.out.2 HZ.out HZK.out);clear hw5 hs;go_wp2_with (at_builtin; go_must (rw [<-HW.out]; refine zAH rfl _ _ rfl rfl hs5 2 rfl HO2.out rfl hc5 honez HZo2.out ?_))
       intro v6 w6 hs6 hn6;have hs6:HSx F w w6 [aV 29 (.slice (some ⟨g,0,none⟩) n cap) (Z.map Prod.fst),aRs ((Value.slice an nv cn,v)::Y),aV 29 v6 (((Zo++[(Value.slice an nv cn,v)])++[(Value.slice az nz cz,lz)]).map Prod.fst)]:=by
        have e:((Zo++[(Value.slice an nv cn,v)])++[(Value.slice az nz cz,lz)]).map Prod.fst=Zo.map Prod.fst++[Value.slice an nv cn,Value.slice az nz cz]:=by simp
        rw [e]; exact hs6
       have HI3:Hid (PutW v L Z ((Zo++[(Value.slice an nv cn,v)])++[(Value.slice az nz cz,lz)]) ((Value.slice an nv cn,v)::Y) (k+1) true):=zTD ⟨HST.out.1,HST.out.2,by have:=HL2.out; simp at *; omega⟩;have HO3:=zTD hn6;clear hs5;go_wp2_with fail
       go_roundw
       case rel=>exact ⟨k+1,v6,true,_,_,rfl,by omega,by go_num,rfl,hs6,HI3,HO3⟩
       case measure=>simp [intOf]; omega
    ·have HG:Hid (¬cmpW v lz<0):=zTD (by rw [<-HCM.out]; exact c1);cases pl with
     | true =>
      obtain ⟨w5,hw5⟩:∃w5,w5=(w9).alloc (.cells #[.slice az nz cz] 29):=⟨_,rfl⟩;have hs5:=hs.alloc (.cells #[.slice az nz cz] 29);rw [<-hw5] at hs5;have hc5:w5.cell? ⟨(w9).heap.size,0,none⟩=some (.slice az nz cz):=by rw [hw5]; go_simp
      have HW:=zTD hw5;have HST:=zTD (HI.out.step HZ.out HZK.out);clear hw5 hs;go_wp2_with (at_builtin; go_must (rw [<-HW.out]; refine zAH rfl _ _ rfl rfl hs5 2 rfl HO.out rfl hc5 honez HZol.out ?_))
      intro v6 w6 hs6 hn6;have hs6:HSx F w w6 [aV 29 (.slice (some ⟨g,0,none⟩) n cap) (Z.map Prod.fst),aRs Y,aV 29 v6 ((Zo++[(Value.slice az nz cz,lz)]).map Prod.fst)]:=by
       have e:(Zo++[(Value.slice az nz cz,lz)]).map Prod.fst=Zo.map Prod.fst++[Value.slice az nz cz]:=by simp
       rw [e]; exact hs6
      have HI3:Hid (PutW v L Z (Zo++[(Value.slice az nz cz,lz)]) Y (k+1) true):=zTD ⟨HST.out.1,HST.out.2,by have:=HI.out.len; simp at *; omega⟩;have HO3:=zTD hn6;clear hs5;go_wp2_with fail
      go_roundw
      case rel=>exact ⟨k+1,v6,true,_,_,rfl,by omega,by go_num,rfl,hs6,HI3,HO3⟩
      case measure=>simp [intOf]; omega
     | false =>
      obtain ⟨w5,hw5⟩:∃w5,w5=(w9).alloc (.cells #[.slice az nz cz] 29):=⟨_,rfl⟩;have hs5:=hs.alloc (.cells #[.slice az nz cz] 29);rw [<-hw5] at hs5;have hc5:w5.cell? ⟨(w9).heap.size,0,none⟩=some (.slice az nz cz):=by rw [hw5]; go_simp
      have HW:=zTD hw5;have HST:=zTD (HI.out.stepF HZ.out HZK.out HNE.out HG.out);clear hw5 hs;go_wp2_with (at_builtin; go_must (rw [<-HW.out]; refine zAH rfl _ _ rfl rfl hs5 2 rfl HO.out rfl hc5 honez HZol.out ?_))
      intro v6 w6 hs6 hn6;have hs6:HSx F w w6 [aV 29 (.slice (some ⟨g,0,none⟩) n cap) (Z.map Prod.fst),aRs Y,aV 29 v6 ((Zo++[(Value.slice az nz cz,lz)]).map Prod.fst)]:=by
       have e:(Zo++[(Value.slice az nz cz,lz)]).map Prod.fst=Zo.map Prod.fst++[Value.slice az nz cz]:=by simp
       rw [e]; exact hs6
      have HI3:Hid (PutW v L Z (Zo++[(Value.slice az nz cz,lz)]) Y (k+1) false):=zTD ⟨HST.out.1,HST.out.2,by have:=HI.out.len; simp at *; omega⟩;have HO3:=zTD hn6;clear hs5;go_wp2_with fail
      go_roundw
      case rel=>exact ⟨k+1,v6,false,_,_,rfl,by omega,by go_num,rfl,hs6,HI3,HO3⟩
      case measure=>simp [intOf]; omega
  ·have i1:¬(k:Int)<(n:Int):=by omega
   have hkz:Z.length≤k:=by rw [HZL.out]; omega
   have HKZ:=zTD hkz;have hv2:=RI.below h' hs.bl;clear hkz;cases pl with
   | true =>
    obtain ⟨e1,e2⟩:=HI.out.endT HKZ.out HZ.out;have hs2:=((((hs.permS 1 rfl e1).pick [2,1] (by decide)).shutF (Z:=Zo) (v:=vo) 0 1 (by decide) rfl rfl).pick [0] (by decide));have hs3:HSx F w wr [aF vo (Zo.map Prod.snd)]:=hs2;rw [e2] at hs3;clear hs hs2 e1 e2;go_wp2_with fail
    go_ret
    rw [HRES.out];exact ⟨_,rfl,hs3⟩
   | false =>
    have HZol:Hid ((Zo.map Prod.fst).length+1≤67108864):=zTD (by have:=HI.out.len; simp at *; omega);go_wp2_with (at_builtin; go_must (refine zAL (W:=wr) rfl _ _ rfl rfl (FI.fresh0 wr) zAm rfl (hv2.below zAm) ?_ ?_))
    ·first | (simp; omega) | omega | (have:=HVN.out; simp; omega)
    ·intro vn wn fn bn _;have fn:FI _ wn vn v:=fn;obtain ⟨an,cn,en⟩:=fn.form;rw [HVN.out] at en;subst en;have hsn:=hs.addI bn fn;have hsn:HSx F w wn [aV 29 (.slice a n cap) (Z.map Prod.fst),aRs Y,aV 29 vo (Zo.map Prod.fst),aI (.slice an nv cn) v]:=hsn;obtain ⟨wm,hwm⟩:∃wm,wm=wn.alloc (.cells #[.slice an nv cn] 29):=⟨_,rfl⟩;have hsm:=hsn.alloc (.cells #[.slice an nv cn] 29);rw [<-hwm] at hsm;have hcm:wm.cell? ⟨wn.heap.size,0,none⟩=some (.slice an nv cn):=by rw [hwm]; go_simp
     have HWm:=zTD hwm;have honen:(Value.slice an nv cn).oneCell'=true:=oneC fn.reads;clear hwm hsn hs fn bn;go_wp2_with (at_builtin; go_must (rw [<-HWm.out]; refine zAH rfl _ _ rfl rfl hsm 2 rfl HO.out rfl hcm honen HZol.out ?_))
     intro vi wi hsi hni;obtain ⟨e1,e2⟩:=HI.out.endF HKZ.out HZ.out (.slice an nv cn);have hsj:=(hsi.moreS 1 3 (by decide) rfl rfl e1).pick [2,1] (by decide);have hsk:HSx F w wi [aV 29 vi ((Zo++[(Value.slice an nv cn,v)]).map Prod.fst),aRs (Zo++[(Value.slice an nv cn,v)])]:=by
      have e:(Zo++[(Value.slice an nv cn,v)]).map Prod.fst=Zo.map Prod.fst++[Value.slice an nv cn]:=by simp
      rw [e]; exact hsj
     have hs2:=(hsk.shutF 0 1 (by decide) rfl rfl).pick [0] (by decide);have hs3:HSx F w wi [aF vi ((Zo++[(Value.slice an nv cn,v)]).map Prod.snd)]:=hs2;rw [e2] at hs3;clear hsi hsj hsk hs2 e1 e2 hsm;go_wp2_with fail
     go_ret
     rw [HRES.out];exact ⟨_,rfl,hs3⟩
end Go.Proofs.YtlgcdacpjcnjgaaGreatDoor
