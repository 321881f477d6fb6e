/- The R-polynomials of all elements below a word, by the reference. Condition: sizes up to 2^24. -/
import Derived.Test.YtlchafedbnihoaaGreatJGLow
import Derived.Test.YtlchafedbnihoaaGreatJGRpF
import Derived.Test.YtlchafedbnihoaaGreatJGAdd
namespace Go.Proofs.YtlchafedbnihoaaGreat
open Go.RowKit
set_option maxRecDepth 20000
set_option maxHeartbeats 8000000
def rtOk (c:List (List Int)) (l:List Int):Bool:=lwOk c l && decide ((zAB c l).length≤10)
def rtR (c:List (List Int)) (l:List Int):List (List Int):=if rtOk c l then (lwR c l).map (fun x=>rp c x l) else []
theorem zB8 {c:List (List Int)} {l:List Int} (h:lwOk c l=true):isWd c l=true:=by
 unfold lwOk lwQ at h;cases e:isWd c l with
 | true=>rfl
 | false=>rw [e] at h; cases h
theorem zB9 {c:List (List Int)} {l:List Int} (h:lwOk c l=true):(lwR c l).length≤200∧∀x∈lwR c l,Nf15 c x:=by
 have hw:=zB8 h;obtain ⟨h1,h2,h3⟩:=zAT hw;have hc:=zAY.1 h1;have hn:=(zBl hc h3 (by omega)).1;have h15:=zAj hc h3 (by omega);have hs:=zEI hc hn;unfold lwOk lwQ at h;rw [hw,if_pos rfl] at h;unfold lwR lwQ;rw [hw,if_pos rfl];cases e:lowS c (zAB c l) with
 | none=>rw [e] at h; cases h
 | some q =>
  rw [e] at hs;obtain ⟨a1,a2,a3⟩:=hs;have hm:=(zBs q).2;refine ⟨?_,fun x hx=>?_⟩
  ·have:=zHw (zBs q).1.nodup (m:=q) (fun x hx=>(hm x).1 hx);exact Nat.le_trans this a2
  ·have hb:=(a3 x).1 ((hm x).1 hx);exact ⟨hb.nf,by have:=hb.le hc hn.lets hn.le; omega⟩
theorem zKh {S S':Nat→Prop} {u v:Value} {c:List (List Int)} {l:List Int} {w:World} (h:RII S w u c) (h':RI S' w v l) (hl:total c≤16777216) (hl':l.length≤16777216) :
  Calls Tryz.prog 26 #[u,v] w fun e w'=>∃r,e=.returned (.tuple #[r,.bool (rtOk c l)])∧FII (New w w') w' r (rtR c l)∧Below w.heap.size w w':=by
 have mixed:Tryz.prog.follows .mixedOrders=true:=by kernel_rfl
 obtain ⟨w1,hw1⟩:∃w1,w1=w.alloc (.cells #[] 25):=⟨_,rfl⟩;have hs1:=zCm (HS.nil (Below.refl _ w)) hw1;have hs1:=hs1.add (Below.refl _ _) (zCf []) (F:=NoB) ⟨fun x hx=>by simp at hx,List.Pairwise.nil⟩ (fun b hb=>hb.elim);have hs1:HS w w1 [aV 25 (.slice (some ⟨w.heap.size,0,none⟩) 0 0) (([]:Zl).map Prod.fst),aRs []]:=hs1;have HW1:=zQY hw1;have hlow:=zHT (h.below hs1.bl) (h'.below hs1.bl) hl hl';clear hw1;cases hok:lwOk c l with
 | false =>
  have HO:Hid (rtOk c l=false):=zQY (by unfold rtOk; rw [hok]; rfl);have HR:Hid (rtR c l=[]):=zQY (by unfold rtR; rw [HO.out]; rfl);rw [hok] at hlow;clear hok;go_enter Tryz.func26,Tryz.ntmps26
  go_wp2_with fail
  rw [<-HW1.out];refine hlow.mono ?_;rintro e w2 ⟨r2,rfl,_,b2⟩;have hs2:=HSx.below hs1 b2;have hs3:HS w w2 [aF (.slice (some ⟨w.heap.size,0,none⟩) 0 0) []]:=((HSx.shutF hs2 (Z:=[]) (v:=.slice (some ⟨w.heap.size,0,none⟩) 0 0) 0 1 (by decide) rfl rfl).pick [0] (by decide));clear hlow hs1 hs2 b2;go_wp2_with fail
  go_ret2
  exact ⟨_,by rw [HO.out]; rfl,by rw [HR.out]; exact HS.F hs3 0 rfl,hs3.bl⟩
 | true =>
  have hwd:=zB8 hok;obtain ⟨h200,h15⟩:=zB9 hok;have hLN:=zQY (fun (wv:World) (hb:Below w.heap.size w wv)=>zBd (h.below hb) (h'.below hb) hwd hl hl');rw [hok] at hlow;by_cases hten:(zAB c l).length≤10
  ·have HO:Hid (rtOk c l=true):=zQY (by unfold rtOk; rw [hok,decide_eq_true hten]; rfl);have HR:Hid (rtR c l=(lwR c l).map (fun x=>rp c x l)):=zQY (by unfold rtR; rw [HO.out,if_pos rfl]);have i10:¬(10:Int)<((zAB c l).length:Int):=by omega
   have HRP:=zQY (fun (wv:World) (S9:Nat→Prop) (vv:Value) (x:List Int) (hb:Below w.heap.size w wv) (hx:RI S9 wv vv x) (hxl:x.length≤16777216)=>zCC (h.below hb) hx (h'.below hb) hl hxl hl');have HXL:=zQY (fun x (hx:x∈lwR c l)=>(h15 x hx).2);have HM0:Hid (([]:Zl).map Prod.snd=((lwR c l).take 0).map (fun x=>rp c x l)):=zQY rfl;clear hok hwd h15 hten h h';go_enter Tryz.func26,Tryz.ntmps26
   go_wp2_with fail
   rw [<-HW1.out];refine hlow.mono ?_;rintro e w2 ⟨r2,rfl,f2,b2⟩;have hs2:=HSx.addF hs1 b2 f2;obtain ⟨a2,c2,rfl⟩:=f2.read.form;have hln:=hLN.out w2 hs2.bl;clear hlow hs1 b2 f2;go_wp2_with fail
   refine hln.mono ?_;rintro e w3 ⟨rfl,b3⟩;have hs3:=HSx.below hs2 b3;have hs3:HS w w3 [aV 25 (.slice (some ⟨w.heap.size,0,none⟩) 0 0) (([]:Zl).map Prod.fst),aRs [],aF (.slice a2 (lwR c l).length c2) (lwR c l)]:=hs3;generalize (zAB c l).length=nn at *;generalize hm:(lwR c l).length=m at *;have HM:=zQY hm;generalize lwR c l=L at *;clear hln hs2 b3 hm hLN;go_wp2_with fail
   go_loopw [6,9] (fun oo kk wr=>∃(k:Nat) (vo:Value) (Z:Zl),vo=oo∧k≤m∧kk=.int .i64 k∧HS w wr [aV 25 vo (Z.map Prod.fst),aRs Z,aF (.slice a2 m c2) L]∧Hid (Z.map Prod.snd=(L.take k).map (fun x=>rp c x l))) (fun _ kk _=>m-(intOf kk).toNat)
   case atStart=>exact ⟨0,_,[],rfl,Nat.zero_le _,rfl,hs3,HM0⟩
   case round =>
    clear hs3 HM0;obtain ⟨k,vo,Z,rfl,hk,rfl,hs,HMZ⟩:=hrel;by_cases hkm:k<m
    ·have i1:(k:Int)<(m:Int):=by omega
     have i2:(0:Int)≤(k:Int):=by omega
     obtain ⟨b3,o3,r3,x,rfl,hc3,hr3,hx⟩:=RII.at (HS.F hs 2 rfl).read hkm;have hxl:=HXL.out x (zQa hx.out);have hcall:=HRP.out wr _ r3 x hs.bl hr3 (by omega);have HXX:=zQY hx.out;have HZL:Hid ((Z.map Prod.fst).length+1≤67108864):=zQY (by have:=congrArg List.length HMZ.out; simp at this; simp; omega);obtain ⟨a3,c3,rfl⟩:=hr3.form;clear hr3 hx hxl;go_wp2_with fail
     refine hcall.mono ?_;rintro e w4 ⟨r4,rfl,f4,b4⟩;obtain ⟨a4,c4,rfl⟩:=f4.form;have hone:(Value.slice a4 (rp c x l).length c4).oneCell'=true:=rfl;have hs4:=HSx.addI hs b4 f4;obtain ⟨w5,hw5⟩:∃w5,w5=w4.alloc (.cells #[.slice a4 (rp c x l).length c4] 25):=⟨_,rfl⟩;have hs5:HS w w5 [aV 25 vo (Z.map Prod.fst),aRs Z,aF (.slice (some ⟨b3,o3,none⟩) m c2) L,aI (.slice a4 (rp c x l).length c4) (rp c x l)]:=by rw [hw5]; exact HSx.alloc hs4 _
     have hc5:w5.cell? ⟨w4.heap.size,0,none⟩=some (.slice a4 (rp c x l).length c4):=by rw [hw5]; go_simp
     have HW5:=zQY hw5;have HNV:=zQY (HS.newV hs5 0 rfl);have HM2:Hid ((Z++[(Value.slice a4 (rp c x l).length c4,rp c x l)]).map Prod.snd=(L.take (k+1)).map (fun x=>rp c x l)):=zQY (by rw [List.map_append,HMZ.out,zAW HXX.out,List.map_append]; rfl);clear hcall hs hs4 hw5 b4 f4 hc3;generalize hrl:(rp c x l).length=nr at *;generalize rp c x l=R at *;clear hrl;go_wp2_with (at_builtin; go_must (rw [<-HW5.out]; refine zAh rfl _ _ rfl rfl hs5 0 rfl HNV.out rfl hc5 hone HZL.out ?_))
     intro v6 w6 hs6 _;have hs7:=(HSx.moreS hs6 1 3 (by decide) rfl rfl (Z':=Z++[(.slice a4 nr c4,R)]) (List.perm_append_singleton _ _)).pick [0,1,2] (by decide);have hs7:HS w w6 [aV 25 v6 ((Z++[(Value.slice a4 nr c4,R)]).map Prod.fst),aRs (Z++[(Value.slice a4 nr c4,R)]),aF (.slice (some ⟨b3,o3,none⟩) m c2) L]:=by
      have e:(Z++[(Value.slice a4 nr c4,R)]).map Prod.fst=Z.map Prod.fst++[Value.slice a4 nr c4]:=by simp
      rw [e]; exact hs7
     clear hs5 hs6;go_wp2_with fail
     go_roundw
     case rel=>exact ⟨k+1,_,_,rfl,by omega,by go_num,hs7,HM2⟩
     case measure=>simp [intOf]; omega
    ·have i1:¬(k:Int)<(m:Int):=by omega
     have e:L.take k=L:=List.take_of_length_le (by rw [HM.out]; omega);have hs7:HS w wr [aF vo (Z.map Prod.snd)]:=((HSx.shutF hs (Z:=Z) (v:=vo) 0 1 (by decide) rfl rfl).pick [0] (by decide));rw [HMZ.out,e,<-HR.out] at hs7;clear hs e;go_wp2_with fail
     go_ret2
     exact ⟨_,by rw [HO.out]; rfl,HS.F hs7 0 rfl,hs7.bl⟩
  ·have HO:Hid (rtOk c l=false):=zQY (by unfold rtOk; rw [hok,decide_eq_false hten]; rfl);have HR:Hid (rtR c l=[]):=zQY (by unfold rtR; rw [HO.out]; rfl);have i10:(10:Int)<((zAB c l).length:Int):=by omega
   clear hok hwd h15 hten h200;go_enter Tryz.func26,Tryz.ntmps26
   go_wp2_with fail
   rw [<-HW1.out];refine hlow.mono ?_;rintro e w2 ⟨r2,rfl,_,b2⟩;have hs2:=HSx.below hs1 b2;have hln:=hLN.out w2 hs2.bl;clear hlow hs1 b2;go_wp2_with fail
   refine hln.mono ?_;rintro e w3 ⟨rfl,b3⟩;have hs3:=HSx.below hs2 b3;have hs4:HS w w3 [aF (.slice (some ⟨w.heap.size,0,none⟩) 0 0) []]:=((HSx.shutF hs3 (Z:=[]) (v:=.slice (some ⟨w.heap.size,0,none⟩) 0 0) 0 1 (by decide) rfl rfl).pick [0] (by decide));generalize (zAB c l).length=nn at *;clear hln hs2 hs3 b3;go_wp2_with fail
   go_ret2
   exact ⟨_,by rw [HO.out]; rfl,by rw [HR.out]; exact HS.F hs4 0 rfl,hs4.bl⟩
theorem zMP (c:List (List Int)):∀(v mu:List Int),Trd (rI c mu v)
 | [],mu=>by
  rw [zFF];split
  ·exact .inr (by simp [num])
  ·exact .inl rfl
 | i::v,mu=>by
  unfold rI;split
  ·exact zMP c v _
  ·exact zDm _ _
theorem zDy (c:List (List Int)) (u v:List Int):(rp c u v).length≤11∧Trd (rp c u v)∧InI (rp c u v):=by
 refine ⟨zFa c u v,?_⟩;unfold rp;split
 ·exact ⟨zMP c _ _,zHx c _ _⟩
 ·exact ⟨.inl rfl,fun x hx=>by simp at hx⟩
def ibP (c:List (List Int)) (l x:List Int):List Int:=if (zAB c l).length % 2=x.length % 2 then rp c x l else subP [] (rp c x l)
theorem zPg (c:List (List Int)) (l x:List Int):(ibP c l x).length≤11∧Trd (ibP c l x)∧InI (ibP c l x):=by
 have h:=zDy c x l;unfold ibP;split
 ·exact h
 ·have:=zDC [] (rp c x l);exact ⟨by simp at this; omega,zDm _ _,zFd _ _⟩
def ibT (c:List (List Int)) (l:List Int) (L:List (List Int)):List Trm:=L.map fun x=>(x,ibP c l x)
def ibB (c:List (List Int)) (l:List Int):Bool:=rtOk c l && isHk c (puts (ibT c l (lwR c l)))
def ibR (c:List (List Int)) (l:List Int):List Trm:=if rtOk c l then gd c (puts (ibT c l (lwR c l))) else []
theorem zGM {c:List (List Int)} {l:List Int} {L:List (List Int)} (h:∀x∈L,Nf15 c x):∀t∈ibT c l L,t.1.length≤15∧t.2.length≤11∧Trd t.2∧InI t.2:=fun t ht=>by
 obtain ⟨x,hx,rfl⟩:=List.mem_map.1 ht;exact ⟨(h x hx).2,zPg c l x⟩
theorem zIP {c:List (List Int)} {l:List Int} {L:List (List Int)} {k:Nat} {x:List Int} (h:L[k]? = some x):(ibT c l L)[k]? = some (x,ibP c l x)∧ibT c l (L.take (k+1))=ibT c l (L.take k)++[(x,ibP c l x)]:=by
 unfold ibT;exact ⟨by rw [List.getElem?_map,h]; rfl,by rw [zAW h,List.map_append]; rfl⟩
theorem zLQ (c:List (List Int)) (l:List Int):zAI (ibR c l)≤4680:=by
 unfold ibR;split
 ·unfold gd;split
  ·rename_i h
   have:=(zAZ h).total;omega
  ·simp [zAI,zAK]
 ·simp [zAI,zAK]
theorem zPq {c:List (List Int)} {l:List Int} (h:lwOk c l=true):∀x∈lwR c l,x.length≤(zAB c l).length:=by
 have hw:=zB8 h;obtain ⟨h1,h2,h3⟩:=zAT hw;have hc:=zAY.1 h1;have hn:=(zBl hc h3 (by omega)).1;have hs:=zEI hc hn;unfold lwOk lwQ at h;rw [hw,if_pos rfl] at h;unfold lwR lwQ;rw [hw,if_pos rfl];cases e:lowS c (zAB c l) with
 | none=>rw [e] at h; cases h
 | some q =>
  rw [e] at hs;obtain ⟨a1,a2,a3⟩:=hs;have hm:=(zBs q).2;exact fun x hx=>((a3 x).1 ((hm x).1 hx)).le hc hn.lets hn.le
theorem zM9 {c:List (List Int)} {l:List Int} (hw:isWd c l=true):l.length % 2=(zAB c l).length % 2:=by
 obtain ⟨h1,h2,h3⟩:=zAT hw;have hc:=zAY.1 h1;have him:=zAV hc h3 (show l.length≤30 by omega);have:=Im.parity hc (zNd hc him (by omega)) him;have e:nf c 30 (zAC c l)=zAB c l:=rfl;rw [e] at this;omega
theorem RI.nil0 (w:World):RI Any w (.slice none 0 0) []:=(FI.empty w w).any
theorem zHm {S S':Nat→Prop} {u v:Value} {c:List (List Int)} {l:List Int} {w:World} (h:RII S w u c) (h':RI S' w v l) (hw:isWd c l=false) (hl:total c≤16777216) (hl':l.length≤16777216) :
  Calls Tryz.prog 9 #[u,v] w fun e w'=>e=.returned (.int .i64 (-1))∧Below w.heap.size w w':=by
 have HW:=zQY hw;clear hw;go_enter Tryz.func9,Tryz.ntmps9
 go_wp2_with fail
 refine (zBZ h h' hl hl').mono ?_;rintro e w1 ⟨r1,rfl,f1,b1⟩;rw [HW.out];obtain ⟨a1,c1,rfl⟩:=f1.reads.form;go_wp2_with fail
 go_ret
 exact ⟨rfl,b1⟩
def sgn (n:Nat):Int:=if n % 2=0 then 1 else -1
theorem zI6 {S:Nat→Prop} {v:Value} {l:List Int} {w:World} (h:RI S w v l) (hl:l.length≤16777216) :
  Calls Tryz.prog 46 #[v] w fun e w'=>e=.returned (.int .i64 (sgn l.length))∧∃m,w'=w.drewN m:=by
 obtain ⟨a,cap,rfl⟩:=h.form;generalize l.length=n at *;have hmod:(n:Int) % 2=((n % 2:Nat):Int):=by omega
 go_enter Tryz.func46,Tryz.ntmps46
 by_cases h2:n % 2=0
 ·have e0:sgn n=1:=by unfold sgn; rw [if_pos h2]
  have i1:((n:Int) % 2 == 0)=true:=by rw [hmod,h2]; rfl
  rw [e0];clear hmod h2 e0;go_wp2_with fail
  go_ret
  exact ⟨rfl,dr0⟩
 ·have e0:sgn n = -1:=by unfold sgn; rw [if_neg h2]
  have i1:((n:Int) % 2 == 0)=false:=by rw [hmod,show n % 2=1 by omega]; rfl
  rw [e0];clear hmod h2 e0;go_wp2_with fail
  go_ret
  exact ⟨rfl,dr0⟩
theorem zOM {S S':Nat→Prop} {u v:Value} {c:List (List Int)} {l:List Int} {w:World} (h:RII S w u c) (h':RI S' w v l) (hl:total c≤16777216) (hl':l.length≤16777216) :
  Calls Tryz.prog 18 #[u,v] w fun e w'=>∃r,e=.returned (.tuple #[r,.bool (ibB c l)])∧FT (New w w') w' r (ibR c l)∧Below w.heap.size w w':=by
 have mixed:Tryz.prog.follows .mixedOrders=true:=by kernel_rfl
 obtain ⟨w1,hw1⟩:∃w1,w1=w.alloc (.cells #[] 62):=⟨_,rfl⟩;have f1:FT (New w w1) w1 (.slice (some ⟨w.heap.size,0,none⟩) 0 0) []:=by rw [hw1]; exact FT.none0 (Below.refl _ w)
 have b1:Below w.heap.size w w1:=by rw [hw1]; exact (Below.refl _ w).alloc (zQd _) _
 have HW1:=zQY hw1;have hlow:=zHT (h.below b1) (h'.below b1) hl hl';clear hw1;cases hok:lwOk c l with
 | false =>
  have HO:Hid (ibB c l=false):=zQY (by unfold ibB rtOk; rw [hok]; rfl);have HR:Hid (ibR c l=[]):=zQY (by unfold ibR rtOk; rw [hok]; rfl);rw [hok] at hlow;have HLN:Hid (∀w2,Below w.heap.size w w2→∃q:Int,Calls Tryz.prog 9 #[u,v] w2 fun e w'=>e=.returned (.int .i64 q)∧Below w2.heap.size w2 w'):=zQY (fun w2 hb=>by
   cases hwd:isWd c l
   ·exact ⟨_,zHm (h.below hb) (h'.below hb) hwd hl hl'⟩
   ·exact ⟨_,zBd (h.below hb) (h'.below hb) hwd hl hl'⟩)
  clear hok;go_enter Tryz.func18,Tryz.ntmps18
  go_wp2_with fail
  rw [<-HW1.out];refine hlow.mono ?_;rintro e w2 ⟨r2,rfl,_,b2⟩;have hb2:=zAA.step b1 b2;have hf2:=FC.grow f1 b2;obtain ⟨q,hq⟩:=HLN.out w2 hb2;clear hlow HLN;go_wp2_with fail
  refine hq.mono ?_;rintro e w3 ⟨rfl,b3⟩;have hb3:=zAA.step hb2 b3;have hf3:=FC.grow hf2 b3;clear hq;go_wp2_with fail
  go_ret2
  exact ⟨_,by rw [HO.out]; rfl,by rw [HR.out]; exact hf3,hb3⟩
 | true =>
  have hwd:=zB8 hok;obtain ⟨h200,h15⟩:=zB9 hok;have hlen:=zPq hok;have hLN:=zQY (fun (wv:World) (hb:Below w.heap.size w wv)=>zBd (h.below hb) (h'.below hb) hwd hl hl');rw [hok] at hlow;by_cases hten:(zAB c l).length≤10
  ·have hrt:rtOk c l=true:=by unfold rtOk; rw [hok,decide_eq_true hten]; rfl
   have HO:Hid (ibB c l=isHk c (puts (ibT c l (lwR c l)))):=zQY (by unfold ibB; rw [hrt]; rfl);have HR:Hid (ibR c l=gd c (puts (ibT c l (lwR c l)))):=zQY (by unfold ibR; rw [hrt]; rfl);have i10:¬(10:Int)<((zAB c l).length:Int):=by omega
   have HRP:=zQY (fun (wv:World) (S9:Nat→Prop) (vv:Value) (x:List Int) (hb:Below w.heap.size w wv) (hx:RI S9 wv vv x) (hxl:x.length≤16777216)=>zCC (h.below hb) hx (h'.below hb) hl hxl hl');have HXL:=zQY (fun x (hx:x∈lwR c l)=>(⟨(h15 x hx).2,hlen x hx⟩:x.length≤15∧x.length≤(zAB c l).length));have hTok:=zGM (l:=l) h15;have HP:=zQY (zNk (D:=ibT c l (lwR c l)) (by unfold ibT; rw [List.length_map]; omega) (fun t ht=>by
    have h1:=hTok t ht;exact ⟨by omega,by omega,h1.2.2⟩))
   have HTOT:Hid (zAI (puts (ibT c l (lwR c l)))≤16777216):=zQY (by
    have h2:=(zC4 (L:=ibT c l (lwR c l)) (n:=200) (by unfold ibT; rw [List.length_map]; omega) (fun t ht=>by have:=hTok t ht; exact ⟨by omega,by omega⟩)).2.2;omega)
   have HST:=zQY (fun (k:Nat) (x:List Int) (hx:(lwR c l)[k]? = some x)=>(zIP (c:=c) (l:=l) hx).1);have H0:Hid (puts ((ibT c l (lwR c l)).take 0)=[]):=zQY rfl;have HE:Hid ((ibT c l (lwR c l)).take (lwR c l).length=ibT c l (lwR c l)):=zQY (List.take_of_length_le (by unfold ibT; rw [List.length_map]; exact zQd _));have HPB:=zQY (fun x=>zDy c x l);have HIB:Hid (∀x,ibP c l x=if (zAB c l).length % 2=x.length % 2 then rp c x l else subP [] (rp c x l)):=zQY (fun x=>rfl);clear hok hwd h15 hten h' hTok hlen hrt;generalize ibT c l (lwR c l)=D at *;go_enter Tryz.func18,Tryz.ntmps18
   go_wp2_with fail
   rw [<-HW1.out];refine hlow.mono ?_;rintro e w2 ⟨r2,rfl,f2,b2⟩;have hb2:=zAA.step b1 b2;have hf2:=FC.grow f1 b2;have hln:=hLN.out w2 hb2;have hr2:=f2.read;obtain ⟨a2,c2,rfl⟩:=hr2.form;clear hlow f2 b2 hLN;go_wp2_with fail
   refine hln.mono ?_;rintro e w3 ⟨rfl,b3⟩;have hb3:=zAA.step hb2 b3;have hf3:=FC.grow hf2 b3;have hr3:=RII.any (hr2.below b3);generalize (zAB c l).length=nn at *;generalize hm:(lwR c l).length=m at *;have HM:=zQY hm;generalize lwR c l=L at *;rw [<-H0.out] at hf3;clear hln hr2 hf2 b3 hm b1 f1 hb2;go_wp2_with fail
   go_loopw [6,10] (fun oo kk wr=>∃(k:Nat) (vo:Value),vo=oo∧k≤m∧kk=.int .i64 k∧FT (New w wr) wr vo (puts (D.take k))∧RII Any wr (.slice a2 m c2) L∧Below w.heap.size w wr) (fun _ kk _=>m-(intOf kk).toNat)
   case atStart=>exact ⟨0,_,rfl,Nat.zero_le _,rfl,hf3,hr3,hb3⟩
   case round =>
    clear hf3 hr3 hb3;obtain ⟨k,vo,rfl,hk,rfl,hf,hr,hb⟩:=hrel;by_cases hkm:k<m
    ·have i1:(k:Int)<(m:Int):=by omega
     have i2:(0:Int)≤(k:Int):=by omega
     have hr0:=hr;obtain ⟨b3,o3,r3,x,rfl,hc3,hr3,hx⟩:=RII.at hr hkm;have hxl:=HXL.out x (zQa hx.out);have hcall:=HRP.out wr _ r3 x hb hr3 (by omega);have hD:=HST.out k x hx.out;have HS2:=zQY (HP.out.step k _ hD);obtain ⟨hx1,hx2,hx3⟩:=HP.out.elt k _ hD;have hL2:=HP.out.len k;have hL0:(puts (D.take k)).length≤1048576:=by omega
     obtain ⟨az2,cz2,e2,_⟩:=FC.form hf;subst e2;obtain ⟨a3,c3,rfl⟩:=hr3.form;have lb3:b3<wr.heap.size:=zQc _ _ hc3;clear hx hD;have hxn:x.length≤nn:=hxl.2;obtain ⟨d,hd⟩:∃d,nn=x.length+d:=⟨nn-x.length,by omega⟩;have hw1:∀y:Nat,y=x.length→((nn:Int)-(y:Int)).tmod 2=((d % 2:Nat):Int):=fun y hy=>by rw [hy,show (nn:Int)-(x.length:Int)=(d:Int) by omega]; exact (Int.ofNat_tmod d 2).symm
     generalize hxn2:x.length=xn at *;by_cases hpar:d % 2=0
     ·have i3:(((nn:Int)-(xn:Int)).tmod 2 == 1)=false:=by rw [hw1 xn rfl,hpar]; rfl
      have HI2:Hid (ibP c l x=rp c x l):=zQY (by rw [HIB.out x,if_pos (by omega)]);clear hpar hd hxl hxn hw1;go_wp2_with fail
      refine hcall.mono ?_;rintro e w4 ⟨r4,rfl,f4,b4⟩;obtain ⟨ay,cy,rfl⟩:=f4.reads.form;have hc4:=(b4.cell (p:=⟨b3,o3+k,none⟩) lb3).trans hc3;have hput:=zGw (hf.read.below b4) (hr3.below b4) f4.reads hL0 hL2.2 (by omega) (by have:=(HPB.out x).1; omega) (HPB.out x).2.2;rw [HI2.out] at HS2;rw [HS2.out] at hput;have hb4:=zAA.step hb b4;have hr4:=RII.below hr0 b4;clear hcall hc3 f4 hr0 hr hf hL2 hr3 b4 HS2 hx2 hx3;generalize (rp c x l).length=ny at *;go_wp2_with fail
      refine hput.mono ?_;rintro e w5 ⟨r5,rfl,f5,b5⟩;have hf6:FT (New w w5) w5 r5 (puts (D.take (k+1))):=f5.mono (fun b hb'=>⟨Nat.le_trans hb4.size hb'.1,hb'.2⟩);have hb6:=zAA.step hb4 b5;have hr6:=RII.below hr4 b5;clear hput f5 hr4 hb4;go_wp2_with fail
      go_roundw
      case rel=>exact ⟨k+1,_,rfl,by omega,by go_num,hf6,hr6,hb6⟩
      case measure=>simp [intOf]; omega
     ·have i3:(((nn:Int)-(xn:Int)).tmod 2 == 1)=true:=by rw [hw1 xn rfl,show d % 2=1 by omega]; rfl
      have HI2:Hid (ibP c l x=subP [] (rp c x l)):=zQY (by rw [HIB.out x,if_neg (by omega)]);clear hpar hd hxl hxn hw1;go_wp2_with fail
      refine hcall.mono ?_;rintro e w4 ⟨r4,rfl,f4,b4⟩;obtain ⟨ay,cy,rfl⟩:=f4.reads.form;have hc4:=(b4.cell (p:=⟨b3,o3+k,none⟩) lb3).trans hc3;have hb4:=zAA.step hb b4;have hr4:=RII.below hr0 b4;have hr34:=hr3.below b4;have hf4:=hf.read.below b4;have f4r:=f4.reads.any;have HNL:=HPB.out x;have lb4:b3<w4.heap.size:=Nat.lt_of_lt_of_le lb3 b4.size;clear hcall hc3 hr0 hr hf hr3 b4 f4;generalize hny:(rp c x l).length=ny at *;go_wp2_with fail
      obtain ⟨w5,hw5⟩:∃w5,w5=w4.alloc (.cells #[] 3):=⟨_,rfl⟩;have b5:Below w4.heap.size w4 w5:=by rw [hw5]; exact (Below.refl _ _).alloc (zQd _) _
      have hn5:RI Any w5 (.slice (some ⟨w4.heap.size,0,none⟩) 0 0) []:=by rw [hw5]; exact (zAR (Below.refl _ w4) rfl).1.any
      have hsub:=zG5 hn5 (f4r.below b5) (fun x hx=>by simp at hx) (by simp) (by omega);have hc5:=(b5.cell (p:=⟨b3,o3+k,none⟩) lb4).trans hc4;have lb5:b3<w5.heap.size:=Nat.lt_of_lt_of_le lb4 b5.size;have HW5:=zQY hw5;have hb5:=zAA.step hb4 b5;have hr5:=RII.below hr4 b5;have hr35:=hr34.below b5;have hf5:=hf4.below b5;clear hw5 hn5 f4r hc4 lb4 hb4 hr4 hr34 hf4 b5;rw [<-HW5.out];go_wp2_with fail
      refine hsub.mono ?_;rintro e w6 ⟨r6,rfl,f6,b6⟩;obtain ⟨az,cz,rfl⟩:=f6.reads.form;have hc6:=(b6.cell (p:=⟨b3,o3+k,none⟩) lb5).trans hc5;have hput:=zGw (hf5.below b6) (hr35.below b6) f6.reads hL0 hL2.2 (by omega) (by have:=zDC [] (rp c x l); simp at this; omega) (zFd _ _);rw [HI2.out] at HS2;rw [HS2.out] at hput;have hb6:=zAA.step hb5 b6;have hr6:=RII.below hr5 b6;clear hsub hc5 f6 hr5 hr35 hf5 hb5 b6 HS2 hx2 hx3 hL2;generalize (subP [] (rp c x l)).length=nz at *;go_wp2_with fail
      refine hput.mono ?_;rintro e w7 ⟨r7,rfl,f7,b7⟩;have hf8:FT (New w w7) w7 r7 (puts (D.take (k+1))):=f7.mono (fun b hb'=>⟨Nat.le_trans hb6.size hb'.1,hb'.2⟩);have hb8:=zAA.step hb6 b7;have hr8:=RII.below hr6 b7;clear hput f7 hr6 hb6;go_wp2_with fail
      go_roundw
      case rel=>exact ⟨k+1,_,rfl,by omega,by go_num,hf8,hr8,hb8⟩
      case measure=>simp [intOf]; omega
    ·have i1:¬(k:Int)<(m:Int):=by omega
     have hkm2:k=m:=by omega
     rw [hkm2,HE.out] at hf;clear hkm2;have hg:=zMj (h.below hb) hf hb hl HTOT.out;go_wp2_with fail
     refine hg.mono ?_;rintro e w9 ⟨a9,c9,rfl,f9,b9⟩;go_wp2_with fail
     go_ret2
     rw [HO.out,HR.out];exact ⟨_,rfl,f9,b9⟩
  ·have HO:Hid (ibB c l=false):=zQY (by unfold ibB rtOk; rw [hok,decide_eq_false hten]; rfl);have HR:Hid (ibR c l=[]):=zQY (by unfold ibR rtOk; rw [hok,decide_eq_false hten]; rfl);have i10:(10:Int)<((zAB c l).length:Int):=by omega
   clear hok hwd h15 hten h200 hlen;go_enter Tryz.func18,Tryz.ntmps18
   go_wp2_with fail
   rw [<-HW1.out];refine hlow.mono ?_;rintro e w2 ⟨r2,rfl,_,b2⟩;have hb2:=zAA.step b1 b2;have hf2:=FC.grow f1 b2;have hln:=hLN.out w2 hb2;clear hlow;go_wp2_with fail
   refine hln.mono ?_;rintro e w3 ⟨rfl,b3⟩;have hb3:=zAA.step hb2 b3;have hf3:=FC.grow hf2 b3;generalize (zAB c l).length=nn at *;clear hln;go_wp2_with fail
   go_ret2
   exact ⟨_,by rw [HO.out]; rfl,by rw [HR.out]; exact hf3,hb3⟩
end Go.Proofs.YtlchafedbnihoaaGreat
