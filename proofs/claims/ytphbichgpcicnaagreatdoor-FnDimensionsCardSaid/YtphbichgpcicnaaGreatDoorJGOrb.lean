/- All images of a weight, by the reference. Condition: sizes up to 2^24. -/
import Derived.Test.YtphbichgpcicnaaGreatDoorJGInV
import Derived.Test.YtphbichgpcicnaaGreatDoorJGOrbP
import Derived.Test.YtphbichgpcicnaaGreatDoorJGSy
import Derived.Test.YtphbichgpcicnaaGreatDoorJGKeys
import Derived.Test.YtphbichgpcicnaaGreatDoorJGSortV
import Derived.Test.YtphbichgpcicnaaGreatDoorJGDom
namespace Go.Proofs.YtphbichgpcicnaaGreatDoor
open Go.RowKit
set_option maxRecDepth 20000
set_option maxHeartbeats 8000000
def obQ (c:List (List Int)) (v:List Int):Option (List (List Int)):=qBfs c 201 0 [dmL c v]
def obOk (c:List (List Int)) (v:List Int):Bool:=zBG c v && (obQ c v).isSome
def obR (c:List (List Int)) (v:List Int):List (List Int):=if zBG c v=true then zA5 ((obQ c v).getD []) else []
def ObC (c:List (List Int)) (v:List Int) (w:World) (e:Ending) (w':World):Prop:=∃r,e=.returned (.tuple #[r,.bool (obOk c v)])∧FII (New w w') w' r (obR c v)∧Below w.heap.size w w'
theorem zPS {A:Nat→Prop} {w0 w w1:World} {Ps:List zAF} {r:Value} (h:HSx A w0 w Ps) (hw:w1=w.alloc (.cells #[r] 28)):HSx A w0 w1 (Ps++[aV 28 (.slice (some ⟨w.heap.size,0,none⟩) 1 1) [r]]):=by
 subst hw;refine h.add ((Below.refl _ _).alloc (zWK _) _) (st_V _ _ _) (F:=fun b=>b=w.heap.size) ⟨?_,fun b hb=>by simpa [Value.ownBlock] using hb.symm⟩ (fun b hb=>by subst hb; exact ⟨zWK _,by simp⟩);exact World.ownsRow_lit (base:=0) (e:=28) (size:=1) w #[r] 1 (Nat.zero_le _) (by unfold maxLen; omega) rfl
theorem zNY {n i:Nat} (hi:i<n):(List.range n).drop i=i::(List.range n).drop (i+1):=zAC (by simp [hi])
theorem zG5 (v:List Int):∀l:List (List Int),(putV v l).length≤l.length+1
 | []=>by simp [putV]
 | x::l=>by
  unfold putV;split
  ·simp
  ·split
   ·simp
   ·have:=zG5 v l; simp; omega
theorem zEL:∀(q l:List (List Int)),(q.foldl (fun l v=>putV v l) l).length≤l.length+q.length
 | [],l=>by simp
 | v::q,l=>by
  have h1:=zEL q (putV v l);have h2:=zG5 v l;simp only [List.foldl_cons,List.length_cons];omega
theorem HSx.iToRs {A:Nat→Prop} {w0 w:World} {Ps:List zAF} {r:Value} {l:List Int} (h:HSx A w0 w Ps) (j:Nat) (hj:Ps[j]? = some (aI r l)):HSx A w0 w (Ps.set j (aRs [(r,l)])) :=
 h.imp j hj (zBs _) fun F hF=>⟨fun x hx=>by rw [List.mem_singleton] at hx; subst hx; exact hF,List.pairwise_singleton _ _⟩
theorem HSx.only {A:Nat→Prop} {w0 w w':World} {Ps:List zAF} {v:Value} {l l':List Int} (h:HSx A w0 w Ps) (i:Nat) (hi:Ps[i]? = some (aI v l)) (hnew:∀b,v.ownBlock=some b→w0.heap.size≤b)
  (hf:FI (fun b=>v.ownBlock=some b) w' v l') (ho:Only (fun b=>v.ownBlock=some b) w w'):HSx A w0 w' (Ps.set i (aI v l')) :=
 h.upd i hi (st_I _ _) (h.bl.trans (ho.below hnew)) ho.size_le fun F hF _=>⟨F,⟨hf.1,hF.2⟩,fun _ hb=>.inl hb,fun b _ hb=>ho.block b (fun e=>hb (hF.2 b e))⟩
theorem zLC (c:List (List Int)) (i:Nat) (x:Int):∀(l:List Int) (k:Nat),InI (zAr c i x l k)
 | [],k=>fun y hy=>by simp [zAr] at hy
 | z::l,k=>fun y hy=>by
  simp only [zAr,List.mem_cons] at hy;rcases hy with rfl | hy
  ·unfold wrap64; omega
  ·exact zLC c i x l (k+1) y hy
theorem zIk (c:List (List Int)) (i:Nat) (l:List Int):InI (refl c i l):=zLC c i _ l 0
theorem zEh {n:Nat} {r s:List (List Int)} {t:List (List Int)} (hp:t.Perm r) (hs:t.Pairwise fun a b=>¬lexC a b<0) (hr:r.Nodup) (hn:∀x∈r,x.length=n) (he:∀x,x∈r↔x∈s):t=zA5 s:=by
 have h1:Dsc n t:=zUQ hs (hp.nodup_iff.2 hr) (fun x hx=>hn x (hp.mem_iff.1 hx));obtain ⟨h2,h3⟩:=zB9 (n:=n) (q:=s) (fun x hx=>hn x ((he x).2 hx));exact zMQ h1 h2 (fun x=>by rw [hp.mem_iff,he,h3])
def zEO (n:Nat) (Z:Zl):Prop:=∀z∈Z,z.2.length=n∧InI z.2
theorem zTz {c:List (List Int)} {f k:Nat} {q:List (List Int)} {u:List Int} (hu:q[k]? = some u):oBfs c (f+1) k q=if (oRow c u q).length > 200 then none else oBfs c f (k+1) (oRow c u q):=by
 simp only [oBfs,hu]
theorem zRt {c:List (List Int)} {f k:Nat} {q:List (List Int)} (hk:q.length≤k):oBfs c f k q=some q:=by
 cases f with
 | zero=>simp only [oBfs]; rw [if_pos hk]
 | succ f=>simp only [oBfs,List.getElem?_eq_none hk]
def OrC (c:List (List Int)) (v:List Int) (w:World) (e:Ending) (w':World):Prop:=∃r,e=.returned (.tuple #[r,.bool (obQ c v).isSome])∧FII (New w w') w' r (zA5 ((obQ c v).getD []))∧Below w.heap.size w w'
theorem zNz {S S':Nat→Prop} {u v:Value} {c:List (List Int)} {l:List Int} {w:World} (h:RII S w u c) (h':RI S' w v l) (hok:zBG c l=true) :
  Calls Tryz.prog 129 #[u,v] w (OrC c l w):=by
 have HRES:Hid (OrC c l w=fun e w'=>∃r,e=.returned (.tuple #[r,.bool (obQ c l).isSome])∧FII (New w w') w' r (zA5 ((obQ c l).getD []))∧Below w.heap.size w w'):=zWF rfl;have mixed:Tryz.prog.follows .mixedOrders=true:=by kernel_rfl
 obtain ⟨hfp,hcp,hcor,hdom⟩:=zBn hok;have hmm:=@run_makeMap Tryz.prog;have h4:c.length≤4:=hcp.le;have hsq:=hcp.sq;have HREF:=zWF (fun (w1:World) (b1:Below w.heap.size w w1) (i:Nat) (hi:i<c.length) (vv:Value) (x:List Int) (S9:Nat→Prop) (hx:FI S9 w1 vv x) (hnew:∀b,S9 b→w.heap.size≤b) (hxl:x.length=c.length) =>
  zDe (h.old.below b1) hx (fun b hb hb'=>by have h1:=hb.2; have h2:=hnew b hb'; omega) i hi hsq hxl (by omega))
 have HRL:=zWF (fun (i:Nat) (x:List Int)=>zA2 c i x);have HBA:=zWF (fun (f k:Nat) (q:List (List Int)) (x:List Int) (hx:q[k]? = some x)=>zTz (c:=c) (f:=f) hx);have HBE:=zWF (fun (f k:Nat) (q:List (List Int)) (hk:q.length≤k)=>zRt (c:=c) (f:=f) hk);have HRW:Hid (∀x q,oRow c x q=((List.range c.length).drop 0).foldl (zBf c x) q):=zWF (fun x q=>rfl);obtain ⟨R,hR⟩:∃R,R=oBfs c 201 0 [l]:=⟨_,rfl⟩;have HORB:Hid ((∃r s,R=some r∧obQ c l=some s∧r.Nodup∧(∀x,x∈r↔x∈s))∨(R=none∧obQ c l=none)):=zWF (by
  rw [hR];rcases zKv hcor hcp hdom.1 with ⟨r,s,e1,e2,e3,_,_,_,e4,_⟩ | ⟨e1,e2⟩
  ·exact .inl ⟨r,s,e1,e2,e3,e4⟩
  ·exact .inr ⟨e1,e2⟩)
 have HR0:Hid (oBfs c (201-0) 0 (([(Value.slice none 0 0,l)]:Zl).map Prod.snd)=R):=zWF hR.symm;have hlen:l.length=c.length:=hdom.1.len;have h0:=h;have h0':=h';obtain ⟨au,cu,rfl⟩:=h.form;obtain ⟨av,cv,rfl⟩:=h'.form;rw [hlen] at h' h0' ⊢;have HLEN:=zWF hlen;have HIN:Hid (InI l):=zWF (by
  unfold zBG at hok;simp only [Bool.and_eq_true] at hok;exact fun x hx=>by have:=(zCm hok.1).2.2 x hx; omega)
 generalize hn:c.length=n at *;have HN:=zWF hn;clear hn hlen;go_enter Tryz.func129,Tryz.ntmps129
 go_wp2_with (at_builtin; go_must (refine zAJ (W:=w) rfl _ _ rfl rfl (FI.fresh0 w) zAO rfl (h0'.below zAO) ?_ ?_))
 ·have:=HLEN.out; simp; omega
 ·intro v1 w1 f1 b1 _;have f1:FI (New w w1) w1 v1 l:=f1;obtain ⟨a1,c1,hv1⟩:=f1.form;rw [HLEN.out] at hv1;subst hv1;have hs1:=(HS.nil (Below.refl _ w)).addI b1 f1;obtain ⟨w2,hw2⟩:∃w2,w2=w1.alloc (.cells #[.slice a1 n c1] 28):=⟨_,rfl⟩;have hs2:=zPS hs1 hw2;obtain ⟨w3,hw3⟩:∃w3,w3=w2.alloc (.map #[] 0):=⟨_,rfl⟩;have hs3:=hs2.newSet 92 n hw3;have HW:=zWF (show w3=(w1.alloc (.cells #[.slice a1 n c1] 28)).alloc (.map #[] 0) by rw [hw3,hw2]);have hz1:w.heap.size≤w1.heap.size+1:=by have:=b1.size; omega
  have hz2:w2.heap.size=w1.heap.size+1:=by rw [hw2]; simp
  have hv3:=zBA (h0'.below hs3.bl) (by rw [HLEN.out]; exact h4);clear hw2 hw3 hs1 hs2;go_wp2_with fail
  rw [<-HW.out];refine hv3.mono ?_;rintro e w4 ⟨rfl,b4⟩;unfold vec;have hs4:=hs3.below b4;rw [hz2] at hs4;have hs4:HS w w4 [aI (.slice a1 n c1) l,aV 28 (.slice (some ⟨w1.heap.size,0,none⟩) 1 1) [.slice a1 n c1],aS 92 (w1.heap.size+1) n []]:=hs4;go_wp2_with (refine zFg rfl _ _ _ rfl rfl hs4 2 rfl (by omega) (by omega) (by simp) HLEN.out HIN.out rfl rfl ?_)
  intro w5 hs5;have hs6:=((hs5.iToRs 0 rfl).pick [1,0,2] (by decide));have hs6:HS w w5 [aV 28 (.slice (some ⟨w1.heap.size,0,none⟩) 1 1) (([(Value.slice a1 n c1,l)]:Zl).map Prod.fst),aRs [(.slice a1 n c1,l)],aS 92 (w1.heap.size+1) n (([(Value.slice a1 n c1,l)]:Zl).map Prod.snd)]:=hs6;have HG0:Hid (zEO n [(.slice a1 n c1,l)]):=zWF (fun z hz=>by rw [List.mem_singleton] at hz; subst hz; exact ⟨HLEN.out,HIN.out⟩);clear hs5 hs4 hs3 f1 b1 b4 hv3 HW;generalize w1.heap.size+1=mb at *;clear hz2;go_wp2_with fail
  go_loopw [6,8] (fun oo kk wr=>∃(k:Nat) (zo:Value) (Z:Zl),zo=oo∧k≤Z.length∧kk=.int .i64 k∧HS w wr [aV 28 zo (Z.map Prod.fst),aRs Z,aS 92 mb n (Z.map Prod.snd)]∧Hid (oBfs c (201-k) k (Z.map Prod.snd)=R)∧Hid (zEO n Z)∧Z.length≤200) (fun _ kk _=>201-(intOf kk).toNat)
  case atStart=>exact ⟨0,_,_,rfl,Nat.zero_le _,rfl,hs6,HR0,HG0,by simp⟩
  case round =>
   clear hs6 HG0 HR0;obtain ⟨k,zo,Z,rfl,hk,rfl,hs,HR,HG,hz200⟩:=hrel;have hlz:(Z.map Prod.fst).length=Z.length:=by simp
   obtain ⟨⟨aq,cq,rfl⟩,hhead⟩:=hs.formV 0 rfl;rw [hlz] at hs hhead ⊢;generalize hzl:Z.length=m at *;have HZL:=zWF hzl;have HH:=zWF hhead;clear hzl hlz hhead;by_cases hkm:k<m
   ·have i1:(k:Int)<(m:Int):=by omega
    obtain ⟨z,hz⟩:∃z,Z[k]? = some z:=⟨Z[k]'(by rw [HZL.out]; exact hkm),zWG _⟩;obtain ⟨rk,xk⟩:=z;have hxl:xk.length=n:=(HG.out _ (zWH hz)).1;have HXL:=zWF hxl;have hb:=HBA.out (200-k) k (Z.map Prod.snd) xk (by simp [hz]);rw [show 200-k+1=201-k by omega,HR.out] at hb;obtain ⟨Rr,hRr⟩:∃Rr,Rr=((List.range n).drop 0).foldl (zBf c xk) (Z.map Prod.snd):=⟨_,rfl⟩;rw [HRW.out,<-hRr] at hb;have HB:=zWF hb;have HR1:=zWF hRr.symm;have hrk0:RI _ wr rk xk:=hs.rowS 1 rfl (zWH hz);obtain ⟨ak,ck,hform⟩:=hrk0.form;rw [hxl] at hform;subst hform;have HZK:=zWF hz;clear hrk0 hxl hb hRr hz;go_wp2_with fail
    go_loopw [6,28] (fun oo ii wr=>∃(i:Nat) (zo:Value) (Z:Zl),zo=oo∧i≤n∧ii=.int .i64 i∧HS w wr [aV 28 zo (Z.map Prod.fst),aRs Z,aS 92 mb n (Z.map Prod.snd)]∧Hid (((List.range n).drop i).foldl (zBf c xk) (Z.map Prod.snd)=Rr)∧Hid (zEO n Z)∧Hid (Z[k]? = some (.slice ak n ck,xk))∧Z.length≤200+i) (fun _ ii _=>n-(intOf ii).toNat)
    case atStart=>exact ⟨0,_,Z,rfl,Nat.zero_le _,rfl,hs,HR1,HG,HZK,by rw [HZL.out]; exact hz200⟩
    case round =>
     clear hs;obtain ⟨i,zo,Z,rfl,hi,rfl,hs,HR9,HG,HZK,hz200⟩:=hrel;have hlz:(Z.map Prod.fst).length=Z.length:=by simp
     have hk2:k<Z.length:=(zWI HZK.out).1;obtain ⟨⟨aq,cq,rfl⟩,hhead⟩:=hs.formV 0 rfl;rw [hlz] at hs hhead ⊢;generalize hzl:Z.length=m2 at *;have HZL:=zWF hzl;obtain ⟨gq,rfl⟩:∃g,aq=some ⟨g,0,none⟩:=by
      obtain ⟨g,c9,e⟩:=hhead (by omega);simp only [Value.slice.injEq] at e;exact ⟨g,e.1⟩
     clear hzl hlz hhead;by_cases hin:i<n
     ·have i2:(i:Int)<(n:Int):=by omega
      have i3:(k:Int)<(m2:Int):=by omega
      have i4:(0:Int)≤(k:Int):=by omega
      have i5:(0:Int)≤(i:Int):=by omega
      have hck:=(hs.cellV 0 rfl (j:=k) (r:=.slice ak n ck) (by simp [HZK.out])).1;have hrk:RI _ wr (.slice ak n ck) xk:=hs.rowS 1 rfl (zWH HZK.out);have h9:=HR9.out;rw [zNY hin,List.foldl_cons] at h9;have HST:=zWF h9;have hck2:=zE7 hck (.cells #[] 3);clear h9;go_wp2_with (at_builtin; go_must (refine zAJ (W:=wr) rfl _ _ rfl rfl (FI.fresh0 wr) zAO rfl (hrk.below zAO) ?_ ?_))
      ·have:=HXL.out; simp; omega
      ·intro v2 w2 f2 b2 _;have f2:FI (New wr w2) w2 v2 xk:=f2;obtain ⟨a2,c2,hv2⟩:=f2.form;rw [HXL.out] at hv2;subst hv2;have hs2:=hs.addI b2 f2;have hs2:HS w w2 [aV 28 (.slice (some ⟨gq,0,none⟩) m2 cq) (Z.map Prod.fst),aRs Z,aS 92 mb n (Z.map Prod.snd),aI (.slice a2 n c2) xk]:=hs2;have hrf:=HREF.out w2 hs2.bl i hin (.slice a2 n c2) xk _ ((f2.own).mono (fun b hb=>hb.2)) (fun b hb=>Nat.le_trans hs.bl.size (f2.2 b hb).1) HXL.out;have HNW:Hid (∀b,(Value.slice a2 n c2).ownBlock=some b→w.heap.size≤b):=zWF (fun b hb=>Nat.le_trans hs.bl.size (f2.2 b hb).1);clear hs f2 b2 hck hck2 hrk;go_wp2_with fail
       refine hrf.mono ?_;rintro e w3 ⟨rfl,f3,o3⟩;have hs3:=hs2.only 3 rfl HNW.out f3 o3;have hs3:HS w w3 [aV 28 (.slice (some ⟨gq,0,none⟩) m2 cq) (Z.map Prod.fst),aRs Z,aS 92 mb n (Z.map Prod.snd),aI (.slice a2 n c2) (refl c i xk)]:=hs3;have HXR:Hid ((refl c i xk).length=n):=zWF (by rw [HRL.out,HXL.out]);have hvc:=zBA (f3.reads) (by rw [HXR.out]; exact h4);clear hs2 f3 o3 hrf;go_wp2_with fail
       refine hvc.mono ?_;rintro e w4 ⟨rfl,b4⟩;have hs4:=hs3.below b4;obtain ⟨w5,hw5⟩:∃w5,w5=w4.alloc (.cells #[.int .i64 (num (refl c i xk) 0),.int .i64 (num (refl c i xk) 1),.int .i64 (num (refl c i xk) 2),.int .i64 (num (refl c i xk) 3)] 92):=⟨_,rfl⟩;have hs5:=hs4.alloc (.cells #[.int .i64 (num (refl c i xk) 0),.int .i64 (num (refl c i xk) 1),.int .i64 (num (refl c i xk) 2),.int .i64 (num (refl c i xk) 3)] 92);rw [<-hw5] at hs5;have k0:w5.cell? ⟨w4.heap.size,0,none⟩=some (.int .i64 (num (refl c i xk) 0)):=by rw [hw5]; go_simp
       have k1:w5.cell? ⟨w4.heap.size,1,none⟩=some (.int .i64 (num (refl c i xk) 1)):=by rw [hw5]; go_simp
       have k2:w5.cell? ⟨w4.heap.size,2,none⟩=some (.int .i64 (num (refl c i xk) 2)):=by rw [hw5]; go_simp
       have k3:w5.cell? ⟨w4.heap.size,3,none⟩=some (.int .i64 (num (refl c i xk) 3)):=by rw [hw5]; go_simp
       have HW5:=zWF hw5;have hin4:InI (refl c i xk):=zIk c i xk;have hlz5:(Z.map Prod.snd).length<67108864:=by simp [HZL.out]; omega
       clear hs3 hvc b4 hs4 hw5;unfold vec;by_cases hmem:refl c i xk∈Z.map Prod.snd
       ·have HMEM:=zWF hmem;have HS2:Hid (((List.range n).drop (i+1)).foldl (zBf c xk) (Z.map Prod.snd)=Rr):=zWF (by rw [<-HST.out]; simp only [zBf]; rw [if_pos hmem]);have hs6:=hs5.pick [0,1,2] (by decide);have hs6:HS w w5 [aV 28 (.slice (some ⟨gq,0,none⟩) m2 cq) (Z.map Prod.fst),aRs Z,aS 92 mb n (Z.map Prod.snd)]:=hs6;clear hmem;go_wp2_with (at_lookup; go_must (rw [<-HW5.out]; refine zJy rfl _ _ rfl rfl hs5 2 rfl HXR.out hin4 rfl HMEM ?_))
        go_roundw
        case rel=>exact ⟨i+1,_,Z,rfl,by omega,by go_num,hs6,HS2,HG,HZK,by rw [HZL.out]; omega⟩
        case measure=>simp [intOf]; omega
       ·have HMEM:=zWF hmem;have HS2:Hid (((List.range n).drop (i+1)).foldl (zBf c xk) ((Z++[(Value.slice a2 n c2,refl c i xk)]).map Prod.snd)=Rr):=zWF (by rw [<-HST.out]; simp only [zBf]; rw [if_neg hmem]; simp);clear hmem;go_wp2_with (first | (at_lookup; go_must (rw [<-HW5.out]; refine zLf rfl _ _ rfl rfl hs5 2 rfl HXR.out hin4 rfl HMEM ?_)) | (at_mapUpdate; go_must (refine zFh rfl _ _ _ rfl rfl hs5 2 rfl hz1 h4 hlz5 HXR.out hin4 rfl rfl ?_)))
        intro w6 hs6;have hs6:HS w w6 [aV 28 (.slice (some ⟨gq,0,none⟩) m2 cq) (Z.map Prod.fst),aRs Z,aS 92 mb n (Z.map Prod.snd++[refl c i xk]),aI (.slice a2 n c2) (refl c i xk)]:=hs6;obtain ⟨w7,hw7⟩:∃w7,w7=w6.alloc (.cells #[.slice a2 n c2] 28):=⟨_,rfl⟩;have hs7:=hs6.alloc (.cells #[.slice a2 n c2] 28);rw [<-hw7] at hs7;have hc7:w7.cell? ⟨w6.heap.size,0,none⟩=some (.slice a2 n c2):=by rw [hw7]; go_simp
        have HW7:=zWF hw7;have hone:(Value.slice a2 n c2).oneCell'=true:=rfl;have HNV:=zWF (HS.newV hs7 0 rfl);have HLZ:Hid ((Z.map Prod.fst).length+1≤67108864):=zWF (by simp [HZL.out]; omega);clear hw7 hs6 hs5 hlz5 hin4;go_wp2_with (at_builtin; go_must (rw [<-HW7.out]; refine zAN rfl _ _ rfl rfl hs7 0 rfl HNV.out rfl hc7 hone HLZ.out ?_))
        intro v8 w8 hs8 _;have hs9:=(hs8.moreS (Z':=Z++[(Value.slice a2 n c2,refl c i xk)]) 1 3 (by decide) rfl rfl List.perm_append_comm).pick [0,1,2] (by decide);have hs9:HS w w8 [aV 28 v8 ((Z++[(Value.slice a2 n c2,refl c i xk)]).map Prod.fst),aRs (Z++[(Value.slice a2 n c2,refl c i xk)]),aS 92 mb n ((Z++[(Value.slice a2 n c2,refl c i xk)]).map Prod.snd)]:=by
         have e:(Z++[(Value.slice a2 n c2,refl c i xk)]).map Prod.fst=Z.map Prod.fst++[Value.slice a2 n c2]:=by simp
         have e2:(Z++[(Value.slice a2 n c2,refl c i xk)]).map Prod.snd=Z.map Prod.snd++[refl c i xk]:=by simp
         rw [e,e2]; exact hs9
        have HG2:Hid (zEO n (Z++[(Value.slice a2 n c2,refl c i xk)])):=zWF (fun z hz=>by
         rcases List.mem_append.1 hz with hz | hz
         ·exact HG.out z hz
         ·rw [List.mem_singleton] at hz; subst hz; exact ⟨HXR.out,zIk c i xk⟩)
        have HZK2:Hid ((Z++[(Value.slice a2 n c2,refl c i xk)])[k]? = some (.slice ak n ck,xk)):=zWF (by rw [List.getElem?_append_left (by rw [HZL.out]; omega)]; exact HZK.out);clear hs8 hs7;go_wp2_with fail
        go_roundw
        case rel=>exact ⟨i+1,_,_,rfl,by omega,by go_num,hs9,HS2,HG2,HZK2,by simp [HZL.out]; omega⟩
        case measure=>simp [intOf]; omega
     ·have i2:¬(i:Int)<(n:Int):=by omega
      have h9:=HR9.out;rw [List.drop_eq_nil_of_le (by simp; omega),List.foldl_nil] at h9;have hb:=HB.out;rw [<-h9] at hb;by_cases h200:200<m2
      ·have i7:(200:Int)<(m2:Int):=by omega
       rw [if_pos (by simp [HZL.out]; omega)] at hb;have HQN:Hid (obQ c l=none):=zWF (by
        rcases HORB.out with ⟨r,s,e1,_⟩ | ⟨_,e2⟩
        ·rw [hb] at e1; cases e1
        ·exact e2)
       have hfe:=FII.empty_of hs.bl (w1:=wr.alloc (.cells #[] 28)) rfl;clear hs hb h9;go_wp2_with fail
       go_ret2
       rw [HRES.out];exact ⟨_,by rw [HQN.out]; rfl,by rw [HQN.out]; exact hfe.1,hfe.2⟩
      ·have i7:¬(200:Int)<(m2:Int):=by omega
       rw [if_neg (by simp [HZL.out]; omega)] at hb;have HQ2:Hid (oBfs c (201-(k+1)) (k+1) (Z.map Prod.snd)=R):=zWF (by rw [hb,show 201-(k+1)=200-k by omega]);clear hb h9;go_wp2_with fail
       go_roundw
       case rel=>exact ⟨k+1,_,Z,rfl,by rw [HZL.out]; omega,by go_num,hs,HQ2,HG,by rw [HZL.out]; omega⟩
       case measure=>simp [intOf]; omega
   ·have i1:¬(k:Int)<(m:Int):=by omega
    have hb:=HBE.out (201-k) k (Z.map Prod.snd) (by simp [HZL.out]; omega);rw [HR.out] at hb;have HRS:=zWF hb;have hsrt:=hs.sortRows (Z:=Z) (v:=.slice aq m cq) (n:=n) 0 1 (by decide) rfl rfl (HS.newV hs 0 rfl) (fun z hz=>(HG.out z hz).1) (by omega) (by rw [HZL.out]; omega);clear hb hs;go_wp2_with fail
    refine hsrt.mono ?_;rintro e w6 ⟨rfl,Z',hp,hsr,hs6⟩;have HSR:=zWF hsr;clear hsr;have hs7:=((hs6.pick [0,1] (by decide)).shutF (Z:=Z') (v:=.slice aq m cq) 0 1 (by decide) rfl rfl).pick [0] (by decide);have hs7:HS w w6 [aF (.slice aq m cq) (Z'.map Prod.snd)]:=hs7;have HFIN:Hid (∃s,obQ c l=some s∧Z'.map Prod.snd=zA5 s):=zWF (by
     rcases HORB.out with ⟨r,s,e1,e2,e3,e4⟩ | ⟨e1,_⟩
     ·rw [HRS.out] at e1;simp only [Option.some.injEq] at e1;subst e1;exact ⟨s,e2,zEh (n:=n) (hp.map _) (HSR.out.imp (fun h=>by omega)) e3 (fun x hx=>by obtain ⟨z,hz,rfl⟩:=List.mem_map.1 hx; exact (HG.out z hz).1) e4⟩
     ·rw [HRS.out] at e1; cases e1)
    obtain ⟨s,hq,hz'⟩:=HFIN.out;rw [hz'] at hs7;have HQ:=zWF hq;clear hq hz' hs6 hsrt hp;go_wp2_with fail
    go_ret2
    rw [HRES.out];exact ⟨_,by rw [HQ.out]; rfl,by rw [HQ.out]; exact hs7.F 0 rfl,hs7.bl⟩
theorem zPU {S S':Nat→Prop} {u v:Value} {c:List (List Int)} {l:List Int} {w:World} (h:RII S w u c) (h':RI S' w v l) (hl:total c≤16777216) (hl':l.length≤16777216) :
  Calls Tryz.prog 91 #[u,v] w (ObC c l w):=by
 have hd:=zIZ h h' hl hl';have HRES:Hid (ObC c l w=fun e w'=>∃r,e=.returned (.tuple #[r,.bool (obOk c l)])∧FII (New w w') w' r (obR c l)∧Below w.heap.size w w'):=zWF rfl;have HTWO:Hid (Two (dom1 c l) (dom2 c l) (zBG c l) w=fun e w'=>∃r1 r2,e=.returned (.tuple #[r1,r2,.bool (zBG c l)])∧FI (New w w') w' r1 (dom1 c l)∧FI (New w w') w' r2 (dom2 c l)∧(∀b,r1.ownBlock=some b→r2.ownBlock≠some b)∧Below w.heap.size w w'):=zWF rfl;rw [HTWO.out] at hd;clear HTWO;cases hF:zBG c l with
 | false =>
  have HR:Hid (obR c l=[]):=zWF (by unfold obR; rw [hF]; rfl);have HO:Hid (obOk c l=false):=zWF (by unfold obOk; rw [hF]; rfl);rw [hF] at hd;clear hF;go_enter Tryz.func91,Tryz.ntmps91
  go_wp2_with fail
  refine hd.mono ?_;rintro e w1 ⟨r1,r2,rfl,f1,f2,_,b1⟩;obtain ⟨a1,c1,rfl⟩:=f1.form;obtain ⟨a2,c2,rfl⟩:=f2.form;have hf:=FII.empty_of b1 (w1:=w1.alloc (.cells #[] 28)) rfl;clear f1 f2;go_wp2_with fail
  go_ret2
  rw [HRES.out];exact ⟨_,by rw [HO.out]; rfl,by rw [HR.out]; exact hf.1,hf.2⟩
 | true =>
  have HOK:Hid (obOk c l=(obQ c l).isSome):=zWF (by unfold obOk; rw [hF]; rfl);have HR:Hid (obR c l=zA5 ((obQ c l).getD [])):=zWF (by unfold obR; rw [hF]; rfl);have hcall:=fun (w1:World) (b1:Below w.heap.size w w1)=>zNz (h.below b1) (h'.below b1) hF;have HOR:Hid (∀w1,OrC c l w1=fun e w'=>∃r,e=.returned (.tuple #[r,.bool (obQ c l).isSome])∧FII (New w1 w') w' r (zA5 ((obQ c l).getD []))∧Below w1.heap.size w1 w'):=zWF (fun w1=>rfl);rw [hF] at hd;clear hF;go_enter Tryz.func91,Tryz.ntmps91
  go_wp2_with fail
  refine hd.mono ?_;rintro e w1 ⟨r1,r2,rfl,f1,f2,_,b1⟩;obtain ⟨a1,c1,rfl⟩:=f1.form;obtain ⟨a2,c2,rfl⟩:=f2.form;have hc:=hcall w1 b1;rw [HOR.out] at hc;clear f1 f2 hcall;go_wp2_with fail
  refine hc.mono ?_;rintro e w2 ⟨r,rfl,f3,b3⟩;obtain ⟨a3,c3,rfl⟩:=f3.read.form;have hsz:=b1.size;clear hc;go_wp2_with fail
  go_ret2
  rw [HRES.out];exact ⟨_,by rw [HOK.out]; rfl,by rw [HR.out]; exact FC.mono f3 (fun b hb=>⟨Nat.le_trans hsz hb.1,hb.2⟩),zAA.step b1 b3⟩
theorem zLa {A B:Nat}:∀{L:List (List Int)},L.length≤A→(∀x∈L,x.length≤B)→total L≤A*(B+1):=by
 intro L hA hB;have h1:(L.map List.length).sum≤L.length*B:=by
  clear hA
  induction L with
  | nil=>simp
  | cons x L ih =>
   have:=ih (fun y hy=>hB y (List.mem_cons_of_mem _ hy));have:=hB x (List.mem_cons_self ..);simp only [List.map_cons,List.sum_cons,List.length_cons,Nat.add_mul,Nat.one_mul];omega
 have h2:L.length*B≤A*B:=Nat.mul_le_mul_right _ hA;unfold total;rw [Nat.mul_add,Nat.mul_one];omega
theorem zPQ (c:List (List Int)) (l:List Int):total (obR c l)≤1000:=by
 unfold obR;split
 ·rename_i hok
  obtain ⟨_,hcp,hcor,hdom⟩:=zBn hok;have h4:c.length≤4:=hcp.le;rcases zKv hcor hcp hdom.1 with ⟨r,s,_,e2,_,_,_,e5,e4,e6⟩ | ⟨_,e2⟩
  ·have e2:obQ c l=some s:=e2;rw [e2];obtain ⟨_,h3⟩:=zB9 (n:=c.length) (q:=s) (fun x hx=>(e6 x ((e4 x).2 hx)).len);refine Nat.le_trans (zLa (A:=200) (B:=4) (by have:=zEL s []; unfold zA5; simp at *; omega) (fun x hx=>?_)) (by omega);rw [(e6 x ((e4 x).2 ((h3 x).1 hx))).len]; exact h4
  ·have e2:obQ c l=none:=e2;rw [e2]; decide
 ·decide
end Go.Proofs.YtphbichgpcicnaaGreatDoor
