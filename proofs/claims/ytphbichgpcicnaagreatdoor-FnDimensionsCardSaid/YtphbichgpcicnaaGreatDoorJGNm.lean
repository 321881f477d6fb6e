/- Names of parts, names of groups, sizes, by the program. Condition: sizes up to 2^24; the variable MaxLen holds some number. -/
import Derived.Test.YtphbichgpcicnaaGreatDoorJGIs
import Derived.Test.YtphbichgpcicnaaGreatDoorJGSrt
import Derived.Lib.SplitLaws
namespace Go.Proofs.YtphbichgpcicnaaGreatDoor
open Go.RowKit
set_option maxRecDepth 20000
set_option maxHeartbeats 8000000
theorem zOE:∀k,k<12→∀w:World,Calls Tryz.prog 197 #[.string (bs (tyNm k))] w (TcP k w)
 | 0,_,w=>zUc w
 | 1,_,w=>zUd w
 | 2,_,w=>zUe w
 | 3,_,w=>zUf w
 | 4,_,w=>zUg w
 | 5,_,w=>zUh w
 | 6,_,w=>zUi w
 | 7,_,w=>zUj w
 | 8,_,w=>zUk w
 | 9,_,w=>zUl w
 | 10,_,w=>zSE w
 | 11,_,w=>zSF w
 | _+12,h,_=>absurd h (by omega)
theorem zPp (w:World):Calls Tryz.prog 179 #[.string ⟨#[65,49]⟩] w fun e w'=>e=.returned (.int .i64 2)∧Below w.heap.size w w':=by
 go_enter Tryz.func179,Tryz.ntmps179
 go_wp2_with fail
 go_ret
 exact ⟨rfl,Below.refl _ _⟩
theorem zPq (w:World):Calls Tryz.prog 179 #[.string ⟨#[65,50]⟩] w fun e w'=>e=.returned (.int .i64 6)∧Below w.heap.size w w':=by
 go_enter Tryz.func179,Tryz.ntmps179
 go_wp2_with fail
 go_ret
 exact ⟨rfl,Below.refl _ _⟩
theorem zPr (w:World):Calls Tryz.prog 179 #[.string ⟨#[65,51]⟩] w fun e w'=>e=.returned (.int .i64 24)∧Below w.heap.size w w':=by
 go_enter Tryz.func179,Tryz.ntmps179
 go_wp2_with fail
 go_ret
 exact ⟨rfl,Below.refl _ _⟩
theorem zPs (w:World):Calls Tryz.prog 179 #[.string ⟨#[65,52]⟩] w fun e w'=>e=.returned (.int .i64 120)∧Below w.heap.size w w':=by
 go_enter Tryz.func179,Tryz.ntmps179
 go_wp2_with fail
 go_ret
 exact ⟨rfl,Below.refl _ _⟩
theorem zPt (w:World):Calls Tryz.prog 179 #[.string ⟨#[66,50]⟩] w fun e w'=>e=.returned (.int .i64 8)∧Below w.heap.size w w':=by
 go_enter Tryz.func179,Tryz.ntmps179
 go_wp2_with fail
 go_ret
 exact ⟨rfl,Below.refl _ _⟩
theorem zPu (w:World):Calls Tryz.prog 179 #[.string ⟨#[66,51]⟩] w fun e w'=>e=.returned (.int .i64 48)∧Below w.heap.size w w':=by
 go_enter Tryz.func179,Tryz.ntmps179
 go_wp2_with fail
 go_ret
 exact ⟨rfl,Below.refl _ _⟩
theorem zPv (w:World):Calls Tryz.prog 179 #[.string ⟨#[66,52]⟩] w fun e w'=>e=.returned (.int .i64 384)∧Below w.heap.size w w':=by
 go_enter Tryz.func179,Tryz.ntmps179
 go_wp2_with fail
 go_ret
 exact ⟨rfl,Below.refl _ _⟩
theorem zPw (w:World):Calls Tryz.prog 179 #[.string ⟨#[67,51]⟩] w fun e w'=>e=.returned (.int .i64 48)∧Below w.heap.size w w':=by
 go_enter Tryz.func179,Tryz.ntmps179
 go_wp2_with fail
 go_ret
 exact ⟨rfl,Below.refl _ _⟩
theorem zPx (w:World):Calls Tryz.prog 179 #[.string ⟨#[67,52]⟩] w fun e w'=>e=.returned (.int .i64 384)∧Below w.heap.size w w':=by
 go_enter Tryz.func179,Tryz.ntmps179
 go_wp2_with fail
 go_ret
 exact ⟨rfl,Below.refl _ _⟩
theorem zPy (w:World):Calls Tryz.prog 179 #[.string ⟨#[68,52]⟩] w fun e w'=>e=.returned (.int .i64 192)∧Below w.heap.size w w':=by
 go_enter Tryz.func179,Tryz.ntmps179
 go_wp2_with fail
 go_ret
 exact ⟨rfl,Below.refl _ _⟩
theorem zN6 (w:World):Calls Tryz.prog 179 #[.string ⟨#[70,52]⟩] w fun e w'=>e=.returned (.int .i64 1152)∧Below w.heap.size w w':=by
 go_enter Tryz.func179,Tryz.ntmps179
 go_wp2_with fail
 go_ret
 exact ⟨rfl,Below.refl _ _⟩
theorem zN7 (w:World):Calls Tryz.prog 179 #[.string ⟨#[71,50]⟩] w fun e w'=>e=.returned (.int .i64 12)∧Below w.heap.size w w':=by
 go_enter Tryz.func179,Tryz.ntmps179
 go_wp2_with fail
 go_ret
 exact ⟨rfl,Below.refl _ _⟩
theorem zLN:∀k,k<12→∀w:World,Calls Tryz.prog 179 #[.string (bs (tyNm k))] w fun e w'=>e=.returned (.int .i64 (szB (tyNm k)))∧Below w.heap.size w w'
 | 0,_,w=>zPp w
 | 1,_,w=>zPq w
 | 2,_,w=>zPr w
 | 3,_,w=>zPs w
 | 4,_,w=>zPt w
 | 5,_,w=>zPu w
 | 6,_,w=>zPv w
 | 7,_,w=>zPw w
 | 8,_,w=>zPx w
 | 9,_,w=>zPy w
 | 10,_,w=>zN6 w
 | 11,_,w=>zN7 w
 | _+12,h,_=>absurd h (by omega)
def HasM (w:World):Prop:=∃m:Int,w.cell? ⟨0,0,none⟩=some (.int .i64 m)
theorem HasM.below {w w':World} (h:HasM w) (hb:Below w.heap.size w w'):HasM w':=by
 obtain ⟨m,hm⟩:=h;exact ⟨m,(hb.cell (p:=⟨0,0,none⟩) (zWJ _ _ hm)).trans hm⟩
theorem zU5 (x:ByteArray):bs x.data.toList=x:=by
 apply ByteArray.ext;simp [bs]
theorem zP2 (t sp:List UInt8) (h1:1≤sp.length):Lib.splitB (bs sp) 0 (Lib.countB (bs t) (bs sp)) (bs t)=(Lib.split t sp).map bs∧(Lib.split t sp).length=Lib.countB (bs t) (bs sp)+1:=by
 have hd:=Lib.splitB_data (bs sp) 0 (Lib.countB (bs t) (bs sp)) (bs t);have e:Lib.splitK (bs sp).data.toList 0 (Lib.countB (bs t) (bs sp)) (bs t).data.toList=Lib.split t sp:=by
  unfold Lib.split Lib.countB;rw [zEo,zEo]
 rw [e] at hd;have hl:=Lib.splitB_all (bs sp) (by rw [zIU]; exact h1) 0 _ (bs t) rfl;refine ⟨?_,by rw [<-hd,List.length_map,hl]⟩;rw [<-hd,List.map_map]
 conv=>lhs; rw [<-List.map_id (Lib.splitB (bs sp) 0 (Lib.countB (bs t) (bs sp)) (bs t))]
 exact List.map_congr_left (fun x _=>(zU5 x).symm)
def TxAt (w:World) (b:Nat) (l:List (List UInt8)):Prop:=∀(j:Nat) (x:List UInt8),l[j]? = some x→w.cell? ⟨b,j,none⟩=some (.string (bs x))
theorem TxAt.below {w w':World} {b:Nat} {l:List (List UInt8)} (h:TxAt w b l) (hb:Below w.heap.size w w'):TxAt w' b l:=fun j x hx =>
 (hb.cell (p:=⟨b,j,none⟩) (zWJ _ _ (h j x hx))).trans (h j x hx)
theorem zJT {t sp:List UInt8} {w:World} (hm:HasM w) (ht:t.length≤1048576) (h1:1≤sp.length) :
  Calls Tryz.prog 178 #[.string (bs t),.string (bs sp)] w fun e w'=>e=.returned (.slice (some ⟨w.heap.size,0,none⟩) (Lib.split t sp).length (Lib.split t sp).length)∧TxAt w' w.heap.size (Lib.split t sp)∧Below w.heap.size w w':=by
 obtain ⟨m,hm⟩:=hm;obtain ⟨e1,e2⟩:=zP2 t sp h1;refine (Tryz.strings_Split (bs t) (bs sp) m w (by rw [zIU]; omega) hm (by rw [zIU]; exact h1)).mono ?_;rintro e w' ⟨rfl,rfl⟩;refine ⟨by rw [e2],fun j x hx=>?_,(Below.refl _ w).alloc (zWK _) _⟩;rw [e1];unfold World.cell?;rw [World.alloc];simp [hx]
def zGT:List UInt8:=[65,49,32,65,50,32,65,51,32,65,52,32,66,50,32,66,51,32,66,52,32,67,51,32,67,52,32,68,52,32,70,52,32,71,50,32,65,49,126,32,65,50,126,32,65,51,126,32,67,50,126,32,71,50,126]
theorem zGU:Lib.split zGT [32]=tyN++[[65,49,126],[65,50,126],[65,51,126],[67,50,126],[71,50,126]]:=by decide +kernel
theorem zQJ {k:Nat} (hk:k<12):(Lib.split zGT [32])[k]? = some (tyNm k):=by
 rw [zGU,List.getElem?_append_left (by exact hk)];unfold tyNm;have:k<tyN.length:=hk;rw [zWG this]; rfl
theorem zRF {S:Nat→Prop} {u:Value} {c:List (List Int)} {w:World} (h:RII S w u c) (hc:isC c=true) (hl:total c≤16777216) (h1:(zAU c).length=1) :
  Calls Tryz.prog 196 #[u] w fun e w'=>e=.returned (.bool true)∧Below w.heap.size w w':=by
 have hp:=zGG h hc hl;obtain ⟨aa,ca,rfl⟩:=h.form;go_enter Tryz.func196,Tryz.ntmps196
 go_wp2_with fail
 refine hp.mono ?_;rintro e w1 ⟨r1,rfl,f1,b1⟩;obtain ⟨a1,c1,rfl⟩:=f1.any.form;rw [List.length_map,h1];clear hp f1;go_wp2_with fail
 go_ret
 exact ⟨rfl,b1⟩
theorem zKo {S:Nat→Prop} {u:Value} {a:List (List Int)} {k:Nat} {w:World} (h:RII S w u a) (hm:HasM w) (ha:isC a=true) (h1:(zAU a).length=1) (hla:total a≤16777216) (hk:nmK isoI a=some k) (hk12:k<12) :
  Calls Tryz.prog 180 #[u] w fun e w'=>e=.returned (.string (bs (tyNm k)))∧Below w.heap.size w w':=by
 have mixed:Tryz.prog.follows .mixedOrders=true:=by kernel_rfl
 obtain ⟨hyes,hno⟩:=zNw hk;have HISO:=zWF (fun (wv:World) (S9:Nat→Prop) (vv:Value) (j:Nat) (hj:j<12) (hb:Below w.heap.size w wv) (hx:RII S9 wv vv (tyMx j)) =>
  zTm (h.below hb) hx ha (zSJ j hj) hla (by
   obtain ⟨q1,q2⟩:=zUr j hj;exact Nat.le_trans (zJe q1 q2) (by omega)))
 have hco:=zRF h ha hla h1;have HSP:=zWF (fun (wv:World) (hb:Below w.heap.size w wv)=>zJT (t:=zGT) (sp:=[32]) (hm.below hb) (by decide) (by decide));have hl17:(Lib.split zGT [32]).length=17:=by rw [zGU]; rfl
 rw [hl17] at HSP;have HTX:=zWF (fun (j:Nat) (hj:j<12)=>zQJ hj);have HY:=zWF hyes;have HN:=zWF hno;obtain ⟨aa,ca,rfl⟩:=h.form;generalize a.length=na at *;generalize Lib.split zGT [32]=T at *;clear hyes hno h hk hl17 h1;go_enter Tryz.func180,Tryz.ntmps180
 go_wp2_with fail
 refine hco.mono ?_;rintro e w1 ⟨rfl,b1⟩;clear hco;go_wp2_with fail
 refine (HSP.out w1 b1).mono ?_;rintro e w2 ⟨rfl,c2,b2⟩;have hb2:=zAA.step b1 b2;clear b2;generalize w1.heap.size=g at *;go_wp2_with fail
 go_loopw [14] (fun jj wr=>∃j:Nat,j≤k∧jj=.int .i64 j∧TxAt wr g T∧Below w.heap.size w wr) (fun jj _=>k-(intOf jj).toNat)
 case atStart=>exact ⟨0,Nat.zero_le _,rfl,c2,hb2⟩
 case round =>
  clear c2 hb2;obtain ⟨j,hj,rfl,hc,hb⟩:=hrel;have j1:(j:Int)<17:=by omega
  have j2:(0:Int)≤(j:Int):=by omega
  have j3:j<17:=by omega
  have hcj:=hc j _ (HTX.out j (by omega));have htc:=zOE j (by omega) wr;generalize hnm:tyNm j=nm at *;have HNM:=zWF hnm;clear hnm;go_wp2_with fail
  refine htc.mono ?_;rintro e w2 ⟨r2,rfl,f2,b2⟩;have hb2:=zAA.step hb b2;have hc2:=hc.below b2;have hiso:=HISO.out w2 _ r2 j (by omega) hb2 f2.read;clear htc f2 b2 hcj;by_cases hjk:j=k
  ·subst hjk;rw [HY.out] at hiso;go_wp2_with fail
   refine hiso.mono ?_;rintro e w3 ⟨r3,rfl,b3⟩;have hb3:=zAA.step hb2 b3;clear hiso b3;go_wp2_with fail
   go_ret
   exact ⟨by rw [HNM.out]; rfl,hb3⟩
  ·rw [HN.out j (by omega)] at hiso;go_wp2_with fail
   refine hiso.mono ?_;rintro e w3 ⟨r3,rfl,b3⟩;have hb3:=zAA.step hb2 b3;have hc3:=hc2.below b3;clear hiso b3;go_wp2_with fail
   go_roundw
   case rel=>exact ⟨j+1,by omega,by go_num,hc3,hb3⟩
   case measure=>simp [intOf]; omega
def svL (l:List (List UInt8)):List Value:=l.map fun x=>Value.string (bs x)
theorem zR8 (l:List (List UInt8)) (x:List UInt8):svL (l++[x])=svL l++[.string (bs x)]:=by simp [svL]
theorem zIn (l:List (List UInt8)):(svL l).length=l.length:=by simp [svL]
theorem HS.texts {w0 w:World} {Ps:List zAF} {v:Value} {l:List (List UInt8)} (h:HS w0 w Ps) (i:Nat) (hi:Ps[i]? = some (aV 9 v (svL l))):FS (New w0 w) w v l:=by
 obtain ⟨F,hF,hFn⟩:=HSx.get h i hi;have h1:=hF.1;rw [zIn] at h1;exact ⟨h1,fun b hb=>by have:=hFn b (hF.2 b hb); exact ⟨this.1.elim (fun h=>h.elim) id,this.2⟩⟩
theorem HS.addTx {w0 w w':World} {Ps:List zAF} {v:Value} {l:List (List UInt8)} (h:HS w0 w Ps) (hb:Below w.heap.size w w') (f:FS (New w w') w' v l):HS w0 w' (Ps++[aV 9 v (svL l)]) :=
 HSx.add h hb (st_V _ _ _) (F:=New w w') ⟨by rw [zIn]; exact f.1,f.2⟩ (fun _ h=>h)
theorem zRo {S:Nat→Prop} {u:Value} {c:List (List Int)} {w:World} (h:RII S w u c) (hm:HasM w) (hf:FinP c) (hl:total c≤16777216) :
  Calls Tryz.prog 132 #[u] w fun e w'=>e=.returned (.string (bs (nmT c)))∧Below w.heap.size w w':=by
 have mixed:Tryz.prog.follows .mixedOrders=true:=by kernel_rfl
 have hc:=hf.cart;have hC:=zAK.2 hc;obtain ⟨hps,hnm⟩:=hf.names;have hok:=hf.texts;have HPT:=zWF (fun (wv:World) (hb:Below w.heap.size w wv)=>zGG (h.below hb) hC hl);have h4:=hc.le;have HSUB:=zWF (fun (wv:World) (S9:Nat→Prop) (vv:Value) (p:List Nat) (hp:p∈zAU c) (hb:Below w.heap.size w wv) (hx:RI S9 wv vv (iL p)) =>
  zH6 (h.below hb) hx hc.sq (hok.part p hp).pts h4 (by
   have h1:=(hok.part p hp).car;have h2:=(zAK.1 h1).le;rw [(zK3 c p).1] at h2;simp; omega))
 have HNAME:=zWF (fun (wv:World) (S9:Nat→Prop) (vv:Value) (p:List Nat) (hp:p∈zAU c) (hb:Below w.heap.size w wv) (hx:RII S9 wv vv (zBH c p))=>(show ∃nm:List UInt8,nm.length=2∧nmOf (zBH c p)=nm∧Calls Tryz.prog 180 #[vv] wv fun e w'=>e=.returned (.string (bs nm))∧Below wv.heap.size wv w' from by
  obtain ⟨k,hk,h1,h2⟩:=hnm p hp;have hq:=(zK3 c p);have hle:=(zAK.1 (hok.part p hp).car).le;refine ⟨tyNm k,zLb k hk,by unfold nmOf; rw [h1]; rfl,zKo hx (hm.below hb) (hok.part p hp).car (hok.part p hp).one ?_ h1 hk⟩;rw [hq.1] at hle;exact Nat.le_trans (zJe (A:=4) (B:=4) (by rw [hq.1]; exact hle) (fun x hx9=>by rw [hq.2 x hx9]; exact hle)) (by omega)))
 have HL4:Hid ((zAU c).length≤4):=zWF (by have:=hok.few; unfold nmL at this; rwa [List.length_map] at this);have HST:=zWF (fun (i:Nat) (p:List Nat) (hp:(zAU c)[i]? = some p)=>(show (nmL c).take (i+1)=(nmL c).take i++[nmOf (zBH c p)] from zAG (zVd hp)));have HJE:Hid ((nmL c).take (zAU c).length=nmL c):=zWF (List.take_of_length_le (by unfold nmL; rw [List.length_map]; exact zWK _));have HJN:=zWF (fun (wv:World) (S9:Nat→Prop) (vv:Value) (hx:FS S9 wv vv (nmL c))=>zO9 hx (sp:=[120]) (by have:=hok.few; omega) (fun x hx9=>by
  obtain ⟨k,hk,rfl⟩:=zPJ hf x hx9;have:=zLb k hk;omega) (by decide))
 have HEQ:Hid (jn [120] (nmL c)=nmT c):=zWF rfl;obtain ⟨aa,ca,rfl⟩:=h.form;have f0:FS (New w (w.alloc (.cells #[] 9))) (w.alloc (.cells #[] 9)) (.slice (some ⟨w.heap.size,0,none⟩) 0 0) []:=FS.empty (Below.refl _ w);have hs0:HS w (w.alloc (.cells #[] 9)) [aV 9 (.slice (some ⟨w.heap.size,0,none⟩) 0 0) (svL [])]:=HS.addTx (HS.nil (Below.refl _ w)) ((Below.refl _ w).alloc (zWK _) _) f0;have b0:Below w.heap.size w (w.alloc (.cells #[] 9)):=(Below.refl _ w).alloc (zWK _) _;clear hps hnm hok hC hf hc h4;go_enter Tryz.func132,Tryz.ntmps132
 go_wp2_with fail
 refine (HPT.out _ b0).mono ?_;rintro e w1 ⟨r1,rfl,f1,b1⟩;have hr1:=f1.any;have hs1:=HSx.addR hs0 b1 f1;obtain ⟨a1,c1,rfl⟩:=hr1.form;rw [List.length_map] at hr1 ⊢;have hs1:HS w w1 [aV 9 (.slice (some ⟨w.heap.size,0,none⟩) 0 0) (svL ((nmL c).take 0)),aR (.slice a1 ((zAU c).map iL).length c1) ((zAU c).map iL)]:=hs1;rw [List.length_map] at hs1;generalize hP:zAU c=P at *;generalize hmm:P.length=m at *;have HM:=zWF hmm;have hm4:=HL4.out;clear hmm f1 hP f0 b0 b1 HPT hs0 hr1;generalize nmL c=NL at *;go_wp2_with fail
 go_loopw [3,10] (fun oo ii wr=>∃(i:Nat) (vo:Value),vo=oo∧i≤m∧ii=.int .i64 i∧HS w wr [aV 9 vo (svL (NL.take i)),aR (.slice a1 m c1) (P.map iL)]) (fun _ ii _=>m-(intOf ii).toNat)
 case atStart=>exact ⟨0,_,rfl,Nat.zero_le _,rfl,hs1⟩
 case round =>
  clear hs1;obtain ⟨i,vo,rfl,hi,rfl,hs⟩:=hrel;have hb:=HSx.bl hs;by_cases him:i<m
  ·have i1:(i:Int)<(m:Int):=by omega
   have i2:(0:Int)≤(i:Int):=by omega
   have hr:=(HS.R hs 1 rfl).any;obtain ⟨b3,o3,r3,l3,rfl,hc3,hr3,hl3⟩:=RII.at hr him;obtain ⟨p,hp⟩:∃p,P[i]? = some p:=⟨P[i]'(by rw [HM.out]; exact him),zWG _⟩;have el:l3=iL p:=by
    have:=hl3.out;rw [List.getElem?_map,hp] at this;exact (Option.some.inj this).symm
   subst el;have hpm:=zWH hp;have hsub:=HSUB.out wr _ r3 p hpm hb hr3;have hname:=fun (wv:World) (S9:Nat→Prop) (vv:Value) (hb9:Below w.heap.size w wv) (hx:RII S9 wv vv (zBH c p))=>HNAME.out wv S9 vv p hpm hb9 hx;have hst:=HST.out i p hp;rw [zP6] at hsub;have hlen:(svL (NL.take i)).length+1≤67108864:=by rw [zIn,List.length_take]; omega
   clear hl3 hpm hp hr3;go_wp2_with fail
   refine hsub.mono ?_;rintro e w2 ⟨r2,rfl,f2,b2⟩;have hb2:=zAA.step hb b2;have hs2:=HSx.below hs b2;obtain ⟨nm,hn2,hnm,hcall⟩:=hname w2 _ r2 hb2 f2.reads;rw [hnm] at hst;clear hsub hname hr b2 f2 hnm hs hb;go_wp2_with fail
   refine hcall.mono ?_;rintro e w3 ⟨rfl,d3⟩;have hs3:=HSx.below hs2 d3;obtain ⟨w4,hw4⟩:∃w4,w4=w3.alloc (.cells #[.string (bs nm)] 9):=⟨_,rfl⟩;have hs4:=hs3.alloc (.cells #[.string (bs nm)] 9);rw [<-hw4] at hs4;have hs4:HS w w4 [aV 9 vo (svL (NL.take i)),aR (.slice (some ⟨b3,o3,none⟩) m c1) (P.map iL)]:=hs4;have hcm:w4.cell? ⟨w3.heap.size,0,none⟩=some (.string (bs nm)):=by rw [hw4]; go_simp
   have HW4:=zWF hw4;have HNV:=zWF (HS.newV hs4 0 rfl);have hone:(Value.string (bs nm)).oneCell'=true:=rfl;clear hcall d3 hs2 hc3 hs3 hw4 hb2;go_wp2_with (at_builtin; go_must (rw [<-HW4.out]; refine zIN rfl _ _ (by kernel_rfl) zTk rfl (by omega) rfl rfl hs4 0 rfl HNV.out rfl hcm hone hlen ?_))
   intro v5 w5 hs5 _;rw [<-zR8,<-hst] at hs5;have hs5:HS w w5 [aV 9 v5 (svL (NL.take (i+1))),aR (.slice (some ⟨b3,o3,none⟩) m c1) (P.map iL)]:=hs5;clear hcm hs4;go_wp2_with fail
   go_roundw
   case rel=>exact ⟨i+1,_,rfl,by omega,by go_num,hs5⟩
   case measure=>simp [intOf]; omega
  ·have i1:¬(i:Int)<(m:Int):=by omega
   have hie:i=m:=by omega
   rw [hie,HJE.out] at hs;have hjn:=HJN.out wr _ vo (HS.texts hs 0 rfl);rw [HEQ.out] at hjn;clear hie;go_wp2_with fail
   refine hjn.mono ?_;rintro e w9 ⟨rfl,b9⟩;go_wp2_with fail
   go_ret
   exact ⟨rfl,zAA.step hb b9⟩
theorem zLM {t:List UInt8} {l:List (List UInt8)} (ht:t.length≤1048576) (hcut:Lib.split t [120]=l) (h4:l.length≤4) (hnm:∀x∈l,∃k,k<12∧x=tyNm k) {w:World} (hm:HasM w) :
  Calls Tryz.prog 131 #[.string (bs t)] w fun e w'=>e=.returned (.int .i64 (szN l))∧Below w.heap.size w w':=by
 have mixed:Tryz.prog.follows .mixedOrders=true:=by kernel_rfl
 have hcs:=zJT (sp:=[120]) hm ht (by decide);rw [hcut] at hcs;have HST:=zWF (fun (i:Nat) (x:List UInt8) (hx:l[i]? = some x)=>zLW hx);have HLE:=zWF (zQF hnm);have HNM:=zWF hnm;have H0:Hid (szN (l.take 0)=1):=zWF rfl;have HE:Hid (szN (l.take l.length)=szN l):=zWF (by rw [List.take_of_length_le (zWK _)]);clear hcut ht hnm hm;generalize hm:l.length=m at *;have HM:=zWF hm;clear hm;go_enter Tryz.func131,Tryz.ntmps131
 go_wp2_with fail
 refine hcs.mono ?_;rintro e w1 ⟨rfl,c1,b1⟩;have i0:¬(4:Int)<(m:Int):=by omega
 clear hcs;go_wp2_with fail
 go_loopw [4,14] (fun pp ii wr=>∃i:Nat,i≤m∧pp=.int .i64 (szN (l.take i))∧ii=.int .i64 i∧TxAt wr w.heap.size l∧Below w.heap.size w wr) (fun _ ii _=>m-(intOf ii).toNat)
 case atStart=>exact ⟨0,Nat.zero_le _,by rw [H0.out]; rfl,rfl,c1,b1⟩
 case round =>
  clear c1 b1;obtain ⟨i,hi,rfl,rfl,hc,hb⟩:=hrel;have hle:=HLE.out i hi;by_cases him:i<m
  ·have i1:(i:Int)<(m:Int):=by omega
   have i2:(0:Int)≤(i:Int):=by omega
   obtain ⟨x,hx⟩:∃x,l[i]? = some x:=⟨l[i]'(by rw [HM.out]; exact him),zWG _⟩;have hcell:=hc i x hx;have hst:=HST.out i x hx;obtain ⟨k,hk,rfl⟩:=HNM.out x (zWH hx);have hle3:szN (l.take i)≤1528823808:=Nat.le_trans hle (Nat.le_trans (Nat.pow_le_pow_right (by decide) (show i≤3 by omega)) (by decide));have hszk:=zQE k hk;have hcall:=zLN k hk wr;have HV:=zWF hst;have hpr:szN (l.take i)*szB (tyNm k)≤1528823808*1152:=Nat.mul_le_mul hle3 hszk;clear hx hle hst;generalize szB (tyNm k)=z at *;generalize tyNm k=nm at *;generalize szN (l.take i)=q at *;go_wp2_with fail
   refine hcall.mono ?_;rintro e w2 ⟨rfl,b2⟩;have hb2:=zAA.step hb b2;have hc2:=hc.below b2;have hqz:(q:Int)*(z:Int)=((q*z:Nat):Int):=by simp
   have hw:wrap64 ((q:Int)*(z:Int))=((q*z:Nat):Int):=by
    rw [hqz]; unfold wrap64; omega
   have hw2:IntKind.i64.wrap ((q:Int)*(z:Int))=((q*z:Nat):Int):=by
    rw [hqz]; exact IntWalk.i64_in _ (by omega)
   clear hqz;clear hcall b2 hcell;go_wp2_with fail
   go_roundw
   case rel=>exact ⟨i+1,by omega,by rw [HV.out]; simp,by go_num,hc2,hb2⟩
   case measure=>simp [intOf]; omega
  ·have i1:¬(i:Int)<(m:Int):=by omega
   have hie:i=m:=by omega
   have HEE:Hid (szN (l.take i)=szN l):=zWF (by rw [hie]; exact HE.out);clear hie hle;generalize szN (l.take i)=q at *;go_wp2_with fail
   go_ret
   exact ⟨by rw [<-HEE.out]; rfl,hb⟩
theorem zR3 {S:Nat→Prop} {u:Value} {c:List (List Int)} {w:World} (h:RII S w u c) (hm:HasM w) (hl:total c≤16777216) :
  Calls Tryz.prog 94 #[u] w fun e w'=>e=.returned (.int .i64 (szC c))∧Below w.heap.size w w':=by
 have mixed:Tryz.prog.follows .mixedOrders=true:=by kernel_rfl
 have hfin:=zCM h hl;cases hf:finB c with
 | false =>
  have HZ:Hid (szC c=0):=zWF (by unfold szC; rw [hf]; rfl);rw [hf] at hfin;clear hf;obtain ⟨aa,ca,rfl⟩:=h.form;go_enter Tryz.func94,Tryz.ntmps94
  go_wp2_with fail
  refine hfin.mono ?_;rintro e w1 ⟨rfl,b1⟩;go_wp2_with fail
  go_ret
  exact ⟨by rw [HZ.out]; rfl,b1⟩
 | true =>
  have hF:=zCZ hf;have HZ:Hid (szN (nmL c)=szC c):=zWF (by unfold szC; rw [hf,if_pos rfl]; exact hF.texts.size);rw [hf] at hfin;have HNA:=zWF (fun (wv:World) (hb:Below w.heap.size w wv)=>zRo (h.below hb) (hm.below hb) hF hl);have HSZ:=zWF (fun (wv:World) (hb:Below w.heap.size w wv)=>zLM (w:=wv) (t:=nmT c) (l:=nmL c) (by have:=hF.texts.len; omega) hF.texts.cutI hF.texts.few (zPJ hF) (hm.below hb));clear hf hF;obtain ⟨aa,ca,rfl⟩:=h.form;clear h;go_enter Tryz.func94,Tryz.ntmps94
  go_wp2_with fail
  refine hfin.mono ?_;rintro e w1 ⟨rfl,b1⟩;clear hfin;go_wp2_with fail
  refine (HNA.out w1 b1).mono ?_;rintro e w2 ⟨rfl,b2⟩;have hb2:=zAA.step b1 b2;clear HNA;go_wp2_with fail
  refine (HSZ.out w2 hb2).mono ?_;rintro e w3 ⟨rfl,b3⟩;go_wp2_with fail
  go_ret
  exact ⟨by rw [<-HZ.out]; rfl,zAA.step hb2 b3⟩
end Go.Proofs.YtphbichgpcicnaaGreatDoor
