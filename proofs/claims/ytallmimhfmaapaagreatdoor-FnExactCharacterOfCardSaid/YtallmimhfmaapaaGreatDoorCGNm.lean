/- Names of parts, names of groups, sizes, by the program. Condition: sizes up to 2^24; the variable MaxLen holds some number. -/
import Derived.Test.YtallmimhfmaapaaGreatDoorCGIs
import Derived.Test.YtallmimhfmaapaaGreatDoorCGSrt
import Derived.Lib.SplitLaws
namespace Go.Proofs.YtallmimhfmaapaaGreatDoor
open Go.RowKit
set_option maxRecDepth 20000
set_option maxHeartbeats 8000000
theorem zNP:∀k,k<12→∀w:World,Calls Tryz.prog 149 #[.string (bs (tyNm k))] w (TcP k w)
 | 0,_,w=>zSE w
 | 1,_,w=>zSF w
 | 2,_,w=>zSG w
 | 3,_,w=>zSH w
 | 4,_,w=>zSI w
 | 5,_,w=>zSJ w
 | 6,_,w=>zSK w
 | 7,_,w=>zSL w
 | 8,_,w=>zSM w
 | 9,_,w=>zSN w
 | 10,_,w=>zQK w
 | 11,_,w=>zQL w
 | _+12,h,_=>absurd h (by omega)
theorem zOj (w:World):Calls Tryz.prog 115 #[.string ⟨#[65,49]⟩] w fun e w'=>e=.returned (.int .i64 2)∧Below w.heap.size w w':=by
 go_enter Tryz.func115,Tryz.ntmps115
 go_wp2_with fail
 go_ret
 exact ⟨rfl,Below.refl _ _⟩
theorem zOk (w:World):Calls Tryz.prog 115 #[.string ⟨#[65,50]⟩] w fun e w'=>e=.returned (.int .i64 6)∧Below w.heap.size w w':=by
 go_enter Tryz.func115,Tryz.ntmps115
 go_wp2_with fail
 go_ret
 exact ⟨rfl,Below.refl _ _⟩
theorem zOl (w:World):Calls Tryz.prog 115 #[.string ⟨#[65,51]⟩] w fun e w'=>e=.returned (.int .i64 24)∧Below w.heap.size w w':=by
 go_enter Tryz.func115,Tryz.ntmps115
 go_wp2_with fail
 go_ret
 exact ⟨rfl,Below.refl _ _⟩
theorem zOm (w:World):Calls Tryz.prog 115 #[.string ⟨#[65,52]⟩] w fun e w'=>e=.returned (.int .i64 120)∧Below w.heap.size w w':=by
 go_enter Tryz.func115,Tryz.ntmps115
 go_wp2_with fail
 go_ret
 exact ⟨rfl,Below.refl _ _⟩
theorem zOn (w:World):Calls Tryz.prog 115 #[.string ⟨#[66,50]⟩] w fun e w'=>e=.returned (.int .i64 8)∧Below w.heap.size w w':=by
 go_enter Tryz.func115,Tryz.ntmps115
 go_wp2_with fail
 go_ret
 exact ⟨rfl,Below.refl _ _⟩
theorem zOo (w:World):Calls Tryz.prog 115 #[.string ⟨#[66,51]⟩] w fun e w'=>e=.returned (.int .i64 48)∧Below w.heap.size w w':=by
 go_enter Tryz.func115,Tryz.ntmps115
 go_wp2_with fail
 go_ret
 exact ⟨rfl,Below.refl _ _⟩
theorem zOp (w:World):Calls Tryz.prog 115 #[.string ⟨#[66,52]⟩] w fun e w'=>e=.returned (.int .i64 384)∧Below w.heap.size w w':=by
 go_enter Tryz.func115,Tryz.ntmps115
 go_wp2_with fail
 go_ret
 exact ⟨rfl,Below.refl _ _⟩
theorem zOq (w:World):Calls Tryz.prog 115 #[.string ⟨#[67,51]⟩] w fun e w'=>e=.returned (.int .i64 48)∧Below w.heap.size w w':=by
 go_enter Tryz.func115,Tryz.ntmps115
 go_wp2_with fail
 go_ret
 exact ⟨rfl,Below.refl _ _⟩
theorem zOr (w:World):Calls Tryz.prog 115 #[.string ⟨#[67,52]⟩] w fun e w'=>e=.returned (.int .i64 384)∧Below w.heap.size w w':=by
 go_enter Tryz.func115,Tryz.ntmps115
 go_wp2_with fail
 go_ret
 exact ⟨rfl,Below.refl _ _⟩
theorem zOs (w:World):Calls Tryz.prog 115 #[.string ⟨#[68,52]⟩] w fun e w'=>e=.returned (.int .i64 192)∧Below w.heap.size w w':=by
 go_enter Tryz.func115,Tryz.ntmps115
 go_wp2_with fail
 go_ret
 exact ⟨rfl,Below.refl _ _⟩
theorem zNG (w:World):Calls Tryz.prog 115 #[.string ⟨#[70,52]⟩] w fun e w'=>e=.returned (.int .i64 1152)∧Below w.heap.size w w':=by
 go_enter Tryz.func115,Tryz.ntmps115
 go_wp2_with fail
 go_ret
 exact ⟨rfl,Below.refl _ _⟩
theorem zNH (w:World):Calls Tryz.prog 115 #[.string ⟨#[71,50]⟩] w fun e w'=>e=.returned (.int .i64 12)∧Below w.heap.size w w':=by
 go_enter Tryz.func115,Tryz.ntmps115
 go_wp2_with fail
 go_ret
 exact ⟨rfl,Below.refl _ _⟩
theorem zKf:∀k,k<12→∀w:World,Calls Tryz.prog 115 #[.string (bs (tyNm k))] w fun e w'=>e=.returned (.int .i64 (szB (tyNm k)))∧Below w.heap.size w w'
 | 0,_,w=>zOj w
 | 1,_,w=>zOk w
 | 2,_,w=>zOl w
 | 3,_,w=>zOm w
 | 4,_,w=>zOn w
 | 5,_,w=>zOo w
 | 6,_,w=>zOp w
 | 7,_,w=>zOq w
 | 8,_,w=>zOr w
 | 9,_,w=>zOs w
 | 10,_,w=>zNG w
 | 11,_,w=>zNH w
 | _+12,h,_=>absurd h (by omega)
def HasM (w:World):Prop:=∃m:Int,w.cell? ⟨0,0,none⟩=some (.int .i64 m)
theorem HasM.below {w w':World} (h:HasM w) (hb:Below w.heap.size w w'):HasM w':=by
 obtain ⟨m,hm⟩:=h;exact ⟨m,(hb.cell (p:=⟨0,0,none⟩) (zTc _ _ hm)).trans hm⟩
theorem zSo (x:ByteArray):bs x.data.toList=x:=by
 apply ByteArray.ext;simp [bs]
theorem zOv (t sp:List UInt8) (h1:1≤sp.length):Lib.splitB (bs sp) 0 (Lib.countB (bs t) (bs sp)) (bs t)=(Lib.split t sp).map bs∧(Lib.split t sp).length=Lib.countB (bs t) (bs sp)+1:=by
 have hd:=Lib.splitB_data (bs sp) 0 (Lib.countB (bs t) (bs sp)) (bs t);have e:Lib.splitK (bs sp).data.toList 0 (Lib.countB (bs t) (bs sp)) (bs t).data.toList=Lib.split t sp:=by
  unfold Lib.split Lib.countB;rw [zEV,zEV]
 rw [e] at hd;have hl:=Lib.splitB_all (bs sp) (by rw [zBW]; exact h1) 0 _ (bs t) rfl;refine ⟨?_,by rw [<-hd,List.length_map,hl]⟩;rw [<-hd,List.map_map]
 conv=>lhs; rw [<-List.map_id (Lib.splitB (bs sp) 0 (Lib.countB (bs t) (bs sp)) (bs t))]
 exact List.map_congr_left (fun x _=>(zSo x).symm)
def TxAt (w:World) (b:Nat) (l:List (List UInt8)):Prop:=∀(j:Nat) (x:List UInt8),l[j]? = some x→w.cell? ⟨b,j,none⟩=some (.string (bs x))
theorem TxAt.below {w w':World} {b:Nat} {l:List (List UInt8)} (h:TxAt w b l) (hb:Below w.heap.size w w'):TxAt w' b l:=fun j x hx =>
 (hb.cell (p:=⟨b,j,none⟩) (zTc _ _ (h j x hx))).trans (h j x hx)
theorem zIt {t sp:List UInt8} {w:World} (hm:HasM w) (ht:t.length≤1048576) (h1:1≤sp.length) :
  Calls Tryz.prog 114 #[.string (bs t),.string (bs sp)] w fun e w'=>e=.returned (.slice (some ⟨w.heap.size,0,none⟩) (Lib.split t sp).length (Lib.split t sp).length)∧TxAt w' w.heap.size (Lib.split t sp)∧Below w.heap.size w w':=by
 obtain ⟨m,hm⟩:=hm;obtain ⟨e1,e2⟩:=zOv t sp h1;refine (Tryz.strings_Split (bs t) (bs sp) m w (by rw [zBW]; omega) hm (by rw [zBW]; exact h1)).mono ?_;rintro e w' ⟨rfl,rfl⟩;refine ⟨by rw [e2],fun j x hx=>?_,(Below.refl _ w).alloc (zTd _) _⟩;rw [e1];unfold World.cell?;rw [World.alloc];simp [hx]
def zFu:List UInt8:=[65,49,32,65,50,32,65,51,32,65,52,32,66,50,32,66,51,32,66,52,32,67,51,32,67,52,32,68,52,32,70,52,32,71,50,32,65,49,126,32,65,50,126,32,65,51,126,32,67,50,126,32,71,50,126]
theorem zFv:Lib.split zFu [32]=tyN++[[65,49,126],[65,50,126],[65,51,126],[67,50,126],[71,50,126]]:=by decide +kernel
theorem zPB {k:Nat} (hk:k<12):(Lib.split zFu [32])[k]? = some (tyNm k):=by
 rw [zFv,List.getElem?_append_left (by exact hk)];unfold tyNm;have:k<tyN.length:=hk;rw [zTZ this]; rfl
theorem zPP {S:Nat→Prop} {u:Value} {c:List (List Int)} {w:World} (h:RII S w u c) (hc:isC c=true) (hl:zAC c≤16777216) (h1:(zAP c).length=1) :
  Calls Tryz.prog 148 #[u] w fun e w'=>e=.returned (.bool true)∧Below w.heap.size w w':=by
 have hp:=zFj h hc hl;obtain ⟨aa,ca,rfl⟩:=h.form;go_enter Tryz.func148,Tryz.ntmps148
 go_wp2_with fail
 refine hp.mono ?_;rintro e w1 ⟨r1,rfl,f1,b1⟩;obtain ⟨a1,c1,rfl⟩:=f1.any.form;rw [List.length_map,h1];clear hp f1;go_wp2_with fail
 go_ret
 exact ⟨rfl,b1⟩
theorem zJ6 {S:Nat→Prop} {u:Value} {a:List (List Int)} {k:Nat} {w:World} (h:RII S w u a) (hm:HasM w) (ha:isC a=true) (h1:(zAP a).length=1) (hla:zAC a≤16777216) (hk:nmK isoI a=some k) (hk12:k<12) :
  Calls Tryz.prog 116 #[u] w fun e w'=>e=.returned (.string (bs (tyNm k)))∧Below w.heap.size w w':=by
 have mixed:Tryz.prog.follows .mixedOrders=true:=by kernel_rfl
 obtain ⟨hyes,hno⟩:=zHS hk;have HISO:=zTY (fun (wv:World) (S9:Nat→Prop) (vv:Value) (j:Nat) (hj:j<12) (hb:Below w.heap.size w wv) (hx:RII S9 wv vv (tyMx j)) =>
  zRS (h.below hb) hx ha (zKt j hj) hla (by
   obtain ⟨q1,q2⟩:=zMT j hj;exact Nat.le_trans (zEJ q1 q2) (by omega)))
 have hco:=zPP h ha hla h1;have HSP:=zTY (fun (wv:World) (hb:Below w.heap.size w wv)=>zIt (t:=zFu) (sp:=[32]) (hm.below hb) (by decide) (by decide));have hl17:(Lib.split zFu [32]).length=17:=by rw [zFv]; rfl
 rw [hl17] at HSP;have HTX:=zTY (fun (j:Nat) (hj:j<12)=>zPB hj);have HY:=zTY hyes;have HN:=zTY hno;obtain ⟨aa,ca,rfl⟩:=h.form;generalize a.length=na at *;generalize Lib.split zFu [32]=T at *;clear hyes hno h hk hl17 h1;go_enter Tryz.func116,Tryz.ntmps116
 go_wp2_with fail
 refine hco.mono ?_;rintro e w1 ⟨rfl,b1⟩;clear hco;go_wp2_with fail
 refine (HSP.out w1 b1).mono ?_;rintro e w2 ⟨rfl,c2,b2⟩;have hb2:=zAA.step b1 b2;clear b2;generalize w1.heap.size=g at *;go_wp2_with fail
 go_loopw [14] (fun jj wr=>∃j:Nat,j≤k∧jj=.int .i64 j∧TxAt wr g T∧Below w.heap.size w wr) (fun jj _=>k-(intOf jj).toNat)
 case atStart=>exact ⟨0,Nat.zero_le _,rfl,c2,hb2⟩
 case round =>
  clear c2 hb2;obtain ⟨j,hj,rfl,hc,hb⟩:=hrel;have j1:(j:Int)<17:=by omega
  have j2:(0:Int)≤(j:Int):=by omega
  have j3:j<17:=by omega
  have hcj:=hc j _ (HTX.out j (by omega));have htc:=zNP j (by omega) wr;generalize hnm:tyNm j=nm at *;have HNM:=zTY hnm;clear hnm;go_wp2_with fail
  refine htc.mono ?_;rintro e w2 ⟨r2,rfl,f2,b2⟩;have hb2:=zAA.step hb b2;have hc2:=hc.below b2;have hiso:=HISO.out w2 _ r2 j (by omega) hb2 f2.read;clear htc f2 b2 hcj;by_cases hjk:j=k
  ·subst hjk;rw [HY.out] at hiso;go_wp2_with fail
   refine hiso.mono ?_;rintro e w3 ⟨r3,rfl,b3⟩;have hb3:=zAA.step hb2 b3;clear hiso b3;go_wp2_with fail
   go_ret
   exact ⟨by rw [HNM.out]; rfl,hb3⟩
  ·rw [HN.out j (by omega)] at hiso;go_wp2_with fail
   refine hiso.mono ?_;rintro e w3 ⟨r3,rfl,b3⟩;have hb3:=zAA.step hb2 b3;have hc3:=hc2.below b3;clear hiso b3;go_wp2_with fail
   go_roundw
   case rel=>exact ⟨j+1,by omega,by go_num,hc3,hb3⟩
   case measure=>simp [intOf]; omega
def svL (l:List (List UInt8)):List Value:=l.map fun x=>Value.string (bs x)
theorem zQG (l:List (List UInt8)) (x:List UInt8):svL (l++[x])=svL l++[.string (bs x)]:=by simp [svL]
theorem zIA (l:List (List UInt8)):(svL l).length=l.length:=by simp [svL]
theorem HS.texts {w0 w:World} {Ps:List zAG} {v:Value} {l:List (List UInt8)} (h:HS w0 w Ps) (i:Nat) (hi:Ps[i]? = some (aV 9 v (svL l))):FS (New w0 w) w v l:=by
 obtain ⟨F,hF,hFn⟩:=HSx.get h i hi;have h1:=hF.1;rw [zIA] at h1;exact ⟨h1,fun b hb=>by have:=hFn b (hF.2 b hb); exact ⟨this.1.elim (fun h=>h.elim) id,this.2⟩⟩
theorem HS.addTx {w0 w w':World} {Ps:List zAG} {v:Value} {l:List (List UInt8)} (h:HS w0 w Ps) (hb:Below w.heap.size w w') (f:FS (New w w') w' v l):HS w0 w' (Ps++[aV 9 v (svL l)]) :=
 HSx.add h hb (st_V _ _ _) (F:=New w w') ⟨by rw [zIA]; exact f.1,f.2⟩ (fun _ h=>h)
theorem zPr {S:Nat→Prop} {u:Value} {c:List (List Int)} {w:World} (h:RII S w u c) (hm:HasM w) (hf:FinP c) (hl:zAC c≤16777216) :
  Calls Tryz.prog 76 #[u] w fun e w'=>e=.returned (.string (bs (nmT c)))∧Below w.heap.size w w':=by
 have mixed:Tryz.prog.follows .mixedOrders=true:=by kernel_rfl
 have hc:=hf.cart;have hC:=zAL.2 hc;obtain ⟨hps,hnm⟩:=hf.names;have hok:=hf.texts;have HPT:=zTY (fun (wv:World) (hb:Below w.heap.size w wv)=>zFj (h.below hb) hC hl);have h4:=hc.le;have HSUB:=zTY (fun (wv:World) (S9:Nat→Prop) (vv:Value) (p:List Nat) (hp:p∈zAP c) (hb:Below w.heap.size w wv) (hx:RI S9 wv vv (iL p)) =>
  zHZ (h.below hb) hx hc.sq (hok.part p hp).pts h4 (by
   have h1:=(hok.part p hp).car;have h2:=(zAL.1 h1).le;rw [(zC6 c p).1] at h2;simp; omega))
 have HNAME:=zTY (fun (wv:World) (S9:Nat→Prop) (vv:Value) (p:List Nat) (hp:p∈zAP c) (hb:Below w.heap.size w wv) (hx:RII S9 wv vv (zAa c p))=>(show ∃nm:List UInt8,nm.length=2∧nmOf (zAa c p)=nm∧Calls Tryz.prog 116 #[vv] wv fun e w'=>e=.returned (.string (bs nm))∧Below wv.heap.size wv w' from by
  obtain ⟨k,hk,h1,h2⟩:=hnm p hp;have hq:=(zC6 c p);have hle:=(zAL.1 (hok.part p hp).car).le;refine ⟨tyNm k,zFB k hk,by unfold nmOf; rw [h1]; rfl,zJ6 hx (hm.below hb) (hok.part p hp).car (hok.part p hp).one ?_ h1 hk⟩;rw [hq.1] at hle;exact Nat.le_trans (zEJ (A:=4) (B:=4) (by rw [hq.1]; exact hle) (fun x hx9=>by rw [hq.2 x hx9]; exact hle)) (by omega)))
 have HL4:Hid ((zAP c).length≤4):=zTY (by have:=hok.few; unfold nmL at this; rwa [List.length_map] at this);have HST:=zTY (fun (i:Nat) (p:List Nat) (hp:(zAP c)[i]? = some p)=>(show (nmL c).take (i+1)=(nmL c).take i++[nmOf (zAa c p)] from zAE (zKC hp)));have HJE:Hid ((nmL c).take (zAP c).length=nmL c):=zTY (List.take_of_length_le (by unfold nmL; rw [List.length_map]; exact zTd _));have HJN:=zTY (fun (wv:World) (S9:Nat→Prop) (vv:Value) (hx:FS S9 wv vv (nmL c))=>zOH hx (sp:=[120]) (by have:=hok.few; omega) (fun x hx9=>by
  obtain ⟨k,hk,rfl⟩:=zKD hf x hx9;have:=zFB k hk;omega) (by decide))
 have HEQ:Hid (jn [120] (nmL c)=nmT c):=zTY rfl;obtain ⟨aa,ca,rfl⟩:=h.form;have f0:FS (New w (w.alloc (.cells #[] 9))) (w.alloc (.cells #[] 9)) (.slice (some ⟨w.heap.size,0,none⟩) 0 0) []:=FS.empty (Below.refl _ w);have hs0:HS w (w.alloc (.cells #[] 9)) [aV 9 (.slice (some ⟨w.heap.size,0,none⟩) 0 0) (svL [])]:=HS.addTx (HS.nil (Below.refl _ w)) ((Below.refl _ w).alloc (zTd _) _) f0;have b0:Below w.heap.size w (w.alloc (.cells #[] 9)):=(Below.refl _ w).alloc (zTd _) _;clear hps hnm hok hC hf hc h4;go_enter Tryz.func76,Tryz.ntmps76
 go_wp2_with fail
 refine (HPT.out _ b0).mono ?_;rintro e w1 ⟨r1,rfl,f1,b1⟩;have hr1:=f1.any;have hs1:=HSx.addR hs0 b1 f1;obtain ⟨a1,c1,rfl⟩:=hr1.form;rw [List.length_map] at hr1 ⊢;have hs1:HS w w1 [aV 9 (.slice (some ⟨w.heap.size,0,none⟩) 0 0) (svL ((nmL c).take 0)),aR (.slice a1 ((zAP c).map iL).length c1) ((zAP c).map iL)]:=hs1;rw [List.length_map] at hs1;generalize hP:zAP c=P at *;generalize hmm:P.length=m at *;have HM:=zTY hmm;have hm4:=HL4.out;clear hmm f1 hP f0 b0 b1 HPT hs0 hr1;generalize nmL c=NL at *;go_wp2_with fail
 go_loopw [3,10] (fun oo ii wr=>∃(i:Nat) (vo:Value),vo=oo∧i≤m∧ii=.int .i64 i∧HS w wr [aV 9 vo (svL (NL.take i)),aR (.slice a1 m c1) (P.map iL)]) (fun _ ii _=>m-(intOf ii).toNat)
 case atStart=>exact ⟨0,_,rfl,Nat.zero_le _,rfl,hs1⟩
 case round =>
  clear hs1;obtain ⟨i,vo,rfl,hi,rfl,hs⟩:=hrel;have hb:=HSx.bl hs;by_cases him:i<m
  ·have i1:(i:Int)<(m:Int):=by omega
   have i2:(0:Int)≤(i:Int):=by omega
   have hr:=(HS.R hs 1 rfl).any;obtain ⟨b3,o3,r3,l3,rfl,hc3,hr3,hl3⟩:=RII.at hr him;obtain ⟨p,hp⟩:∃p,P[i]? = some p:=⟨P[i]'(by rw [HM.out]; exact him),zTZ _⟩;have el:l3=iL p:=by
    have:=hl3.out;rw [List.getElem?_map,hp] at this;exact (Option.some.inj this).symm
   subst el;have hpm:=zTa hp;have hsub:=HSUB.out wr _ r3 p hpm hb hr3;have hname:=fun (wv:World) (S9:Nat→Prop) (vv:Value) (hb9:Below w.heap.size w wv) (hx:RII S9 wv vv (zAa c p))=>HNAME.out wv S9 vv p hpm hb9 hx;have hst:=HST.out i p hp;rw [zFp] at hsub;have hlen:(svL (NL.take i)).length+1≤67108864:=by rw [zIA,List.length_take]; omega
   clear hl3 hpm hp hr3;go_wp2_with fail
   refine hsub.mono ?_;rintro e w2 ⟨r2,rfl,f2,b2⟩;have hb2:=zAA.step hb b2;have hs2:=HSx.below hs b2;obtain ⟨nm,hn2,hnm,hcall⟩:=hname w2 _ r2 hb2 f2.reads;rw [hnm] at hst;clear hsub hname hr b2 f2 hnm hs hb;go_wp2_with fail
   refine hcall.mono ?_;rintro e w3 ⟨rfl,d3⟩;have hs3:=HSx.below hs2 d3;obtain ⟨w4,hw4⟩:∃w4,w4=w3.alloc (.cells #[.string (bs nm)] 9):=⟨_,rfl⟩;have hs4:=hs3.alloc (.cells #[.string (bs nm)] 9);rw [<-hw4] at hs4;have hs4:HS w w4 [aV 9 vo (svL (NL.take i)),aR (.slice (some ⟨b3,o3,none⟩) m c1) (P.map iL)]:=hs4;have hcm:w4.cell? ⟨w3.heap.size,0,none⟩=some (.string (bs nm)):=by rw [hw4]; go_simp
   have HW4:=zTY hw4;have HNV:=zTY (HS.newV hs4 0 rfl);have hone:(Value.string (bs nm)).oneCell'=true:=rfl;clear hcall d3 hs2 hc3 hs3 hw4 hb2;go_wp2_with (at_builtin; go_must (rw [<-HW4.out]; refine zHm rfl _ _ (by kernel_rfl) zLt rfl (by omega) rfl rfl hs4 0 rfl HNV.out rfl hcm hone hlen ?_))
   intro v5 w5 hs5 _;rw [<-zQG,<-hst] at hs5;have hs5:HS w w5 [aV 9 v5 (svL (NL.take (i+1))),aR (.slice (some ⟨b3,o3,none⟩) m c1) (P.map iL)]:=hs5;clear hcm hs4;go_wp2_with fail
   go_roundw
   case rel=>exact ⟨i+1,_,rfl,by omega,by go_num,hs5⟩
   case measure=>simp [intOf]; omega
  ·have i1:¬(i:Int)<(m:Int):=by omega
   have hie:i=m:=by omega
   rw [hie,HJE.out] at hs;have hjn:=HJN.out wr _ vo (HS.texts hs 0 rfl);rw [HEQ.out] at hjn;clear hie;go_wp2_with fail
   refine hjn.mono ?_;rintro e w9 ⟨rfl,b9⟩;go_wp2_with fail
   go_ret
   exact ⟨rfl,zAA.step hb b9⟩
theorem zKd {t:List UInt8} {l:List (List UInt8)} (ht:t.length≤1048576) (hcut:Lib.split t [120]=l) (h4:l.length≤4) (hnm:∀x∈l,∃k,k<12∧x=tyNm k) {w:World} (hm:HasM w) :
  Calls Tryz.prog 75 #[.string (bs t)] w fun e w'=>e=.returned (.int .i64 (szN l))∧Below w.heap.size w w':=by
 have mixed:Tryz.prog.follows .mixedOrders=true:=by kernel_rfl
 have hcs:=zIt (sp:=[120]) hm ht (by decide);rw [hcut] at hcs;have HST:=zTY (fun (i:Nat) (x:List UInt8) (hx:l[i]? = some x)=>zGu hx);have HLE:=zTY (zKq hnm);have HNM:=zTY hnm;have H0:Hid (szN (l.take 0)=1):=zTY rfl;have HE:Hid (szN (l.take l.length)=szN l):=zTY (by rw [List.take_of_length_le (zTd _)]);clear hcut ht hnm hm;generalize hm:l.length=m at *;have HM:=zTY hm;clear hm;go_enter Tryz.func75,Tryz.ntmps75
 go_wp2_with fail
 refine hcs.mono ?_;rintro e w1 ⟨rfl,c1,b1⟩;have i0:¬(4:Int)<(m:Int):=by omega
 clear hcs;go_wp2_with fail
 go_loopw [4,14] (fun pp ii wr=>∃i:Nat,i≤m∧pp=.int .i64 (szN (l.take i))∧ii=.int .i64 i∧TxAt wr w.heap.size l∧Below w.heap.size w wr) (fun _ ii _=>m-(intOf ii).toNat)
 case atStart=>exact ⟨0,Nat.zero_le _,by rw [H0.out]; rfl,rfl,c1,b1⟩
 case round =>
  clear c1 b1;obtain ⟨i,hi,rfl,rfl,hc,hb⟩:=hrel;have hle:=HLE.out i hi;by_cases him:i<m
  ·have i1:(i:Int)<(m:Int):=by omega
   have i2:(0:Int)≤(i:Int):=by omega
   obtain ⟨x,hx⟩:∃x,l[i]? = some x:=⟨l[i]'(by rw [HM.out]; exact him),zTZ _⟩;have hcell:=hc i x hx;have hst:=HST.out i x hx;obtain ⟨k,hk,rfl⟩:=HNM.out x (zTa hx);have hle3:szN (l.take i)≤1528823808:=Nat.le_trans hle (Nat.le_trans (Nat.pow_le_pow_right (by decide) (show i≤3 by omega)) (by decide));have hszk:=zO5 k hk;have hcall:=zKf k hk wr;have HV:=zTY hst;have hpr:szN (l.take i)*szB (tyNm k)≤1528823808*1152:=Nat.mul_le_mul hle3 hszk;clear hx hle hst;generalize szB (tyNm k)=z at *;generalize tyNm k=nm at *;generalize szN (l.take i)=q at *;go_wp2_with fail
   refine hcall.mono ?_;rintro e w2 ⟨rfl,b2⟩;have hb2:=zAA.step hb b2;have hc2:=hc.below b2;have hqz:(q:Int)*(z:Int)=((q*z:Nat):Int):=by simp
   have hw:wrap64 ((q:Int)*(z:Int))=((q*z:Nat):Int):=by
    rw [hqz]; unfold wrap64; omega
   have hw2:IntKind.i64.wrap ((q:Int)*(z:Int))=((q*z:Nat):Int):=by
    rw [hqz]; exact IntWalk.i64_in _ (by omega)
   clear hqz;clear hcall b2 hcell;go_wp2_with fail
   go_roundw
   case rel=>exact ⟨i+1,by omega,by rw [HV.out]; simp,by go_num,hc2,hb2⟩
   case measure=>simp [intOf]; omega
  ·have i1:¬(i:Int)<(m:Int):=by omega
   have hie:i=m:=by omega
   have HEE:Hid (szN (l.take i)=szN l):=zTY (by rw [hie]; exact HE.out);clear hie hle;generalize szN (l.take i)=q at *;go_wp2_with fail
   go_ret
   exact ⟨by rw [<-HEE.out]; rfl,hb⟩
theorem zQA {S:Nat→Prop} {u:Value} {c:List (List Int)} {w:World} (h:RII S w u c) (hm:HasM w) (hl:zAC c≤16777216) :
  Calls Tryz.prog 35 #[u] w fun e w'=>e=.returned (.int .i64 (szC c))∧Below w.heap.size w w':=by
 have mixed:Tryz.prog.follows .mixedOrders=true:=by kernel_rfl
 have hfin:=zCl h hl;cases hf:finB c with
 | false =>
  have HZ:Hid (szC c=0):=zTY (by unfold szC; rw [hf]; rfl);rw [hf] at hfin;clear hf;obtain ⟨aa,ca,rfl⟩:=h.form;go_enter Tryz.func35,Tryz.ntmps35
  go_wp2_with fail
  refine hfin.mono ?_;rintro e w1 ⟨rfl,b1⟩;go_wp2_with fail
  go_ret
  exact ⟨by rw [HZ.out]; rfl,b1⟩
 | true =>
  have hF:=zD0 hf;have HZ:Hid (szN (nmL c)=szC c):=zTY (by unfold szC; rw [hf,if_pos rfl]; exact hF.texts.size);rw [hf] at hfin;have HNA:=zTY (fun (wv:World) (hb:Below w.heap.size w wv)=>zPr (h.below hb) (hm.below hb) hF hl);have HSZ:=zTY (fun (wv:World) (hb:Below w.heap.size w wv)=>zKd (w:=wv) (t:=nmT c) (l:=nmL c) (by have:=hF.texts.len; omega) hF.texts.cutI hF.texts.few (zKD hF) (hm.below hb));clear hf hF;obtain ⟨aa,ca,rfl⟩:=h.form;clear h;go_enter Tryz.func35,Tryz.ntmps35
  go_wp2_with fail
  refine hfin.mono ?_;rintro e w1 ⟨rfl,b1⟩;clear hfin;go_wp2_with fail
  refine (HNA.out w1 b1).mono ?_;rintro e w2 ⟨rfl,b2⟩;have hb2:=zAA.step b1 b2;clear HNA;go_wp2_with fail
  refine (HSZ.out w2 hb2).mono ?_;rintro e w3 ⟨rfl,b3⟩;go_wp2_with fail
  go_ret
  exact ⟨by rw [<-HZ.out]; rfl,zAA.step hb2 b3⟩
end Go.Proofs.YtallmimhfmaapaaGreatDoor
