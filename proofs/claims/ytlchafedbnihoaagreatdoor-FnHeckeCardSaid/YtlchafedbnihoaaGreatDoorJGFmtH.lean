/- Words as text, by the reference. Condition: sizes up to 2^20. -/
import Derived.Test.YtlchafedbnihoaaGreatDoorJFmtI
import Derived.Test.YtlchafedbnihoaaGreatDoorJLawTerm
namespace Go.Proofs.YtlchafedbnihoaaGreatDoor
open Go.RowKit
set_option maxRecDepth 20000
set_option maxHeartbeats 16000000
def okL (x:Int):Bool:=decide (0≤x) && decide (x≤3)
theorem zG4 (x:Int) (w:World) :
  Calls Tryz.prog 62 #[.int .i64 x,.int .i64 0,.int .i64 3] w fun e w'=>e=.returned (.bool (okL x))∧w=w':=by
 by_cases h1:0≤x
 ·by_cases h2:x≤3
  ·go_enter Tryz.func62,Tryz.ntmps62
   go_wp2_with fail
   go_ret
   exact ⟨zAB (by simp [okL,h1,h2]),rfl⟩
  ·go_enter Tryz.func62,Tryz.ntmps62
   go_wp2_with fail
   go_ret
   exact ⟨zAB (by simp [okL,h1]; omega),rfl⟩
 ·go_enter Tryz.func62,Tryz.ntmps62
  go_wp2_with fail
  go_ret
  exact ⟨zAB (by simp [okL]; omega),rfl⟩
theorem zJV {l:List UInt8} (h:l=[]):(bs l).toList.isEmpty=true:=by
 have e:(bs l).toList=l:=by simp [bs,ByteArray.toList_eq]
 rw [e,h]; rfl
def dgt (x:Int):UInt8:=UInt8.ofNat (49+x.toNat)
def wdT (l:List Int) (k:Nat):List UInt8:=(l.take k).map dgt
def zAn (l:List Int):List UInt8:=if l=[] then [101] else if l.all okL then l.map dgt else []
theorem zIr (l:List Int) (k:Nat):(wdT l k).length≤k:=by simp [wdT]; omega
theorem zHl {l:List Int} {k:Nat} {x:Int} (h:l[k]? = some x):wdT l (k+1)=wdT l k++[dgt x]:=zGc dgt h
theorem zGG {l:List Int} {k:Nat} {x:Int} (h:l[k]? = some x) (hx:okL x=false):zAn l=[]:=by
 have hm:=zNi h;unfold zAn;rw [if_neg (fun e=>by rw [e] at hm; cases hm),if_neg];intro e;have:=List.all_eq_true.1 e x hm;rw [hx] at this;cases this
theorem zGH {l:List Int} (h:l.length=0):zAn l=[101]:=by unfold zAn; rw [if_pos (List.eq_nil_of_length_eq_zero h)]
theorem zGx {l:List Int} (h:l.length≠0) (ho:∀x∈l,okL x=true):zAn l=wdT l l.length:=by
 unfold zAn wdT;rw [if_neg (fun e=>h (by rw [e]; rfl)),if_pos (List.all_eq_true.2 ho),List.take_of_length_le (zNl _)]
theorem zIW {l:List Int} {k:Nat} {x:Int} (h:l[k]? = some x) (hx:okL x=true) (ho:∀y∈l.take k,okL y=true):∀y∈l.take (k+1),okL y=true:=by
 intro y hy;rw [zAV h,List.mem_append] at hy;rcases hy with hy | hy
 ·exact ho y hy
 ·simp at hy; subst hy; exact hx
theorem zJ5 {x:Int} (h:okL x=true):0≤x∧x≤3:=by simpa [okL] using h
theorem zD1 {l:List Int}:(zAn l).length≤l.length+1:=by
 unfold zAn;split
 ·simp
 ·split <;> simp
theorem zHr {x:Int} (h:0≤x∧x≤3):Lib.itoa (x+1)=[dgt x]:=by
 obtain ⟨n,rfl⟩:=Int.eq_ofNat_of_zero_le h.1;unfold Lib.itoa dgt;rw [if_neg (by omega),show ((n:Int)+1).toNat=n+1 by omega,Lib.decDigits_one (by omega),show (n:Int).toNat=n by omega,show 48+(n+1)=49+n by omega]
theorem zDK {S:Nat→Prop} {v:Value} {l:List Int} {w:World} (h:RI S w v l) (hi:InL l) (hl:l.length≤1048576) :
  Calls Tryz.prog 79 #[v] w fun e w'=>e=.returned (.string (bs (zAn l)))∧Below w.heap.size w w':=by
 obtain ⟨a,cap,rfl⟩:=h.form;have HI:=zNg hi;have HST:=zNg (fun (k:Nat) (x:Int) (hx:l[k]? = some x)=>zHl hx);have HBAD:=zNg (fun (k:Nat) (x:Int) (hx:l[k]? = some x) (h2:okL x=false)=>zGG hx h2);have HOK:=zNg (fun (k:Nat) (x:Int) (hx:l[k]? = some x) (h2:okL x=true) (ho:∀y∈l.take k,okL y=true)=>zIW hx h2 ho);have HLL:=zNg (zIr l);have HE:=zNg (show l.length=0→zAn l=[101] from zGH);have HF:=zNg (show l.length≠0→(∀x∈l.take l.length,okL x=true)→zAn l=wdT l l.length from fun h ho=>zGx h (by rwa [List.take_of_length_le (zNl _)] at ho));have HNL:Hid ((wdT l l.length).length=l.length):=zNg (by simp [wdT]);have H0:Hid (bs (wdT l 0)=⟨#[]⟩):=zNg rfl;have H00:Hid (∀y∈l.take 0,okL y=true):=zNg (fun y hy=>by simp at hy);have HIN:Hid (bs []=(⟨#[]⟩:ByteArray)):=zNg rfl
 generalize zAn l=res at *;generalize hm:l.length=m at *;have HM:=zNg hm;clear hm hi;go_enter Tryz.func79,Tryz.ntmps79
 go_wp2_with fail
 go_loopw [3,4] (fun s j wr=>∃(k:Nat),k≤m∧j=.int .i64 k∧s=.string (bs (wdT l k))∧Hid (∀y∈l.take k,okL y=true)∧Below w.heap.size w wr) (fun _ j _=>m-(intOf j).toNat)
 case atStart=>exact ⟨0,Nat.zero_le _,rfl,by rw [H0.out],H00,Below.refl _ _⟩
 case round =>
  obtain ⟨k,hk,rfl,rfl,ho,hb⟩:=hrel;by_cases h1:k<m
  ·obtain ⟨b,o,x,e8,hcx,hx⟩:=(h.below hb).at h1;subst e8;have i1:(k:Int)<(m:Int):=by omega
   have hx':=HI.out x (zNi hx.out);obtain ⟨hx1,hx2⟩:=hx';have hst:=HST.out k x hx.out;have hlk:=HLL.out k;cases hox:okL x with
   | false =>
    have HR:=zNg (HBAD.out k x hx.out hox);have HC:=fun wr=>zG4 x wr;simp only [hox] at HC;clear hst hox;go_wp2_with fail
    refine (HC wr).mono ?_;rintro e w2 ⟨rfl,rfl⟩;go_wp2_with fail
    go_ret
    exact ⟨by rw [HR.out]; rfl,hb⟩
   | true =>
    have HO:=zNg (HOK.out k x hx.out hox ho.out);have hin:=zJ5 hox;have hit:=zHr hin;have HC:=fun wr=>zG4 x wr;simp only [hox] at HC;have HS:=fun wr=>zBS (n:=x+1) (w:=wr) (by omega);rw [hit] at HS;have HP:Hid (bs (wdT l k)++bs [dgt x]=bs (wdT l (k+1))):=zNg (by rw [hst,zAU]);have c1:¬9223372036854775807<(bs (wdT l k)).size+(bs [dgt x]).size:=by rw [zAP,zAP,List.length_singleton]; omega
    have c2:¬9223372036854775807<(bs (wdT l k)).size+1:=by rw [zAP]; omega
    have hx3:x≤3:=hin.2;have hx0:0≤x:=hin.1;clear hst hox hit hin;go_wp2_with fail
    refine (HC wr).mono ?_;rintro e w2 ⟨rfl,rfl⟩;go_wp2_with fail
    refine (HS wr).mono ?_;rintro e w2 ⟨rfl,b2⟩;go_wp2_with fail
    go_roundw
    case rel=>exact ⟨k+1,by omega,by go_num,by rw [<-HP.out],HO,zAA.step hb b2⟩
    case measure=>simp [intOf]; omega
  ·have hkm:k=m:=by omega
   have i1:¬(k:Int)<(m:Int):=by omega
   rw [hkm] at ho ⊢;clear hkm;by_cases hz:m=0
   ·have HR:=zNg (HE.out hz);have hA:wdT l m=[]:=List.eq_nil_of_length_eq_zero (by rw [HNL.out,hz]);have j2:=zJV hA;clear hz hA;go_wp2_with fail
    go_ret
    exact ⟨by rw [HR.out]; rfl,hb⟩
   ·have HR:=zNg (HF.out hz ho.out);have j2:=zEN (l:=wdT l m) (fun e=>hz (by rw [<-HNL.out,e]; rfl));clear hz;go_wp2_with fail
    go_ret
    exact ⟨by rw [HR.out]; rfl,hb⟩
theorem infoByte:(Tryz.prog.info? 5).map (fun i=>(i.zero,i.size,i.bytes))=some (some (.int .u8 0),1,1):=by kernel_rfl
def FB (S:Nat→Prop) (w:World) (v:Value) (l:List UInt8):Prop:=w.ownsRow 0 5 1 v l.length (l.map fun x=>Value.int .u8 (x.toNat:Int))∧∀b,v.ownBlock=some b→S b
theorem FB.of_row {B:Nat} {w w':World} {v:Value} {l:List UInt8} {n:Nat} {xs:List Value} (h:w'.ownsRow B 5 1 v n xs) (hB:w.heap.size≤B) (hn:n=l.length) (hx:xs=l.map fun x=>Value.int .u8 (x.toNat:Int)):FB (New w w') w' v l:=by
 subst hn hx;exact ⟨zBp h (Nat.zero_le _),fun b hb=>by have:=h.lt b hb; exact ⟨by omega,this.2⟩⟩
theorem FB.below {S:Nat→Prop} {w w':World} {v:Value} {l:List UInt8} (h:FB S w v l) (hb:Below w.heap.size w w'):FB S w' v l :=
 ⟨zA4 h.1 (fun b hv=>hb.block b (h.1.lt b hv).2),h.2⟩
theorem FB.grow {W w w':World} {v:Value} {l:List UInt8} (h:FB (New W w) w v l) (hb:Below w.heap.size w w'):FB (New W w') w' v l :=
 ⟨(h.below hb).1,fun b hv=>⟨(h.2 b hv).1,Nat.lt_of_lt_of_le (h.2 b hv).2 hb.size⟩⟩
theorem FB.form {S:Nat→Prop} {w:World} {v:Value} {l:List UInt8} (h:FB S w v l):∃a cap,v=.slice a l.length cap:=by
 rcases h.1.2 with ⟨rfl,h0⟩ | ⟨g,cap,cur,rfl,_⟩
 ·exact ⟨none,0,by rw [h0]⟩
 ·exact ⟨_,cap,rfl⟩
theorem FB.empty {W w:World} (hb:Below W.heap.size W w):FB (New W (w.alloc (.cells #[] 5))) (w.alloc (.cells #[] 5)) (.slice (some ⟨w.heap.size,0,none⟩) 0 0) []:=by
 have:=FB.of_row (w:=w) (l:=[]) (World.ownsRow_lit (base:=w.heap.size) (e:=5) (size:=1) w #[] 0 (zNl _) (by unfold maxLen; omega) rfl) (zNl _) rfl rfl;exact ⟨this.1,fun b h=>⟨Nat.le_trans hb.size (this.2 b h).1,(this.2 b h).2⟩⟩
section
variable {w:World} {ops:Array Oper} {rest:List Oper} {o:Oper} {a:Act} {Q:Exit→Act→World→Prop}
theorem zJK {W:World} {K:Act→World→Prop} (s x:Operand)
  (ho:o.op=.call { callee:=.builtin .append,args:=#[s,x],argTypes:=#[22,22] })
  {v:Value} {l:List UInt8} {y:UInt8} (hs:a.eval s=v) (hf:FB (New W w) w v l) (hb:Below W.heap.size W w)
  {H:Nat} (hx:a.eval x=.slice (some ⟨H,0,none⟩) 1 1) (hc:w.cell? ⟨H,0,none⟩=some (.int .u8 (y.toNat:Int))) (hlen:l.length+1≤67108864)
  (h:∀v' w',FB (New W w') w' v' (l++[y])→Below W.heap.size W w'→w.grownBy w' v.ownBlock→K (a.put o.dst v') w'):o.wp Tryz.prog a w K Q:=by
 obtain ⟨i0,hi,hz0,hz1,hz2⟩:=info_parts infoByte;obtain ⟨hown,hS⟩:=hf;have hown':w.ownsRow W.heap.size 5 1 v l.length (l.map fun x=>Value.int .u8 (x.toNat:Int)):=by
  refine ⟨hown.1,?_⟩;rcases hown.2 with h | ⟨g,cap,cur,hv,_,r⟩
  ·exact .inl h
  ·exact .inr ⟨g,cap,cur,hv,(hS g (by rw [hv]; rfl)).1,r⟩
 refine wp_append_own w s x 22 ho W.heap.size 5 i0 (.int .u8 0) 1 1 Tryz.underlying22 hi hz0 hz1 hz2 rfl (by decide) v l.length (l.map fun x=>Value.int .u8 (x.toNat:Int)) hs hown' ⟨H,0,none⟩ 1 1 [.int .u8 (y.toNat:Int)] hx rfl ?_ ?_ ?_ ?_ hb.size ?_
 ·intro j u hj
  match j,hj with
  | 0,hj=>simp at hj; subst hj; simpa [Addr.add] using hc
 ·intro u hu; simp at hu; subst hu; rfl
 ·unfold maxLen; omega
 ·omega
 ·intro v' w' h1 h2 _;exact h v' w' (FB.of_row h1 (zNl _) (by simp) (by simp)) (hb.grown h2 hb.size (fun k hk=>(hS k hk).1)) h2
theorem zF9 {W:World} (hgd:o.guard=none) (s x:Operand)
  (ho:o.op=.call { callee:=.builtin .append,args:=#[s,x],argTypes:=#[22,22] })
  {v:Value} {l:List UInt8} {y:UInt8} (hs:a.eval s=v) (hf:FB (New W w) w v l) (hb:Below W.heap.size W w)
  {H:Nat} (hx:a.eval x=.slice (some ⟨H,0,none⟩) 1 1) (hc:w.cell? ⟨H,0,none⟩=some (.int .u8 (y.toNat:Int))) (hlen:l.length+1≤67108864)
  (h:∀v' w',FB (New W w') w' v' (l++[y])→Below W.heap.size W w'→w.grownBy w' v.ownBlock→wpList Tryz.prog ops Q rest (a.put o.dst v') w'):wpList Tryz.prog ops Q (o::rest) a w :=
 wpList_plain hgd fun _ hK=>zJK s x ho hs hf hb hx hc hlen fun v' w' h1 h2 h3=>hK _ _ (h v' w' h1 h2 h3)
end
theorem FB.convert {S:Nat→Prop} {w:World} {v:Value} {l:List UInt8} (h:FB S w v l) (hl:l≠[]) :
  Sem.run Tryz.prog (convert 22 9 v) w=.ok (.string (bs l)) w:=by
 rcases h.1.2 with ⟨rfl,h0⟩ | ⟨g,cap,cur,rfl,_⟩
 ·exact absurd (List.eq_nil_of_length_eq_zero h0) hl
 ·refine run_convert_bytes_back w 22 9 5 ⟨g,0,none⟩ cap l Tryz.underlying22 Tryz.underlying5 Tryz.underlying9 ?_;intro j hj;have:=h.1.cellAt j (by omega);rw [show (⟨g,0,none⟩:Addr).add j=⟨g,j,none⟩ by unfold Addr.add; split <;> simp_all,this,List.getElem?_map,zNh hj];rfl
theorem zLz {x:Int} (h:0≤x∧x≤3):((dgt x).toNat:Int)=49+x:=by
 obtain ⟨n,rfl⟩:=Int.eq_ofNat_of_zero_le h.1;unfold dgt;simp;omega
theorem zFt {S:Nat→Prop} {v:Value} {l:List Int} {w:World} (h:RI S w v l) (hi:InL l) (hl:l.length≤1048576) :
  Calls Tryz.prog 76 #[v] w fun e w'=>e=.returned (.string (bs (zAn l)))∧Below w.heap.size w w':=by
 obtain ⟨a,cap,rfl⟩:=h.form;have HI:=zNg hi;have HST:=zNg (fun (k:Nat) (x:Int) (hx:l[k]? = some x)=>zHl hx);have HBAD:=zNg (fun (k:Nat) (x:Int) (hx:l[k]? = some x) (h2:okL x=false)=>zGG hx h2);have HOK:=zNg (fun (k:Nat) (x:Int) (hx:l[k]? = some x) (h2:okL x=true) (ho:∀y∈l.take k,okL y=true)=>zIW hx h2 ho);have HLL:=zNg (zIr l);have HE:=zNg (show l.length=0→zAn l=[101] from zGH);have HF:=zNg (show l.length≠0→(∀x∈l.take l.length,okL x=true)→zAn l=wdT l l.length from fun h ho=>zGx h (by rwa [List.take_of_length_le (zNl _)] at ho));have HNL:Hid ((wdT l l.length).length=l.length):=zNg (by simp [wdT]);have H0:Hid (wdT l 0=[]):=zNg rfl;have H00:Hid (∀y∈l.take 0,okL y=true):=zNg (fun y hy=>by simp at hy);generalize zAn l=res at *;generalize hm:l.length=m at *;have HM:=zNg hm
 clear hm hi;by_cases hz:m=0
 ·have HR:=zNg (HE.out hz);have i1:((m:Int) == 0)=true:=by simp; omega
  clear hz;go_enter Tryz.func76,Tryz.ntmps76
  go_wp2_with fail
  go_ret
  exact ⟨by rw [HR.out]; rfl,Below.refl _ _⟩
 have HZ:=zNg hz;have i0:((m:Int) == 0)=false:=by simp; omega
 clear hz;go_enter Tryz.func76,Tryz.ntmps76
 go_wp2_with fail
 have f1:=FB.empty (Below.refl _ w);have b1:Below w.heap.size w (w.alloc (.cells #[] 5)):=(Below.refl _ w).alloc (zNl _) _;generalize w.alloc (.cells #[] 5)=w1 at *;rw [<-H0.out] at f1;go_loopw [3,12] (fun zz j wr=>∃(k:Nat) (z:Value),z=zz∧k≤m∧j=.int .i64 k∧FB (New w wr) wr z (wdT l k)∧Hid (∀y∈l.take k,okL y=true)∧Below w.heap.size w wr) (fun _ j _=>m-(intOf j).toNat)
 case atStart=>exact ⟨0,_,rfl,Nat.zero_le _,rfl,f1,H00,b1⟩
 case round =>
  obtain ⟨k,z,rfl,hk,rfl,hf,ho,hb⟩:=hrel;by_cases h1:k<m
  ·obtain ⟨b,o,x,e8,hcx,hx⟩:=(h.below hb).at h1;subst e8;have i1:(k:Int)<(m:Int):=by omega
   have hx':=HI.out x (zNi hx.out);obtain ⟨hx1,hx2⟩:=hx';have hst:=HST.out k x hx.out;have hlk:=HLL.out k;cases hox:okL x with
   | false =>
    have HR:=zNg (HBAD.out k x hx.out hox);clear hst;by_cases hx0:x<0
    ·clear hox;go_wp2_with fail
     go_ret
     exact ⟨by rw [HR.out]; rfl,hb⟩
    ·have hx4:4≤x:=by
      simp [okL] at hox; omega
     clear hox;go_wp2_with fail
     go_ret
     exact ⟨by rw [HR.out]; rfl,hb⟩
   | true =>
    have HO:=zNg (HOK.out k x hx.out hox ho.out);have hin:=zJ5 hox;have hx3:¬4≤x:=by omega
    have hx0:¬x<0:=by omega
    have HD:=zNg (zLz hin);clear hox hin;have hlk1:(wdT l k).length+1≤67108864:=by omega
    have hcell:(wr.alloc (.cells #[Value.int IntKind.u8 (49+x)] 5)).cell? ⟨wr.heap.size,0,none⟩=some (.int .u8 ((dgt x).toNat:Int)):=by rw [HD.out]; go_simp
    have hbb:Below wr.heap.size wr (wr.alloc (.cells #[Value.int IntKind.u8 (49+x)] 5)):=(Below.refl _ wr).alloc (zNl _) _;have HFF:=zNg (hf.grow hbb);have HBB:=zNg (zAA.step hb hbb);have HCC:=zNg hcell;clear hcell;go_wp2_with (at_builtin; go_must (refine zF9 (W:=w) (y:=dgt x) rfl _ _ rfl rfl HFF.out HBB.out rfl HCC.out hlk1 ?_))
    intro v9 w9 f9 b9 hgrow;rw [<-hst] at f9;clear hst;go_wp2_with fail
    go_roundw
    case rel=>exact ⟨k+1,_,rfl,by omega,by go_num,f9,HO,b9⟩
    case measure=>simp [intOf]; omega
  ·have hkm:k=m:=by omega
   have i1:¬(k:Int)<(m:Int):=by omega
   rw [hkm] at ho hf ⊢;clear hkm;have HR:=zNg (HF.out HZ.out ho.out);have hcv:=hf.convert (fun e=>HZ.out (by rw [<-HNL.out,e]; rfl));go_wp2_with fail
   go_ret
   exact ⟨by rw [HR.out]; rfl,hb⟩
end Go.Proofs.YtlchafedbnihoaaGreatDoor
namespace Go.Proofs.YtlchafedbnihoaaGreatDoor
open Go.RowKit
set_option maxRecDepth 20000
set_option maxHeartbeats 16000000
def fmtT (x:Trm):List UInt8:=[40]++fmtP x.2++[41]++zAn x.1
def zBe (L:List Trm):List UInt8:=if L=[] then [48] else jn [32,43,32] (L.map fmtT)
def TOk (L:List Trm):Prop:=∀x∈L,InL x.1∧InL x.2∧x.1.length≤1048576∧x.2.length≤1048576
theorem zEm {l:List Int} (h:InL l) (hl:l.length≤1048576):(fmtP l).length≤47185920:=by
 have:=zFZ h l.length hl;unfold fmtP;split
 ·simp
 ·omega
theorem zGF {L:List Trm} (h:TOk L):∀x∈L.map fmtT,x.length≤48234500:=by
 intro x hx;obtain ⟨y,hy,rfl⟩:=List.mem_map.1 hx;obtain ⟨_,h2,h3,h4⟩:=h y hy;have h5:=zEm h2 h4;have h6:=zD1 (l:=y.1);unfold fmtT;simp;omega
theorem sz1 (a:UInt8):(ByteArray.mk #[a]).size=1:=rfl
theorem sz3 (a b c:UInt8):(ByteArray.mk #[a,b,c]).size=3:=rfl
theorem zFI {S:Nat→Prop} {v:Value} {L:List Trm} {w:World} (h:RT S w v L) (hi:TOk L) (hl:L.length≤1048576) :
  Calls Tryz.prog 34 #[v] w fun e w'=>e=.returned (.string (bs (zBe L)))∧Below w.heap.size w w':=by
 obtain ⟨a,cap,rfl⟩:=h.form;have HI:=zNg hi;have HST:=zNg (fun (k:Nat) (x:Trm) (hx:L[k]? = some x)=>(show jn [32,43,32] ((L.map fmtT).take (k+1))=if k=0 then fmtT x else jn [32,43,32] ((L.map fmtT).take k)++([32,43,32]++fmtT x) from by
  rw [zAV (L:=L.map fmtT) (k:=k) (x:=fmtT x) (by rw [List.getElem?_map,hx]; rfl),zMA];have hk:k<L.length:=(zNj hx).1;by_cases h0:k=0
  ·subst h0; simp
  ·rw [if_neg h0,if_neg];intro e;have:=congrArg List.length e;rw [List.length_take,List.length_map,List.length_nil] at this;omega))
 have HF:=zNg (show (L=[]→zBe L=[48])∧(L≠[]→zBe L=jn [32,43,32] ((L.map fmtT).take L.length)∧jn [32,43,32] ((L.map fmtT).take L.length)≠[]) from by
  refine ⟨fun e=>by unfold zBe; rw [if_pos e],fun e=>?_⟩;have e2:(L.map fmtT).take L.length=L.map fmtT:=List.take_of_length_le (by simp);refine ⟨by unfold zBe; rw [if_neg e,e2],?_⟩;rw [e2];cases L with
  | nil=>exact absurd rfl e
  | cons x r =>
   intro e3;have:=congrArg List.length e3;simp [jn,Lib.join_cons,fmtT] at this)
 have H0:Hid (jn [32,43,32] ((L.map fmtT).take 0)=[]):=zNg rfl;have HLL:Hid (∀k,(jn [32,43,32] ((L.map fmtT).take k)).length≤k*48234503):=zNg (fun k=>by
  exact zHs [32,43,32] 48234500 48234503 rfl (L.map fmtT) (zGF hi) k)
 generalize hm:L.length=m at *;have HM:=zNg hm;clear hm hi;generalize zBe L=res at *;have HE:Hid (bs []=⟨#[]⟩):=zNg rfl;go_enter Tryz.func34,Tryz.ntmps34
 go_wp2_with fail
 go_loopw [3,4] (fun s j wr=>∃(k:Nat),k≤m∧j=.int .i64 k∧s=.string (bs (jn [32,43,32] ((L.map fmtT).take k)))∧Below w.heap.size w wr) (fun _ j _=>m-(intOf j).toNat)
 case atStart=>exact ⟨0,Nat.zero_le _,rfl,by rw [H0.out,HE.out],Below.refl _ _⟩
 case round =>
  obtain ⟨k,hk,rfl,rfl,hb⟩:=hrel;by_cases h1:k<m
  ·obtain ⟨b,o,r,r',x,e8,hc,hc',⟨hr,hr'⟩,hx⟩:=(h.below hb).at h1;subst e8;obtain ⟨ax,cx,rfl⟩:=hr.form;obtain ⟨ay,cy,rfl⟩:=hr'.form;have i1:(k:Int)<(m:Int):=by omega
   obtain ⟨hx1,hx2,hx3,hx4⟩:=HI.out x (zNi hx.out);have hst:=HST.out k x hx.out;have hlk:=HLL.out k;have hpz:(bs (fmtP x.2)).size≤47185920:=by rw [zAP]; exact zEm hx2 hx4
   have hwz:(bs (zAn x.1)).size≤1048577:=by rw [zAP]; exact Nat.le_trans zD1 (by omega)
   generalize jn [32,43,32] ((L.map fmtT).take k)=A at *;generalize hA':jn [32,43,32] ((L.map fmtT).take (k+1))=A' at *;have HA':=zNg hA';clear hA';have g0:=fun y:GW wr=>y.cell hc;have g1:=fun y:GW wr=>y.cell hc';have hla:(bs A).size≤50577534877696:=by rw [zAP]; omega
   by_cases h0:k=0
   ·rw [if_pos h0] at hst;have hA:A=[]:=List.eq_nil_of_length_eq_zero (by omega);clear hlk;have HAA:Hid (bs A ++ ⟨#[40]⟩++bs (fmtP x.2) ++ ⟨#[41]⟩++bs (zAn x.1)=bs A'):=zNg (by
     rw [show (⟨#[40]⟩:ByteArray)=bs [40] from rfl,show (⟨#[41]⟩:ByteArray)=bs [41] from rfl];simp only [zAU];rw [hst,hA];unfold fmtT;simp)
    have c0:¬9223372036854775807<(bs A).size+(ByteArray.mk #[40]).size:=by first | omega | (simp only [ByteArray.size_append,sz1,sz3]; omega)
    have c1:¬9223372036854775807<(bs A).size+1:=by first | omega | (simp only [ByteArray.size_append,sz1,sz3]; omega)
    have c2:¬9223372036854775807<(bs A ++ ⟨#[40]⟩).size+(bs (fmtP x.2)).size:=by first | omega | (simp only [ByteArray.size_append,sz1,sz3]; omega)
    have c3:¬9223372036854775807<(bs A ++ ⟨#[40]⟩++bs (fmtP x.2)).size+(ByteArray.mk #[41]).size:=by first | omega | (simp only [ByteArray.size_append,sz1,sz3]; omega)
    have c4:¬9223372036854775807<(bs A ++ ⟨#[40]⟩++bs (fmtP x.2)).size+1:=by first | omega | (simp only [ByteArray.size_append,sz1,sz3]; omega)
    have c5:¬9223372036854775807<(bs A ++ ⟨#[40]⟩++bs (fmtP x.2) ++ ⟨#[41]⟩).size+(bs (zAn x.1)).size:=by first | omega | (simp only [ByteArray.size_append,sz1,sz3]; omega)
    have c6:¬9223372036854775807<(bs A).size+1:=by omega
    have c7:¬9223372036854775807<(bs A).size+1+(bs (fmtP x.2)).size:=by omega
    have c8:¬9223372036854775807<(bs A).size+1+(bs (fmtP x.2)).size+1:=by omega
    have c9:¬9223372036854775807<(bs A).size+1+(bs (fmtP x.2)).size+1+(bs (zAn x.1)).size:=by omega
    have i2:¬0<(k:Int):=by omega
    clear hst h0 hA;go_wp2_with fail
    refine zAK (by kernel_rfl) (by kernel_rfl) ?_
    repeat (go_big_quiet_step ((first | (rename_i y; go_at_call 78; exact Calls.grow y (zDJ (hr'.below y.le) hx2 hx4)) | (rename_i y; go_at_call 79; exact Calls.grow y (zDK (hr.below y.le) hx1 hx3)))))
    refine wpQuiet_nil ?_;intro w8 hb8;go_wp2_with fail
    go_roundw
    case rel=>exact ⟨k+1,by omega,by go_num,by rw [HAA.out,<-HA'.out],zAA.step hb hb8⟩
    case measure=>simp [intOf]; omega
   ·rw [if_neg h0] at hst;clear hlk;have HAA:Hid (bs A ++ ⟨#[32,43,32]⟩ ++ ⟨#[40]⟩++bs (fmtP x.2) ++ ⟨#[41]⟩++bs (zAn x.1)=bs A'):=zNg (by
     rw [show (⟨#[40]⟩:ByteArray)=bs [40] from rfl,show (⟨#[41]⟩:ByteArray)=bs [41] from rfl];rw [show (⟨#[32,43,32]⟩:ByteArray)=bs [32,43,32] from rfl];simp only [zAU];rw [hst];unfold fmtT;simp)
    have d0:¬9223372036854775807<(bs A).size+(ByteArray.mk #[32,43,32]).size:=by first | omega | (simp only [ByteArray.size_append,sz1,sz3]; omega)
    have d0':¬9223372036854775807<(bs A).size+3:=by first | omega | (simp only [ByteArray.size_append,sz1,sz3]; omega)
    have c0:¬9223372036854775807<(bs A ++ ⟨#[32,43,32]⟩).size+(ByteArray.mk #[40]).size:=by first | omega | (simp only [ByteArray.size_append,sz1,sz3]; omega)
    have c1:¬9223372036854775807<(bs A ++ ⟨#[32,43,32]⟩).size+1:=by first | omega | (simp only [ByteArray.size_append,sz1,sz3]; omega)
    have c2:¬9223372036854775807<(bs A ++ ⟨#[32,43,32]⟩ ++ ⟨#[40]⟩).size+(bs (fmtP x.2)).size:=by first | omega | (simp only [ByteArray.size_append,sz1,sz3]; omega)
    have c3:¬9223372036854775807<(bs A ++ ⟨#[32,43,32]⟩ ++ ⟨#[40]⟩++bs (fmtP x.2)).size+(ByteArray.mk #[41]).size:=by first | omega | (simp only [ByteArray.size_append,sz1,sz3]; omega)
    have c4:¬9223372036854775807<(bs A ++ ⟨#[32,43,32]⟩ ++ ⟨#[40]⟩++bs (fmtP x.2)).size+1:=by first | omega | (simp only [ByteArray.size_append,sz1,sz3]; omega)
    have c5:¬9223372036854775807<(bs A ++ ⟨#[32,43,32]⟩ ++ ⟨#[40]⟩++bs (fmtP x.2) ++ ⟨#[41]⟩).size+(bs (zAn x.1)).size:=by first | omega | (simp only [ByteArray.size_append,sz1,sz3]; omega)
    have c6:¬9223372036854775807<(bs A).size+3+1:=by omega
    have c7:¬9223372036854775807<(bs A).size+3+1+(bs (fmtP x.2)).size:=by omega
    have c8:¬9223372036854775807<(bs A).size+3+1+(bs (fmtP x.2)).size+1:=by omega
    have c9:¬9223372036854775807<(bs A).size+3+1+(bs (fmtP x.2)).size+1+(bs (zAn x.1)).size:=by omega
    have i2:0<(k:Int):=by omega
    clear hst h0;go_wp2_with fail
    refine zAK (by kernel_rfl) (by kernel_rfl) ?_
    repeat (go_big_quiet_step ((first | (rename_i y; go_at_call 78; exact Calls.grow y (zDJ (hr'.below y.le) hx2 hx4)) | (rename_i y; go_at_call 79; exact Calls.grow y (zDK (hr.below y.le) hx1 hx3)))))
    refine wpQuiet_nil ?_;intro w8 hb8;go_wp2_with fail
    go_roundw
    case rel=>exact ⟨k+1,by omega,by go_num,by rw [HAA.out,<-HA'.out],zAA.step hb hb8⟩
    case measure=>simp [intOf]; omega
  ·have hkm:k=m:=by omega
   have i1:¬(k:Int)<(m:Int):=by omega
   rw [hkm];clear hkm;by_cases h0:L=[]
   ·have HR:Hid (bs res=⟨#[48]⟩):=zNg (by rw [HF.out.1 h0]; rfl);have hz:jn [32,43,32] ((L.map fmtT).take m)=[]:=by rw [h0]; simp [jn,Lib.join_nil]
    rw [hz,HE.out];clear hz;go_wp2_with fail
    go_ret
    rw [HR.out];exact ⟨rfl,hb⟩
   ·obtain ⟨e1,e2⟩:=HF.out.2 h0;have HR:Hid (res=jn [32,43,32] ((L.map fmtT).take m)):=zNg e1;have c1:=zEN e2;clear e1 e2;go_wp2_with fail
    go_ret
    rw [HR.out];exact ⟨rfl,hb⟩
theorem zFH {S:Nat→Prop} {v:Value} {L:List Trm} {w:World} {B:Nat} (h:RT S w v L) (hi:TOk L) (hl:L.length≤1048576) (ht:Tab B w) (hB:B≤w.heap.size) :
  Calls Tryz.prog 33 #[v] w fun e w'=>e=.returned (.string (bs (zBe L)))∧Below w.heap.size w w':=by
 obtain ⟨a,cap,rfl⟩:=h.form;have HI:=zNg hi;have HT:=zNg ht;have HJ:=zNg (zGF hi);have HST:=zNg (fun (k:Nat) (x:Trm) (hx:L[k]? = some x)=>zAV (L:=L.map fmtT) (k:=k) (x:=fmtT x) (by rw [List.getElem?_map,hx]; rfl));have HF:=zNg (show (L.length=0→zBe L=[48])∧(L.length≠0→zBe L=jn [32,43,32] (L.map fmtT)) from
  ⟨fun e=>by unfold zBe; rw [if_pos (List.eq_nil_of_length_eq_zero e)],fun e=>by unfold zBe; rw [if_neg (fun h=>e (by rw [h]; rfl))]⟩)
 have H0:Hid ((L.map fmtT).take 0=[]):=zNg rfl;have HN:Hid ((L.map fmtT).take L.length=L.map fmtT):=zNg (List.take_of_length_le (by simp));have HLL:Hid (∀k,((L.map fmtT).take k).length≤k):=zNg (fun k=>by simp; omega);have HML:Hid ((L.map fmtT).length=L.length):=zNg (by simp);generalize hm:L.length=m at *;have HM:=zNg hm;clear hm hi ht;generalize zBe L=res at *;by_cases hz:m=0
 ·have HR:Hid (bs res=⟨#[48]⟩):=zNg (by rw [HF.out.1 hz]; rfl);have i1:((m:Int) == 0)=true:=by simp; omega
  clear hz;go_enter Tryz.func33,Tryz.ntmps33
  go_wp2_with fail
  go_ret
  rw [HR.out];exact ⟨rfl,Below.refl _ _⟩
 have HR:Hid (res=jn [32,43,32] (L.map fmtT)):=zNg (HF.out.2 hz);have i0:((m:Int) == 0)=false:=by simp; omega
 clear hz;go_enter Tryz.func33,Tryz.ntmps33
 go_wp2_with fail
 have f1:=FS.empty (Below.refl _ w);have b1:Below w.heap.size w (w.alloc (.cells #[] 9)):=(Below.refl _ w).alloc (zNl _) _;generalize w.alloc (.cells #[] 9)=w1 at *;rw [<-H0.out] at f1;go_loopw [3,12] (fun zz j wr=>∃(k:Nat) (z:Value),z=zz∧k≤m∧j=.int .i64 k∧FS (New w wr) wr z ((L.map fmtT).take k)∧Below w.heap.size w wr) (fun _ j _=>m-(intOf j).toNat)
 case atStart=>exact ⟨0,_,rfl,Nat.zero_le _,rfl,f1,b1⟩
 case round =>
  obtain ⟨k,z,rfl,hk,rfl,hf,hb⟩:=hrel;by_cases h1:k<m
  ·obtain ⟨b,o,r,r',x,e8,hc,hc',⟨hr,hr'⟩,hx⟩:=(h.below hb).at h1;subst e8;obtain ⟨ax,cx,rfl⟩:=hr.form;obtain ⟨ay,cy,rfl⟩:=hr'.form;have i1:(k:Int)<(m:Int):=by omega
   obtain ⟨hx1,hx2,hx3,hx4⟩:=HI.out x (zNi hx.out);have hpz:(bs (fmtP x.2)).size≤47185920:=by rw [zAP]; exact zEm hx2 hx4
   have hwz:(bs (zAn x.1)).size≤1048577:=by rw [zAP]; exact Nat.le_trans zD1 (by omega)
   obtain ⟨w2,hw2⟩:∃w2,w2=wr.alloc (.cells #[.slice ax x.1.length cx,.slice ay x.2.length cy] 39):=⟨_,rfl⟩;have b2:Below wr.heap.size wr w2:=by rw [hw2]; exact (Below.refl _ wr).alloc (zNl _) _
   have k0:w2.cell? ⟨wr.heap.size,0,none⟩=some (.slice ax x.1.length cx):=by rw [hw2]; go_simp
   have k1:w2.cell? ⟨wr.heap.size,1,none⟩=some (.slice ay x.2.length cy):=by rw [hw2]; go_simp
   have hr2:=hr.below b2;have hr3:=hr'.below b2;have hf2:=hf.grow b2;have b02:=zAA.step hb b2;have HW2:=zNg hw2;have d0:¬9223372036854775807<(ByteArray.mk #[40]).size+(bs (fmtP x.2)).size:=by simp only [ByteArray.size_append,sz1,sz3]; omega
   have d1:¬9223372036854775807<1+(bs (fmtP x.2)).size:=by omega
   have d2:¬9223372036854775807<(⟨#[40]⟩++bs (fmtP x.2)).size+(ByteArray.mk #[41]).size:=by simp only [ByteArray.size_append,sz1,sz3]; omega
   have d3:¬9223372036854775807<1+(bs (fmtP x.2)).size+1:=by omega
   have d4:¬9223372036854775807<(⟨#[40]⟩++bs (fmtP x.2) ++ ⟨#[41]⟩).size+(bs (zAn x.1)).size:=by simp only [ByteArray.size_append,sz1,sz3]; omega
   have d5:¬9223372036854775807<1+(bs (fmtP x.2)).size+1+(bs (zAn x.1)).size:=by omega
   have HAA:Hid (⟨#[40]⟩++bs (fmtP x.2) ++ ⟨#[41]⟩++bs (zAn x.1)=bs (fmtT x)):=zNg (by
    rw [show (⟨#[40]⟩:ByteArray)=bs [40] from rfl,show (⟨#[41]⟩:ByteArray)=bs [41] from rfl];simp only [zAU];try unfold fmtT
    try simp)
   have l0:wr.heap.size<w2.heap.size:=by rw [hw2]; simp
   have hne:some wr.heap.size≠z.ownBlock:=fun e=>by have:=(hf.2 _ e.symm).2; omega
   have hlk:=HLL.out k;have hlk1:((L.map fmtT).take k).length+1≤67108864:=by omega
   clear hw2;go_wp2_with fail
   rw [<-HW2.out]
   go_region_held3 (fun w'=>w'.cell? ⟨wr.heap.size,0,none⟩=some (.slice ax x.1.length cx)∧w'.cell? ⟨wr.heap.size,1,none⟩=some (.slice ay x.2.length cy)) (first | go_keep | exact ⟨(b3.cell (p:=⟨wr.heap.size,0,none⟩) l0).trans k0,(b3.cell (p:=⟨wr.heap.size,1,none⟩) l0).trans k1⟩ | exact ⟨(b4.cell (p:=⟨wr.heap.size,0,none⟩) (Nat.lt_of_lt_of_le l0 b3.size)).trans ((b3.cell (p:=⟨wr.heap.size,0,none⟩) l0).trans k0),(b4.cell (p:=⟨wr.heap.size,1,none⟩) (Nat.lt_of_lt_of_le l0 b3.size)).trans ((b3.cell (p:=⟨wr.heap.size,1,none⟩) l0).trans k1)⟩ | exact ⟨hgrow.cell (zAT ((b4.cell (p:=⟨wr.heap.size,0,none⟩) (Nat.lt_of_lt_of_le l0 b3.size)).trans ((b3.cell (p:=⟨wr.heap.size,0,none⟩) l0).trans k0)) _) hne,hgrow.cell (zAT ((b4.cell (p:=⟨wr.heap.size,1,none⟩) (Nat.lt_of_lt_of_le l0 b3.size)).trans ((b3.cell (p:=⟨wr.heap.size,1,none⟩) l0).trans k1)) _) hne⟩) (first
    | (go_at_call 75; refine (zFs hr3.drew hx2 hx4 (HT.out.on ((b02.drew).mono hB)) (Nat.le_trans hB b02.size)).mono ?_; rintro e w3 ⟨rfl,b3⟩)
    | (go_at_call 76; refine (zFt (hr2.drew.below b3) hx1 hx3).mono ?_; rintro e w4 ⟨rfl,b4⟩)
    | (refine zHw (W:=w) (y:=fmtT x) (by rfl) _ _ (by rfl) (by rfl) (((hf2.grow ((Below.refl _ w2).drew)).grow (zAA.step b3 b4)).grow ((Below.refl _ w4).alloc (zNl _) _)) ((zAA.step b02.drew (zAA.step b3 b4)).alloc (zAA.step b02.drew (zAA.step b3 b4)).size _) (by rfl) (by rw [<-HAA.out]; go_simp) hlk1 ?_; intro v9 w9 f9 b9 hgrow))
   rw [<-HST.out k x hx.out] at f9;go_wp2_with fail
   go_roundw
   case rel=>exact ⟨k+1,_,rfl,by omega,by go_num,f9,b9⟩
   case measure=>simp [intOf]; omega
  ·have hkm:k=m:=by omega
   have i1:¬(k:Int)<(m:Int):=by omega
   rw [hkm,HN.out] at hf;clear hkm;have e32:bs [32,43,32]=⟨#[32,43,32]⟩:=rfl;have hj:=zJq (sp:=[32,43,32]) hf (by rw [HML.out]; omega) (fun x hx=>by have:=HJ.out x hx; omega) (by decide);rw [e32] at hj;go_wp2_with fail
   refine hj.mono ?_;rintro e w3 ⟨rfl,b3⟩;go_wp2_with fail
   go_ret
   rw [HR.out];exact ⟨rfl,zAA.step hb b3⟩
theorem zE6.wf {w:World} {v:Value} {L:List Trm} (h:RL2 none Any zE6 w v L):∀x∈L,InL x.1∧InL x.2:=by
 intro x hx;obtain ⟨a,cap,_,_,h⟩:=h;rcases h with h | ⟨b,o,_,_,_,h⟩
 ·subst h; cases hx
 ·obtain ⟨j,hj⟩:=List.getElem?_of_mem hx;obtain ⟨r,r',_,_,h2⟩:=h j x hj;exact ⟨fun y hy=>i64_in (RIW.wf h2.1 y hy),fun y hy=>i64_in (RIW.wf h2.2 y hy)⟩
theorem zEo {S:Nat→Prop} {v:Value} {L:List Trm} {w:World} (h:RT S w v L) (_:zAD L≤16777216) (hi:TOk L∧L.length≤1048576) :
  Calls Tryz.prog 34 #[v] w fun e w'=>e=.returned (.string (bs (zBe L)))∧Below w.heap.size w w':=zFI h hi.1 hi.2
theorem zEn {S:Nat→Prop} {v:Value} {L:List Trm} {w:World} {B:Nat} (h:RT S w v L) (_:zAD L≤16777216) (hi:TOk L∧L.length≤1048576) (ht:Tab B w) (hB:B≤w.heap.size) :
  Calls Tryz.prog 33 #[v] w fun e w'=>e=.returned (.string (bs (zBe L)))∧Below w.heap.size w w':=zFH h hi.1 hi.2 ht hB
end Go.Proofs.YtlchafedbnihoaaGreatDoor
