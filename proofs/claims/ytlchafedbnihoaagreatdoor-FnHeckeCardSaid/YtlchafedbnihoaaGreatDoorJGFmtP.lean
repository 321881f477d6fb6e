/- Polynomials as text. Condition: sizes up to 2^20. -/
import Derived.Test.YtlchafedbnihoaaGreatDoorJGFmtC
namespace Go.Proofs.YtlchafedbnihoaaGreatDoor
open Go.RowKit
set_option maxRecDepth 20000
set_option maxHeartbeats 16000000
def at0 (l:List Int) (k:Nat):Int:=l[k]?.getD 0
def qT (k:Nat):List UInt8:=if k=0 then [] else if k=1 then [113] else [113,94]++Lib.itoa k
def zAe (u:Nat) (k:Nat):List UInt8:=(if k=0∨u≠1 then Lib.decDigits u else [])++qT k
def zFh (s:List UInt8) (x:Int):List UInt8:=if x<0 then [45] else if s=[] then [] else [43]
def zCn (s:List UInt8) (k:Nat) (x:Int):List UInt8:=if x=0 then s else s++(zFh s x++zAe x.natAbs k)
def pT (l:List Int):Nat→List UInt8
 | 0=>[]
 | k+1=>zCn (pT l k) k (at0 l k)
def fmtP (l:List Int):List UInt8:=if pT l l.length=[] then [48] else pT l l.length
theorem zCl (u:Nat):zAe u 0=Lib.decDigits u:=by unfold zAe qT; rw [if_pos (Or.inl rfl),if_pos rfl,List.append_nil]
theorem zB8 {u k:Nat} (h:u≠1):zAe u k=Lib.decDigits u++qT k:=by unfold zAe; rw [if_pos (Or.inr h)]
theorem zBq {k:Nat} (h:k≠0):zAe 1 k=qT k:=by unfold zAe; rw [if_neg (by simp; omega)]; rfl
theorem zKJ {k:Nat} (h:k≤1048576):(qT k).length≤23:=by
 unfold qT;split
 ·simp
 ·split
  ·simp
  ·have:=Lib.itoa_length_le k (by omega) (by omega);simp; omega
theorem zEu {x:Int} (h:¬x<0):Lib.itoa x=Lib.decDigits x.natAbs:=by
 unfold Lib.itoa; rw [if_neg h,show x.toNat=x.natAbs by omega]
theorem zEt {x:Int} (h:x<0):Lib.itoa x=45::Lib.decDigits x.natAbs:=by
 unfold Lib.itoa; rw [if_pos h]
theorem zGs {x:Int} (h:-9223372036854775808≤x∧x≤9223372036854775807):(Lib.decDigits x.natAbs).length≤21:=by
 have:=Lib.itoa_length_le x h.1 h.2;by_cases hx:x<0
 ·rw [zEt hx] at this; simp at this; omega
 ·rwa [zEu hx] at this
theorem zEA {x:Int} {k:Nat} (h:-9223372036854775808≤x∧x≤9223372036854775807) (hk:k≤1048576):(zAe x.natAbs k).length≤44:=by
 have h1:=zGs h;have h2:=zKJ hk;unfold zAe;split <;> simp <;> omega
theorem zKU {s:List UInt8} {x:Int} {k:Nat} (h:-9223372036854775808≤x∧x≤9223372036854775807) (hk:k≤1048576):(zCn s k x).length≤s.length+45:=by
 have h1:=zEA h hk;unfold zCn zFh;split
 ·omega
 ·split
  ·simp; omega
  ·split <;> simp <;> omega
theorem zMu {l:List Int} (h:InL l) (k:Nat):-9223372036854775808≤at0 l k∧at0 l k≤9223372036854775807:=by
 unfold at0;cases e:l[k]? with
 | none=>simp
 | some x=>exact h x (zNi e)
theorem zFZ {l:List Int} (h:InL l):∀k,k≤1048576→(pT l k).length≤k*45
 | 0,_=>by simp [pT]
 | k+1,hk=>by
  have h1:=zFZ h k (by omega);have h2:=zKU (s:=pT l k) (k:=k) (zMu h k) (by omega);show (zCn (pT l k) k (at0 l k)).length≤_;omega
theorem zBR {u:Nat} (h:u≠0):Lib.decDigits u=[49]↔u=1:=by
 constructor
 ·intro e;have hl:=congrArg List.length e;rw [Lib.decDigits_length,List.length_singleton] at hl;have h10:u<10:=by
   rcases Nat.lt_or_ge u 10 with h | h
   ·exact h
   ·rw [Lib.nDigits_big (by omega)] at hl;have:=Lib.nDigits_pos (u / 10);omega
  rw [Lib.decDigits_one h10] at e;have:=congrArg (List.map UInt8.toNat) e;simp at this;omega
 ·rintro rfl; rw [Lib.decDigits_one (by decide)]; rfl
theorem zEC {x:Int} {k:Nat} {w:World} (h:-9223372036854775808≤x∧x≤9223372036854775807) (hx:0<x∨x≤-9223372036854775808) (hk:k≤1048576) :
  Calls Tryz.prog 109 #[.int .i64 x,.int .i64 k] w fun e w'=>e=.returned (.string (bs ((if x<0 then [45] else [])++zAe x.natAbs k)))∧Below w.heap.size w w':=by
 have hit:(if x<0 then [45] else [])++Lib.decDigits x.natAbs=Lib.itoa x:=by
  by_cases hn:x<0
  ·rw [if_pos hn,zEt hn]; rfl
  ·rw [if_neg hn,zEu hn]; rfl
 have hl:=Lib.itoa_length_le x h.1 h.2;by_cases h0:k=0
 ·subst h0;have HR:Hid ((if x<0 then [45] else [])++zAe x.natAbs 0=Lib.itoa x):=zNg (by
   rw [zCl,hit])
  rw [HR.out];clear hit;go_enter Tryz.func109,Tryz.ntmps109
  go_wp2_with fail
  refine (zBS h).mono ?_;rintro e w1 ⟨rfl,b1⟩;go_wp2_with fail
  go_ret
  exact ⟨rfl,b1⟩
 ·have i0:((k:Int) == 0)=false:=by simp; omega
  have HR:Hid (x=1→(if x<0 then [45] else [])++zAe x.natAbs k=qT k):=zNg (fun e=>by
   subst e;rw [if_neg (by decide),show (1:Int).natAbs=1 from rfl,zBq h0]; rfl)
  have HR2:Hid (x≠1→(if x<0 then [45] else [])++zAe x.natAbs k=Lib.itoa x++qT k):=zNg (fun e=>by
   rw [zB8 (by omega),<-List.append_assoc,hit])
  generalize (if x<0 then [45] else [])++zAe x.natAbs k=res at *;clear hit;by_cases h1:k=1
  ·have hq:qT k=[113]:=by unfold qT; rw [if_neg h0,if_pos h1]
   rw [hq] at HR HR2;have i1:¬(1:Int)<(k:Int):=by omega
   clear h0 h1 hq;by_cases hx1:x=1
   ·have HRR:=zNg (HR.out hx1);have i2:(x == 1)=true:=by simp [hx1]
    clear hx1;go_enter Tryz.func109,Tryz.ntmps109
    go_wp2_with fail
    go_ret
    exact ⟨by rw [HRR.out]; rfl,Below.refl _ _⟩
   ·have HRR:=zNg (HR2.out hx1);have i2:(x == 1)=false:=by simp [hx1]
    have HBB:Hid (bs (Lib.itoa x) ++ ⟨#[113]⟩=bs res):=zNg (by rw [HRR.out,<-zAU]; rfl);have c1:¬9223372036854775807<(bs (Lib.itoa x)).size+1:=by rw [zAP]; omega
    have c1':¬9223372036854775807<(bs (Lib.itoa x)).size+(ByteArray.mk #[113]).size:=by rw [show (ByteArray.mk #[113]).size=1 from rfl,zAP]; omega
    clear hx1;go_enter Tryz.func109,Tryz.ntmps109
    go_wp2_with fail
    refine (zBS h).mono ?_;rintro e w1 ⟨rfl,b1⟩;go_wp2_with fail
    go_ret
    exact ⟨by rw [<-HBB.out]; rfl,b1⟩
  ·have hq:qT k=[113,94]++Lib.itoa k:=by unfold qT; rw [if_neg h0,if_neg h1]
   have hk2:-9223372036854775808≤(k:Int)∧(k:Int)≤9223372036854775807:=by omega
   have hlk:=Lib.itoa_length_le k hk2.1 hk2.2;have i1:(1:Int)<(k:Int):=by omega
   have HQB:Hid ((⟨#[113,94]⟩:ByteArray)++bs (Lib.itoa k)=bs (qT k)):=zNg (by rw [hq,<-zAU]; rfl);have hql:(qT k).length≤23:=zKJ hk;have c0:¬9223372036854775807<2+(bs (Lib.itoa k)).size:=by rw [zAP]; omega
   have c0':¬9223372036854775807<(ByteArray.mk #[113,94]).size+(bs (Lib.itoa k)).size:=by rw [show (ByteArray.mk #[113,94]).size=2 from rfl,zAP]; omega
   clear h0 h1 hq;by_cases hx1:x=1
   ·have HRR:=zNg (HR.out hx1);have i2:(x == 1)=true:=by simp [hx1]
    clear hx1;go_enter Tryz.func109,Tryz.ntmps109
    go_wp2_with fail
    refine (zBS hk2).mono ?_;rintro e w1 ⟨rfl,b1⟩;go_wp2_with fail
    go_ret
    exact ⟨by rw [HRR.out,<-HQB.out]; rfl,b1⟩
   ·have HRR:=zNg (HR2.out hx1);have i2:(x == 1)=false:=by simp [hx1]
    have HBB:Hid (bs (Lib.itoa x)++((⟨#[113,94]⟩:ByteArray)++bs (Lib.itoa k))=bs res):=zNg (by rw [HQB.out,HRR.out,<-zAU]);have c1:¬9223372036854775807<(bs (Lib.itoa x)).size+((⟨#[113,94]⟩:ByteArray)++bs (Lib.itoa k)).size:=by rw [HQB.out,zAP,zAP]; omega
    have c1':¬9223372036854775807<(bs (Lib.itoa x)).size+(2+(bs (Lib.itoa k)).size):=by rw [zAP,zAP]; omega
    clear hx1;go_enter Tryz.func109,Tryz.ntmps109
    go_wp2_with fail
    refine (zBS hk2).mono ?_;rintro e w1 ⟨rfl,b1⟩;go_wp2_with fail
    refine (zBS h).mono ?_;rintro e w2 ⟨rfl,b2⟩;go_wp2_with fail
    go_ret
    exact ⟨by rw [<-HBB.out]; rfl,zAA.step b1 b2⟩
theorem zDW {l:List UInt8} (h:l=[]):(bs l).toList.isEmpty=true:=by
 have e:(bs l).toList=l:=by simp [bs,ByteArray.toList_eq]
 rw [e,h]; rfl
theorem zMv {l:List Int} {k:Nat} {x:Int} (h:l[k]? = some x):at0 l k=x:=by simp [at0,h]
theorem zIY {l:List Int} {k:Nat} {x:Int} (h:l[k]? = some x):pT l (k+1)=zCn (pT l k) k x:=by show zCn (pT l k) k (at0 l k)=_; rw [zMv h]
theorem zDJ {S:Nat→Prop} {v:Value} {l:List Int} {w:World} (h:RI S w v l) (hi:InL l) (hl:l.length≤1048576) :
  Calls Tryz.prog 78 #[v] w fun e w'=>e=.returned (.string (bs (fmtP l)))∧Below w.heap.size w w':=by
 obtain ⟨a,cap,rfl⟩:=h.form;have HI:=zNg hi;have HST:=zNg (fun (k:Nat) (x:Int) (hx:l[k]? = some x)=>zIY hx);have HLL:=zNg (fun k (hk:k≤1048576)=>zFZ hi k hk);have HF:=zNg (show (pT l l.length=[]→fmtP l=[48])∧(pT l l.length≠[]→fmtP l=pT l l.length) from ⟨fun e=>by unfold fmtP; rw [if_pos e],fun e=>by unfold fmtP; rw [if_neg e]⟩);have H0:Hid (bs (pT l 0)=⟨#[]⟩):=zNg rfl;generalize fmtP l=res at *;generalize hm:l.length=m at *;have HM:=zNg hm;clear hm hi;go_enter Tryz.func78,Tryz.ntmps78
 go_wp2_with fail
 go_loopw [3,4] (fun s j wr=>∃(k:Nat),k≤m∧j=.int .i64 k∧s=.string (bs (pT l k))∧Below w.heap.size w wr) (fun _ j _=>m-(intOf j).toNat)
 case atStart=>exact ⟨0,Nat.zero_le _,rfl,by rw [H0.out],Below.refl _ _⟩
 case round =>
  obtain ⟨k,hk,rfl,rfl,hb⟩:=hrel;by_cases h1:k<m
  ·obtain ⟨b,o,x,e8,hcx,hx⟩:=(h.below hb).at h1;subst e8;have i1:(k:Int)<(m:Int):=by omega
   have hx':=HI.out x (zNi hx.out);obtain ⟨hx1,hx2⟩:=hx';have hst:=HST.out k x hx.out;have hlk:=HLL.out k (by omega);have hpl:=zEA ⟨hx1,hx2⟩ (show k≤1048576 by omega);generalize pT l k=A at *;generalize hA':pT l (k+1)=A' at *;have HA':=zNg hA';clear hA';unfold zCn zFh at hst;by_cases hpos:0<x
   ·rw [if_neg (by omega),if_neg (by omega)] at hst;have hpw:=fun w=>zEC (w:=w) (k:=k) ⟨hx1,hx2⟩ (.inl hpos) (by omega);rw [if_neg (by omega),List.nil_append] at hpw;have j1:=decide_eq_true hpos;by_cases hAe:A=[]
    ·rw [if_pos hAe,List.nil_append,hAe,List.nil_append] at hst;have j2:=zDW hAe;have HP:Hid (zAe x.natAbs k=A'):=zNg hst.symm;clear hst hAe;go_wp2_with fail
     refine (hpw wr).mono ?_;rintro e w2 ⟨rfl,b2⟩;go_wp2_with fail
     go_roundw
     case rel=>exact ⟨k+1,by omega,by go_num,by rw [HP.out,<-HA'.out],zAA.step hb b2⟩
     case measure=>simp [intOf]; omega
    ·rw [if_neg hAe] at hst;have j2:=zEN hAe;have HP:Hid (bs A ++ ⟨#[43]⟩++bs (zAe x.natAbs k)=bs A'):=zNg (by rw [hst,show (⟨#[43]⟩:ByteArray)=bs [43] from rfl,zAU,zAU,List.append_assoc]);have c0:¬9223372036854775807<(bs A).size+(ByteArray.mk #[43]).size:=by rw [show (ByteArray.mk #[43]).size=1 from rfl,zAP]; omega
     have c0':¬9223372036854775807<(bs A).size+1:=by rw [zAP]; omega
     have c1:¬9223372036854775807<(bs A ++ ⟨#[43]⟩).size+(bs (zAe x.natAbs k)).size:=by rw [show (⟨#[43]⟩:ByteArray)=bs [43] from rfl,zAU,zAP,zAP]; simp; omega
     clear hst hAe;go_wp2_with fail
     refine (hpw wr).mono ?_;rintro e w2 ⟨rfl,b2⟩;go_wp2_with fail
     go_roundw
     case rel=>exact ⟨k+1,by omega,by go_num,by rw [HP.out,<-HA'.out],zAA.step hb b2⟩
     case measure=>simp [intOf]; omega
   ·have j1:=decide_eq_false hpos;by_cases hneg:x<0
    ·rw [if_neg (by omega),if_pos hneg] at hst;have j2:=decide_eq_true hneg;by_cases hmin:x = -9223372036854775808
     ·have hpw:=fun w=>zEC (w:=w) (k:=k) ⟨hx1,hx2⟩ (.inr (by omega)) (by omega);rw [if_pos hneg,List.singleton_append] at hpw;have HP:Hid (bs A++bs (45::zAe x.natAbs k)=bs A'):=zNg (by rw [hst,zAU]; rfl);have c1:¬9223372036854775807<(bs A).size+(bs (45::zAe x.natAbs k)).size:=by rw [zAP,zAP]; simp; omega
      have hw:wrap64 (-x)<0:=by rw [hmin]; unfold wrap64; omega
      have hw2:=decide_eq_true hw;generalize zAe x.natAbs k=PT at *;clear hst hmin;go_wp2_with fail
      refine (hpw wr).mono ?_;rintro e w2 ⟨rfl,b2⟩;go_wp2_with fail
      go_roundw
      case rel=>exact ⟨k+1,by omega,by go_num,by first | rw [HP.out,<-HA'.out] | (rw [<-HA'.out,<-HP.out]; rfl),zAA.step hb b2⟩
      case measure=>simp [intOf]; omega
     ·have hpw:=fun w=>zEC (w:=w) (x:=-x) (k:=k) (by omega) (.inl (by omega)) (by omega);rw [if_neg (by omega),List.nil_append,Int.natAbs_neg] at hpw;have HP:Hid (bs A ++ ⟨#[45]⟩++bs (zAe x.natAbs k)=bs A'):=zNg (by rw [hst,show (⟨#[45]⟩:ByteArray)=bs [45] from rfl,zAU,zAU,List.append_assoc]);have c0:¬9223372036854775807<(bs A).size+(ByteArray.mk #[45]).size:=by rw [show (ByteArray.mk #[45]).size=1 from rfl,zAP]; omega
      have c0':¬9223372036854775807<(bs A).size+1:=by rw [zAP]; omega
      have c1:¬9223372036854775807<(bs A ++ ⟨#[45]⟩).size+(bs (zAe x.natAbs k)).size:=by rw [show (⟨#[45]⟩:ByteArray)=bs [45] from rfl,zAU,zAP,zAP]; simp; omega
      have hx3:-9223372036854775807≤x:=by omega
      have hw:¬ -x<0:=by omega
      have hw2:=decide_eq_false hw;have hw3:wrap64 (-x) = -x:=by unfold wrap64; omega
      generalize zAe x.natAbs k=PT at *;clear hst hmin;go_wp2_with fail
      refine (hpw wr).mono ?_;rintro e w2 ⟨rfl,b2⟩;go_wp2_with fail
      go_roundw
      case rel=>exact ⟨k+1,by omega,by go_num,by rw [HP.out,<-HA'.out],zAA.step hb b2⟩
      case measure=>simp [intOf]; omega
    ·rw [if_pos (by omega)] at hst;have j2:=decide_eq_false hneg;have HP:Hid (A=A'):=zNg hst.symm;clear hst;go_wp2_with fail
     go_roundw
     case rel=>exact ⟨k+1,by omega,by go_num,by rw [HP.out,<-HA'.out],hb⟩
     case measure=>simp [intOf]; omega
  ·have hkm:k=m:=by omega
   have i1:¬(k:Int)<(m:Int):=by omega
   rw [hkm];clear hkm;by_cases hz:pT l m=[]
   ·have HR:=zNg (HF.out.1 hz);have j2:=zDW hz;clear hz;go_wp2_with fail
    go_ret
    exact ⟨by rw [HR.out]; rfl,hb⟩
   ·have HR:=zNg (HF.out.2 hz);have j2:=zEN hz;clear hz;go_wp2_with fail
    go_ret
    exact ⟨by rw [HR.out]; rfl,hb⟩
end Go.Proofs.YtlchafedbnihoaaGreatDoor
