/- Polynomials as text, by the program. Condition: sizes up to 2^20; the table of powers of ten as the library lays it. -/
import Derived.Test.YtlchafedbnihoaaGreatDoorJGFmtP
namespace Go.Proofs.YtlchafedbnihoaaGreatDoor
open Go.RowKit
set_option maxRecDepth 20000
set_option maxHeartbeats 16000000
theorem zBl {n:Int} {w:World} {B:Nat} (h:-9223372036854775808≤n∧n≤9223372036854775807) (ht:Tab B w) :
  Calls Tryz.prog 105 #[.int .i64 n] w fun e w'=>e=.returned (.string (bs (Lib.itoa n)))∧Below w.heap.size w w' :=
 (Tryz.strconv_Itoa n h.1 h.2 w ht.here).mono fun _ _ ⟨he,k,os,hw⟩=>⟨he,by rw [hw]; exact zI2⟩
theorem zBP (l:List UInt8):(bs l).toList=l:=by simp [bs,ByteArray.toList_eq]
theorem zLh (c:UInt8) (l:List UInt8):(bs (c::l)).extract 1 (bs (c::l)).size=bs l:=by
 apply ByteArray.ext;rw [ByteArray.data_extract];simp [bs,ByteArray.size]
theorem zKr (u:Nat):0<(bs (Lib.decDigits u)).size:=by rw [zAP,Lib.decDigits_length]; exact Lib.nDigits_pos u
theorem zL0 {u:Nat} {c:UInt8} (h:c∈Lib.decDigits u):c.toNat≠45:=by
 rw [Lib.decDigits_eq,List.mem_map] at h;obtain ⟨t,_,rfl⟩:=h;unfold Lib.dg;simp;omega
theorem zJd (u:Nat) (h:0<(bs (Lib.decDigits u)).size):(((((bs (Lib.decDigits u))[0]'h).toNat:Nat):Int) == 45)=false:=by
 have h2:0<(Lib.decDigits u).length:=by rwa [zAP] at h
 have e:(bs (Lib.decDigits u))[0]'h=(Lib.decDigits u)[0]'h2:=rfl;have:=zL0 (List.getElem_mem h2);rw [e];simp;omega
theorem zFs {S:Nat→Prop} {v:Value} {l:List Int} {w:World} {B:Nat} (h:RI S w v l) (hi:InL l) (hl:l.length≤1048576) (ht:Tab B w) (hB:B≤w.heap.size) :
  Calls Tryz.prog 75 #[v] w fun e w'=>e=.returned (.string (bs (fmtP l)))∧Below w.heap.size w w':=by
 obtain ⟨a,cap,rfl⟩:=h.form;have HI:=zNg hi;have HT:=zNg ht;have HST:=zNg (fun (k:Nat) (x:Int) (hx:l[k]? = some x)=>zIY hx);have HLL:=zNg (fun k (hk:k≤1048576)=>zFZ hi k hk);have HF:=zNg (show (pT l l.length=[]→fmtP l=[48])∧(pT l l.length≠[]→fmtP l=pT l l.length) from ⟨fun e=>by unfold fmtP; rw [if_pos e],fun e=>by unfold fmtP; rw [if_neg e]⟩);have H0:Hid (bs (pT l 0)=⟨#[]⟩):=zNg rfl;generalize fmtP l=res at *;generalize hm:l.length=m at *;have HM:=zNg hm;clear hm hi ht;go_enter Tryz.func75,Tryz.ntmps75
 go_wp2_with fail
 go_loopw [3,9] (fun s j wr=>∃(k:Nat),k≤m∧j=.int .i64 k∧s=.string (bs (pT l k))∧Below w.heap.size w wr) (fun _ j _=>m-(intOf j).toNat)
 case atStart=>exact ⟨0,Nat.zero_le _,rfl,by rw [H0.out],Below.refl _ _⟩
 case round =>
  obtain ⟨k,hk,rfl,rfl,hb⟩:=hrel;by_cases h1:k<m
  ·obtain ⟨b,o,x,e8,hcx,hx⟩:=(h.below hb).at h1;subst e8;have i1:(k:Int)<(m:Int):=by omega
   have hx':=HI.out x (zNi hx.out);obtain ⟨hx1,hx2⟩:=hx';have hst:=HST.out k x hx.out;have hlk:=HLL.out k (by omega);have hpl:=zEA ⟨hx1,hx2⟩ (show k≤1048576 by omega);generalize pT l k=A at *;generalize hA':pT l (k+1)=A' at *;have HA':=zNg hA';clear hA';by_cases hz:x=0
   ·have j1:(x == 0)=true:=by simp [hz]
    have HP:Hid (A=A'):=zNg (by rw [hst]; unfold zCn; rw [if_pos hz]);clear hst hz;go_wp2_with fail
    go_roundw
    case rel=>exact ⟨k+1,by omega,by go_num,by rw [HP.out,<-HA'.out],hb⟩
    case measure=>simp [intOf]; omega
   ·have j1:(x == 0)=false:=by simp [hz]
    go_wp2_with fail
    have hu0:x.natAbs≠0:=by omega
    have hst:A'=A++(zFh A x++zAe x.natAbs k):=by rw [hst]; unfold zCn; rw [if_neg hz]
    have hdl:=zGs ⟨hx1,hx2⟩;have hla:(bs A).size≤47185920:=by rw [zAP]; omega
    unfold zFh at hst;by_cases hneg:x<0
    ·rw [if_pos hneg] at hst;refine (zBl ⟨hx1,hx2⟩ (HT.out.on (hb.mono hB))).mono ?_;rintro e w2 ⟨rfl,b2⟩;have b02:=zAA.step hb b2;rw [zEt hneg];have s0:0<(bs (45::Lib.decDigits x.natAbs)).size:=by rw [zAP]; simp
     have jb:(((((bs (45::Lib.decDigits x.natAbs))[0]'s0).toNat:Nat):Int) == 45)=true:=rfl;have he:=zLh 45 (Lib.decDigits x.natAbs);have hns:(bs (45::Lib.decDigits x.natAbs)).size≤22:=by rw [zAP,List.length_cons]; omega
     generalize hNB:bs (45::Lib.decDigits x.natAbs)=nb at *;by_cases hk0:k=0
     ·skip
      have hpt:=zCl x.natAbs;have i2:((k:Int) == 0)=true:=by simp [hk0]
      have i3:((k:Int) == 1)=false:=by simp [hk0]
      have i4:¬(1:Int)<(k:Int):=by omega
      rw [hk0] at hst;have HP:Hid ((bs A ++ ⟨#[45]⟩)++nb.extract 1 nb.size=bs A'):=zNg (by
       rw [hst,hpt,he];try rw [show (⟨#[45]⟩:ByteArray)=bs [45] from rfl]
       try rw [show (⟨#[43]⟩:ByteArray)=bs [43] from rfl]
       try rw [show (⟨#[113]⟩:ByteArray)=bs [113] from rfl]
       try rw [show (⟨#[113,94]⟩:ByteArray)=bs [113,94] from rfl]
       try simp only [zAU,List.append_assoc,List.nil_append,List.append_nil]
       try rfl)
      have c0:¬9223372036854775807<(bs A).size+1:=by omega
      have c1:¬9223372036854775807<(bs A).size+1+(nb.size-1):=by omega
      clear hst hpt hpl hlk;clear he;clear hNB;go_wp2_with fail
      go_roundw
      case rel=>exact ⟨k+1,by omega,by go_num,by first | rw [HA'.out,<-HP.out] | (rw [HA'.out,<-HP.out]; rfl),b02⟩
      case measure=>simp [intOf]; omega
     ·by_cases hk1:k=1
      ·skip
       have i2:((k:Int) == 0)=false:=by simp; omega
       have hq:qT k=[113]:=by unfold qT; rw [if_neg hk0,if_pos hk1]
       have i3:((k:Int) == 1)=true:=by simp [hk1]
       by_cases hu:x.natAbs=1
       ·have hpt:zAe x.natAbs k=qT k:=by rw [hu]; exact zBq hk0
        rw [hq] at hpt;have ju:((nb.extract 1 nb.size).toList == [49])=true:=by rw [he,zBP,(zBR hu0).2 hu]; rfl
        clear hu hq hu0;have HP:Hid ((bs A ++ ⟨#[45]⟩) ++ ⟨#[113]⟩=bs A'):=zNg (by
         rw [hst,hpt];try rw [show (⟨#[45]⟩:ByteArray)=bs [45] from rfl]
         try rw [show (⟨#[43]⟩:ByteArray)=bs [43] from rfl]
         try rw [show (⟨#[113]⟩:ByteArray)=bs [113] from rfl]
         try rw [show (⟨#[113,94]⟩:ByteArray)=bs [113,94] from rfl]
         try simp only [zAU,List.append_assoc,List.nil_append,List.append_nil]
         try rfl)
        have c0:¬9223372036854775807<(bs A).size+1:=by omega
        have c1:¬9223372036854775807<(bs A).size+1+1:=by omega
        clear hst hpt hpl hlk;clear he;clear hNB;go_wp2_with fail
        go_roundw
        case rel=>exact ⟨k+1,by omega,by go_num,by first | rw [HA'.out,<-HP.out] | (rw [HA'.out,<-HP.out]; rfl),b02⟩
        case measure=>simp [intOf]; omega
       ·have hpt:zAe x.natAbs k=_:=zB8 hu;rw [hq] at hpt;have ju:((nb.extract 1 nb.size).toList == [49])=false:=by rw [he,zBP]; exact beq_false_of_ne (fun e=>hu ((zBR hu0).1 e))
        clear hu hq hu0;have HP:Hid (((bs A ++ ⟨#[45]⟩)++nb.extract 1 nb.size) ++ ⟨#[113]⟩=bs A'):=zNg (by
         rw [hst,hpt,he];try rw [show (⟨#[45]⟩:ByteArray)=bs [45] from rfl]
         try rw [show (⟨#[43]⟩:ByteArray)=bs [43] from rfl]
         try rw [show (⟨#[113]⟩:ByteArray)=bs [113] from rfl]
         try rw [show (⟨#[113,94]⟩:ByteArray)=bs [113,94] from rfl]
         try simp only [zAU,List.append_assoc,List.nil_append,List.append_nil]
         try rfl)
        have c0:¬9223372036854775807<(bs A).size+1:=by omega
        have c1:¬9223372036854775807<(bs A).size+1+(nb.size-1):=by omega
        have c2:¬9223372036854775807<(bs A).size+1+(nb.size-1)+1:=by omega
        clear hst hpt hpl hlk;clear he;clear hNB;go_wp2_with fail
        go_roundw
        case rel=>exact ⟨k+1,by omega,by go_num,by first | rw [HA'.out,<-HP.out] | (rw [HA'.out,<-HP.out]; rfl),b02⟩
        case measure=>simp [intOf]; omega
      ·skip
       have i2:((k:Int) == 0)=false:=by simp; omega
       have hq:qT k=[113,94]++Lib.itoa k:=by unfold qT; rw [if_neg hk0,if_neg hk1]
       have i3:((k:Int) == 1)=false:=by simp; omega
       have i4:(1:Int)<(k:Int):=by omega
       have hk2:-9223372036854775808≤(k:Int)∧(k:Int)≤9223372036854775807:=by omega
       have hlk2:=Lib.itoa_length_le k hk2.1 hk2.2;have hls2:(bs (Lib.itoa k)).size≤21:=by rw [zAP]; omega
       by_cases hu:x.natAbs=1
       ·have hpt:zAe x.natAbs k=qT k:=by rw [hu]; exact zBq hk0
        rw [hq] at hpt;have ju:((nb.extract 1 nb.size).toList == [49])=true:=by rw [he,zBP,(zBR hu0).2 hu]; rfl
        clear hu hq hu0;have HP:Hid ((bs A ++ ⟨#[45]⟩)++((⟨#[113,94]⟩:ByteArray)++bs (Lib.itoa k))=bs A'):=zNg (by
         rw [hst,hpt];try rw [show (⟨#[45]⟩:ByteArray)=bs [45] from rfl]
         try rw [show (⟨#[43]⟩:ByteArray)=bs [43] from rfl]
         try rw [show (⟨#[113]⟩:ByteArray)=bs [113] from rfl]
         try rw [show (⟨#[113,94]⟩:ByteArray)=bs [113,94] from rfl]
         try simp only [zAU,List.append_assoc,List.nil_append,List.append_nil]
         try rfl)
        have c0:¬9223372036854775807<(bs A).size+1:=by omega
        have c1:¬9223372036854775807<2+(bs (Lib.itoa k)).size:=by omega
        have c2:¬9223372036854775807<(bs A).size+1+(2+(bs (Lib.itoa k)).size):=by omega
        clear hst hpt hpl hlk;clear he;clear hNB;go_wp2_with fail
        refine (zBl hk2 (HT.out.on (b02.mono hB))).mono ?_;rintro e w3 ⟨rfl,b3⟩;have b03:=zAA.step b02 b3;go_wp2_with fail
        go_roundw
        case rel=>exact ⟨k+1,by omega,by go_num,by first | rw [HA'.out,<-HP.out] | (rw [HA'.out,<-HP.out]; rfl),b03⟩
        case measure=>simp [intOf]; omega
       ·have hpt:zAe x.natAbs k=_:=zB8 hu;rw [hq] at hpt;have ju:((nb.extract 1 nb.size).toList == [49])=false:=by rw [he,zBP]; exact beq_false_of_ne (fun e=>hu ((zBR hu0).1 e))
        clear hu hq hu0;have HP:Hid (((bs A ++ ⟨#[45]⟩)++nb.extract 1 nb.size)++((⟨#[113,94]⟩:ByteArray)++bs (Lib.itoa k))=bs A'):=zNg (by
         rw [hst,hpt,he];try rw [show (⟨#[45]⟩:ByteArray)=bs [45] from rfl]
         try rw [show (⟨#[43]⟩:ByteArray)=bs [43] from rfl]
         try rw [show (⟨#[113]⟩:ByteArray)=bs [113] from rfl]
         try rw [show (⟨#[113,94]⟩:ByteArray)=bs [113,94] from rfl]
         try simp only [zAU,List.append_assoc,List.nil_append,List.append_nil]
         try rfl)
        have c0:¬9223372036854775807<(bs A).size+1:=by omega
        have c1:¬9223372036854775807<(bs A).size+1+(nb.size-1):=by omega
        have c2:¬9223372036854775807<2+(bs (Lib.itoa k)).size:=by omega
        have c3:¬9223372036854775807<(bs A).size+1+(nb.size-1)+(2+(bs (Lib.itoa k)).size):=by omega
        clear hst hpt hpl hlk;clear he;clear hNB;go_wp2_with fail
        refine (zBl hk2 (HT.out.on (b02.mono hB))).mono ?_;rintro e w3 ⟨rfl,b3⟩;have b03:=zAA.step b02 b3;go_wp2_with fail
        go_roundw
        case rel=>exact ⟨k+1,by omega,by go_num,by first | rw [HA'.out,<-HP.out] | (rw [HA'.out,<-HP.out]; rfl),b03⟩
        case measure=>simp [intOf]; omega
    ·rw [if_neg hneg] at hst;refine (zBl ⟨hx1,hx2⟩ (HT.out.on (hb.mono hB))).mono ?_;rintro e w2 ⟨rfl,b2⟩;have b02:=zAA.step hb b2;rw [zEu hneg];have s0:=zKr x.natAbs;have jb:=zJd x.natAbs s0;have hns:(bs (Lib.decDigits x.natAbs)).size≤22:=by rw [zAP]; omega
     generalize hNB:bs (Lib.decDigits x.natAbs)=nb at *;by_cases hAe:A=[]
     ·rw [if_pos hAe] at hst;have ja:=zDW hAe;clear hAe;by_cases hk0:k=0
      ·skip
       have hpt:=zCl x.natAbs;have i2:((k:Int) == 0)=true:=by simp [hk0]
       have i3:((k:Int) == 1)=false:=by simp [hk0]
       have i4:¬(1:Int)<(k:Int):=by omega
       rw [hk0] at hst;have HP:Hid ((bs A)++nb=bs A'):=zNg (by
        rw [hst,hpt];try rw [show (⟨#[45]⟩:ByteArray)=bs [45] from rfl]
        try rw [show (⟨#[43]⟩:ByteArray)=bs [43] from rfl]
        try rw [show (⟨#[113]⟩:ByteArray)=bs [113] from rfl]
        try rw [show (⟨#[113,94]⟩:ByteArray)=bs [113,94] from rfl]
        rw [<-hNB];try simp only [zAU,List.append_assoc,List.nil_append,List.append_nil]
        try rfl)
       have c0:¬9223372036854775807<(bs A).size+nb.size:=by omega
       clear hst hpt hpl hlk;clear hNB;go_wp2_with fail
       go_roundw
       case rel=>exact ⟨k+1,by omega,by go_num,by first | rw [HA'.out,<-HP.out] | (rw [HA'.out,<-HP.out]; rfl),b02⟩
       case measure=>simp [intOf]; omega
      ·by_cases hk1:k=1
       ·skip
        have i2:((k:Int) == 0)=false:=by simp; omega
        have hq:qT k=[113]:=by unfold qT; rw [if_neg hk0,if_pos hk1]
        have i3:((k:Int) == 1)=true:=by simp [hk1]
        by_cases hu:x.natAbs=1
        ·have hpt:zAe x.natAbs k=qT k:=by rw [hu]; exact zBq hk0
         rw [hq] at hpt;have ju:((nb).toList == [49])=true:=by rw [<-hNB,zBP,(zBR hu0).2 hu]; rfl
         clear hu hq hu0;have HP:Hid ((bs A) ++ ⟨#[113]⟩=bs A'):=zNg (by
          rw [hst,hpt];try rw [show (⟨#[45]⟩:ByteArray)=bs [45] from rfl]
          try rw [show (⟨#[43]⟩:ByteArray)=bs [43] from rfl]
          try rw [show (⟨#[113]⟩:ByteArray)=bs [113] from rfl]
          try rw [show (⟨#[113,94]⟩:ByteArray)=bs [113,94] from rfl]
          try simp only [zAU,List.append_assoc,List.nil_append,List.append_nil]
          try rfl)
         have c0:¬9223372036854775807<(bs A).size+1:=by omega
         clear hst hpt hpl hlk;clear hNB;go_wp2_with fail
         go_roundw
         case rel=>exact ⟨k+1,by omega,by go_num,by first | rw [HA'.out,<-HP.out] | (rw [HA'.out,<-HP.out]; rfl),b02⟩
         case measure=>simp [intOf]; omega
        ·have hpt:zAe x.natAbs k=_:=zB8 hu;rw [hq] at hpt;have ju:((nb).toList == [49])=false:=by rw [<-hNB,zBP]; exact beq_false_of_ne (fun e=>hu ((zBR hu0).1 e))
         clear hu hq hu0;have HP:Hid (((bs A)++nb) ++ ⟨#[113]⟩=bs A'):=zNg (by
          rw [hst,hpt];try rw [show (⟨#[45]⟩:ByteArray)=bs [45] from rfl]
          try rw [show (⟨#[43]⟩:ByteArray)=bs [43] from rfl]
          try rw [show (⟨#[113]⟩:ByteArray)=bs [113] from rfl]
          try rw [show (⟨#[113,94]⟩:ByteArray)=bs [113,94] from rfl]
          rw [<-hNB];try simp only [zAU,List.append_assoc,List.nil_append,List.append_nil]
          try rfl)
         have c0:¬9223372036854775807<(bs A).size+nb.size:=by omega
         have c1:¬9223372036854775807<(bs A).size+nb.size+1:=by omega
         clear hst hpt hpl hlk;clear hNB;go_wp2_with fail
         go_roundw
         case rel=>exact ⟨k+1,by omega,by go_num,by first | rw [HA'.out,<-HP.out] | (rw [HA'.out,<-HP.out]; rfl),b02⟩
         case measure=>simp [intOf]; omega
       ·skip
        have i2:((k:Int) == 0)=false:=by simp; omega
        have hq:qT k=[113,94]++Lib.itoa k:=by unfold qT; rw [if_neg hk0,if_neg hk1]
        have i3:((k:Int) == 1)=false:=by simp; omega
        have i4:(1:Int)<(k:Int):=by omega
        have hk2:-9223372036854775808≤(k:Int)∧(k:Int)≤9223372036854775807:=by omega
        have hlk2:=Lib.itoa_length_le k hk2.1 hk2.2;have hls2:(bs (Lib.itoa k)).size≤21:=by rw [zAP]; omega
        by_cases hu:x.natAbs=1
        ·have hpt:zAe x.natAbs k=qT k:=by rw [hu]; exact zBq hk0
         rw [hq] at hpt;have ju:((nb).toList == [49])=true:=by rw [<-hNB,zBP,(zBR hu0).2 hu]; rfl
         clear hu hq hu0;have HP:Hid ((bs A)++((⟨#[113,94]⟩:ByteArray)++bs (Lib.itoa k))=bs A'):=zNg (by
          rw [hst,hpt];try rw [show (⟨#[45]⟩:ByteArray)=bs [45] from rfl]
          try rw [show (⟨#[43]⟩:ByteArray)=bs [43] from rfl]
          try rw [show (⟨#[113]⟩:ByteArray)=bs [113] from rfl]
          try rw [show (⟨#[113,94]⟩:ByteArray)=bs [113,94] from rfl]
          try simp only [zAU,List.append_assoc,List.nil_append,List.append_nil]
          try rfl)
         have c0:¬9223372036854775807<2+(bs (Lib.itoa k)).size:=by omega
         have c1:¬9223372036854775807<(bs A).size+(2+(bs (Lib.itoa k)).size):=by omega
         clear hst hpt hpl hlk;clear hNB;go_wp2_with fail
         refine (zBl hk2 (HT.out.on (b02.mono hB))).mono ?_;rintro e w3 ⟨rfl,b3⟩;have b03:=zAA.step b02 b3;go_wp2_with fail
         go_roundw
         case rel=>exact ⟨k+1,by omega,by go_num,by first | rw [HA'.out,<-HP.out] | (rw [HA'.out,<-HP.out]; rfl),b03⟩
         case measure=>simp [intOf]; omega
        ·have hpt:zAe x.natAbs k=_:=zB8 hu;rw [hq] at hpt;have ju:((nb).toList == [49])=false:=by rw [<-hNB,zBP]; exact beq_false_of_ne (fun e=>hu ((zBR hu0).1 e))
         clear hu hq hu0;have HP:Hid (((bs A)++nb)++((⟨#[113,94]⟩:ByteArray)++bs (Lib.itoa k))=bs A'):=zNg (by
          rw [hst,hpt];try rw [show (⟨#[45]⟩:ByteArray)=bs [45] from rfl]
          try rw [show (⟨#[43]⟩:ByteArray)=bs [43] from rfl]
          try rw [show (⟨#[113]⟩:ByteArray)=bs [113] from rfl]
          try rw [show (⟨#[113,94]⟩:ByteArray)=bs [113,94] from rfl]
          rw [<-hNB];try simp only [zAU,List.append_assoc,List.nil_append,List.append_nil]
          try rfl)
         have c0:¬9223372036854775807<(bs A).size+nb.size:=by omega
         have c1:¬9223372036854775807<2+(bs (Lib.itoa k)).size:=by omega
         have c2:¬9223372036854775807<(bs A).size+nb.size+(2+(bs (Lib.itoa k)).size):=by omega
         clear hst hpt hpl hlk;clear hNB;go_wp2_with fail
         refine (zBl hk2 (HT.out.on (b02.mono hB))).mono ?_;rintro e w3 ⟨rfl,b3⟩;have b03:=zAA.step b02 b3;go_wp2_with fail
         go_roundw
         case rel=>exact ⟨k+1,by omega,by go_num,by first | rw [HA'.out,<-HP.out] | (rw [HA'.out,<-HP.out]; rfl),b03⟩
         case measure=>simp [intOf]; omega
     ·rw [if_neg hAe] at hst;have ja:=zEN hAe;clear hAe;by_cases hk0:k=0
      ·skip
       have hpt:=zCl x.natAbs;have i2:((k:Int) == 0)=true:=by simp [hk0]
       have i3:((k:Int) == 1)=false:=by simp [hk0]
       have i4:¬(1:Int)<(k:Int):=by omega
       rw [hk0] at hst;have HP:Hid ((bs A ++ ⟨#[43]⟩)++nb=bs A'):=zNg (by
        rw [hst,hpt];try rw [show (⟨#[45]⟩:ByteArray)=bs [45] from rfl]
        try rw [show (⟨#[43]⟩:ByteArray)=bs [43] from rfl]
        try rw [show (⟨#[113]⟩:ByteArray)=bs [113] from rfl]
        try rw [show (⟨#[113,94]⟩:ByteArray)=bs [113,94] from rfl]
        rw [<-hNB];try simp only [zAU,List.append_assoc,List.nil_append,List.append_nil]
        try rfl)
       have c0:¬9223372036854775807<(bs A).size+1:=by omega
       have c1:¬9223372036854775807<(bs A).size+1+nb.size:=by omega
       clear hst hpt hpl hlk;clear hNB;go_wp2_with fail
       go_roundw
       case rel=>exact ⟨k+1,by omega,by go_num,by first | rw [HA'.out,<-HP.out] | (rw [HA'.out,<-HP.out]; rfl),b02⟩
       case measure=>simp [intOf]; omega
      ·by_cases hk1:k=1
       ·skip
        have i2:((k:Int) == 0)=false:=by simp; omega
        have hq:qT k=[113]:=by unfold qT; rw [if_neg hk0,if_pos hk1]
        have i3:((k:Int) == 1)=true:=by simp [hk1]
        by_cases hu:x.natAbs=1
        ·have hpt:zAe x.natAbs k=qT k:=by rw [hu]; exact zBq hk0
         rw [hq] at hpt;have ju:((nb).toList == [49])=true:=by rw [<-hNB,zBP,(zBR hu0).2 hu]; rfl
         clear hu hq hu0;have HP:Hid ((bs A ++ ⟨#[43]⟩) ++ ⟨#[113]⟩=bs A'):=zNg (by
          rw [hst,hpt];try rw [show (⟨#[45]⟩:ByteArray)=bs [45] from rfl]
          try rw [show (⟨#[43]⟩:ByteArray)=bs [43] from rfl]
          try rw [show (⟨#[113]⟩:ByteArray)=bs [113] from rfl]
          try rw [show (⟨#[113,94]⟩:ByteArray)=bs [113,94] from rfl]
          try simp only [zAU,List.append_assoc,List.nil_append,List.append_nil]
          try rfl)
         have c0:¬9223372036854775807<(bs A).size+1:=by omega
         have c1:¬9223372036854775807<(bs A).size+1+1:=by omega
         clear hst hpt hpl hlk;clear hNB;go_wp2_with fail
         go_roundw
         case rel=>exact ⟨k+1,by omega,by go_num,by first | rw [HA'.out,<-HP.out] | (rw [HA'.out,<-HP.out]; rfl),b02⟩
         case measure=>simp [intOf]; omega
        ·have hpt:zAe x.natAbs k=_:=zB8 hu;rw [hq] at hpt;have ju:((nb).toList == [49])=false:=by rw [<-hNB,zBP]; exact beq_false_of_ne (fun e=>hu ((zBR hu0).1 e))
         clear hu hq hu0;have HP:Hid (((bs A ++ ⟨#[43]⟩)++nb) ++ ⟨#[113]⟩=bs A'):=zNg (by
          rw [hst,hpt];try rw [show (⟨#[45]⟩:ByteArray)=bs [45] from rfl]
          try rw [show (⟨#[43]⟩:ByteArray)=bs [43] from rfl]
          try rw [show (⟨#[113]⟩:ByteArray)=bs [113] from rfl]
          try rw [show (⟨#[113,94]⟩:ByteArray)=bs [113,94] from rfl]
          rw [<-hNB];try simp only [zAU,List.append_assoc,List.nil_append,List.append_nil]
          try rfl)
         have c0:¬9223372036854775807<(bs A).size+1:=by omega
         have c1:¬9223372036854775807<(bs A).size+1+nb.size:=by omega
         have c2:¬9223372036854775807<(bs A).size+1+nb.size+1:=by omega
         clear hst hpt hpl hlk;clear hNB;go_wp2_with fail
         go_roundw
         case rel=>exact ⟨k+1,by omega,by go_num,by first | rw [HA'.out,<-HP.out] | (rw [HA'.out,<-HP.out]; rfl),b02⟩
         case measure=>simp [intOf]; omega
       ·skip
        have i2:((k:Int) == 0)=false:=by simp; omega
        have hq:qT k=[113,94]++Lib.itoa k:=by unfold qT; rw [if_neg hk0,if_neg hk1]
        have i3:((k:Int) == 1)=false:=by simp; omega
        have i4:(1:Int)<(k:Int):=by omega
        have hk2:-9223372036854775808≤(k:Int)∧(k:Int)≤9223372036854775807:=by omega
        have hlk2:=Lib.itoa_length_le k hk2.1 hk2.2;have hls2:(bs (Lib.itoa k)).size≤21:=by rw [zAP]; omega
        by_cases hu:x.natAbs=1
        ·have hpt:zAe x.natAbs k=qT k:=by rw [hu]; exact zBq hk0
         rw [hq] at hpt;have ju:((nb).toList == [49])=true:=by rw [<-hNB,zBP,(zBR hu0).2 hu]; rfl
         clear hu hq hu0;have HP:Hid ((bs A ++ ⟨#[43]⟩)++((⟨#[113,94]⟩:ByteArray)++bs (Lib.itoa k))=bs A'):=zNg (by
          rw [hst,hpt];try rw [show (⟨#[45]⟩:ByteArray)=bs [45] from rfl]
          try rw [show (⟨#[43]⟩:ByteArray)=bs [43] from rfl]
          try rw [show (⟨#[113]⟩:ByteArray)=bs [113] from rfl]
          try rw [show (⟨#[113,94]⟩:ByteArray)=bs [113,94] from rfl]
          try simp only [zAU,List.append_assoc,List.nil_append,List.append_nil]
          try rfl)
         have c0:¬9223372036854775807<(bs A).size+1:=by omega
         have c1:¬9223372036854775807<2+(bs (Lib.itoa k)).size:=by omega
         have c2:¬9223372036854775807<(bs A).size+1+(2+(bs (Lib.itoa k)).size):=by omega
         clear hst hpt hpl hlk;clear hNB;go_wp2_with fail
         refine (zBl hk2 (HT.out.on (b02.mono hB))).mono ?_;rintro e w3 ⟨rfl,b3⟩;have b03:=zAA.step b02 b3;go_wp2_with fail
         go_roundw
         case rel=>exact ⟨k+1,by omega,by go_num,by first | rw [HA'.out,<-HP.out] | (rw [HA'.out,<-HP.out]; rfl),b03⟩
         case measure=>simp [intOf]; omega
        ·have hpt:zAe x.natAbs k=_:=zB8 hu;rw [hq] at hpt;have ju:((nb).toList == [49])=false:=by rw [<-hNB,zBP]; exact beq_false_of_ne (fun e=>hu ((zBR hu0).1 e))
         clear hu hq hu0;have HP:Hid (((bs A ++ ⟨#[43]⟩)++nb)++((⟨#[113,94]⟩:ByteArray)++bs (Lib.itoa k))=bs A'):=zNg (by
          rw [hst,hpt];try rw [show (⟨#[45]⟩:ByteArray)=bs [45] from rfl]
          try rw [show (⟨#[43]⟩:ByteArray)=bs [43] from rfl]
          try rw [show (⟨#[113]⟩:ByteArray)=bs [113] from rfl]
          try rw [show (⟨#[113,94]⟩:ByteArray)=bs [113,94] from rfl]
          rw [<-hNB];try simp only [zAU,List.append_assoc,List.nil_append,List.append_nil]
          try rfl)
         have c0:¬9223372036854775807<(bs A).size+1:=by omega
         have c1:¬9223372036854775807<(bs A).size+1+nb.size:=by omega
         have c2:¬9223372036854775807<2+(bs (Lib.itoa k)).size:=by omega
         have c3:¬9223372036854775807<(bs A).size+1+nb.size+(2+(bs (Lib.itoa k)).size):=by omega
         clear hst hpt hpl hlk;clear hNB;go_wp2_with fail
         refine (zBl hk2 (HT.out.on (b02.mono hB))).mono ?_;rintro e w3 ⟨rfl,b3⟩;have b03:=zAA.step b02 b3;go_wp2_with fail
         go_roundw
         case rel=>exact ⟨k+1,by omega,by go_num,by first | rw [HA'.out,<-HP.out] | (rw [HA'.out,<-HP.out]; rfl),b03⟩
         case measure=>simp [intOf]; omega
  ·have hkm:k=m:=by omega
   have i1:¬(k:Int)<(m:Int):=by omega
   rw [hkm];clear hkm;by_cases hz:pT l m=[]
   ·have HR:=zNg (HF.out.1 hz);have j2:=zDW hz;clear hz;go_wp2_with fail
    go_ret
    exact ⟨by rw [HR.out]; rfl,hb⟩
   ·have HR:=zNg (HF.out.2 hz);have j2:=zEN hz;clear hz;go_wp2_with fail
    go_ret
    exact ⟨by rw [HR.out]; rfl,hb⟩
end Go.Proofs.YtlchafedbnihoaaGreatDoor
