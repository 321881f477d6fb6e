/- Sets of points by their masks: the reference's list of all, the program's one by one. Condition: at most four points. -/
import Derived.Test.YtlchafedbnihoaaJGOwn
import Derived.RegionTactic
import Derived.BigRegion
import Derived.Test.YtlchafedbnihoaaJGNrm
import Derived.Test.YtlchafedbnihoaaJGCell
namespace Go.Proofs.Ytlchafedbnihoaa
open Go.RowKit
set_option maxRecDepth 20000
set_option maxHeartbeats 8000000
def zAL (n k:Nat):List Int:=(Fin.bits n k).map fun (i:Nat)=>(i:Int)
theorem zBa (n k:Nat):zAL (n+1) k=zAL n k++if k / 2 ^ n % 2=1 then [(n:Int)] else []:=by
 unfold zAL;simp only [Fin.bits,List.map_append];split <;> simp
theorem zBr:∀(n k:Nat),(zAL n k).length≤n
 | 0,k=>by simp [zAL,Fin.bits]
 | n+1,k=>by
  rw [zBa];have:=zBr n k;split <;> simp <;> omega
theorem zCb (k i:Nat):((k / 2 ^ i:Nat):Int)=(k:Int) / 2 ^ i:=by simp
theorem zJb {k i:Nat} (h:0<k / 2 ^ i):0<(k:Int) / 2 ^ i:=by rw [<-zCb]; omega
theorem zJa {k i:Nat} (h:¬0<k / 2 ^ i):¬0<(k:Int) / 2 ^ i:=by rw [<-zCb]; omega
theorem zFb (n:Int):bits .and .i64 n 1=n % 2:=by
 have h127:(BitVec.ofInt 64 1).toNat=2 ^ 1-1:=by decide
 have key:(BitVec.ofInt 64 n &&& BitVec.ofInt 64 1).toNat=(n % ((2 ^ 64:Nat):Int)).toNat % 2 ^ 1:=by
  rw [BitVec.toNat_and,BitVec.toNat_ofInt,h127,Nat.and_two_pow_sub_one_eq_mod]
 show IntKind.i64.wrap ((BitVec.ofInt 64 n &&& BitVec.ofInt 64 1).toNat:Nat)=n % 2;rw [key,IntKind.wrap_i64];omega
theorem zFd {k i:Nat} (h:k / 2 ^ i % 2=1):(bits BinOp.and IntKind.i64 ((k:Int) / 2 ^ i) 1 == 1)=true:=by
 rw [zFb,<-zCb]; simp only [beq_iff_eq]; omega
theorem zGc {k i:Nat} (h:¬k / 2 ^ i % 2=1):(bits BinOp.and IntKind.i64 ((k:Int) / 2 ^ i) 1 == 1)=false:=by
 rw [zFb,<-zCb]; simp only [beq_eq_false_iff_ne]; omega
theorem zEJ {k i:Nat} (h:k / 2 ^ i=0) {j:Nat} (hij:i≤j):zAL j k=zAL i k:=by
 induction j with
 | zero =>
  have:i=0:=by omega
  subst this; rfl
 | succ j ih =>
  rcases Nat.lt_or_ge j i with h1 | h1
  ·have:i=j+1:=by omega
   subst this; rfl
  ·have h2:k / 2 ^ j=0:=Nat.div_eq_of_lt (Nat.lt_of_lt_of_le ((Nat.div_eq_zero_iff_lt (Nat.two_pow_pos i)).1 h) (Nat.pow_le_pow_right (by omega) h1));rw [zBa,h2,ih h1];simp
theorem zET (k:Nat) (hk:k≤15) (w:World) :
  Calls Try.prog 92 #[.int .i64 k] w fun e w'=>∃r,e=.returned r∧FI (New w w') w' r (zAL 4 k)∧Below w.heap.size w w':=by
 have HS:=zJh zBa;have HL:=zJh zBr;go_enter Try.func92,Try.ntmps92
 go_wp2_with fail
 obtain ⟨w1,hw1⟩:∃w1,w1=w.alloc (.cells #[] 3):=⟨_,rfl⟩;obtain ⟨f1,b1⟩:=zAE (Below.refl _ w) hw1;rw [<-hw1];clear hw1;go_loopw [3,4] (fun zz j wr=>∃(i:Nat) (z:Value),z=zz∧i≤4∧j=.int .i64 i∧FI (New w wr) wr z (zAL i k)∧Below w.heap.size w wr) (fun _ j _=>4-(intOf j).toNat)
 case atStart=>exact ⟨0,_,rfl,by omega,rfl,f1,b1⟩
 case round =>
  obtain ⟨i,z,rfl,hi,rfl,hf,hb⟩:=hrel;by_cases hpos:0<k / 2 ^ i
  ·have i1:=zJb hpos;have hi4:i<4:=by
    rcases Nat.lt_or_ge i 4 with h | h
    ·exact h
    ·have:i=4:=by omega
     subst this;have:k / 2 ^ 4=0:=Nat.div_eq_of_lt (by omega);omega
   have HS2:=zJh (HS.out i k);have hl:=HL.out i k;by_cases hbit:k / 2 ^ i % 2=1
   ·have e1:=zFd hbit;have HS3:Hid (zAL (i+1) k=zAL i k++[(i:Int)]):=zJh (by rw [HS2.out,if_pos hbit]);clear hbit hpos;have bb:∀wr:World,Below wr.heap.size wr (wr.alloc (.cells #[.int .i64 i] 3)):=fun wr=>(Below.refl wr.heap.size wr).alloc (zJm _) _;go_wp2_with (at_builtin; go_must (refine zAG (W:=w) rfl _ _ rfl rfl (hf.grow (bb _)) (zAA.step hb (bb _)) rfl (RI.one _ i) ?_ ?_))
    ·simp; omega
    ·intro v' w3 f3 b3 hg3;go_wp2_with fail
     go_roundw
     case rel=>exact ⟨i+1,_,rfl,by omega,by go_num,by rw [HS3.out]; exact f3,b3⟩
     case measure=>simp [intOf]; omega
   ·have e1:=zGc hbit;have HS3:Hid (zAL (i+1) k=zAL i k):=zJh (by rw [HS2.out,if_neg hbit]; simp);clear hbit hpos;go_wp2_with fail
    go_roundw
    case rel=>exact ⟨i+1,_,rfl,by omega,by go_num,by rw [HS3.out]; exact hf,hb⟩
    case measure=>simp [intOf]; omega
  ·have i1:=zJa hpos;have HR:Hid (zAL i k=zAL 4 k):=zJh (by
    have h0:k / 2 ^ i=0:=Nat.eq_zero_of_not_pos hpos;refine (zEJ h0 hi).symm)
   clear hpos;go_wp2_with fail
   go_ret
   exact ⟨_,rfl,by rw [<-HR.out]; exact hf,hb⟩
def zBp (n:Nat):Nat→List (List Int)
 | 0=>[]
 | k+1=>zBp n k++[zAL n (k+1)]
theorem zBV (n:Nat):∀k,(zBp n k).length=k
 | 0=>rfl
 | k+1=>by simp [zBp,zBV n k]
theorem zFD (n:Nat):∀(k j:Nat),j<k→(zBp n k)[j]? = some (zAL n (j+1))
 | 0,j,h=>by omega
 | k+1,j,h=>by
  simp only [zBp];rcases Nat.lt_or_ge j k with h1 | h1
  ·rw [List.getElem?_append_left (by rw [zBV]; exact h1)];exact zFD n k j h1
  ·have:j=k:=by omega
   subst this;rw [List.getElem?_append_right (by rw [zBV]; exact zJm _),zBV];simp
theorem zDH {n k:Nat} (hn:n≤4):(k:Int)+1<wrap64 (2 ^ n)↔k+1<2 ^ n:=by
 match n,hn with
 | 0,_=>simp [wrap64]; omega
 | 1,_=>simp [wrap64]; omega
 | 2,_=>simp [wrap64]; omega
 | 3,_=>simp [wrap64]; omega
 | 4,_=>simp [wrap64]; omega
theorem zHl (n:Nat) (hn:n≤4) (w:World) :
  Calls Try.prog 93 #[.int .i64 n] w fun e w'=>∃r,e=.returned r∧FR (New w w') w' r (zBp n (2 ^ n-1))∧Below w.heap.size w w':=by
 have HS:=zJh zBa;have HL:=zJh zBr;go_enter Try.func93,Try.ntmps93
 go_wp2_with fail
 obtain ⟨w1,hw1⟩:∃w1,w1=w.alloc (.cells #[] 25):=⟨_,rfl⟩;obtain ⟨f1,b1⟩:=FR.empty_of (Below.refl _ w) hw1;rw [<-hw1];clear hw1;go_loopw [3,4] (fun zz j wr=>∃(k:Nat) (z:Value),z=zz∧k+1≤2 ^ n∧j=.int .i64 ((k:Int)+1)∧FR (New w wr) wr z (zBp n k)∧Below w.heap.size w wr) (fun _ j _=>2 ^ n-(intOf j).toNat)
 case atStart=>exact ⟨0,_,rfl,Nat.one_le_two_pow,rfl,f1,b1⟩
 case round =>
  obtain ⟨k,z,rfl,hk,rfl,hf,hb⟩:=hrel;have hl:=zBV n k;have HLEN:=zJh hl;clear hl;generalize hA:zBp n k=A at *;have HST:Hid (zBp n (k+1)=A++[zAL n (k+1)]):=zJh (by rw [<-hA]; rfl);have hk16:k+1≤16:=Nat.le_trans hk (Nat.pow_le_pow_right (n:=2) (by omega) hn);by_cases hlt:k+1<2 ^ n
  ·have i1:=(zDH hn (k:=k)).2 hlt;clear hA;go_wp2_with fail
   obtain ⟨w2,hw2⟩:∃w2,w2=wr.alloc (.cells #[] 3):=⟨_,rfl⟩;obtain ⟨f2,b2⟩:=zAE (Below.refl _ wr) hw2;rw [<-hw2];clear hw2;generalize wr=wO at *;go_loopw [5,6] (fun yy j wr=>∃(i:Nat) (y:Value),y=yy∧i≤n∧j=.int .i64 i∧FI (New wO wr) wr y (zAL i (k+1))∧Below wO.heap.size wO wr) (fun _ j _=>n-(intOf j).toNat)
   case atStart=>exact ⟨0,_,rfl,Nat.zero_le _,rfl,f2,b2⟩
   case round =>
    obtain ⟨i,y,rfl,hi,rfl,hfy,hby⟩:=hrel;have hl:=HL.out i (k+1);by_cases hin:i<n
    ·have HS2:=zJh (HS.out i (k+1));have i2:(i:Int)<(n:Int):=by omega
     by_cases hbit:(k+1) / 2 ^ i % 2=1
     ·have e1:(bits BinOp.and IntKind.i64 (((k:Int)+1) / 2 ^ i) 1 == 1)=true:=by rw [show ((k:Int)+1)=((k+1:Nat):Int) by omega]; exact zFd hbit
      have HS3:Hid (zAL (i+1) (k+1)=zAL i (k+1)++[(i:Int)]):=zJh (by rw [HS2.out,if_pos hbit]);clear hbit;have bb:∀wr:World,Below wr.heap.size wr (wr.alloc (.cells #[.int .i64 i] 3)):=fun wr=>(Below.refl wr.heap.size wr).alloc (zJm _) _;go_wp2_with (at_builtin; go_must (refine zAG (W:=wO) rfl _ _ rfl rfl (hfy.grow (bb _)) (zAA.step hby (bb _)) rfl (RI.one _ i) ?_ ?_))
      ·simp; omega
      ·intro v' w3 f3 b3 hg3;go_wp2_with fail
       go_roundw
       case rel=>exact ⟨i+1,_,rfl,by omega,by go_num,by rw [HS3.out]; exact f3,b3⟩
       case measure=>simp [intOf]; omega
     ·have e1:(bits BinOp.and IntKind.i64 (((k:Int)+1) / 2 ^ i) 1 == 1)=false:=by rw [show ((k:Int)+1)=((k+1:Nat):Int) by omega]; exact zGc hbit
      have HS3:Hid (zAL (i+1) (k+1)=zAL i (k+1)):=zJh (by rw [HS2.out,if_neg hbit]; simp);clear hbit;go_wp2_with fail
      go_roundw
      case rel=>exact ⟨i+1,_,rfl,by omega,by go_num,by rw [HS3.out]; exact hfy,hby⟩
      case measure=>simp [intOf]; omega
    ·have hin2:i=n:=by omega
     subst hin2;have hf2:=hf.grow hby;have hb2:=zAA.step hb hby;have hs0:w.heap.size≤wO.heap.size:=hb.size;obtain ⟨ay,cy,rfl⟩:=hfy.form;generalize (zAL i (k+1)).length=ly at *;have hy:RI (New w wr) wr (.slice ay ly cy) (zAL i (k+1)):=hfy.reads.mono (fun b hb'=>⟨Nat.le_trans hs0 hb'.1,hb'.2⟩);have bb:Below wr.heap.size wr (wr.alloc (.cells #[.slice ay ly cy] 25)):=(Below.refl _ _).alloc (zJm _) _;have hcn:(wr.alloc (.cells #[.slice ay ly cy] 25)).cell? ⟨wr.heap.size,0,none⟩=some (.slice ay ly cy):=by go_simp
     have hln:A.length+1≤67108864:=by have:=HLEN.out; omega
     go_wp2_with (at_builtin; go_must (refine zA2 (W:=w) rfl _ _ rfl rfl (hf2.grow bb) (zAA.step hb2 bb) rfl hcn ((hy.below bb).mono (fun b hb'=>⟨hb'.1,Nat.lt_of_lt_of_le hb'.2 bb.size⟩)) hln ?_))
     intro v' w4 f4 b4 _;go_wp2_with fail
     go_roundw
     case rel=>exact ⟨k+1,_,rfl,hlt,by go_num,by rw [HST.out]; exact f4,b4⟩
     case measure=>simp [intOf]; omega
  ·have i1:¬((k:Int)+1<wrap64 (2 ^ n)):=fun h=>hlt ((zDH hn).1 h);have HR:Hid (A=zBp n (2 ^ n-1)):=zJh (by rw [<-hA]; congr 1; omega);clear hA hlt;go_wp2_with fail
   go_ret
   exact ⟨_,rfl,by rw [<-HR.out]; exact hf,hb⟩
def rowL (c:List (List Int)) (i:Int) (l:List Int):List Int:=l.map fun j=>ent c i.toNat j.toNat
def subL (c:List (List Int)) (l:List Int):List (List Int):=l.map fun i=>rowL c i l
theorem zHH (c:List (List Int)) (n k:Nat):subL c (zAL n k)=Fin.sub c (Fin.bits n k):=by
 simp only [subL,rowL,zAL,Fin.sub,List.map_map];refine List.map_congr_left fun i _=>?_;simp only [Function.comp_def];refine List.map_congr_left fun j _=>?_;simp only [Int.toNat_natCast];rfl
theorem zES {c:List (List Int)} {i:Int} {l:List Int} {k:Nat} {x:Int} (h:l[k]? = some x):rowL c i (l.take (k+1))=rowL c i (l.take k)++[ent c i.toNat x.toNat]:=by
 rw [zBY h]; simp [rowL]
theorem zEX {c:List (List Int)} {l:List Int} {k:Nat} {x:Int} (h:l[k]? = some x):(l.take (k+1)).map (fun i=>rowL c i l)=(l.take k).map (fun i=>rowL c i l)++[rowL c x l]:=by
 rw [zBY h]; simp
def Pts (n:Nat) (l:List Int):Prop:=∀(j:Nat) (x:Int),l[j]? = some x→∃i:Nat,x=(i:Int)∧i<n
theorem zGO {S S':Nat→Prop} {u v:Value} {c:List (List Int)} {l:List Int} {w:World} {n:Nat} (h:RII S w u c) (h':RI S' w v l) (hsq:Sq c n) (hp:Pts n l) (_:n≤4) (hl:l.length≤16777216) :
  Calls Try.prog 98 #[u,v] w fun e w'=>∃r,e=.returned r∧FR (New w w') w' r (subL c l)∧Below w.heap.size w w':=by
 obtain ⟨a,cap,rfl⟩:=h.form;obtain ⟨a',cap',rfl⟩:=h'.form;rw [hsq.len] at h ⊢;have HS:=zJh hsq;have HP:=zJh hp;clear hsq hp;obtain ⟨A,hA⟩:∃A:Nat→List (List Int),∀k,A k=(l.take k).map (fun i=>rowL c i l):=⟨_,fun _=>rfl⟩;have HA0:Hid (A 0=[]):=zJh (by rw [hA]; simp);have HAn:Hid (A l.length=subL c l):=zJh (by rw [hA]; simp [subL]);have HAS:Hid (∀k x,l[k]? = some x→A (k+1)=A k++[rowL c x l]):=zJh (fun k x hx=>by rw [hA,hA]; exact zEX hx);have HAL:Hid (∀k,(A k).length≤k):=zJh (fun k=>by rw [hA]; simp; omega);clear hA;have HB0:Hid (∀x,rowL c x (l.take 0)=[]):=zJh (fun x=>by simp [rowL]);have HBn:Hid (∀x,rowL c x (l.take l.length)=rowL c x l):=zJh (fun x=>by simp);have HBL:Hid (∀x k,(rowL c x (l.take k)).length≤k):=zJh (fun x k=>by simp [rowL]; omega);generalize hm:l.length=m at *
 have HM:=zJh hm;clear hm;go_enter Try.func98,Try.ntmps98
 go_wp2_with fail
 obtain ⟨w1,hw1⟩:∃w1,w1=w.alloc (.cells #[] 25):=⟨_,rfl⟩;obtain ⟨f1,b1⟩:=FR.empty_of (Below.refl _ w) hw1;rw [<-hw1];clear hw1;rw [<-HA0.out] at f1;go_loopw [5,14] (fun zz j wr=>∃(k:Nat) (z:Value),z=zz∧k≤m∧j=.int .i64 k∧FR (New w wr) wr z (A k)∧Below w.heap.size w wr) (fun _ j _=>m-(intOf j).toNat)
 case atStart=>exact ⟨0,_,rfl,Nat.zero_le _,rfl,f1,b1⟩
 case round =>
  obtain ⟨k,z,rfl,hk,rfl,hf,hb⟩:=hrel;have hal:=HAL.out k;by_cases hlt:k<m
  ·obtain ⟨b,o,x,rfl,hc,hx⟩:=(h'.below hb).at hlt;obtain ⟨i,rfl,hi⟩:=HP.out k x hx.out;have HST:=zJh (HAS.out k _ hx.out);have hb0:=HB0.out (i:Int);obtain ⟨b2,o2,r,r0,rfl,hcr,hr,hr0⟩:=(h.below hb).at hi;obtain ⟨ar,cr,rfl⟩:=hr.form;have hln:r0.length=n:=HS.out.row i r0 hr0.out;rw [hln] at hr hcr;clear hln;generalize A k=Ak at *;have i1:(k:Int)<(m:Int):=by omega
   go_wp2_with fail
   obtain ⟨w2,hw2⟩:∃w2,w2=wr.alloc (.cells #[] 3):=⟨_,rfl⟩;obtain ⟨f2,b2'⟩:=zAE (Below.refl _ wr) hw2;rw [<-hw2];clear hw2;rw [<-hb0] at f2;clear hb0;generalize wr=wO at *;go_loopw [8,21] (fun yy j wr=>∃(q:Nat) (y:Value),y=yy∧q≤m∧j=.int .i64 q∧FI (New wO wr) wr y (rowL c i (l.take q))∧Below wO.heap.size wO wr) (fun _ j _=>m-(intOf j).toNat)
   case atStart=>exact ⟨0,_,rfl,Nat.zero_le _,rfl,f2,b2'⟩
   case round =>
    obtain ⟨q,y,rfl,hq,rfl,hfy,hby⟩:=hrel;by_cases hltq:q<m
    ·obtain ⟨b3,o3,x3,e3,hc3,hx3⟩:=(h'.below (zAA.step hb hby)).at hltq;simp only [Option.some.injEq,Addr.mk.injEq,and_true] at e3;obtain ⟨rfl,rfl⟩:=e3;obtain ⟨j,rfl,hj⟩:=HP.out q x3 hx3.out;have hcr':=(hby.cell (p:=⟨b2,o2+i,none⟩) (zJl wO _ hcr)).trans hcr;obtain ⟨b4,o4,y4,rfl,hc4,hx4⟩:=(hr.below hby).at hj;have HS2:Hid (rowL c i (l.take (q+1))=rowL c i (l.take q)++[y4]):=zJh (by rw [zES hx3.out]; simp only [Int.toNat_natCast]; rw [zBD hr0.out hx4.out]);have hbl:=HBL.out (i:Int) q;have i2:(q:Int)<(m:Int):=by omega
     generalize rowL c i (l.take q)=R at *;have bb:∀wr:World,Below wr.heap.size wr (wr.alloc (.cells #[.int .i64 y4] 3)):=fun wr=>(Below.refl wr.heap.size wr).alloc (zJm _) _;go_wp2_with (at_builtin; go_must (refine zAG (W:=wO) rfl _ _ rfl rfl (hfy.grow (bb _)) (zAA.step hby (bb _)) rfl (RI.one _ y4) ?_ ?_))
     ·simp; omega
     ·intro v' w3 f3 b3 hg3;go_wp2_with fail
      go_roundw
      case rel=>exact ⟨q+1,_,rfl,by omega,by go_num,by rw [HS2.out]; exact f3,b3⟩
      case measure=>simp [intOf]; omega
    ·have hqm:q=m:=by omega
     have hbn:=HBn.out (i:Int);rw [hqm,hbn] at hfy;have hf2:=hf.grow hby;have hb2:=zAA.step hb hby;have hs0:w.heap.size≤wO.heap.size:=hb.size;obtain ⟨ay,cy,rfl⟩:=hfy.form;clear hbn hqm;generalize rowL c i l=R at *;generalize R.length=ly at *;have hy:RI (New w wr) wr (.slice ay ly cy) R:=hfy.reads.mono (fun b hb'=>⟨Nat.le_trans hs0 hb'.1,hb'.2⟩);have bb:Below wr.heap.size wr (wr.alloc (.cells #[.slice ay ly cy] 25)):=(Below.refl _ _).alloc (zJm _) _;have hcn:(wr.alloc (.cells #[.slice ay ly cy] 25)).cell? ⟨wr.heap.size,0,none⟩=some (.slice ay ly cy):=by go_simp
     have hln:Ak.length+1≤67108864:=by omega
     have i2:¬(q:Int)<(m:Int):=by omega
     go_wp2_with (at_builtin; go_must (refine zA2 (W:=w) rfl _ _ rfl rfl (hf2.grow bb) (zAA.step hb2 bb) rfl hcn ((hy.below bb).mono (fun b hb'=>⟨hb'.1,Nat.lt_of_lt_of_le hb'.2 bb.size⟩)) hln ?_))
     intro v' w4 f4 b4 _;go_wp2_with fail
     go_roundw
     case rel=>exact ⟨k+1,_,rfl,by omega,by go_num,by rw [HST.out]; exact f4,b4⟩
     case measure=>simp [intOf]; omega
  ·have hkm:k=m:=by omega
   have HF:Hid (A k=subL c l):=zJh (by rw [hkm,HAn.out]);have i1:¬(k:Int)<(m:Int):=by omega
   clear hkm;go_wp2_with fail
   go_ret
   exact ⟨_,rfl,by rw [<-HF.out]; exact hf,hb⟩
def Asc (l:List Int):Prop:=∀(j:Nat) (x y:Int),l[j]? = some x→l[j+1]? = some y→x<y
theorem zIp {S S':Nat→Prop} {u v:Value} {c:List (List Int)} {l:List Int} {w:World} (h:RII S w u c) (h':RI S' w v l) (hc:CartanP c) (hl:total c≤16777216) (hp:Pts c.length l) (ha:Asc l) (hl':l.length≤16777216) :
  Calls Try.prog 48 #[u,v] w fun e w'=>e=.returned (.bool true)∧∃m,w'=w.drewN m:=by
 have hC:=zJh (zAR.2 hc);have hn4:=hc.le;obtain ⟨a,cap,rfl⟩:=h.form;obtain ⟨a',cap',rfl⟩:=h'.form;have HP:=zJh hp;have HA:=zJh ha;clear hp ha hc;generalize hn:c.length=n at *;have HN:=zJh hn;clear hn;generalize hm:l.length=m at *;have HM:=zJh hm;clear hm;go_enter Try.func48,Try.ntmps48
 go_wp2_with fail
 go_loopw [5] (fun j wr=>∃(k:Nat),k≤m∧j=.int .i64 k∧Hid (∃d,wr=w.drewN d)) (fun j _=>m-(intOf j).toNat)
 case atStart=>exact ⟨0,Nat.zero_le _,rfl,zJh dr0⟩
 case round =>
  obtain ⟨k,hk,rfl,HW⟩:=hrel;have hb:Below w.heap.size w wr:=by obtain ⟨d,rfl⟩:=HW.out; exact below_drewN (Below.refl _ w) d
  by_cases hlt:k<m
  ·obtain ⟨b,o,x,rfl,hcx,hx⟩:=(h'.below hb).at hlt;obtain ⟨i,rfl,hi⟩:=HP.out k x hx.out;have i1:(k:Int)<(m:Int):=by omega
   have hw1:IntKind.i64.wrap ((n:Int)-1)=(n:Int)-1:=IntWalk.i64_in _ (by omega);have HQ:Hid (∀w':World,Calls Try.prog 39 #[.int .i64 (i:Int),.int .i64 0,.int .i64 ((n:Int)-1)] w' fun e w''=>e=.returned (.bool true)∧w''=w') :=
    zJh (fun w'=>(zBS i 0 ((n:Int)-1) w').mono fun e w'' ⟨h1,h2⟩=>⟨by rw [h1,zDD (by omega)],h2.symm⟩)
   rcases k with _ | k
   ·have e0:decide ((0:Int)<0)=false:=by decide
    rw [show (((0:Nat):Int))=0 from rfl];rw [Nat.add_zero] at hcx;go_wp2_with fail
    go_quiet ((go_at_call 39; exact Calls.quiet_of_same (HQ.out _)))
    clear hw1;go_wp2_with fail
    go_roundw
    case rel=>exact ⟨1,by omega,by go_num,zJh (by obtain ⟨d,rfl⟩:=HW.out; exact ⟨d+nq,by simp⟩)⟩
    case measure=>simp [intOf]; omega
   ·obtain ⟨b2,o2,y,e2,hcy,hy⟩:=(h'.below hb).at (j:=k) (by omega);simp only [Option.some.injEq,Addr.mk.injEq,and_true] at e2;obtain ⟨rfl,rfl⟩:=e2;have hlt2:=HA.out k y i hy.out hx.out;have e0:decide ((0:Int)<(k:Int)+1)=true:=decide_eq_true (by omega);have e1:decide ((i:Int)≤y)=false:=decide_eq_false (by omega);have j1:IntKind.i64.wrap ((k:Int)+1-1)=(k:Int):=(IntWalk.i64_in _ (by omega)).trans (by omega);have j2:(0:Int)≤(k:Int):=by omega
    have j3:(k:Int)<(m:Int):=by omega
    have j4:((k:Int)).toNat=k:=by omega
    go_wp2_with fail
    go_quiet ((go_at_call 39; exact Calls.quiet_of_same (HQ.out _)))
    clear hw1 j1;go_wp2_with fail
    go_roundw
    case rel=>exact ⟨k+1+1,by omega,by go_num,zJh (by obtain ⟨d,rfl⟩:=HW.out; exact ⟨d+nq,by simp⟩)⟩
    case measure=>simp [intOf]; omega
  ·have i1:¬(k:Int)<(m:Int):=by omega
   have h2:=h.below hb;go_wp2_with fail
   refine (zAg h2 hl).mono ?_;rintro e w5 ⟨rfl,hw5⟩;rw [hC.out];go_wp2_with fail
   go_ret
   refine ⟨rfl,?_⟩;obtain ⟨d,rfl⟩:=HW.out;obtain ⟨d',rfl⟩:=hw5;exact ⟨d+d',by simp⟩
theorem zCr {S S':Nat→Prop} {u v:Value} {c:List (List Int)} {l:List Int} {w:World} (h:RII S w u c) (h':RI S' w v l) (hc:CartanP c) (hl:total c≤16777216) (hp:Pts c.length l) (ha:Asc l) (hl0:1≤l.length) (hl':l.length≤16777216) :
  Calls Try.prog 49 #[u,v] w fun e w'=>∃r,e=.returned (.tuple #[r,.bool true])∧FR (New w w') w' r (subL c l)∧Below w.heap.size w w':=by
 have hn4:=hc.le;obtain ⟨a,cap,rfl⟩:=h.form;obtain ⟨a',cap',rfl⟩:=h'.form;have HP:=zJh hp;have HASC:=zJh ha;have HS:=zJh hc.sq;have HC:=zJh hc;clear hp ha hc;obtain ⟨A,hA⟩:∃A:Nat→List (List Int),∀k,A k=(l.take k).map (fun i=>rowL c i l):=⟨_,fun _=>rfl⟩;have HA0:Hid (A 0=[]):=zJh (by rw [hA]; simp);have HAn:Hid (A l.length=subL c l):=zJh (by rw [hA]; simp [subL]);have HAS:Hid (∀k x,l[k]? = some x→A (k+1)=A k++[rowL c x l]):=zJh (fun k x hx=>by rw [hA,hA]; exact zEX hx);have HAL:Hid (∀k,(A k).length≤k):=zJh (fun k=>by rw [hA]; simp; omega);clear hA;have HB0:Hid (∀x,rowL c x (l.take 0)=[]):=zJh (fun x=>by simp [rowL]);have HBn:Hid (∀x,rowL c x (l.take l.length)=rowL c x l):=zJh (fun x=>by simp);have HBL:Hid (∀x k,(rowL c x (l.take k)).length≤k):=zJh (fun x k=>by simp [rowL]; omega)
 have HL':=zJh hl';generalize hm:l.length=m at *;have HM:=zJh hm;clear hm;have z0:((m:Int) == 0)=false:=by simp; omega
 go_enter Try.func49,Try.ntmps49
 go_wp2_with fail
 obtain ⟨w1,hw1⟩:∃w1,w1=w.alloc (.cells #[] 25):=⟨_,rfl⟩;obtain ⟨f1,b1⟩:=FR.empty_of (Below.refl _ w) hw1;rw [<-hw1];clear hw1;rw [<-HA0.out] at f1;refine (zIp (h.below b1) (h'.below b1) HC.out hl HP.out HASC.out (by rw [HM.out]; exact HL'.out)).mono ?_;rintro e w2 ⟨rfl,hw2⟩;have b2:=zAH hw2;clear hw2;have f1:=f1.grow b2;have b1:=zAA.step b1 b2;clear b2;go_wp2_with fail
 generalize hn:c.length=n at *;have HN:=zJh hn;clear hn;go_loopw [6,7] (fun zz j wr=>∃(k:Nat) (z:Value),z=zz∧k≤m∧j=.int .i64 k∧FR (New w wr) wr z (A k)∧Below w.heap.size w wr) (fun _ j _=>m-(intOf j).toNat)
 case atStart=>exact ⟨0,_,rfl,Nat.zero_le _,rfl,f1,b1⟩
 case round =>
  obtain ⟨k,z,rfl,hk,rfl,hf,hb⟩:=hrel;have hal:=HAL.out k;by_cases hlt:k<m
  ·obtain ⟨b,o,x,rfl,hc0,hx⟩:=h'.at hlt;obtain ⟨i,rfl,hi⟩:=HP.out k x hx.out;have HST:=zJh (HAS.out k _ hx.out);have hb0:=HB0.out (i:Int);obtain ⟨b2,o2,r,r0,rfl,hcr0,hr,hr0⟩:=h.at hi;obtain ⟨ar,cr,rfl⟩:=hr.form;have hln:r0.length=n:=HS.out.row i r0 hr0.out;rw [hln] at hr hcr0;clear hln;generalize A k=Ak at *;have i1:(k:Int)<(m:Int):=by omega
   go_wp2_with fail
   obtain ⟨w2,hw2⟩:∃w2,w2=wr.alloc (.cells #[] 3):=⟨_,rfl⟩;obtain ⟨f2,b2'⟩:=zAE (Below.refl _ wr) hw2;rw [<-hw2];clear hw2;rw [<-hb0] at f2;clear hb0;generalize wr=wO at *;go_loopw [8,9] (fun yy j wr=>∃(q:Nat) (y:Value),y=yy∧q≤m∧j=.int .i64 q∧FI (New wO wr) wr y (rowL c i (l.take q))∧Below wO.heap.size wO wr) (fun _ j _=>m-(intOf j).toNat)
   case atStart=>exact ⟨0,_,rfl,Nat.zero_le _,rfl,f2,b2'⟩
   case round =>
    obtain ⟨q,y,rfl,hq,rfl,hfy,hby⟩:=hrel;have hb2:=zAA.step hb hby;by_cases hltq:q<m
    ·obtain ⟨b3,o3,x3,e3,hc30,hx3⟩:=h'.at hltq;simp only [Option.some.injEq,Addr.mk.injEq,and_true] at e3;obtain ⟨rfl,rfl⟩:=e3;obtain ⟨j,rfl,hj⟩:=HP.out q x3 hx3.out;obtain ⟨b4,o4,y4,rfl,hc40,hx4⟩:=hr.at hj;have l0:=zJl w _ hc0;have l2:=zJl w _ hcr0;have l4:=zJl w _ hc40;have hc:=(hb2.cell (p:=⟨b,o+k,none⟩) l0).trans hc0;have hc3:=(hb2.cell (p:=⟨b,o+q,none⟩) l0).trans hc30;have hcr:=(hb2.cell (p:=⟨b2,o2+i,none⟩) l2).trans hcr0;have hc4:=(hb2.cell (p:=⟨b4,o4+j,none⟩) l4).trans hc40;have hF:=zJh (fun (k:Nat) hk=>Nat.le_trans hb.size (hfy.2 k hk).1);have HS2:Hid (rowL c i (l.take (q+1))=rowL c i (l.take q)++[y4]):=zJh (by rw [zES hx3.out]; simp only [Int.toNat_natCast]; rw [zBD hr0.out hx4.out]);have hbl:=HBL.out (i:Int) q;have i2:(q:Int)<(m:Int):=by omega
     have i3:(i:Int)<(n:Int):=by omega
     have i4:(j:Int)<(n:Int):=by omega
     generalize rowL c i (l.take q)=R at *;have bbd:Below wr.heap.size wr (wr.alloc (.cells #[.int .i64 y4] 3)).drew:=((Below.refl _ _).alloc (zJm _) _).drew;have hcn:(wr.alloc (.cells #[.int .i64 y4] 3)).drew.cell? ⟨wr.heap.size,0,none⟩=some (.int .i64 y4):=by go_simp
     have hfn:=hfy.grow bbd;have hbn:=zAA.step hby bbd;have hln2:R.length+1≤67108864:=by omega
     clear hc30 hc40;go_wp2_with fail
     go_region_held3 (fun w'=>w'.cell? ⟨b,o+k,none⟩=some (.int .i64 i)∧w'.cell? ⟨b,o+q,none⟩=some (.int .i64 j)∧w'.cell? ⟨b2,o2+i,none⟩=some (.slice (some ⟨b4,o4,none⟩) n cr)∧w'.cell? ⟨b4,o4+j,none⟩=some (.int .i64 y4)) (first | go_keep | (go_split_ands; exact ⟨zAv hgrow (by assumption) l0 hF.out,zAv hgrow (by assumption) l0 hF.out,zAv hgrow (by assumption) l2 hF.out,zAv hgrow (by assumption) l4 hF.out⟩)) ((refine zEV (W:=wO) (by rfl) _ _ (by rfl) (by rfl) hfn hbn (by rfl) hcn hln2 ?_; intro v' w3 f3 b5 hgrow))
     clear hc hc3 hcr hc4;go_wp2_with fail
     go_roundw
     case rel=>exact ⟨q+1,_,rfl,by omega,by go_num,by rw [HS2.out]; exact f3,b5⟩
     case measure=>simp [intOf]; omega
    ·have hqm:q=m:=by omega
     have hbn:=HBn.out (i:Int);rw [hqm,hbn] at hfy;have hf2:=hf.grow hby;have hs0:w.heap.size≤wO.heap.size:=hb.size;obtain ⟨ay,cy,rfl⟩:=hfy.form;clear hbn hqm;generalize rowL c i l=R at *;generalize R.length=ly at *;have hy:RI (New w wr) wr (.slice ay ly cy) R:=hfy.reads.mono (fun b hb'=>⟨Nat.le_trans hs0 hb'.1,hb'.2⟩);have bb:Below wr.heap.size wr (wr.alloc (.cells #[.slice ay ly cy] 25)):=(Below.refl _ _).alloc (zJm _) _;have hcn:(wr.alloc (.cells #[.slice ay ly cy] 25)).cell? ⟨wr.heap.size,0,none⟩=some (.slice ay ly cy):=by go_simp
     have hln:Ak.length+1≤67108864:=by have:=HL'.out; omega
     have i2:¬(q:Int)<(m:Int):=by omega
     go_wp2_with (at_builtin; go_must (refine zA2 (W:=w) rfl _ _ rfl rfl (hf2.grow bb) (zAA.step hb2 bb) rfl hcn ((hy.below bb).mono (fun b hb'=>⟨hb'.1,Nat.lt_of_lt_of_le hb'.2 bb.size⟩)) hln ?_))
     intro v' w4 f4 b4 _;go_wp2_with fail
     go_roundw
     case rel=>exact ⟨k+1,_,rfl,by omega,by go_num,by rw [HST.out]; exact f4,b4⟩
     case measure=>simp [intOf]; omega
  ·have hkm:k=m:=by omega
   have HF:Hid (A k=subL c l):=zJh (by rw [hkm,HAn.out]);have i1:¬(k:Int)<(m:Int):=by omega
   clear hkm;go_wp2_with fail
   go_ret2
   exact ⟨_,rfl,by rw [<-HF.out]; exact hf,hb⟩
section
variable {w:World} {ops:Array Oper} {rest:List Oper} {o:Oper} {a:Act} {Q:Exit→Act→World→Prop}
theorem zDi {P:Program} (w:World) (base:Nat) (t ty e:TypeId) (i:TypeInfo) (z:Value) (size bytes:Nat) (ht:P.underlying t=some (.slice e)) (hi:P.info? e=some i) (hz:i.zero=some z)
  (hsize:i.size=size) (hby:i.bytes=bytes) (hzs:z.cells.size=size) (hsz:0<size)
  (v:Value) (n:Nat) (xs:List Value) (hown:w.ownsRow base e size v n xs)
  (a:Addr) (m c:Nat) (news:List Value) (hl:news.length=m*size) (hnews:∀j u,news[j]? = some u→w.cell? (a.add j)=some u) (h1:∀u∈news,u.oneCell'=true)
  (h63:n+m≤maxLen) (hbytes:(n+m)*bytes≤140737488355328) {v':Value} {w':World}
  (hrun:(Builtin.append_ #[t,t] ty #[v,.slice (some a) m c]).run P w=.ok v' w'):∀b,v'.ownBlock=some b→v.ownBlock=some b∨w.heap.size≤b:=by
 subst hsize;subst hby;have hsmall:n+m≤9223372036854775807:=by simp only [maxLen] at h63; omega
 rcases hown.2 with ⟨rfl,rfl⟩ | ⟨g,cap,cur,rfl,hbg,hg,hnc,hcm,hcs,htake⟩
 ·by_cases hm:m=0
  ·subst hm;have hn:news=[]:=List.eq_nil_of_length_eq_zero (by simpa using hl);subst hn;have hr:(Builtin.append_ #[t,t] ty #[.slice none 0 0,.slice (some a) 0 c]).run P w=.ok (.slice none 0 0) w:=by
    simp [Builtin.append_,run_underlying ht,sizeOf,typeInfo,hi,Builtin.lenOf,Builtin.firstCells,loadCells,loadCellsFrom]
   rw [hr] at hrun
   injection hrun with e1 e2
   subst e1;intro b hb;cases hb
  ·have hr:=run_append_nil (P:=P) w t ty e i z ht hi hz a m c news hl hnews (by omega) (by omega) (by have hb:=hbytes; simp only [Nat.zero_add] at hb; omega);rw [hr] at hrun
   injection hrun with e1 e2
   subst e1;intro b hb;simp [Value.ownBlock] at hb;exact .inr (by omega)
 ·by_cases hroom:n+m≤cap
  ·have hfit:n*i.size+news.length≤cur.size:=by rw [hl,hcs,<-Nat.add_mul]; exact Nat.mul_le_mul_right _ hroom
   have hr:=run_append_room (P:=P) w t ty e i ht hi g n cap cur hg a m c news hl hnews h1 hroom hfit;rw [hr] at hrun
   injection hrun with e1 e2
   subst e1;intro b hb;exact .inl hb
  ·have holds:∀j u,xs[j]? = some u→w.cell? ((⟨g,0,none⟩:Addr).add j)=some u:=hown.cells (g:=g) rfl;have hr:=run_append_grow (P:=P) w t ty e i z ht hi hz ⟨g,0,none⟩ n cap xs hown.1 holds a m c news hl hnews (by omega) (by omega) (growslice_fits (by omega) hbytes);rw [hr] at hrun
   injection hrun with e1 e2
   subst e1;intro b hb;simp [Value.ownBlock] at hb;exact .inr (by omega)
end
theorem FI.own {S:Nat→Prop} {w:World} {v:Value} {l:List Int} (h:FI S w v l):FI (fun b=>S b∧v.ownBlock=some b) w v l:=⟨h.1,fun b hb=>⟨h.2 b hb,hb⟩⟩
end Go.Proofs.Ytlchafedbnihoaa
namespace Go.Proofs.Ytlchafedbnihoaa
open Go.RowKit
set_option maxRecDepth 20000
set_option maxHeartbeats 8000000
theorem zFX {S:Nat→Prop} {u:Value} {m:List (List Int)} {w:World} {n:Nat} (h:RII S w u m) (hs:Fin.Sqr m (n+1)) (hn:n≤3) (c:Nat) :
  Calls Try.prog 99 #[u,.int .i64 c] w fun e w'=>∃r,e=.returned r∧FR (New w w') w' r (Fin.without m c)∧Below w.heap.size w w':=by
 obtain ⟨a,cap,rfl⟩:=h.form;have HROW:=zJh hs.row;have HL:=zJh hs.len;rw [hs.len] at h ⊢;have HR:Hid (((m.drop 1).take n).map (Fin.cut c)=Fin.without m c):=zJh (by rw [List.take_of_length_le (by have:=hs.len; simp; omega)]; rfl);have HR0:Hid (((m.drop 1).take 0).map (Fin.cut c)=[]):=zJh (by simp);clear hs;go_enter Try.func99,Try.ntmps99
 go_wp2_with fail
 obtain ⟨w1,hw1⟩:∃w1,w1=w.alloc (.cells #[] 25):=⟨_,rfl⟩;obtain ⟨f1,b1⟩:=FR.empty_of (Below.refl _ w) hw1;rw [<-hw1];clear hw1;rw [<-HR0.out] at f1;go_loopw [5,6] (fun z j wr=>∃(k:Nat),k≤n∧j=.int .i64 ((k:Int)+1)∧FR (New w wr) wr z (((m.drop 1).take k).map (Fin.cut c))∧Below w.heap.size w wr) (fun _ j _=>n+1-(intOf j).toNat)
 case atStart=>exact ⟨0,Nat.zero_le _,by go_num,f1,b1⟩
 case round =>
  obtain ⟨k,hk,rfl,hf,hb⟩:=hrel;by_cases hlt:k<n
  ·obtain ⟨b,o,r,l,rfl,hc,hr,hl⟩:=(h.below hb).at (j:=k+1) (by omega);obtain ⟨ar,cr,rfl⟩:=hr.form;have hln:l.length=n+1:=HROW.out l (zJj hl.out);rw [hln] at hr hc;have HST:=zJh (Fin.without_step (j:=c) hl.out);have HC0:Hid (Fin.cut c (l.take 0)=[]):=zJh (by simp [Fin.cut]);have HC1:Hid (Fin.cut c (l.take (n+1))=Fin.cut c l):=zJh (by rw [<-hln]; simp);have HCL:Hid (∀q,q≤n+1→(Fin.cut c (l.take q)).length≤q):=zJh (fun q hq=>by simp [Fin.cut]; omega);clear hln;have i1:(k:Int)+1<((n+1:Nat):Int):=by omega
   go_wp2_with fail
   obtain ⟨w2,hw2⟩:∃w2,w2=wr.alloc (.cells #[] 3):=⟨_,rfl⟩;obtain ⟨f2,b2⟩:=zAE (Below.refl _ wr) hw2;rw [<-hw2];clear hw2;rw [<-HC0.out] at f2;generalize wr=wO at *;go_loopw [7,8] (fun yy j w'=>∃(q:Nat) (y:Value),y=yy∧q≤n+1∧j=.int .i64 q∧FI (New wO w') w' y (Fin.cut c (l.take q))∧Below wO.heap.size wO w') (fun _ j _=>n+1-(intOf j).toNat)
   case atStart=>exact ⟨0,_,rfl,Nat.zero_le _,rfl,f2,b2⟩
   case round =>
    obtain ⟨q,y,rfl,hq,rfl,hfy,hby⟩:=hrel;by_cases hltq:q<n+1
    ·obtain ⟨b',o',x,rfl,hcx,hx⟩:=(hr.below hby).at hltq;have hc':=(hby.cell (p:=⟨b,o+(k+1),none⟩) (zJl wO _ hc)).trans hc;have HCS:=zJh (Fin.cut_step (j:=c) hx.out);have hlen:=HCL.out q hq;have i2:(q:Int)<((n+1:Nat):Int):=by omega
     by_cases hqc:q=c
     ·have HCS2:Hid (Fin.cut c (l.take (q+1))=Fin.cut c (l.take q)):=zJh (by rw [HCS.out,if_pos hqc]);have e1:((q:Int) != (c:Int))=false:=by simp; omega
      clear hqc;go_wp2_with fail
      go_roundw
      case rel=>exact ⟨q+1,_,rfl,by omega,by go_num,by rw [HCS2.out]; exact hfy,hby⟩
      case measure=>simp [intOf]; omega
     ·have HCS2:Hid (Fin.cut c (l.take (q+1))=Fin.cut c (l.take q)++[x]):=zJh (by rw [HCS.out,if_neg hqc]);have e1:((q:Int) != (c:Int))=true:=by simp; omega
      clear hqc;have bb:∀wr:World,Below wr.heap.size wr (wr.alloc (.cells #[.int .i64 x] 3)):=fun wr=>(Below.refl wr.heap.size wr).alloc (zJm _) _;go_wp2_with (at_builtin; go_must (refine zAG (W:=wO) rfl _ _ rfl rfl (hfy.grow (bb _)) (zAA.step hby (bb _)) rfl (RI.one _ x) ?_ ?_))
      ·simp; omega
      ·intro v' w3 f3 b3 hg3;go_wp2_with fail
       go_roundw
       case rel=>exact ⟨q+1,_,rfl,by omega,by go_num,by rw [HCS2.out]; exact f3,b3⟩
       case measure=>simp [intOf]; omega
    ·have hqn:q=n+1:=by omega
     subst hqn;rw [HC1.out] at hfy;obtain ⟨ay,cy,rfl⟩:=hfy.form;generalize (Fin.cut c l).length=ly at *;have hf2:=hf.grow hby;have hb2:=zAA.step hb hby;have hs0:w.heap.size≤wO.heap.size:=hb.size;have hy:RI (New w wr) wr (.slice ay ly cy) (Fin.cut c l):=hfy.reads.mono (fun b hb'=>⟨Nat.le_trans hs0 hb'.1,hb'.2⟩);have bb:Below wr.heap.size wr (wr.alloc (.cells #[.slice ay ly cy] 25)):=(Below.refl _ _).alloc (zJm _) _;have hcn:(wr.alloc (.cells #[.slice ay ly cy] 25)).cell? ⟨wr.heap.size,0,none⟩=some (.slice ay ly cy):=by go_simp
     have hln:(((m.drop 1).take k).map (Fin.cut c)).length+1≤67108864:=by simp; omega
     generalize ((m.drop 1).take k).map (Fin.cut c)=acc at *;go_wp2_with (at_builtin; go_must (refine zA2 (W:=w) rfl _ _ rfl rfl (hf2.grow bb) (zAA.step hb2 bb) rfl hcn ((hy.below bb).mono (fun b hb'=>⟨hb'.1,Nat.lt_of_lt_of_le hb'.2 bb.size⟩)) hln ?_))
     intro v' w4 f4 b4 _;go_wp2_with fail
     go_roundw
     case rel=>exact ⟨k+1,by omega,by go_num,by rw [HST.out]; exact f4,b4⟩
     case measure=>simp [intOf]; omega
  ·have hkn:k=n:=by omega
   subst hkn;go_wp2_with fail
   go_ret
   exact ⟨_,rfl,by rw [<-HR.out]; exact hf,hb⟩
theorem zDG {k:Nat} (h:k % 2=1) (x:Int):Fin.sgn k x = -x:=by unfold Fin.sgn; rw [if_pos h]
theorem zCk {k:Nat} (h:¬k % 2=1) (x:Int):Fin.sgn k x=x:=by unfold Fin.sgn; rw [if_neg h]
theorem zEk:∀(n:Nat) (S:Nat→Prop) (u:Value) (m:List (List Int)) (w:World),RII S w u m→Fin.Sqr m n→Fin.Small 2000 m→n≤4 →
  Calls Try.prog 94 #[u] w fun e w'=>e=.returned (.int .i64 (Fin.det n m))∧Below w.heap.size w w'
 | 0,S,u,m,w,h,hs,_,_=>by
  obtain ⟨a,cap,rfl⟩:=h.form;rw [hs.len];go_enter Try.func94,Try.ntmps94
  go_wp2_with fail
  go_ret
  exact ⟨rfl,Below.refl _ _⟩
 | n+1,S,u,m,w,h,hs,hsm,hn=>by
  have ih:=zJh (zEk n);obtain ⟨a,cap,rfl⟩:=h.form;have HS:=zJh hs;have HSM:=zJh hsm;rw [hs.len] at h ⊢;clear hs hsm;have HR:Hid (Fin.sum (fun j=>Fin.sgn j (Fin.en m 0 j*Fin.det n (Fin.without m j))) (n+1)=Fin.det (n+1) m):=zJh rfl;have HR0:Hid (Fin.sum (fun j=>Fin.sgn j (Fin.en m 0 j*Fin.det n (Fin.without m j))) 0=0):=zJh rfl;have HST:Hid (∀k,Fin.sum (fun j=>Fin.sgn j (Fin.en m 0 j*Fin.det n (Fin.without m j))) (k+1)=Fin.sum (fun j=>Fin.sgn j (Fin.en m 0 j*Fin.det n (Fin.without m j))) k+Fin.sgn k (Fin.en m 0 k*Fin.det n (Fin.without m k))):=zJh (fun _=>rfl);have HBD:Hid (∀k,k≤4→-384000000000000≤Fin.sum (fun j=>Fin.sgn j (Fin.en m 0 j*Fin.det n (Fin.without m j))) k∧Fin.sum (fun j=>Fin.sgn j (Fin.en m 0 j*Fin.det n (Fin.without m j))) k≤384000000000000):=zJh (fun k hk=>Fin.sum_bd (by omega) HSM.out hk)
  generalize Fin.det (n+1) m=res at *;generalize Fin.sum (fun j=>Fin.sgn j (Fin.en m 0 j*Fin.det n (Fin.without m j)))=sm at *;have z0:((n:Int)+1 == 0)=false:=by simp; omega
  go_enter Try.func94,Try.ntmps94
  go_wp2_with fail
  go_loopw [3,4] (fun d j wr=>∃(k:Nat) (s:Int),k≤n+1∧j=.int .i64 k∧d=.int .i64 s∧Hid (s=sm k)∧Below w.heap.size w wr) (fun _ j _=>n+1-(intOf j).toNat)
  case atStart=>exact ⟨0,0,Nat.zero_le _,rfl,rfl,zJh HR0.out.symm,Below.refl _ _⟩
  case round =>
   obtain ⟨k,s,hk,rfl,rfl,HSM2,hb⟩:=hrel;by_cases hlt:k<n+1
   ·obtain ⟨b,o,r,l,rfl,hc,hr,hl⟩:=(h.below hb).at (j:=0) (by omega);obtain ⟨ar,cr,rfl⟩:=hr.form;have hln:l.length=n+1:=HS.out.row l (zJj hl.out);rw [hln] at hr hc;rw [Nat.add_zero] at hc;clear hln;obtain ⟨b',o',x,rfl,hcx,hx⟩:=hr.at hlt;have HX:Hid (Fin.en m 0 k=x):=zJh (Fin.en_at hl.out hx.out);have hbd:=HBD.out k (by omega);rw [<-HSM2.out] at hbd;have hpd:=Fin.term_bd (n:=n) (by omega) HSM.out k;rw [HX.out] at hpd;have HSS:=HST.out k;rw [HX.out,<-HSM2.out] at HSS;have HSS2:=zJh HSS;clear HSS;have hw0:IntKind.i64.wrap (x*Fin.det n (Fin.without m k))=x*Fin.det n (Fin.without m k):=IntWalk.i64_in _ (by omega);have l1:=zJl wr _ hc;have l2:=zJl wr _ hcx;have i1:(k:Int)<((n+1:Nat):Int):=by omega
    generalize hD:Fin.det n (Fin.without m k)=D at *;have HD:=zJh hD;clear hD;go_wp2_with fail
    go_region_held3 (fun w'=>w'.cell? ⟨b,o,none⟩=some (.slice (some ⟨b',o',none⟩) (n+1) cr)∧w'.cell? ⟨b',o'+k,none⟩=some (.int .i64 x)) (first | go_keep | (go_split_ands; exact ⟨(b4.cell l1).trans (by go_simp),(b4.cell l2).trans (by go_simp)⟩) | (go_split_ands; exact ⟨(b5.cell (Nat.lt_of_lt_of_le l1 b4.size)).trans ((b4.cell l1).trans (by go_simp)),(b5.cell (Nat.lt_of_lt_of_le l2 b4.size)).trans ((b4.cell l2).trans (by go_simp))⟩)) (first
     | (go_at_call 99; refine (zFX ((h.below hb).drew) HS.out (by omega) k).mono ?_; rintro e w4 ⟨r4,rfl,f4,b4⟩)
     | (go_at_call 94; refine (ih.out _ _ _ _ f4.reads (HS.out.without (by omega)) (HSM.out.without k) (by omega)).mono ?_; rintro e w5 ⟨rfl,b5⟩; rw [HD.out]))
    have b14:Below wr.heap.size wr w4:=((Below.refl _ wr).drew).trans b4;have b15:=zAA.step (zAA.step hb b14) b5;clear b4 b5 b14 hw0;by_cases hk2:k % 2=1
    ·have HS3:Hid (sm (k+1)=s + -(x*D)):=zJh (by rw [HSS2.out,zDG hk2]);have e1:((k:Int) % 2 == 1)=true:=by simp; omega
     clear hk2;go_wp2_with fail
     go_roundw
     case rel=>exact ⟨k+1,s + -(x*D),by omega,by go_num,by go_num,zJh HS3.out.symm,b15⟩
     case measure=>simp [intOf]; omega
    ·have HS3:Hid (sm (k+1)=s+x*D):=zJh (by rw [HSS2.out,zCk hk2]);have e1:((k:Int) % 2 == 1)=false:=by simp; omega
     clear hk2;go_wp2_with fail
     go_roundw
     case rel=>exact ⟨k+1,s+x*D,by omega,by go_num,by go_num,zJh HS3.out.symm,b15⟩
     case measure=>simp [intOf]; omega
   ·have hkn:k=n+1:=by omega
    have e0:Hid (s=res):=zJh (by rw [HSM2.out,hkn,HR.out]);subst hkn;go_wp2_with fail
    go_ret
    exact ⟨zAi e0.out,hb⟩
theorem zIG {n:Nat} {S:Nat→Prop} {u:Value} {m:List (List Int)} {w:World} (h:RII S w u m) (hs:Fin.Sqr m n) (hm:Fin.Small 2000 m) (hn:n≤4) :
  Calls Try.prog 94 #[u] w fun e w'=>e=.returned (.int .i64 (Fin.det n m))∧Below w.heap.size w w':=zEk n S u m w h hs hm hn
def DetI (n:Nat):Prop:=∀(S:Nat→Prop) (u:Value) (m:List (List Int)) (w:World),RII S w u m→Fin.Sqr m n→Fin.Small 2000 m→n≤4 →
  Calls Try.prog 97 #[u] w fun e w'=>e=.returned (.int .i64 (Fin.det n m))∧Below w.heap.size w w'
theorem zHV:DetI 0:=by
 intro S u m w h hs _ _;obtain ⟨a,cap,rfl⟩:=h.form;rw [hs.len];go_enter Try.func97,Try.ntmps97
 go_wp2_with fail
 go_ret
 exact ⟨rfl,Below.refl _ _⟩
theorem zHW {n:Nat} (ih:DetI n):DetI (n+1):=by
 intro S u m w h hs hsm hn;have ih:=zJh ih;obtain ⟨a,cap,rfl⟩:=h.form;have HS:=zJh hs;have HSM:=zJh hsm;rw [hs.len] at h ⊢;have HLen:=zJh hs.len;clear hs hsm;have hcap:=h.cap.1;have HR:Hid (Fin.sum (fun j=>Fin.sgn j (Fin.en m 0 j*Fin.det n (Fin.without m j))) (n+1)=Fin.det (n+1) m):=zJh rfl;have HR0:Hid (Fin.sum (fun j=>Fin.sgn j (Fin.en m 0 j*Fin.det n (Fin.without m j))) 0=0):=zJh rfl;have HST:Hid (∀k,Fin.sum (fun j=>Fin.sgn j (Fin.en m 0 j*Fin.det n (Fin.without m j))) (k+1)=Fin.sum (fun j=>Fin.sgn j (Fin.en m 0 j*Fin.det n (Fin.without m j))) k+Fin.sgn k (Fin.en m 0 k*Fin.det n (Fin.without m k))):=zJh (fun _=>rfl)
 have HBD:Hid (∀k,k≤4→-384000000000000≤Fin.sum (fun j=>Fin.sgn j (Fin.en m 0 j*Fin.det n (Fin.without m j))) k∧Fin.sum (fun j=>Fin.sgn j (Fin.en m 0 j*Fin.det n (Fin.without m j))) k≤384000000000000):=zJh (fun k hk=>Fin.sum_bd (by omega) HSM.out hk);generalize Fin.det (n+1) m=res at *;generalize Fin.sum (fun j=>Fin.sgn j (Fin.en m 0 j*Fin.det n (Fin.without m j)))=sm at *;have z0:((n:Int)+1 == 0)=false:=by simp; omega
 obtain ⟨b,o,r0,l0,rfl,hc0,hr0,hl0⟩:=h.at (j:=0) (by omega);obtain ⟨ar0,cr0,rfl⟩:=hr0.form;have hln0:l0.length=n+1:=HS.out.row l0 (zJj hl0.out);rw [hln0] at hr0 hc0;rw [Nat.add_zero] at hc0;clear hln0;have hcases:cap=1∨1<cap:=by omega
 obtain ⟨A1,C1,hdr,hrun⟩:∃(A1 C1:Nat),RII S w (.slice (some ⟨b,A1,none⟩) n C1) (m.drop 1)∧((cap=1∧A1=o∧C1=0∧n=0)∨(1<cap∧A1=o+1∧C1=cap-1)):=by
  rcases hcases with hcp | hcp
  ·have hn0:n=0:=by omega
   subst hcp; subst hn0;exact ⟨o,0,h.cutEnd (zJm _) (by omega),.inl ⟨rfl,rfl,rfl,rfl⟩⟩
  ·exact ⟨o+1,cap-1,by simpa using h.cutFrom (k:=1) (by omega),.inr ⟨hcp,rfl,rfl⟩⟩
 clear hcases;rcases hrun with ⟨rfl,rfl,rfl,hn0⟩ | ⟨hcp1,rfl,rfl⟩
 rotate_left
 all_goals
  first
  |have hn0':n≤0:=by omega
   clear hn0
  | skip
  go_enter Try.func97,Try.ntmps97
  go_wp2_with fail
  go_loopw [3,4,17] (fun d g j wr=>∃(k:Nat) (s:Int),k≤n+1∧j=.int .i64 k∧d=.int .i64 s∧g=.int .i64 (Fin.sgn k 1)∧Hid (s=sm k)∧Below w.heap.size w wr) (fun _ _ j _=>n+1-(intOf j).toNat)
  case atStart=>exact ⟨0,0,Nat.zero_le _,rfl,rfl,rfl,zJh HR0.out.symm,Below.refl _ _⟩
  case round =>
   obtain ⟨k,s,hk,rfl,rfl,rfl,HSM2,hb⟩:=hrel;by_cases hlt:k<n+1
   ·obtain ⟨b',o',x,rfl,hcx,hx⟩:=(hr0.below hb).at hlt;have HX:Hid (Fin.en m 0 k=x):=zJh (Fin.en_at hl0.out hx.out);have hbd:=HBD.out k (by omega);rw [<-HSM2.out] at hbd;have hpd:=Fin.term_bd (n:=n) (by omega) HSM.out k;rw [HX.out] at hpd;have hxb:=HSM.out.en 0 k;rw [HX.out] at hxb;have HSS:=HST.out k;rw [HX.out,<-HSM2.out] at HSS;have HSS2:=zJh HSS;clear HSS;generalize hD:Fin.det n (Fin.without m k)=D at *;have HD:=zJh hD;clear hD;have hxb1:-2000≤x∧x≤2000:=by omega
    clear hxb;have i0:(k:Int)<(n:Int)+1:=by omega
    generalize wr=wO at *;have hsg:(Fin.sgn k 1=1∧Fin.sgn (k+1) 1 = -1∧∀y,Fin.sgn k y=y)∨(Fin.sgn k 1 = -1∧Fin.sgn (k+1) 1=1∧∀y,Fin.sgn k y = -y):=by
     by_cases h2:k % 2=1
     ·exact .inr ⟨zDG h2 _,zCk (by omega) _,fun y=>zDG h2 y⟩
     ·exact .inl ⟨zCk h2 _,zDG (by omega) _,fun y=>zCk h2 y⟩
    by_cases hx0:x=0
    ·subst hx0;have HS3:Hid (s=sm (k+1)):=zJh (by
      rw [HSS2.out,Int.zero_mul];rcases hsg with ⟨_,_,e⟩ | ⟨_,_,e⟩ <;> rw [e] <;> omega)
     rcases hsg with ⟨e1,e2,_⟩ | ⟨e1,e2,_⟩;all_goals
      rw [e1];have E2:=zJh e2;clear e1 e2 hpd;go_wp2_with fail
      go_roundw
      case rel=>exact ⟨k+1,s,by omega,by go_num,rfl,by rw [E2.out],HS3,hb⟩
      case measure=>simp [intOf]; omega
    ·have hx1:(x != 0)=true:=by simpa using hx0
     clear hx0;generalize Fin.sgn k 1=g at *;obtain ⟨A,hA⟩:∃A:Nat→List (List Int),∀q,A q=((m.drop 1).take q).map (Fin.cut k):=⟨_,fun _=>rfl⟩;have HA0:Hid (A 0=[]):=zJh (by rw [hA]; simp);have HAn:Hid (A n=Fin.without m k):=zJh (by rw [hA,List.take_of_length_le (by have:=HLen.out; simp; omega)]; rfl);have HAS:Hid (∀q r,m[q+1]? = some r→A (q+1)=A q++[Fin.cut k r]):=zJh (fun q r hr=>by rw [hA,hA]; exact Fin.without_step hr);have HAL:Hid (∀q,(A q).length≤q):=zJh (fun q=>by rw [hA]; simp; omega);clear hA;go_wp2_with fail
     obtain ⟨w1,hw1⟩:∃w1,w1=wO.alloc (.cells #[] 25):=⟨_,rfl⟩;obtain ⟨f1,b1⟩:=FR.empty_of (Below.refl _ wO) hw1;rw [<-hw1];clear hw1;rw [<-HA0.out] at f1;go_loopw [7,28] (fun vv j w'=>∃(q:Nat) (v:Value),v=vv∧q≤n∧j=.int .i64 q∧FR (New wO w') w' v (A q)∧Below wO.heap.size wO w') (fun _ j _=>n-(intOf j).toNat)
     case atStart=>exact ⟨0,_,rfl,Nat.zero_le _,rfl,f1,b1⟩
     case round =>
      obtain ⟨q,v,rfl,hq,rfl,hfm,hbm⟩:=hrel;by_cases hltq:q<n
      ·try (exfalso; omega)
       all_goals
        obtain ⟨b2,o2,r,l,e2,hcr,hr,hl⟩:=(hdr.below (zAA.step hb hbm)).at hltq;simp only [Option.some.injEq,Addr.mk.injEq,and_true] at e2;obtain ⟨rfl,rfl⟩:=e2;have hl1:m[q+1]? = some l:=by have:=hl.out; rw [List.getElem?_drop,Nat.add_comm] at this; exact this
        have HST:=zJh (HAS.out q l hl1);have hal:=HAL.out q;obtain ⟨ar,cr,rfl⟩:=hr.form;have hln:l.length=n+1:=HS.out.row l (zJj hl1);rw [hln] at hr hcr;obtain ⟨b3,o3,y,rfl,hcy,hy⟩:=hr.at (j:=0) (by omega);have hcr1:=hr.cap.1;have hT1:=hr.cutTo (k:=k) (by omega);have HTL:Hid ((l.take k).length≤4∧(l.drop (k+1)).length≤4):=zJh (by simp; omega);have HLL:Hid ((Fin.cut k l).length=n∧[]++l.take k++l.drop (k+1)=Fin.cut k l):=zJh ⟨by simp [Fin.cut]; omega,rfl⟩;clear hl1 hcy hy hln;generalize l.take k=lA at *;obtain ⟨wX,hwX⟩:∃wX,wX=(wr.alloc (.cells #[] 3)).drew:=⟨_,rfl⟩;have fX:FI (New wr wX) wX (.slice (some ⟨wr.heap.size,0,none⟩) 0 0) []:=by
         obtain ⟨f0,_⟩:=zAE (w:=wr) (Below.refl _ wr) rfl;rw [hwX];exact (f0.below ((Below.refl _ _).drew)).mono (fun _ h=>h)
        have bX:Below wr.heap.size wr wX:=by rw [hwX]; exact ((Below.refl _ wr).alloc (zJm _) _).drew
        have hT1X:=RI.below hT1 bX;by_cases hkc:k+1=cr
        ·have hT2:RI S wr (.slice (some ⟨b3,o3,none⟩) 0 0) (l.drop (k+1)):=RL.cutEnd hr (by omega) (by omega);subst hkc;generalize l.drop (k+1)=lB at *;rw [hwX] at fX bX hT1X;have i2:(0:Int)≤(k:Int)+1:=by omega
         have i3:(k:Int)+1≤(n:Int)+1:=by omega
         have i4:(k:Int)≤(k:Int)+1:=by omega
         have i5:k≤n:=by omega
         go_wp2_with fail
         have j1:IntKind.i64.wrap ((k:Int)+1)=(k:Int)+1:=IntWalk.i64_in _ (by omega);have j2:((k:Int)+1).toNat=k+1:=by omega
         go_region_held3 (fun _=>True) (trivial) (first
          | (refine zCB (W:=wr) (by rfl) _ _ (by rfl) (by rfl) fX bX (by rfl) hT1X (by have:=HTL.out; simp; omega) ?_; intro v1 w4 f4 b4 g4)
          | (refine zCB (W:=wr) (by rfl) _ _ (by rfl) (by rfl) f4 b4 (by rfl) (RI.below hT2 b4) (by have:=HTL.out; simp; omega) ?_; intro v2 w5 f5 b5 g5; rw [HLL.out.2] at f5; obtain ⟨a5,c5,e5⟩:=f5.form; rw [HLL.out.1] at e5; subst e5)
          | (refine zEW (W:=wO) (r:=.slice a5 n c5) (l:=Fin.cut k l) (by rfl) _ _ (by rfl) (by rfl) (hfm.grow (b5.trans ((Below.refl _ _).alloc b5.size _))) (zAA.step hbm (b5.trans ((Below.refl _ _).alloc b5.size _))) (by rfl) (by go_simp) ((f5.reads.below ((Below.refl _ _).alloc (zJm _) _)).mono (fun d hd=>⟨Nat.le_trans hbm.size hd.1,by have:=hd.2; simp; omega⟩)) (by omega) ?_; intro v6 w6 f6 b6 g6))
         clear j1 j2;go_wp2_with fail
         go_roundw
         case rel=>exact ⟨q+1,_,rfl,by omega,by go_num,by rw [HST.out]; exact f6,b6⟩
         case measure=>simp [intOf]; omega
        ·have hkc1:k+1<cr:=by omega
         have hT2:RI S wr (.slice (some ⟨b3,o3+(k+1),none⟩) (n-k) (cr-(k+1))) (l.drop (k+1)):=by
          have:=hr.cutFrom (k:=k+1) (by omega);rwa [show n+1-(k+1)=n-k by omega] at this
         clear hkc;generalize l.drop (k+1)=lB at *;rw [hwX] at fX bX hT1X;have i2:(0:Int)≤(k:Int)+1:=by omega
         have i3:(k:Int)+1≤(n:Int)+1:=by omega
         have i4:(k:Int)≤(k:Int)+1:=by omega
         have i5:k≤n:=by omega
         have i6:(k:Int)≤(cr:Int):=by omega
         have i7:¬cr=k+1:=by omega
         go_wp2_with fail
         have j1:IntKind.i64.wrap ((k:Int)+1)=(k:Int)+1:=IntWalk.i64_in _ (by omega);have j2:((k:Int)+1).toNat=k+1:=by omega
         go_region_held3 (fun _=>True) (trivial) (first
          | (refine zCB (W:=wr) (by rfl) _ _ (by rfl) (by rfl) fX bX (by rfl) hT1X (by have:=HTL.out; simp; omega) ?_; intro v1 w4 f4 b4 g4)
          | (refine zCB (W:=wr) (by rfl) _ _ (by rfl) (by rfl) f4 b4 (by rfl) (RI.below hT2 b4) (by have:=HTL.out; simp; omega) ?_; intro v2 w5 f5 b5 g5; rw [HLL.out.2] at f5; obtain ⟨a5,c5,e5⟩:=f5.form; rw [HLL.out.1] at e5; subst e5)
          | (refine zEW (W:=wO) (r:=.slice a5 n c5) (l:=Fin.cut k l) (by rfl) _ _ (by rfl) (by rfl) (hfm.grow (b5.trans ((Below.refl _ _).alloc b5.size _))) (zAA.step hbm (b5.trans ((Below.refl _ _).alloc b5.size _))) (by rfl) (by go_simp) ((f5.reads.below ((Below.refl _ _).alloc (zJm _) _)).mono (fun d hd=>⟨Nat.le_trans hbm.size hd.1,by have:=hd.2; simp; omega⟩)) (by omega) ?_; intro v6 w6 f6 b6 g6))
         clear j1 j2;go_wp2_with fail
         go_roundw
         case rel=>exact ⟨q+1,_,rfl,by omega,by go_num,by rw [HST.out]; exact f6,b6⟩
         case measure=>simp [intOf]; omega
      ·have hqn:q=n:=by omega
       rw [hqn,HAn.out] at hfm;clear hqn;rcases hsg with ⟨rfl,e2,e3⟩ | ⟨rfl,e2,e3⟩
       ·have E2:=zJh e2;have HS3:Hid (sm (k+1)=s+x*D):=zJh (by rw [HSS2.out,e3]);clear e2 e3 HSS2;go_wp2_with fail
        refine (ih.out _ _ _ _ hfm.reads (HS.out.without (by omega)) (HSM.out.without k) (by omega)).mono ?_;rintro e w9 ⟨rfl,b9⟩;rw [HD.out];have b19:=zAA.step (zAA.step hb hbm) b9;clear ih b9;go_wp2_with fail
        go_roundw
        case rel=>exact ⟨k+1,s+x*D,by omega,by go_num,by go_num,by rw [E2.out],zJh HS3.out.symm,b19⟩
        case measure=>simp [intOf]; omega
       ·have E2:=zJh e2;have HS3:Hid (sm (k+1)=s + -x*D):=zJh (by rw [HSS2.out,e3,Int.neg_mul]);have hneg:-96000000000000≤-x*D∧-x*D≤96000000000000:=by rw [Int.neg_mul]; omega
        clear e2 e3 HSS2;go_wp2_with fail
        refine (ih.out _ _ _ _ hfm.reads (HS.out.without (by omega)) (HSM.out.without k) (by omega)).mono ?_;rintro e w9 ⟨rfl,b9⟩;rw [HD.out];have b19:=zAA.step (zAA.step hb hbm) b9;clear ih b9;go_wp2_with fail
        go_roundw
        case rel=>exact ⟨k+1,s + -x*D,by omega,by go_num,by go_num,by rw [E2.out],zJh HS3.out.symm,b19⟩
        case measure=>simp [intOf]; omega
   ·have hkn:k=n+1:=by omega
    have e0:Hid (s=res):=zJh (by rw [HSM2.out,hkn,HR.out]);subst hkn;go_wp2_with fail
    go_ret
    exact ⟨zAi e0.out,hb⟩
theorem zEj:∀n,DetI n
 | 0=>zHV
 | n+1=>zHW (zEj n)
theorem zIF {n:Nat} {S:Nat→Prop} {u:Value} {m:List (List Int)} {w:World} (h:RII S w u m) (hs:Fin.Sqr m n) (hm:Fin.Small 2000 m) (hn:n≤4) :
  Calls Try.prog 97 #[u] w fun e w'=>e=.returned (.int .i64 (Fin.det n m))∧Below w.heap.size w w':=zEj n S u m w h hs hm hn
def finB (c:List (List Int)):Bool:=isC c && Fin.isFin c
theorem zCt (n k:Nat):(zAL n k).length=(Fin.bits n k).length:=by simp [zAL]
theorem zFe:∀n,n<5→∀k,k<16→1≤k→k<2 ^ n→1≤(Fin.bits n k).length:=by decide
theorem zEe {n k:Nat} (hn:n≤4) (h1:1≤k) (h2:k<2 ^ n):1≤(zAL n k).length:=by
 rw [zCt];exact zFe n (by omega) k (by have:=Nat.pow_le_pow_right (n:=2) (by omega) hn; omega) h1 h2
theorem zDS {n k m:Nat} (hm:n≤m):Pts m (zAL n k):=by
 intro j x hx;obtain ⟨i,hi,rfl⟩:=List.mem_map.1 (zJj hx);exact ⟨i,rfl,Nat.lt_of_lt_of_le (Fin.bits_lt hi) hm⟩
theorem zEf:∀(n k:Nat),Asc (zAL n k)
 | 0,k=>by intro j x y h; simp [zAL,Fin.bits] at h
 | n+1,k=>by
  have ih:=zEf n k;intro j x y hx hy;rw [zBa] at hx hy;by_cases h:k / 2 ^ n % 2=1
  ·rw [if_pos h] at hx hy;rcases Nat.lt_or_ge (j+1) (zAL n k).length with h1 | h1
   ·rw [List.getElem?_append_left (by omega)] at hx;rw [List.getElem?_append_left h1] at hy;exact ih j x y hx hy
   ·rw [List.getElem?_append_right h1] at hy;have h2:j+1-(zAL n k).length=0:=by
     rcases Nat.eq_zero_or_pos (j+1-(zAL n k).length) with h | h
     ·exact h
     ·rw [List.getElem?_eq_none (by simp; omega)] at hy; cases hy
    rw [h2] at hy;simp at hy;rw [List.getElem?_append_left (by omega)] at hx;obtain ⟨i,rfl,hi⟩:=zDS (zJm n) j x hx;omega
  ·rw [if_neg h,List.append_nil] at hx hy;exact ih j x y hx hy
theorem zF2 (c:List (List Int)) (l:List Int):Fin.Sqr (subL c l) l.length:=by
 refine ⟨by simp [subL],fun r hr=>?_⟩;obtain ⟨i,_,rfl⟩:=List.mem_map.1 hr;simp [rowL]
theorem zGj {c:List (List Int)} (hc:CartanP c) (i j:Nat):(ent c i j).natAbs≤3:=by
 by_cases hi:i<c.length
 ·by_cases hj:j<c.length
  ·by_cases h:i=j
   ·subst h; rw [hc.car.diag i hi]; decide
   ·have:=hc.car.off i j hi hj h; omega
  ·have hr:(c[i]).length=c.length:=hc.row _ (List.getElem_mem hi);have:(c[i])[j]? = none:=List.getElem?_eq_none (by omega);simp [ent,hi,this]
 ·have:c[i]? = none:=List.getElem?_eq_none (by omega);simp [ent,this]
theorem zEK {c:List (List Int)} (hc:CartanP c) (l:List Int):Fin.Small 2000 (subL c l):=by
 intro r hr x hx;obtain ⟨i,_,rfl⟩:=List.mem_map.1 hr;obtain ⟨j,_,rfl⟩:=List.mem_map.1 hx;have:=zGj hc i.toNat j.toNat;omega
theorem zEN (c:List (List Int)) (n k:Nat):Fin.minor c n k=Fin.det (zAL n k).length (subL c (zAL n k)):=by
 rw [zCt,zHH]; rfl
def zEI (P:Nat→Prop) (w:World) (e:Ending) (w':World):Prop:=∃a n cap,e=.returned (.slice a n cap)∧P n∧Below w.heap.size w w'
theorem zFZ {S:Nat→Prop} {u:Value} {c:List (List Int)} {w:World} (h:RII S w u c) (hc:CartanP c) (hl:total c≤16777216) :
  Calls Try.prog 85 #[u] w (zEI (fun n=>((n:Int) == 0)=Fin.isFin c) w):=by
 obtain ⟨a,cap,rfl⟩:=h.form;have hn4:=hc.le;have HC:=zJh hc;have HN:Hid (∀q,1≤q→q≤2 ^ c.length-1→¬0<Fin.minor c c.length q→Fin.isFin c=false):=zJh (fun q h1 h2 h3=>by
  cases e:Fin.isFin c
  ·rfl
  ·exact absurd (Fin.posUp_iff.1 e q h1 h2) h3)
 have HY:Hid ((∀q,1≤q→q≤2 ^ c.length-1→0<Fin.minor c c.length q)→Fin.isFin c=true):=zJh (fun h=>Fin.posUp_iff.2 h);have hpw:1≤2 ^ c.length:=Nat.one_le_two_pow;have hpw2:2 ^ c.length≤16:=Nat.pow_le_pow_right (n:=2) (by omega) hn4;generalize Fin.isFin c=res at *;clear hc;generalize hn:c.length=n at *;have HNN:=zJh hn;clear hn;have HL:=zJh (zBV n (2 ^ n-1));have HAT:=zJh (zFD n (2 ^ n-1));generalize hm:2 ^ n-1=m at *;have HM:=zJh hm;have hm15:m≤15:=by omega
 clear hm;go_enter Try.func85,Try.ntmps85
 go_wp2_with fail
 refine (zAg h hl).mono ?_;rintro e w1 ⟨rfl,hw1⟩;rw [zAR.2 HC.out];have b1:=zAH hw1;clear hw1;go_wp2_with fail
 refine (zHl n (by omega) w1).mono ?_;rintro e w2 ⟨r2,rfl,f2,b2⟩;rw [HM.out] at f2;have h2:=f2.reads;obtain ⟨a2,c2,rfl⟩:=h2.form;rw [HL.out] at h2 ⊢;have b02:=zAA.step b1 b2;clear f2 b1 b2;go_wp2_with fail
 go_loopw [4] (fun j wr=>∃(k:Nat),k≤m∧j=.int .i64 k∧Hid (∀q,1≤q→q≤k→0<Fin.minor c n q)∧Below w2.heap.size w2 wr) (fun j _=>m-(intOf j).toNat)
 case atStart=>exact ⟨0,Nat.zero_le _,rfl,zJh (fun q h1 h2=>by omega),Below.refl _ _⟩
 case round =>
  obtain ⟨k,hk,rfl,HK,hb⟩:=hrel;have hb0:=zAA.step b02 hb;by_cases hlt:k<m
  ·obtain ⟨b,o,r,l,rfl,hcr,hr,hl1⟩:=(h2.below hb).at hlt;have hle:l=zAL n (k+1):=by have:=hl1.out; rw [HAT.out k hlt] at this; exact (Option.some.inj this).symm
   have hkn:k+1<2 ^ n:=by have:=HM.out; omega
   have HNE:=zJh (zEe (n:=n) (by omega) (by omega) hkn);have HMI:=zJh (zEN c n (k+1));have HPT:=zJh (zDS (k:=k+1) (zJm n));have HAS:=zJh (zEf n (k+1));have HBL:=zJh (zBr n (k+1));rw [<-hle] at HNE HMI HPT HAS HBL;clear hle hl1 hkn;obtain ⟨ar,cr,rfl⟩:=hr.form;have i1:(k:Int)<(m:Int):=by omega
   have hu:=h.below hb0;go_wp2_with fail
   refine (zCr hu hr HC.out hl (by rw [HNN.out]; exact HPT.out) HAS.out HNE.out (by have:=HBL.out; omega)).mono ?_;rintro e w4 ⟨r4,rfl,f4,b4⟩;go_wp2_with fail
   refine (zIG f4.reads (zF2 c l) (zEK HC.out l) (by have:=HBL.out; omega)).mono ?_;rintro e w5 ⟨rfl,b5⟩;rw [<-HMI.out];have b25:=zAA.step (zAA.step hb b4) b5;have b05:=zAA.step b02 b25;by_cases hpos:0<Fin.minor c n (k+1)
   ·have HK2:Hid (∀q,1≤q→q≤k+1→0<Fin.minor c n q):=zJh (fun q h1 h2=>by
     rcases Nat.lt_or_ge k q with h3 | h3
     ·have:q=k+1:=by omega
      subst this; exact hpos
     ·exact HK.out q h1 h3)
    have i5:¬Fin.minor c n (k+1)≤0:=by omega
    clear hpos;generalize Fin.minor c n (k+1)=D at *;go_wp2_with fail
    go_roundw
    case rel=>exact ⟨k+1,by omega,by go_num,HK2,b25⟩
    case measure=>simp [intOf]; omega
   ·have HF:=zJh (HN.out (k+1) (by omega) (by have:=HM.out; omega) (by omega));have i5:Fin.minor c n (k+1)≤0:=by omega
    clear hpos;generalize Fin.minor c n (k+1)=D at *;have hc5:=((zAA.step b4 b5).cell (p:=⟨b,o+k,none⟩) (zJl wr _ hcr)).trans hcr;go_wp2_with fail
    go_ret
    exact ⟨_,_,_,rfl,by rw [HF.out]; exact beq_eq_false_iff_ne.2 (by have:=HNE.out; omega),b05⟩
  ·have hkm:k=m:=by omega
   have HF:Hid (res=true):=zJh (HY.out (fun q h1 h2=>HK.out q h1 (by have:=HM.out; omega)));have i1:¬(k:Int)<(m:Int):=by omega
   clear hkm;go_wp2_with fail
   go_ret
   exact ⟨some ⟨wr.heap.size,0,none⟩,0,0,rfl,by rw [HF.out]; rfl,hb0.alloc hb0.size _⟩
theorem zEr {S:Nat→Prop} {u:Value} {c:List (List Int)} {w:World} (h:RII S w u c) (hl:total c≤16777216) :
  Calls Try.prog 73 #[u] w fun e w'=>e=.returned (.bool (finB c))∧Below w.heap.size w w':=by
 have HF:Hid (finB c=(isC c && Fin.isFin c)):=zJh rfl;generalize finB c=res at *;go_enter Try.func73,Try.ntmps73
 go_wp2_with fail
 refine (zAg h hl).mono ?_;rintro e w1 ⟨rfl,hw1⟩;have b1:=zAH hw1;clear hw1;cases hC:isC c
 ·have e0:Hid (res=false):=zJh (by rw [HF.out,hC]; rfl);go_wp2_with fail
  go_ret
  exact ⟨zAD e0.out.symm,b1⟩
 ·have HC:=zJh (zAR.1 hC);have e0:Hid (res=Fin.isFin c):=zJh (by rw [HF.out,hC]; rfl);clear hC;go_wp2_with fail
  refine (zFZ (h.below b1) HC.out hl).mono ?_;rintro e w2 ⟨a2,n2,c2,rfl,hq,b2⟩;rw [<-e0.out] at hq;have hq2:=zJh hq;clear hq;go_wp2_with fail
  go_ret
  exact ⟨zAD hq2.out,zAA.step b1 b2⟩
def minL (c:List (List Int)) (n:Nat):Nat→List Int
 | 0=>[]
 | k+1=>minL c n k++[Fin.minor c n (k+1)]
theorem zBj (c:List (List Int)) (n:Nat):∀k,(minL c n k).length=k
 | 0=>rfl
 | k+1=>by simp [minL,zBj c n k]
theorem zFr (c:List (List Int)) (n:Nat):∀(k j:Nat),j<k→(minL c n k)[j]? = some (Fin.minor c n (j+1))
 | 0,j,h=>by omega
 | k+1,j,h=>by
  simp only [minL];rcases Nat.lt_or_ge j k with h1 | h1
  ·rw [List.getElem?_append_left (by rw [zBj]; exact h1)];exact zFr c n k j h1
  ·have:j=k:=by omega
   subst this;rw [List.getElem?_append_right (by rw [zBj]; exact zJm _),zBj];simp
theorem zGL {S:Nat→Prop} {u:Value} {c:List (List Int)} {w:World} (h:RII S w u c) (hc:CartanP c) (hl:total c≤16777216) :
  Calls Try.prog 91 #[u] w fun e w'=>∃r,e=.returned r∧FI (New w w') w' r (minL c c.length (2 ^ c.length-1))∧Below w.heap.size w w':=by
 obtain ⟨a,cap,rfl⟩:=h.form;have hn4:=hc.le;have HC:=zJh hc;have HSQ:=zJh hc.sq;have hpw:1≤2 ^ c.length:=Nat.one_le_two_pow;have hpw2:2 ^ c.length≤16:=Nat.pow_le_pow_right (n:=2) (by omega) hn4;clear hc;generalize hn:c.length=n at *;have HNN:=zJh hn;clear hn;go_enter Try.func91,Try.ntmps91
 go_wp2_with fail
 obtain ⟨w1,hw1⟩:∃w1,w1=w.alloc (.cells #[] 3):=⟨_,rfl⟩;obtain ⟨f1,b1⟩:=zAE (Below.refl _ w) hw1;rw [<-hw1];clear hw1;refine (zB6 (h.below b1) hl).mono ?_;rintro e w2 ⟨rfl,hw2⟩;rw [zAR.2 HC.out];have b2:=zAH hw2;clear hw2;have f1:=f1.grow b2;have b1:=zAA.step b1 b2;clear b2;go_wp2_with fail
 go_loopw [3,4] (fun zz j wr=>∃(k:Nat) (z:Value),z=zz∧k+1≤2 ^ n∧j=.int .i64 ((k:Int)+1)∧FI (New w wr) wr z (minL c n k)∧Below w.heap.size w wr) (fun _ j _=>2 ^ n-(intOf j).toNat)
 case atStart=>exact ⟨0,_,rfl,hpw,rfl,f1,b1⟩
 case round =>
  obtain ⟨k,z,rfl,hk,rfl,hf,hb⟩:=hrel;have HLEN:=zJh (zBj c n k);have HST:Hid (minL c n (k+1)=minL c n k++[Fin.minor c n (k+1)]):=zJh rfl;by_cases hlt:k+1<2 ^ n
  ·have i1:=(zDH (by omega:n≤4) (k:=k)).2 hlt;have HB:Hid (zAL 4 (k+1)=zAL n (k+1)):=zJh (zEJ (Nat.div_eq_of_lt hlt) (by omega));have HMI:=zJh (zEN c n (k+1));have HPT:=zJh (zDS (k:=k+1) (zJm n));have HBL:=zJh (zBr n (k+1));generalize minL c n k=A at *;go_wp2_with fail
   refine (zET (k+1) (by omega) wr).mono ?_;rintro e w4 ⟨r4,rfl,f4,b4⟩;rw [HB.out] at f4;generalize zAL n (k+1)=l at *;have b04:=zAA.step hb b4;go_wp2_with fail
   refine (zGO (h.below b04) f4.reads HSQ.out HPT.out (by omega) (by have:=HBL.out; omega)).mono ?_;rintro e w5 ⟨r5,rfl,f5,b5⟩;have b05:=zAA.step b04 b5;go_wp2_with fail
   refine (zIF f5.reads (zF2 c l) (zEK HC.out l) (by have:=HBL.out; omega)).mono ?_;rintro e w6 ⟨rfl,b6⟩;rw [<-HMI.out];have b06:=zAA.step b05 b6;have hf6:=(hf.grow b4).grow b5 |>.grow b6;generalize Fin.minor c n (k+1)=D at *;have bb:∀wr:World,Below wr.heap.size wr (wr.alloc (.cells #[.int .i64 D] 3)):=fun wr=>(Below.refl wr.heap.size wr).alloc (zJm _) _;go_wp2_with (at_builtin; go_must (refine zAG (W:=w) rfl _ _ rfl rfl (hf6.grow (bb _)) (zAA.step b06 (bb _)) rfl (RI.one _ D) ?_ ?_))
   ·have:=HLEN.out; simp; omega
   ·intro v' w7 f7 b7 _;go_wp2_with fail
    go_roundw
    case rel=>exact ⟨k+1,_,rfl,hlt,by go_num,by rw [HST.out]; exact f7,b7⟩
    case measure=>simp [intOf]; omega
  ·have i1:¬((k:Int)+1<wrap64 (2 ^ n)):=fun h=>hlt ((zDH (by omega)).1 h);have HR:Hid (k=2 ^ n-1):=zJh (by omega);clear hlt;go_wp2_with fail
   go_ret
   exact ⟨_,rfl,by rw [<-HR.out]; exact hf,hb⟩
theorem zFY {S:Nat→Prop} {u:Value} {c:List (List Int)} {w:World} (h:RII S w u c) (hc:CartanP c) (hl:total c≤16777216) :
  Calls Try.prog 78 #[u] w (zEI (fun n=>((n:Int) == 0)=Fin.isFin c) w):=by
 obtain ⟨a,cap,rfl⟩:=h.form;have hn4:=hc.le;have HC:=zJh hc;have HN:Hid (∀q,1≤q→q≤2 ^ c.length-1→¬0<Fin.minor c c.length q→Fin.isFin c=false):=zJh (fun q h1 h2 h3=>by
  cases e:Fin.isFin c
  ·rfl
  ·exact absurd (Fin.posUp_iff.1 e q h1 h2) h3)
 have HY:Hid ((∀q,1≤q→q≤2 ^ c.length-1→0<Fin.minor c c.length q)→Fin.isFin c=true):=zJh (fun h=>Fin.posUp_iff.2 h);have hpw:1≤2 ^ c.length:=Nat.one_le_two_pow;have hpw2:2 ^ c.length≤16:=Nat.pow_le_pow_right (n:=2) (by omega) hn4;generalize Fin.isFin c=res at *;clear hc;go_enter Try.func78,Try.ntmps78
 go_wp2_with fail
 refine (zGL h HC.out hl).mono ?_;rintro e w2 ⟨r2,rfl,f2,b2⟩;generalize hn:c.length=n at *;have HNN:=zJh hn;clear hn;have HL:=zJh (zBj c n (2 ^ n-1));have HAT:=zJh (zFr c n (2 ^ n-1));generalize hm:2 ^ n-1=m at *;have HM:=zJh hm;have hm15:m≤15:=by omega
 clear hm;have h2:=f2.reads;obtain ⟨a2,c2,rfl⟩:=h2.form;rw [HL.out] at h2 ⊢;clear f2;go_wp2_with fail
 go_loopw [8] (fun j wr=>∃(k:Nat),k≤m∧j=.int .i64 k∧Hid (∀q,1≤q→q≤k→0<Fin.minor c n q)∧w2=wr) (fun j _=>m-(intOf j).toNat)
 case atStart=>exact ⟨0,Nat.zero_le _,rfl,zJh (fun q h1 h2=>by omega),rfl⟩
 case round =>
  obtain ⟨k,hk,rfl,HK,rfl⟩:=hrel;by_cases hlt:k<m
  ·obtain ⟨b,o,D,rfl,hcD,hD⟩:=h2.at hlt;have HD:Hid (D=Fin.minor c n (k+1)):=zJh (by have:=hD.out; rw [HAT.out k hlt] at this; exact (Option.some.inj this).symm);have hkn:k+1<2 ^ n:=by have:=HM.out; omega
   have HNE:Hid (1≤(zAL 4 (k+1)).length):=zJh (zEe (by omega) (by omega) (by omega));have i1:(k:Int)<(m:Int):=by omega
   by_cases hpos:0<D
   ·have HK2:Hid (∀q,1≤q→q≤k+1→0<Fin.minor c n q):=zJh (fun q h1 h2=>by
     rcases Nat.lt_or_ge k q with h3 | h3
     ·have:q=k+1:=by omega
      subst this; rw [<-HD.out]; exact hpos
     ·exact HK.out q h1 h3)
    have i5:¬D≤0:=by omega
    clear hpos hkn;go_wp2_with fail
    go_roundw
    case rel=>exact ⟨k+1,by omega,by go_num,HK2,by trivial⟩
    case measure=>simp [intOf]; omega
   ·have HF:=zJh (HN.out (k+1) (by omega) (by have:=HM.out; omega) (by have:=HD.out; omega));have i5:D≤0:=by omega
    clear hpos hkn;go_wp2_with fail
    refine (zET (k+1) (by omega) w2).mono ?_;rintro e w4 ⟨r4,rfl,f4,b4⟩;obtain ⟨a4,c4,rfl⟩:=f4.form;go_wp2_with fail
    go_ret
    exact ⟨_,_,_,rfl,by rw [HF.out]; exact beq_eq_false_iff_ne.2 (by have:=HNE.out; omega),zAA.step b2 b4⟩
  ·have hkm:k=m:=by omega
   have HF:Hid (res=true):=zJh (HY.out (fun q h1 h2=>HK.out q h1 (by have:=HM.out; omega)));have i1:¬(k:Int)<(m:Int):=by omega
   clear hkm;go_wp2_with fail
   go_ret
   exact ⟨some ⟨w2.heap.size,0,none⟩,0,0,rfl,by rw [HF.out]; rfl,b2.alloc b2.size _⟩
theorem zEq {S:Nat→Prop} {u:Value} {c:List (List Int)} {w:World} (h:RII S w u c) (hl:total c≤16777216) :
  Calls Try.prog 58 #[u] w fun e w'=>e=.returned (.bool (finB c))∧Below w.heap.size w w':=by
 have HF:Hid (finB c=(isC c && Fin.isFin c)):=zJh rfl;generalize finB c=res at *;go_enter Try.func58,Try.ntmps58
 go_wp2_with fail
 refine (zB6 h hl).mono ?_;rintro e w1 ⟨rfl,hw1⟩;have b1:=zAH hw1;clear hw1;cases hC:isC c
 ·have e0:Hid (res=false):=zJh (by rw [HF.out,hC]; rfl);go_wp2_with fail
  go_ret
  exact ⟨zAD e0.out.symm,b1⟩
 ·have HC:=zJh (zAR.1 hC);have e0:Hid (res=Fin.isFin c):=zJh (by rw [HF.out,hC]; rfl);clear hC;go_wp2_with fail
  refine (zFY (h.below b1) HC.out hl).mono ?_;rintro e w2 ⟨a2,n2,c2,rfl,hq,b2⟩;rw [<-e0.out] at hq;have hq2:=zJh hq;clear hq;go_wp2_with fail
  go_ret
  exact ⟨zAD hq2.out,zAA.step b1 b2⟩
theorem Only.drew {S:Nat→Prop} {a b:World} (h:Only S a b):Only S a b.drew:=⟨h.os,h.tape,h.output,h.size,h.block⟩
theorem FI.drew {S:Nat→Prop} {w:World} {v:Value} {l:List Int} (h:FI S w v l):FI S w.drew v l:=FI.keep h fun _ _=>rfl
theorem zFQ {S S':Nat→Prop} {u v:Value} {c:List (List Int)} {l:List Int} {w:World} {m:Nat} {P:List Int→Nat→Prop} (h:RII S w u c) (h':RI S' w v l) (hc:CartanP c) (hD:Down c P) (him:P l m) :
  Calls Try.prog 63 #[u,v] w fun e w'=>∃r,e=.returned r∧FI (New w w') w' r (nf c 30 l)∧Below w.heap.size w w':=by
 have h:=h.old;have hn4:=hc.le;have hlen:=hD.len _ _ him;have hm:=hD.le _ _ him;have HDN:=zJh hD;clear hD;obtain ⟨a,cap,rfl⟩:=h.form;obtain ⟨a',cap',rfl⟩:=h'.form;have HQ:=zJh hc.sq;have HC:=zJh hc;have HIM:=zJh him;rw [hlen] at h' ⊢;have HN:=zJh hlen;clear hc him hlen;go_enter Try.func63,Try.ntmps63
 obtain ⟨f1,b1⟩:=zAE (w:=w) (Below.refl _ w) rfl;go_wp2_with (at_builtin; go_must (refine zAG (W:=w) rfl _ _ rfl rfl f1 b1 rfl (h'.below b1) ?_ ?_))
 ·have:=HN.out; simp; omega
 ·intro v1 w2 f2 b2 _;clear b1 f1 h';go_wp2_with fail
  obtain ⟨w3,hw3⟩:∃w3,w3=w2.alloc (.cells #[] 3):=⟨_,rfl⟩;obtain ⟨f3,b3⟩:=zAE (Below.refl _ w2) hw3;rw [<-hw3];clear hw3;have f2:=f2.below b3;have hD:∀b,Bt 0 w.heap.size b→¬New w w2 b:=fun b hb hb'=>by have:=hb.2; have:=hb'.1; omega
  have hD2:∀(W:World) b,Bt w2.heap.size W.heap.size b→¬New w w2 b:=fun W b hb hb'=>by have:=hb.1; have:=hb'.2; omega
  have b03:=zAA.step b2 b3;have hs2:w.heap.size≤w2.heap.size:=b2.size;have hs3:w2.heap.size≤w3.heap.size:=b3.size;have HR0:Hid ([]++nf c 30 l=nf c 30 l):=zJh rfl;go_loopw [5,6] (fun z y wr=>∃(acc x:List Int) (m:Nat),FI (New w w2) wr v1 x∧FI (Bt w2.heap.size wr.heap.size) wr z acc∧Hid (P x m)∧acc.length+m≤30∧Hid (acc++nf c 30 x=nf c 30 l)∧w2.heap.size≤wr.heap.size∧Below w.heap.size w wr) (fun z _ _=>31-lenV z)
  case atStart=>exact ⟨[],l,m,f2,f3,HIM,by simpa using hm,HR0,hs3,b03⟩
  case round =>
   obtain ⟨acc,x,m,hf,hz,HI,hlen,HR,hs,hb⟩:=hrel;have hxl:x.length=c.length:=HDN.out.len _ _ HI.out;obtain ⟨az,capz,rfl⟩:=hz.form;go_wp2_with fail
   refine (zBR hf.reads (by omega)).mono ?_;rintro e w4 ⟨rfl,rfl⟩;cases e:zAF x with
   | none =>
    have e1:Hid (acc=nf c 30 l):=zJh (by rw [<-HR.out,zC5 e,List.append_nil]);have e2:fd x = -1:=by unfold fd; rw [e]
    rw [e2];go_wp2_with fail
    go_ret
    rw [<-e1.out];exact ⟨_,rfl,hz.mono (fun b hb'=>⟨by have:=hb'.1; omega,hb'.2⟩),hb⟩
   | some i =>
    have e2:fd x=(i:Int):=by unfold fd; rw [e]
    have hi:i<c.length:=by have:=zBU e; omega
    obtain ⟨m',hm',him',hnf⟩:=HDN.out.turn _ _ _ HI.out e;have HI2:=zJh him';have HR2:Hid ((acc++[(i:Int)])++nf c 30 (refl c i x)=nf c 30 l):=zJh (by rw [<-HR.out,hnf,List.append_assoc]; rfl);clear him' hnf;rw [e2];have bb:=(Below.refl w4.heap.size w4).alloc (zJm _) (.cells #[.int .i64 i] 3);have hz2:FI (Bt w2.heap.size (w4.alloc (.cells #[.int .i64 i] 3)).heap.size) (w4.alloc (.cells #[.int .i64 i] 3)) _ acc:=(hz.below bb).mono (fun b hb'=>⟨hb'.1,Nat.lt_of_lt_of_le hb'.2 bb.size⟩);have hi0:¬(i:Int)<0:=by omega
    go_wp2_with (at_builtin; go_must (refine zCP (B:=w2.heap.size) rfl _ _ rfl rfl hz2 (Nat.le_trans hs bb.size) rfl (RI.one w4 i) ?_ ?_))
    ·simp; omega
    ·intro v' w5 f5 b5 _;have b45:Below w2.heap.size w4 w5:=(bb.mono hs).trans b5;have hb5:Below w.heap.size w w5:=hb.trans (b45.mono hs2);have hf5:FI (New w w2) w5 v1 x:=hf.keep (fun b hb'=>b45.block b (hf.2 b hb').2);go_wp2_with fail
     refine (zBP (h.below hb5) hf5 hD i hi HQ.out hxl (by omega)).mono ?_;rintro e w6 ⟨rfl,f6,o6⟩;have f7:=f5.only o6 (hD2 w5);obtain ⟨a7,cap7,rfl⟩:=f7.form;go_wp2_with fail
     go_roundw
     case rel=>exact ⟨acc++[(i:Int)],refl c i x,m',f6,by rw [o6.size]; rw [List.length_append] at f7; exact f7,HI2,by simp; omega,HR2,by rw [o6.size]; exact Nat.le_trans hs b45.size,hb5.trans (o6.below (fun b hb'=>hb'.1))⟩
     case measure=>simp [lenV]; omega
theorem lets_rev {n:Nat} {w:List Int} (h:Lets n w):Lets n w.reverse:=fun x hx=>h x (by simpa using hx)
def Two (L1 L2:List Int) (ok:Bool) (w:World) (e:Ending) (w':World):Prop:=∃r1 r2,e=.returned (.tuple #[r1,r2,.bool ok])∧FI (New w w') w' r1 L1∧FI (New w w') w' r2 L2∧(∀b,r1.ownBlock=some b→r2.ownBlock≠some b)∧Below w.heap.size w w'
theorem zCS {c:List (List Int)} (h:finB c=true):FinP c:=by
 unfold finB at h;simp only [Bool.and_eq_true] at h;exact ⟨zAR.1 h.1,h.2⟩
theorem zGT {c:List (List Int)} (hc:CartanP c) {v:List Int} {m m':Nat} {i:Nat} (h:Im c v m) (h':Im c (refl c i v) m') (hm:m≤30) (hm':m'≤30) (hi:i<c.length):refl c i (refl c i v)=v:=by
 obtain ⟨hl,w,hw,hwl,hn⟩:=h;obtain ⟨hl',w',hw',hwl',hn'⟩:=h';refine zCW (n:=c.length) (by rw [zAa,zAa,hl]) hl fun k hk=>?_;have e1:∀j,j<c.length→Cox.aW (ent c) w' Cox.one j=Cox.sW (ent c) i (Cox.aW (ent c) w Cox.one) j:=fun j hj=>by
  rw [<-hn' j hj,zAy hc hl hw (by omega) hn hi hj]
 have e2:=congrFun (Cox.sW_two hc.car hi (Cox.aW (ent c) w Cox.one)) k;rw [zAy hc hl' hw' (by omega) hn' hi hk,hn k hk,<-e2];unfold Cox.sW;unfold Cox.sW at e1;rw [e1 k hk,e1 i hi]
theorem zDx {c:List (List Int)} (hc:CartanP c):∀(m:Nat) {v:List Int},Im c v m→m≤30→zAK c (nf c 30 v)=v
 | m,v,h,hm=>by
  cases e:zAF v with
  | none=>rw [zC5 e,h.ones hc e]; rfl
  | some i =>
   obtain ⟨m',rfl,h1,h2⟩:=zCV hc h (by omega) e;have ih:=zDx hc m' h1 (by omega);have hi:i<c.length:=by have:=zBU e; rw [h.len] at this; exact this
   rw [h2];show refl c (i:Int).toNat (zAK c (nf c 30 (refl c i v)))=v;rw [ih];exact zGT hc h h1 hm (by omega) hi
theorem zIX {c:List (List Int)} (hc:CartanP c) {m:Nat} {v:List Int} (h:Im c v m) (hm:m≤30):Im c v (nf c 30 v).length:=by
 have hD:=zCR hc;have h1:=zCU hD m ⟨h,by omega⟩;have h2:=zGt hD m ⟨h,by omega⟩;have:=zAb hc h1 (by omega);rwa [zDx hc m h hm] at this
theorem zCM {c:List (List Int)} (hc:CartanP c) {x:List Int} {i:Nat} (hx:Lets c.length x) (hi:i<c.length) (hl:x.length≤29):(zAB c (x++[(i:Int)])).length≤x.length+1∧(zAB c (x++[(i:Int)])).length≠x.length:=by
 have hle:Lets c.length (x++[(i:Int)]):=fun y hy=>by
  rcases List.mem_append.1 hy with h | h
  ·exact hx y h
  ·simp at h; omega
 have h1:=zAb hc hle (by simp; omega);have h2:=zIX hc h1 (by simp; omega);have h3:=h1.parity hc h2;have h4:=zAz hc hle (by simp; omega);simp at h3 h4;unfold zAB at *;omega
def zAJ (c:List (List Int)) (x:List Int) (i:Int):List Int:=if (zAB c (x++[i])).length<x.length then x else zAB c (x++[i])
def zAC (c:List (List Int)):List Int→List Int→List Int
 | x,[]=>x
 | x,i::w=>zAC c (zAJ c x i) w
theorem zCH {c:List (List Int)} {x:List Int} {i:Int} (h:(zAB c (x++[i])).length<x.length):zAJ c x i=x:=by unfold zAJ; rw [if_pos h]
theorem zCm {c:List (List Int)} {x:List Int} {i:Int} (h:¬(zAB c (x++[i])).length<x.length):zAJ c x i=zAB c (x++[i]):=by unfold zAJ; rw [if_neg h]
theorem zAS {n:Nat} {x:List Int} {i:Nat} (hx:Lets n x) (hi:i<n):Lets n (x++[(i:Int)]):=fun y hy=>by
 rcases List.mem_append.1 hy with h | h
 ·exact hx y h
 ·simp at h; omega
theorem zBT {c:List (List Int)} (hc:CartanP c) {x:List Int} {i:Nat} (hx:Lets c.length x) (hi:i<c.length) (hl:x.length≤29):Lets c.length (zAJ c x i)∧(zAJ c x i).length≤x.length+1:=by
 unfold zAJ;split
 ·exact ⟨hx,by omega⟩
 ·exact ⟨zCf hc (zAS hx hi) (by simp; omega),(zCM hc hx hi hl).1⟩
theorem zCn {c:List (List Int)} {x w:List Int} {k:Nat} {i:Int} (h:w[k]? = some i):zAC c x (w.drop k)=zAC c (zAJ c x i) (w.drop (k+1)):=by
 rw [zAM h]; rfl
theorem zGf {S:Nat→Prop} {v:Value} {l:List Int} {w:World} (h:RI S w v l) (hl:l.length≤16777216) :
  Calls Try.prog 65 #[v] w fun e w'=>∃r,e=.returned r∧FI (New w w') w' r l∧Below w.heap.size w w':=by
 obtain ⟨a,cap,rfl⟩:=h.form;cases a with
 | none =>
  have h0:l=[]:=by
   obtain ⟨_,_,hv,_,hc⟩:=h;simp only [Value.slice.injEq] at hv;obtain ⟨rfl,_,_⟩:=hv;rcases hc with h | ⟨b,o,e,_⟩
   ·exact h
   ·cases e
  subst h0;show Calls Try.prog 65 #[.slice none 0 cap] w _;clear h hl;go_enter Try.func65,Try.ntmps65
  have he:∀w:World,(binOp .eql 25 (.slice none 0 cap) (.slice none 0 0)).run Try.prog w=.ok (.bool true) w:=fun _=>rfl;go_wp2_with fail
  go_ret
  exact ⟨_,rfl,FI.empty _ _,Below.refl _ _⟩
 | some ad =>
  obtain ⟨f1,b1⟩:=zAE (w:=w) (Below.refl _ w) rfl;have he:∀(w:World) (n:Nat),(binOp .eql 25 (.slice (some ad) n cap) (.slice none 0 0)).run Try.prog w=.ok (.bool false) w:=fun _ _=>rfl;go_enter Try.func65,Try.ntmps65
  go_wp2_with (at_builtin; go_must (refine zAG (W:=w) rfl _ _ rfl rfl f1 b1 rfl (h.below b1) ?_ ?_))
  ·simp; omega
  ·intro v1 w2 f2 b2 _;go_wp2_with fail
   go_ret
   exact ⟨_,rfl,f2,b2⟩
theorem zCO {S S':Nat→Prop} {u v:Value} {c:List (List Int)} {x:List Int} {w:World} {i:Nat} {W:World} (h:RII S w u c) (h':FI (New W w) w v x) (hW:W.heap.size≤w.heap.size) (hc:CartanP c) (hx:Lets c.length x) (hi:i<c.length) (hl:x.length≤29) :
  Calls Try.prog 36 #[u,v,.int .i64 i] w fun e w'=>∃r,e=.returned r∧FI (New W w') w' r (zAJ c x i)∧Below w.heap.size w w':=by
 obtain ⟨a',cap',rfl⟩:=h'.form;have HC:=zJh hc;have HLE:=zJh (zAS hx hi);have HY:Hid ((zAB c (x++[(i:Int)])).length<x.length→zAJ c x i=x):=zJh zCH;have HN:Hid (¬(zAB c (x++[(i:Int)])).length<x.length→zAJ c x i=zAB c (x++[(i:Int)])):=zJh zCm;generalize zAJ c x i=res at *;clear hc hx;go_enter Try.func36,Try.ntmps36
 go_wp2_with fail
 refine (zGf h'.reads (by omega)).mono ?_;rintro e w2 ⟨r2,rfl,f2,b2⟩;have bb:Below w2.heap.size w2 (w2.alloc (.cells #[.int .i64 i] 3)):=(Below.refl _ _).alloc (zJm _) _;go_wp2_with (at_builtin; go_must (refine zAG (W:=w) rfl _ _ rfl rfl (f2.grow bb) (zAA.step b2 bb) rfl (RI.one _ i) ?_ ?_))
 ·simp; omega
 ·intro v3 w3 f3 b3 _;go_wp2_with fail
  refine (zA1 (h.below b3) f3.reads HC.out HLE.out (by simp; omega)).mono ?_;rintro e w4 ⟨r4,rfl,f4,b4⟩;have b04:=zAA.step b3 b4;obtain ⟨a4,c4,rfl⟩:=f4.form;by_cases hlt:(zAB c (x++[(i:Int)])).length<x.length
  ·have e0:=zJh (HY.out hlt);have i1:((zAB c (x++[(i:Int)])).length:Int)<(x.length:Int):=by omega
   generalize (zAB c (x++[(i:Int)])).length=q at *;go_wp2_with fail
   go_ret
   rw [e0.out];exact ⟨_,rfl,h'.grow b04,b04⟩
  ·have e0:=zJh (HN.out hlt);have i1:¬((zAB c (x++[(i:Int)])).length:Int)<(x.length:Int):=by omega
   generalize hq:(zAB c (x++[(i:Int)])).length=q at *;go_wp2_with fail
   go_ret
   rw [e0.out];exact ⟨_,rfl,f4.mono (fun b hb=>⟨by have:=b3.size; have:=hb.1; omega,hb.2⟩),b04⟩
theorem zC9 {S S':Nat→Prop} {u v:Value} {c:List (List Int)} {l:List Int} {w:World} (h:RII S w u c) (h':RI S' w v l) (hl:total c≤16777216) (hl':l.length≤16777216) :
  Calls Try.prog 24 #[u,v] w fun e w'=>∃r,e=.returned (.tuple #[r,.bool (isWd c l)])∧FI (New w w') w' r (if isWd c l then zAC c [] l else [])∧Below w.heap.size w w':=by
 obtain ⟨a',cap',rfl⟩:=h'.form;have HP:Hid (isWd c l=true→CartanP c∧l.length≤15∧Lets c.length l):=zJh (fun h=>by obtain ⟨h1,h2,h3⟩:=zAw h; exact ⟨zAR.1 h1,h2,h3⟩);generalize hm:l.length=m at *;have HM:=zJh hm;clear hm;generalize hq:isWd c l=qq at *;have HQE:=zJh hq;clear hq;go_enter Try.func24,Try.ntmps24
 go_wp2_with fail
 refine (zAl h h' hl (by rw [HM.out]; exact hl')).mono ?_;rintro e w1 ⟨rfl,hw1⟩;have b1:=zAH hw1;clear hw1;rw [HQE.out];cases qq
 ·obtain ⟨f1,b2⟩:=zAE (w:=w1) b1 rfl;go_wp2_with fail
  go_ret2
  exact ⟨_,rfl,f1,b2⟩
 ·have HQ:=zJh (HP.out rfl);have hm15:=HQ.out.2.1;have HR0:Hid (zAC c [] (l.drop 0)=zAC c [] l):=zJh (by simp);have HRN:Hid (∀x,zAC c x (l.drop m)=x):=zJh (fun x=>by rw [<-HM.out,List.drop_length]; rfl);clear HP;go_wp2_with fail
  obtain ⟨w2,hw2⟩:∃w2,w2=w1.alloc (.cells #[] 3):=⟨_,rfl⟩;obtain ⟨f2,b2⟩:=zAE b1 hw2;rw [<-hw2];clear hw2;go_loopw [6,17] (fun zz j wr=>∃(k:Nat) (z:Value) (x:List Int),z=zz∧k≤m∧j=.int .i64 k∧FI (New w wr) wr z x∧x.length≤k∧Hid (Lets c.length x)∧Hid (zAC c x (l.drop k)=zAC c [] l)∧Below w.heap.size w wr) (fun _ j _=>m-(intOf j).toNat)
  case atStart=>exact ⟨0,_,[],rfl,Nat.zero_le _,rfl,f2,zJm _,zJh (fun y hy=>by simp at hy),HR0,b2⟩
  case round =>
   obtain ⟨k,z,x,rfl,hk,rfl,hf,hxl,HL,HK,hb⟩:=hrel;by_cases hlt:k<m
   ·obtain ⟨b,o,y,e9,hcy,hy⟩:=(h'.below hb).at hlt;subst e9;obtain ⟨i,rfl,hi⟩:=zBz HQ.out.2.2 hy.out;have HK2:Hid (zAC c (zAJ c x i) (l.drop (k+1))=zAC c [] l):=zJh ((zCn hy.out).symm.trans HK.out);have HOK:=zJh (zBT HQ.out.1 HL.out hi (by omega));have i1:(k:Int)<(m:Int):=by omega
    go_wp2_with fail
    refine (zCO (S':=S') (W:=w) (h.below hb) hf hb.size HQ.out.1 HL.out hi (by omega)).mono ?_;rintro e w4 ⟨r4,rfl,f4,b4⟩;go_wp2_with fail
    go_roundw
    case rel=>exact ⟨k+1,_,_,rfl,by omega,by go_num,f4,by have:=HOK.out.2; omega,zJh HOK.out.1,HK2,zAA.step hb b4⟩
    case measure=>simp [intOf]; omega
   ·have hkm:k=m:=by omega
    have e0:Hid (x=zAC c [] l):=zJh (by have:=HK.out; rw [hkm,HRN.out] at this; exact this);have i1:¬(k:Int)<(m:Int):=by omega
    clear hkm;go_wp2_with fail
    go_ret2
    exact ⟨_,rfl,by rw [<-e0.out]; exact hf,hb⟩
theorem zGD {S S':Nat→Prop} {u v:Value} {l l':List Int} {w:World} (h:RI S w u l) (h':RI S' w v l') (hl:l.length≤16777216) (hl':l'.length≤16777216) :
  Calls Try.prog 66 #[u,v] w fun e w'=>∃r,e=.returned r∧FI (New w w') w' r (l++l')∧Below w.heap.size w w':=by
 obtain ⟨a,cap,rfl⟩:=h.form;obtain ⟨a',cap',rfl⟩:=h'.form;obtain ⟨f1,b1⟩:=zAE (w:=w) (Below.refl _ w) rfl;go_enter Try.func66,Try.ntmps66
 go_wp2_with (at_builtin; go_must (refine zAG (W:=w) rfl _ _ rfl rfl f1 b1 rfl (h.below b1) ?_ ?_))
 ·first | omega | (simp; omega) | (simp; done)
 ·intro v2 w2 f2 b2 _;clear f1 b1;go_wp2_with (at_builtin; go_must (refine zAG (W:=w) rfl _ _ rfl rfl f2 b2 rfl (h'.below b2) ?_ ?_))
  ·first | omega | (simp; omega) | (simp; done)
  ·intro v3 w3 f3 b3 _;go_wp2_with fail
   go_ret
   exact ⟨_,rfl,f3,b3⟩
theorem zHm {c:List (List Int)} (_:CartanP c) {x:List Int} {i:Nat} (_:Lets c.length x) (_:i<c.length) (_:x.length≤29) (h:x.length<(zAB c (x++[(i:Int)])).length):zAJ c x i=zAB c (x++[(i:Int)]):=zCm (by omega)
theorem zHA {c:List (List Int)} (hc:CartanP c) {x:List Int} {i:Nat} (hx:Lets c.length x) (hi:i<c.length) (hl:x.length≤29) (h:¬x.length<(zAB c (x++[(i:Int)])).length):zAJ c x i=x:=zCH (by have:=(zCM hc hx hi hl).2; omega)
theorem zCA {S S':Nat→Prop} {u z v:Value} {c:List (List Int)} {x0 l:List Int} {w W:World} (h:RII S w u c) (hz:FI (New W w) w z x0) (h':RI S' w v l) (hW:Below W.heap.size W w) (hc:CartanP c) (hl:total c≤16777216) (hx0:Lets c.length x0) (hx0l:x0.length≤15) (hll:l.length≤15) (hle:Lets c.length l) :
  Calls Try.prog 38 #[u,z,v] w fun e w'=>∃r,e=.returned r∧FI (New W w') w' r (zAC c x0 l)∧Below W.heap.size W w'∧Below w.heap.size w w':=by
 obtain ⟨a',cap',rfl⟩:=h'.form;have HC:=zJh hc;have HLE:=zJh hle;have HR0:Hid (zAC c x0 (l.drop 0)=zAC c x0 l):=zJh (by simp);have HRN:Hid (∀x,zAC c x (l.drop l.length)=x):=zJh (fun x=>by rw [List.drop_length]; rfl);have HX0:=zJh hx0;clear hc hle hx0;generalize hm:l.length=m at *;have HM:=zJh hm;clear hm;go_enter Try.func38,Try.ntmps38
 go_wp2_with fail
 go_loopw [1,7] (fun yy j wr=>∃(k:Nat) (y:Value) (x:List Int),y=yy∧k≤m∧j=.int .i64 k∧FI (New W wr) wr y x∧x.length≤15+k∧Hid (Lets c.length x)∧Hid (zAC c x (l.drop k)=zAC c x0 l)∧Below w.heap.size w wr∧Below W.heap.size W wr) (fun _ j _=>m-(intOf j).toNat)
 case atStart=>exact ⟨0,_,x0,rfl,Nat.zero_le _,rfl,hz,hx0l,HX0,HR0,Below.refl _ _,hW⟩
 case round =>
  obtain ⟨k,y,x,rfl,hk,rfl,hf,hxl,HL,HK,hb,hbW⟩:=hrel;by_cases hlt:k<m
  ·obtain ⟨b,o,q,e9,hcy,hy⟩:=(h'.below hb).at hlt;subst e9;obtain ⟨i,rfl,hi⟩:=zBz HLE.out hy.out;have HSN:=zJh (zAS HL.out hi);have HOK:=zJh (zBT HC.out HL.out hi (by omega));have HGT:=zJh (zHm HC.out HL.out hi (by omega));have HNG:=zJh (zHA HC.out HL.out hi (by omega));have HK2:Hid (zAC c (zAJ c x i) (l.drop (k+1))=zAC c x0 l):=zJh ((zCn hy.out).symm.trans HK.out);generalize zAJ c x i=sx at *;have i1:(k:Int)<(m:Int):=by omega
   obtain ⟨ay,cy,rfl⟩:=hf.form;have bb:Below wr.heap.size wr (wr.alloc (.cells #[.int .i64 i] 3)):=(Below.refl _ _).alloc (zJm _) _;go_wp2_with fail
   refine (zGD (hf.below bb).reads (RI.one wr i) (by omega) (by simp)).mono ?_;rintro e w2 ⟨r2,rfl,f2,b2⟩;have b12:=zAA.step bb b2;have b02:=zAA.step hb b12;go_wp2_with fail
   refine (zCg (h.below b02) f2.reads HC.out HSN.out hl (by simp; omega)).mono ?_;rintro e w3 ⟨r3,rfl,f3,b3⟩;obtain ⟨a3,c3,rfl⟩:=f3.form;have b13:=zAA.step b12 b3;have b03:=zAA.step hb b13;have bW3:Below W.heap.size W w3:=hbW.trans (b13.mono hbW.size);by_cases hgt:x.length<(zAB c (x++[(i:Int)])).length
   ·have e0:=zJh (HGT.out hgt);have i2:(x.length:Int)<((zAB c (x++[(i:Int)])).length:Int):=by omega
    have f3':FI (New W w3) w3 (.slice a3 (zAB c (x++[(i:Int)])).length c3) sx:=by
     rw [e0.out]; exact f3.mono (fun b hb'=>⟨by have:=hbW.size; have:=b12.size; have:=hb'.1; omega,hb'.2⟩)
    clear hgt;generalize (zAB c (x++[(i:Int)])).length=p at *;go_wp2_with fail
    go_roundw
    case rel=>exact ⟨k+1,_,sx,rfl,by omega,by go_num,f3',by have:=HOK.out.2; omega,zJh HOK.out.1,HK2,b03,bW3⟩
    case measure=>simp [intOf]; omega
   ·have e0:=zJh (HNG.out hgt);have i2:¬(x.length:Int)<((zAB c (x++[(i:Int)])).length:Int):=by omega
    have hf2:FI (New W w3) w3 (.slice ay x.length cy) sx:=by rw [e0.out]; exact hf.grow b13
    clear hgt;generalize (zAB c (x++[(i:Int)])).length=p at *;go_wp2_with fail
    go_roundw
    case rel=>exact ⟨k+1,_,sx,rfl,by omega,by go_num,hf2,by have:=HOK.out.2; omega,zJh HOK.out.1,HK2,b03,bW3⟩
    case measure=>simp [intOf]; omega
  ·have hkm:k=m:=by omega
   have e0:Hid (x=zAC c x0 l):=zJh (by have:=HK.out; rw [hkm,HRN.out] at this; exact this);have i1:¬(k:Int)<(m:Int):=by omega
   clear hkm;go_wp2_with fail
   go_ret
   exact ⟨_,rfl,by rw [<-e0.out]; exact hf,hbW,hb⟩
theorem zDA {S S':Nat→Prop} {u v:Value} {c:List (List Int)} {l:List Int} {w:World} (h:RII S w u c) (h':RI S' w v l) (hl:total c≤16777216) (hl':l.length≤16777216) :
  Calls Try.prog 25 #[u,v] w fun e w'=>∃r,e=.returned (.tuple #[r,.bool (isWd c l)])∧FI (New w w') w' r (if isWd c l then zAC c [] l else [])∧Below w.heap.size w w':=by
 have HP:Hid (isWd c l=true→CartanP c∧l.length≤15∧Lets c.length l):=zJh (fun h=>by obtain ⟨h1,h2,h3⟩:=zAw h; exact ⟨zAR.1 h1,h2,h3⟩);generalize hq:isWd c l=qq at *;have HQE:=zJh hq;clear hq;go_enter Try.func25,Try.ntmps25
 go_wp2_with fail
 refine (zBG h h' hl hl').mono ?_;rintro e w1 ⟨rfl,hw1⟩;have b1:=zAH hw1;clear hw1;obtain ⟨f1,b2⟩:=zAE (w:=w1) b1 rfl;rw [HQE.out];cases qq
 ·go_wp2_with fail
  go_ret2
  exact ⟨_,rfl,f1,b2⟩
 ·have HQ:=zJh (HP.out rfl);clear HP;go_wp2_with fail
  refine (zCA (W:=w) (h.below b2) f1 (h'.below b2) b2 HQ.out.1 hl (fun y hy=>by simp at hy) (Nat.zero_le _) HQ.out.2.1 HQ.out.2.2).mono ?_;rintro e w3 ⟨r3,rfl,f3,b3,_⟩;go_wp2_with fail
  go_ret2
  exact ⟨_,rfl,f3,b3⟩
theorem zHj (k:Nat):List.replicate (k+1) (-1:Int)=List.replicate k (-1)++[-1]:=by simp [List.replicate_succ']
theorem zDM {S:Nat→Prop} {u:Value} {c:List (List Int)} {w:World} (h:RII S w u c) (hl:total c≤16777216) :
  Calls Try.prog 50 #[u] w fun e w'=>∃r,e=.returned (.tuple #[r,.bool (finB c)])∧FI (New w w') w' r (if finB c then zAT c else [])∧Below w.heap.size w w':=by
 have HP:Hid (finB c=true→FinP c):=zJh zCS;obtain ⟨a,cap,rfl⟩:=h.form;generalize hq:finB c=qq at *;have HQE:=zJh hq;clear hq;go_enter Try.func50,Try.ntmps50
 go_wp2_with fail
 refine (zEr h hl).mono ?_;rintro e w1 ⟨rfl,b1⟩;rw [HQE.out];cases qq
 ·obtain ⟨f1,b2⟩:=zAE (w:=w1) b1 rfl;go_wp2_with fail
  go_ret2
  exact ⟨_,rfl,f1,b2⟩
 ·have HQ:=zJh (HP.out rfl);have HC:=zJh HQ.out.cart;have hn4:=HQ.out.cart.le;have HIM:=zJh HQ.out.long;have HLL:Hid (nf c 30 (List.replicate c.length (-1))=zAT c):=zJh rfl;clear HP;generalize hn:c.length=n at *;have HN:=zJh hn;clear hn;go_wp2_with fail
  obtain ⟨w2,hw2⟩:∃w2,w2=w1.alloc (.cells #[] 3):=⟨_,rfl⟩;obtain ⟨f2,b2⟩:=zAE b1 hw2;rw [<-hw2];clear hw2;have f2':FI (New w w2) w2 (.slice (some ⟨w1.heap.size,0,none⟩) 0 0) (List.replicate 0 (-1)):=f2;go_loopw [4,5] (fun zz j wr=>∃(k:Nat) (z:Value),z=zz∧k≤n∧j=.int .i64 k∧FI (New w wr) wr z (List.replicate k (-1))∧Below w.heap.size w wr) (fun _ j _=>n-(intOf j).toNat)
  case atStart=>exact ⟨0,_,rfl,Nat.zero_le _,rfl,f2',b2⟩
  case round =>
   obtain ⟨k,z,rfl,hk,rfl,hf,hb⟩:=hrel;have HAL:Hid ((List.replicate k (-1:Int)).length=k):=zJh (by simp);have HST:=zJh (zHj k);by_cases hlt:k<n
   ·have i1:(k:Int)<(n:Int):=by omega
    generalize List.replicate k (-1:Int)=A at *;have bb:Below wr.heap.size wr (wr.alloc (.cells #[.int .i64 (-1)] 3)):=(Below.refl _ _).alloc (zJm _) _;go_wp2_with (at_builtin; go_must (refine zAG (W:=w) rfl _ _ rfl rfl (hf.grow bb) (zAA.step hb bb) rfl (RI.one _ (-1)) ?_ ?_))
    ·have:=HAL.out; simp; omega
    ·intro v7 w7 f7 b7 _;go_wp2_with fail
     go_roundw
     case rel=>exact ⟨k+1,_,rfl,by omega,by go_num,by rw [HST.out]; exact f7,b7⟩
     case measure=>simp [intOf]; omega
   ·have hkn:k=n:=by omega
    have i1:¬(k:Int)<(n:Int):=by omega
    rw [hkn] at hf;clear hkn;have hu:=h.below hb;go_wp2_with fail
    refine (zEo hu hf.reads HC.out HIM.out.1 (by have:=HIM.out.2; omega)).mono ?_;rintro e w4 ⟨r4,rfl,f4,b4⟩;rw [HLL.out] at f4;go_wp2_with fail
    go_ret2
    exact ⟨_,rfl,f4.mono (fun b hb'=>⟨Nat.le_trans hb.size hb'.1,hb'.2⟩),zAA.step hb b4⟩
theorem zFP {S:Nat→Prop} {u:Value} {c:List (List Int)} {w:World} (h:RII S w u c) (hF:FinP c) :
  Calls Try.prog 59 #[u] w fun e w'=>∃r,e=.returned r∧FI (New w w') w' r (zAT c)∧Below w.heap.size w w':=by
 have HC:=zJh hF.cart;have hn4:=hF.cart.le;have HIM:=zJh hF.long;have HLL:Hid (nf c 30 (List.replicate c.length (-1))=zAT c):=zJh rfl;have h0:=h.old;obtain ⟨a,cap,rfl⟩:=h.form;clear hF;generalize hn:c.length=n at *;have HN:=zJh hn;clear hn;have HM0:Hid ((List.replicate n (1:Int)).take 0=[]∧∀k,((List.replicate n (1:Int)).take k).map (fun _=>(-1:Int))++(List.replicate n (1:Int)).drop k=List.replicate (min k n) (-1)++List.replicate (n-k) 1):=zJh ⟨by simp,fun k=>by simp⟩;go_enter Try.func59,Try.ntmps59
 go_wp2_with fail
 refine (zE3 n (by omega)).mono ?_;rintro e w2 ⟨r2,rfl,f2,b2⟩;obtain ⟨a2,c2,e2⟩:=f2.form;have e3:r2=.slice a2 n c2:=by rw [e2]; simp
 subst e3;clear e2;have f3:FI (New w w2) w2 (.slice a2 n c2) (((List.replicate n (1:Int)).take 0).map (fun _=>(-1:Int))++(List.replicate n (1:Int)).drop 0):=by simpa using f2
 clear f2;have HRL:Hid ((List.replicate n (1:Int)).length=n):=zJh (by simp);have HEND:Hid (((List.replicate n (1:Int)).take n).map (fun _=>(-1:Int))++(List.replicate n (1:Int)).drop n=List.replicate n (-1)):=zJh (by simp);clear HM0;generalize List.replicate n (1:Int)=R at *;go_wp2_with fail
 go_loopw [10] (fun j wr=>∃(k:Nat),k≤n∧j=.int .i64 k∧FI (New w w2) wr (.slice a2 n c2) ((R.take k).map (fun _=>(-1:Int))++R.drop k)∧Only (New w w2) w2 wr) (fun j _=>n-(intOf j).toNat)
 case atStart=>exact ⟨0,Nat.zero_le _,rfl,f3,Only.refl _ _⟩
 case round =>
  obtain ⟨k,hk,rfl,hf,ho⟩:=hrel;by_cases hlt:k<n
  ·obtain ⟨x,hx⟩:∃x,R[k]? = some x:=⟨_,zJi (by have:=HRL.out; omega)⟩;obtain ⟨g,rfl,hg,_⟩:=hf.head (by omega);have hlk:((R.take k).map (fun _=>(-1:Int))++R.drop k).length=n:=by rw [zIV]; exact HRL.out
   have hcx:=hf.cell (zJM hx) hlt;have hfr:=hf.froz hlk k;have hst:=hf.put hlk k (-1);have hms:((R.take k).map (fun _=>(-1:Int))++R.drop k).set k (-1)=(R.take (k+1)).map (fun _=>(-1:Int))++R.drop (k+1):=zHc (f:=fun _=>(-1:Int)) hx;rw [hms] at hst;have HST:=zJh hst;clear hst hms hx;have i1:(k:Int)<(n:Int):=by omega
   go_wp2_with fail
   go_roundw
   case rel=>exact ⟨k+1,by omega,by go_num,HST.out,Only.setCell ho hg _⟩
   case measure=>simp [intOf]; omega
  ·have hkn:k=n:=by omega
   have i1:¬(k:Int)<(n:Int):=by omega
   rw [hkn,HEND.out] at hf;clear hkn;have hb:Below w.heap.size w wr:=b2.trans (ho.below (fun b hb=>hb.1));go_wp2_with fail
   refine (zFQ (h.below hb) hf.reads HC.out (zCR HC.out) ⟨HIM.out.1,by have:=HIM.out.2; omega⟩).mono ?_;rintro e w4 ⟨r4,rfl,f4,b4⟩;rw [HLL.out] at f4;go_wp2_with fail
   go_ret
   exact ⟨_,rfl,f4.mono (fun b hb'=>⟨Nat.le_trans hb.size hb'.1,hb'.2⟩),zAA.step hb b4⟩
end Go.Proofs.Ytlchafedbnihoaa
