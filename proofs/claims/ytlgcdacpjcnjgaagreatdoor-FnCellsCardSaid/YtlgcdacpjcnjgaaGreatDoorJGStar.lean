/- 'append' to a slice of numbers of the call's own, and where the new slice lies: in the old one's block, or in a new one. Condition: at most 2^26 numbers. -/
import Derived.Test.YtlgcdacpjcnjgaaGreatDoorJGTail
import Derived.Test.YtlgcdacpjcnjgaaGreatDoorJGFin
import Derived.RegionTactic
import Derived.BigRegion
import Derived.Test.YtlgcdacpjcnjgaaGreatDoorJGCell
namespace Go.Proofs.YtlgcdacpjcnjgaaGreatDoor
open Go.RowKit
set_option maxRecDepth 20000
section
variable {w:World} {ops:Array Oper} {rest:List Oper} {o:Oper} {a:Act} {Q:Exit→Act→World→Prop}
theorem zDd {P:Program} (w:World) (base:Nat) (t ty e:TypeId) (i:TypeInfo) (z:Value) (size bytes:Nat) (ht:P.underlying t=some (.slice e)) (hi:P.info? e=some i) (hz:i.zero=some z)
  (hsize:i.size=size) (hby:i.bytes=bytes) (hzs:z.cells.size=size) (hsz:0<size)
  (v:Value) (n:Nat) (xs:List Value) (hown:w.ownsRow base e size v n xs)
  (a:Addr) (m c:Nat) (news:List Value) (hl:news.length=m*size) (hnews:∀j u,news[j]? = some u→w.cell? (a.add j)=some u) (h1:∀u∈news,u.oneCell'=true)
  (h63:n+m≤maxLen) (hbytes:(n+m)*bytes≤140737488355328) {v':Value} {w':World}
  (hrun:(Builtin.append_ #[t,t] ty #[v,.slice (some a) m c]).run P w=.ok v' w'):∀b,v'.ownBlock=some b→v.ownBlock=some b∨w.heap.size≤b:=by
 subst hsize;subst hby;have hsmall:n+m≤9223372036854775807:=by simp only [maxLen] at h63; omega
 rcases hown.2 with ⟨rfl,rfl⟩ | ⟨g,cap,cur,rfl,hbg,hg,hnc,hcm,hcs,htake⟩
 ·by_cases hm:m=0
  ·subst hm;have hn:news=[]:=List.eq_nil_of_length_eq_zero (by simpa using hl);subst hn;have hr:(Builtin.append_ #[t,t] ty #[.slice none 0 0,.slice (some a) 0 c]).run P w=.ok (.slice none 0 0) w:=by
    simp [Builtin.append_,run_underlying ht,sizeOf,typeInfo,hi,Builtin.lenOf,Builtin.firstCells,loadCells,loadCellsFrom]
   rw [hr] at hrun
   injection hrun with e1 e2
   subst e1;intro b hb;cases hb
  ·have hr:=run_append_nil (P:=P) w t ty e i z ht hi hz a m c news hl hnews (by omega) (by omega) (by have hb:=hbytes; simp only [Nat.zero_add] at hb; omega);rw [hr] at hrun
   injection hrun with e1 e2
   subst e1;intro b hb;simp [Value.ownBlock] at hb;exact .inr (by omega)
 ·by_cases hroom:n+m≤cap
  ·have hfit:n*i.size+news.length≤cur.size:=by rw [hl,hcs,<-Nat.add_mul]; exact Nat.mul_le_mul_right _ hroom
   have hr:=run_append_room (P:=P) w t ty e i ht hi g n cap cur hg a m c news hl hnews h1 hroom hfit;rw [hr] at hrun
   injection hrun with e1 e2
   subst e1;intro b hb;exact .inl hb
  ·have holds:∀j u,xs[j]? = some u→w.cell? ((⟨g,0,none⟩:Addr).add j)=some u:=hown.cells (g:=g) rfl;have hr:=run_append_grow (P:=P) w t ty e i z ht hi hz ⟨g,0,none⟩ n cap xs hown.1 holds a m c news hl hnews (by omega) (by omega) (growslice_fits (by omega) hbytes);rw [hr] at hrun
   injection hrun with e1 e2
   subst e1;intro b hb;simp [Value.ownBlock] at hb;exact .inr (by omega)
theorem zFq {W:World} (hgd:o.guard=none) (s x:Operand)
  (ho:o.op=.call { callee:=.builtin .append,args:=#[s,x],argTypes:=#[29,29] })
  {v:Value} {l:List Int} {y:Int} (hs:a.eval s=v) (hf:FI (New W w) w v l) (hb:Below W.heap.size W w)
  {H:Nat} (hx:a.eval x=.slice (some ⟨H,0,none⟩) 1 1) (hc:w.cell? ⟨H,0,none⟩=some (.int .i64 y)) (hlen:l.length+1≤67108864)
  (h:∀v' w',FI (New W w') w' v' (l++[y])→Below W.heap.size W w'→w.grownBy w' v.ownBlock→(∀b,v'.ownBlock=some b→v.ownBlock=some b∨w.heap.size≤b)→wpList Tryz.prog ops Q rest (a.put o.dst v') w'):wpList Tryz.prog ops Q (o::rest) a w:=by
 refine wpList_plain hgd fun K hK=>?_;obtain ⟨i0,hi,hz0,hz1,hz2⟩:=info_parts zA8;obtain ⟨hown,hS⟩:=hf;have hown':w.ownsRow W.heap.size 3 1 v l.length (l.map (Value.int .i64)):=by
  refine ⟨hown.1,?_⟩;rcases hown.2 with h | ⟨g,cap,cur,hv,_,r⟩
  ·exact .inl h
  ·exact .inr ⟨g,cap,cur,hv,(hS g (by rw [hv]; rfl)).1,r⟩
 have hnews:∀(j:Nat) (u:Value),[Value.int .i64 y][j]? = some u→w.cell? ((⟨H,0,none⟩:Addr).add j)=some u:=by
  intro j u hj
  match j,hj with
  | 0,hj=>simp at hj; subst hj; simpa [Addr.add] using hc
 have h1:∀u∈[Value.int .i64 y],u.oneCell'=true:=by intro u hu; simp at hu; subst hu; rfl
 obtain ⟨v',w',hr,h2,h3,_⟩:=run_append_own (P:=Tryz.prog) w W.heap.size 29 o.type 3 i0 (.int .i64 0) 1 8 Tryz.underlying29 hi hz0 hz1 hz2 rfl (by decide) v l.length (l.map (Value.int .i64)) hown' ⟨H,0,none⟩ 1 1 [.int .i64 y] rfl hnews h1 (by unfold maxLen; omega) (by omega) hb.size;have h4:=zDd (P:=Tryz.prog) w W.heap.size 29 o.type 3 i0 (.int .i64 0) 1 8 Tryz.underlying29 hi hz0 hz1 hz2 rfl (by decide) v l.length (l.map (Value.int .i64)) hown' ⟨H,0,none⟩ 1 1 [.int .i64 y] rfl hnews h1 (by unfold maxLen; omega) (by omega) hr;unfold Oper.wp execOp;simp only [ho,resolve,invoke,builtin,Sem.run_bind,Sem.run_pure,Result.andThen_ok,List.map_toArray,List.map_cons,List.map_nil,hs,hx,hr];exact hK _ _ (h v' w' (FI.of_row h2 (zTI _) (by simp) (by simp)) (hb.grown h3 hb.size (fun k hk=>(hS k hk).1)) h3 h4)
end
theorem FI.own {S:Nat→Prop} {w:World} {v:Value} {l:List Int} (h:FI S w v l):FI (fun b=>S b∧v.ownBlock=some b) w v l:=⟨h.1,fun b hb=>⟨h.2 b hb,hb⟩⟩
end Go.Proofs.YtlgcdacpjcnjgaaGreatDoor
namespace Go.Proofs.YtlgcdacpjcnjgaaGreatDoor
open Go.RowKit
set_option maxRecDepth 20000
set_option maxHeartbeats 8000000
def zAT (n k:Nat):List Int:=(Fin.bits n k).map fun (i:Nat)=>(i:Int)
theorem zCX (n k:Nat):zAT (n+1) k=zAT n k++if k / 2 ^ n % 2=1 then [(n:Int)] else []:=by
 unfold zAT;simp only [Fin.bits,List.map_append];split <;> simp
theorem zC1:∀(n k:Nat),(zAT n k).length≤n
 | 0,k=>by simp [zAT,Fin.bits]
 | n+1,k=>by
  rw [zCX];have:=zC1 n k;split <;> simp <;> omega
theorem zD9 (k i:Nat):((k / 2 ^ i:Nat):Int)=(k:Int) / 2 ^ i:=by simp
theorem zS2 {k i:Nat} (h:0<k / 2 ^ i):0<(k:Int) / 2 ^ i:=by rw [<-zD9]; omega
theorem zS1 {k i:Nat} (h:¬0<k / 2 ^ i):¬0<(k:Int) / 2 ^ i:=by rw [<-zD9]; omega
theorem zJ8 (n:Int):bits .and .i64 n 1=n % 2:=by
 have h127:(BitVec.ofInt 64 1).toNat=2 ^ 1-1:=by decide
 have key:(BitVec.ofInt 64 n &&& BitVec.ofInt 64 1).toNat=(n % ((2 ^ 64:Nat):Int)).toNat % 2 ^ 1:=by
  rw [BitVec.toNat_and,BitVec.toNat_ofInt,h127,Nat.and_two_pow_sub_one_eq_mod]
 show IntKind.i64.wrap ((BitVec.ofInt 64 n &&& BitVec.ofInt 64 1).toNat:Nat)=n % 2;rw [key,IntKind.wrap_i64];omega
theorem zKC {k i:Nat} (h:k / 2 ^ i % 2=1):(bits BinOp.and IntKind.i64 ((k:Int) / 2 ^ i) 1 == 1)=true:=by
 rw [zJ8,<-zD9]; simp only [beq_iff_eq]; omega
theorem zL3 {k i:Nat} (h:¬k / 2 ^ i % 2=1):(bits BinOp.and IntKind.i64 ((k:Int) / 2 ^ i) 1 == 1)=false:=by
 rw [zJ8,<-zD9]; simp only [beq_eq_false_iff_ne]; omega
theorem zHN {k i:Nat} (h:k / 2 ^ i=0) {j:Nat} (hij:i≤j):zAT j k=zAT i k:=by
 induction j with
 | zero =>
  have:i=0:=by omega
  subst this; rfl
 | succ j ih =>
  rcases Nat.lt_or_ge j i with h1 | h1
  ·have:i=j+1:=by omega
   subst this; rfl
  ·have h2:k / 2 ^ j=0:=Nat.div_eq_of_lt (Nat.lt_of_lt_of_le ((Nat.div_eq_zero_iff_lt (Nat.two_pow_pos i)).1 h) (Nat.pow_le_pow_right (by omega) h1));rw [zCX,h2,ih h1];simp
theorem zHv (k:Nat) (hk:k≤15) (w:World) :
  Calls Tryz.prog 154 #[.int .i64 k] w fun e w'=>∃r,e=.returned r∧FI (New w w') w' r (zAT 4 k)∧Below w.heap.size w w':=by
 have HS:=zTD zCX;have HL:=zTD zC1;go_enter Tryz.func154,Tryz.ntmps154
 go_wp2_with fail
 obtain ⟨w1,hw1⟩:∃w1,w1=w.alloc (.cells #[] 3):=⟨_,rfl⟩;obtain ⟨f1,b1⟩:=zAN (Below.refl _ w) hw1;rw [<-hw1];clear hw1;go_loopw [3,4] (fun zz j wr=>∃(i:Nat) (z:Value),z=zz∧i≤4∧j=.int .i64 i∧FI (New w wr) wr z (zAT i k)∧Below w.heap.size w wr) (fun _ j _=>4-(intOf j).toNat)
 case atStart=>exact ⟨0,_,rfl,by omega,rfl,f1,b1⟩
 case round =>
  obtain ⟨i,z,rfl,hi,rfl,hf,hb⟩:=hrel;by_cases hpos:0<k / 2 ^ i
  ·have i1:=zS2 hpos;have hi4:i<4:=by
    rcases Nat.lt_or_ge i 4 with h | h
    ·exact h
    ·have:i=4:=by omega
     subst this;have:k / 2 ^ 4=0:=Nat.div_eq_of_lt (by omega);omega
   have HS2:=zTD (HS.out i k);have hl:=HL.out i k;by_cases hbit:k / 2 ^ i % 2=1
   ·have e1:=zKC hbit;have HS3:Hid (zAT (i+1) k=zAT i k++[(i:Int)]):=zTD (by rw [HS2.out,if_pos hbit]);clear hbit hpos;have bb:∀wr:World,Below wr.heap.size wr (wr.alloc (.cells #[.int .i64 i] 3)):=fun wr=>(Below.refl wr.heap.size wr).alloc (zTI _) _;go_wp2_with (at_builtin; go_must (refine zAL (W:=w) rfl _ _ rfl rfl (hf.grow (bb _)) (zAC.step hb (bb _)) rfl (RI.one _ i) ?_ ?_))
    ·simp; omega
    ·intro v' w3 f3 b3 hg3;go_wp2_with fail
     go_roundw
     case rel=>exact ⟨i+1,_,rfl,by omega,by go_num,by rw [HS3.out]; exact f3,b3⟩
     case measure=>simp [intOf]; omega
   ·have e1:=zL3 hbit;have HS3:Hid (zAT (i+1) k=zAT i k):=zTD (by rw [HS2.out,if_neg hbit]; simp);clear hbit hpos;go_wp2_with fail
    go_roundw
    case rel=>exact ⟨i+1,_,rfl,by omega,by go_num,by rw [HS3.out]; exact hf,hb⟩
    case measure=>simp [intOf]; omega
  ·have i1:=zS1 hpos;have HR:Hid (zAT i k=zAT 4 k):=zTD (by
    have h0:k / 2 ^ i=0:=Nat.eq_zero_of_not_pos hpos;refine (zHN h0 hi).symm)
   clear hpos;go_wp2_with fail
   go_ret
   exact ⟨_,rfl,by rw [<-HR.out]; exact hf,hb⟩
def zCz (n:Nat):Nat→List (List Int)
 | 0=>[]
 | k+1=>zCz n k++[zAT n (k+1)]
theorem zCV (n:Nat):∀k,(zCz n k).length=k
 | 0=>rfl
 | k+1=>by simp [zCz,zCV n k]
theorem zJQ (n:Nat):∀(k j:Nat),j<k→(zCz n k)[j]? = some (zAT n (j+1))
 | 0,j,h=>by omega
 | k+1,j,h=>by
  simp only [zCz];rcases Nat.lt_or_ge j k with h1 | h1
  ·rw [List.getElem?_append_left (by rw [zCV]; exact h1)];exact zJQ n k j h1
  ·have:j=k:=by omega
   subst this;rw [List.getElem?_append_right (by rw [zCV]; exact zTI _),zCV];simp
theorem zFa {n k:Nat} (hn:n≤4):(k:Int)+1<wrap64 (2 ^ n)↔k+1<2 ^ n:=by
 match n,hn with
 | 0,_=>simp [wrap64]; omega
 | 1,_=>simp [wrap64]; omega
 | 2,_=>simp [wrap64]; omega
 | 3,_=>simp [wrap64]; omega
 | 4,_=>simp [wrap64]; omega
theorem zPX (n:Nat) (hn:n≤4) (w:World) :
  Calls Tryz.prog 163 #[.int .i64 n] w fun e w'=>∃r,e=.returned r∧FR (New w w') w' r (zCz n (2 ^ n-1))∧Below w.heap.size w w':=by
 have HS:=zTD zCX;have HL:=zTD zC1;go_enter Tryz.func163,Tryz.ntmps163
 go_wp2_with fail
 obtain ⟨w1,hw1⟩:∃w1,w1=w.alloc (.cells #[] 29):=⟨_,rfl⟩;obtain ⟨f1,b1⟩:=FR.empty_of (Below.refl _ w) hw1;rw [<-hw1];clear hw1;go_loopw [3,4] (fun zz j wr=>∃(k:Nat) (z:Value),z=zz∧k+1≤2 ^ n∧j=.int .i64 ((k:Int)+1)∧FR (New w wr) wr z (zCz n k)∧Below w.heap.size w wr) (fun _ j _=>2 ^ n-(intOf j).toNat)
 case atStart=>exact ⟨0,_,rfl,Nat.one_le_two_pow,rfl,f1,b1⟩
 case round =>
  obtain ⟨k,z,rfl,hk,rfl,hf,hb⟩:=hrel;have hl:=zCV n k;have HLEN:=zTD hl;clear hl;generalize hA:zCz n k=A at *;have HST:Hid (zCz n (k+1)=A++[zAT n (k+1)]):=zTD (by rw [<-hA]; rfl);have hk16:k+1≤16:=Nat.le_trans hk (Nat.pow_le_pow_right (n:=2) (by omega) hn);by_cases hlt:k+1<2 ^ n
  ·have i1:=(zFa hn (k:=k)).2 hlt;clear hA;go_wp2_with fail
   obtain ⟨w2,hw2⟩:∃w2,w2=wr.alloc (.cells #[] 3):=⟨_,rfl⟩;obtain ⟨f2,b2⟩:=zAN (Below.refl _ wr) hw2;rw [<-hw2];clear hw2;generalize wr=wO at *;go_loopw [5,6] (fun yy j wr=>∃(i:Nat) (y:Value),y=yy∧i≤n∧j=.int .i64 i∧FI (New wO wr) wr y (zAT i (k+1))∧Below wO.heap.size wO wr) (fun _ j _=>n-(intOf j).toNat)
   case atStart=>exact ⟨0,_,rfl,Nat.zero_le _,rfl,f2,b2⟩
   case round =>
    obtain ⟨i,y,rfl,hi,rfl,hfy,hby⟩:=hrel;have hl:=HL.out i (k+1);by_cases hin:i<n
    ·have HS2:=zTD (HS.out i (k+1));have i2:(i:Int)<(n:Int):=by omega
     by_cases hbit:(k+1) / 2 ^ i % 2=1
     ·have e1:(bits BinOp.and IntKind.i64 (((k:Int)+1) / 2 ^ i) 1 == 1)=true:=by rw [show ((k:Int)+1)=((k+1:Nat):Int) by omega]; exact zKC hbit
      have HS3:Hid (zAT (i+1) (k+1)=zAT i (k+1)++[(i:Int)]):=zTD (by rw [HS2.out,if_pos hbit]);clear hbit;have bb:∀wr:World,Below wr.heap.size wr (wr.alloc (.cells #[.int .i64 i] 3)):=fun wr=>(Below.refl wr.heap.size wr).alloc (zTI _) _;go_wp2_with (at_builtin; go_must (refine zAL (W:=wO) rfl _ _ rfl rfl (hfy.grow (bb _)) (zAC.step hby (bb _)) rfl (RI.one _ i) ?_ ?_))
      ·simp; omega
      ·intro v' w3 f3 b3 hg3;go_wp2_with fail
       go_roundw
       case rel=>exact ⟨i+1,_,rfl,by omega,by go_num,by rw [HS3.out]; exact f3,b3⟩
       case measure=>simp [intOf]; omega
     ·have e1:(bits BinOp.and IntKind.i64 (((k:Int)+1) / 2 ^ i) 1 == 1)=false:=by rw [show ((k:Int)+1)=((k+1:Nat):Int) by omega]; exact zL3 hbit
      have HS3:Hid (zAT (i+1) (k+1)=zAT i (k+1)):=zTD (by rw [HS2.out,if_neg hbit]; simp);clear hbit;go_wp2_with fail
      go_roundw
      case rel=>exact ⟨i+1,_,rfl,by omega,by go_num,by rw [HS3.out]; exact hfy,hby⟩
      case measure=>simp [intOf]; omega
    ·have hin2:i=n:=by omega
     subst hin2;have hf2:=hf.grow hby;have hb2:=zAC.step hb hby;have hs0:w.heap.size≤wO.heap.size:=hb.size;obtain ⟨ay,cy,rfl⟩:=hfy.form;generalize (zAT i (k+1)).length=ly at *;have hy:RI (New w wr) wr (.slice ay ly cy) (zAT i (k+1)):=hfy.reads.mono (fun b hb'=>⟨Nat.le_trans hs0 hb'.1,hb'.2⟩);have bb:Below wr.heap.size wr (wr.alloc (.cells #[.slice ay ly cy] 29)):=(Below.refl _ _).alloc (zTI _) _;have hcn:(wr.alloc (.cells #[.slice ay ly cy] 29)).cell? ⟨wr.heap.size,0,none⟩=some (.slice ay ly cy):=by go_simp
     have hln:A.length+1≤67108864:=by have:=HLEN.out; omega
     go_wp2_with (at_builtin; go_must (refine zBg (W:=w) rfl _ _ rfl rfl (hf2.grow bb) (zAC.step hb2 bb) rfl hcn ((hy.below bb).mono (fun b hb'=>⟨hb'.1,Nat.lt_of_lt_of_le hb'.2 bb.size⟩)) hln ?_))
     intro v' w4 f4 b4 _;go_wp2_with fail
     go_roundw
     case rel=>exact ⟨k+1,_,rfl,hlt,by go_num,by rw [HST.out]; exact f4,b4⟩
     case measure=>simp [intOf]; omega
  ·have i1:¬((k:Int)+1<wrap64 (2 ^ n)):=fun h=>hlt ((zFa hn).1 h);have HR:Hid (A=zCz n (2 ^ n-1)):=zTD (by rw [<-hA]; congr 1; omega);clear hA hlt;go_wp2_with fail
   go_ret
   exact ⟨_,rfl,by rw [<-HR.out]; exact hf,hb⟩
def rowL (c:List (List Int)) (i:Int) (l:List Int):List Int:=l.map fun j=>ent c i.toNat j.toNat
def subL (c:List (List Int)) (l:List Int):List (List Int):=l.map fun i=>rowL c i l
theorem zNZ (c:List (List Int)) (n k:Nat):subL c (zAT n k)=Fin.sub c (Fin.bits n k):=by
 simp only [subL,rowL,zAT,Fin.sub,List.map_map];refine List.map_congr_left fun i _=>?_;simp only [Function.comp_def];refine List.map_congr_left fun j _=>?_;simp only [Int.toNat_natCast];rfl
theorem zE9 {c:List (List Int)} {i:Int} {l:List Int} {k:Nat} {x:Int} (h:l[k]? = some x):rowL c i (l.take (k+1))=rowL c i (l.take k)++[ent c i.toNat x.toNat]:=by
 rw [zAP h]; simp [rowL]
theorem zFF {c:List (List Int)} {l:List Int} {k:Nat} {x:Int} (h:l[k]? = some x):(l.take (k+1)).map (fun i=>rowL c i l)=(l.take k).map (fun i=>rowL c i l)++[rowL c x l]:=by
 rw [zAP h]; simp
def Pts (n:Nat) (l:List Int):Prop:=∀(j:Nat) (x:Int),l[j]? = some x→∃i:Nat,x=(i:Int)∧i<n
theorem zGg {S S':Nat→Prop} {u v:Value} {c:List (List Int)} {l:List Int} {w:World} {n:Nat} (h:RII S w u c) (h':RI S' w v l) (hsq:Sq c n) (hp:Pts n l) (_:n≤4) (hl:l.length≤16777216) :
  Calls Tryz.prog 107 #[u,v] w fun e w'=>∃r,e=.returned r∧FR (New w w') w' r (subL c l)∧Below w.heap.size w w':=by
 obtain ⟨a,cap,rfl⟩:=h.form;obtain ⟨a',cap',rfl⟩:=h'.form;rw [hsq.len] at h ⊢;have HS:=zTD hsq;have HP:=zTD hp;clear hsq hp;obtain ⟨A,hA⟩:∃A:Nat→List (List Int),∀k,A k=(l.take k).map (fun i=>rowL c i l):=⟨_,fun _=>rfl⟩;have HA0:Hid (A 0=[]):=zTD (by rw [hA]; simp);have HAn:Hid (A l.length=subL c l):=zTD (by rw [hA]; simp [subL]);have HAS:Hid (∀k x,l[k]? = some x→A (k+1)=A k++[rowL c x l]):=zTD (fun k x hx=>by rw [hA,hA]; exact zFF hx);have HAL:Hid (∀k,(A k).length≤k):=zTD (fun k=>by rw [hA]; simp; omega);clear hA;have HB0:Hid (∀x,rowL c x (l.take 0)=[]):=zTD (fun x=>by simp [rowL]);have HBn:Hid (∀x,rowL c x (l.take l.length)=rowL c x l):=zTD (fun x=>by simp);have HBL:Hid (∀x k,(rowL c x (l.take k)).length≤k):=zTD (fun x k=>by simp [rowL]; omega);generalize hm:l.length=m at *
 have HM:=zTD hm;clear hm;go_enter Tryz.func107,Tryz.ntmps107
 go_wp2_with fail
 obtain ⟨w1,hw1⟩:∃w1,w1=w.alloc (.cells #[] 29):=⟨_,rfl⟩;obtain ⟨f1,b1⟩:=FR.empty_of (Below.refl _ w) hw1;rw [<-hw1];clear hw1;rw [<-HA0.out] at f1;go_loopw [5,14] (fun zz j wr=>∃(k:Nat) (z:Value),z=zz∧k≤m∧j=.int .i64 k∧FR (New w wr) wr z (A k)∧Below w.heap.size w wr) (fun _ j _=>m-(intOf j).toNat)
 case atStart=>exact ⟨0,_,rfl,Nat.zero_le _,rfl,f1,b1⟩
 case round =>
  obtain ⟨k,z,rfl,hk,rfl,hf,hb⟩:=hrel;have hal:=HAL.out k;by_cases hlt:k<m
  ·obtain ⟨b,o,x,rfl,hc,hx⟩:=(h'.below hb).at hlt;obtain ⟨i,rfl,hi⟩:=HP.out k x hx.out;have HST:=zTD (HAS.out k _ hx.out);have hb0:=HB0.out (i:Int);obtain ⟨b2,o2,r,r0,rfl,hcr,hr,hr0⟩:=(h.below hb).at hi;obtain ⟨ar,cr,rfl⟩:=hr.form;have hln:r0.length=n:=HS.out.row i r0 hr0.out;rw [hln] at hr hcr;clear hln;generalize A k=Ak at *;have i1:(k:Int)<(m:Int):=by omega
   go_wp2_with fail
   obtain ⟨w2,hw2⟩:∃w2,w2=wr.alloc (.cells #[] 3):=⟨_,rfl⟩;obtain ⟨f2,b2'⟩:=zAN (Below.refl _ wr) hw2;rw [<-hw2];clear hw2;rw [<-hb0] at f2;clear hb0;generalize wr=wO at *;go_loopw [8,21] (fun yy j wr=>∃(q:Nat) (y:Value),y=yy∧q≤m∧j=.int .i64 q∧FI (New wO wr) wr y (rowL c i (l.take q))∧Below wO.heap.size wO wr) (fun _ j _=>m-(intOf j).toNat)
   case atStart=>exact ⟨0,_,rfl,Nat.zero_le _,rfl,f2,b2'⟩
   case round =>
    obtain ⟨q,y,rfl,hq,rfl,hfy,hby⟩:=hrel;by_cases hltq:q<m
    ·obtain ⟨b3,o3,x3,e3,hc3,hx3⟩:=(h'.below (zAC.step hb hby)).at hltq;simp only [Option.some.injEq,Addr.mk.injEq,and_true] at e3;obtain ⟨rfl,rfl⟩:=e3;obtain ⟨j,rfl,hj⟩:=HP.out q x3 hx3.out;have hcr':=(hby.cell (p:=⟨b2,o2+i,none⟩) (zTH wO _ hcr)).trans hcr;obtain ⟨b4,o4,y4,rfl,hc4,hx4⟩:=(hr.below hby).at hj;have HS2:Hid (rowL c i (l.take (q+1))=rowL c i (l.take q)++[y4]):=zTD (by rw [zE9 hx3.out]; simp only [Int.toNat_natCast]; rw [zB0 hr0.out hx4.out]);have hbl:=HBL.out (i:Int) q;have i2:(q:Int)<(m:Int):=by omega
     generalize rowL c i (l.take q)=R at *;have bb:∀wr:World,Below wr.heap.size wr (wr.alloc (.cells #[.int .i64 y4] 3)):=fun wr=>(Below.refl wr.heap.size wr).alloc (zTI _) _;go_wp2_with (at_builtin; go_must (refine zAL (W:=wO) rfl _ _ rfl rfl (hfy.grow (bb _)) (zAC.step hby (bb _)) rfl (RI.one _ y4) ?_ ?_))
     ·simp; omega
     ·intro v' w3 f3 b3 hg3;go_wp2_with fail
      go_roundw
      case rel=>exact ⟨q+1,_,rfl,by omega,by go_num,by rw [HS2.out]; exact f3,b3⟩
      case measure=>simp [intOf]; omega
    ·have hqm:q=m:=by omega
     have hbn:=HBn.out (i:Int);rw [hqm,hbn] at hfy;have hf2:=hf.grow hby;have hb2:=zAC.step hb hby;have hs0:w.heap.size≤wO.heap.size:=hb.size;obtain ⟨ay,cy,rfl⟩:=hfy.form;clear hbn hqm;generalize rowL c i l=R at *;generalize R.length=ly at *;have hy:RI (New w wr) wr (.slice ay ly cy) R:=hfy.reads.mono (fun b hb'=>⟨Nat.le_trans hs0 hb'.1,hb'.2⟩);have bb:Below wr.heap.size wr (wr.alloc (.cells #[.slice ay ly cy] 29)):=(Below.refl _ _).alloc (zTI _) _;have hcn:(wr.alloc (.cells #[.slice ay ly cy] 29)).cell? ⟨wr.heap.size,0,none⟩=some (.slice ay ly cy):=by go_simp
     have hln:Ak.length+1≤67108864:=by omega
     have i2:¬(q:Int)<(m:Int):=by omega
     go_wp2_with (at_builtin; go_must (refine zBg (W:=w) rfl _ _ rfl rfl (hf2.grow bb) (zAC.step hb2 bb) rfl hcn ((hy.below bb).mono (fun b hb'=>⟨hb'.1,Nat.lt_of_lt_of_le hb'.2 bb.size⟩)) hln ?_))
     intro v' w4 f4 b4 _;go_wp2_with fail
     go_roundw
     case rel=>exact ⟨k+1,_,rfl,by omega,by go_num,by rw [HST.out]; exact f4,b4⟩
     case measure=>simp [intOf]; omega
  ·have hkm:k=m:=by omega
   have HF:Hid (A k=subL c l):=zTD (by rw [hkm,HAn.out]);have i1:¬(k:Int)<(m:Int):=by omega
   clear hkm;go_wp2_with fail
   go_ret
   exact ⟨_,rfl,by rw [<-HF.out]; exact hf,hb⟩
def Asc (l:List Int):Prop:=∀(j:Nat) (x y:Int),l[j]? = some x→l[j+1]? = some y→x<y
theorem zRN {S S':Nat→Prop} {u v:Value} {c:List (List Int)} {l:List Int} {w:World} (h:RII S w u c) (h':RI S' w v l) (hc:CartanP c) (hl:total c≤16777216) (hp:Pts c.length l) (ha:Asc l) (hl':l.length≤16777216) :
  Calls Tryz.prog 85 #[u,v] w fun e w'=>e=.returned (.bool true)∧∃m,w'=w.drewN m:=by
 have hC:=zTD (zAS.2 hc);have hn4:=hc.le;obtain ⟨a,cap,rfl⟩:=h.form;obtain ⟨a',cap',rfl⟩:=h'.form;have HP:=zTD hp;have HA:=zTD ha;clear hp ha hc;generalize hn:c.length=n at *;have HN:=zTD hn;clear hn;generalize hm:l.length=m at *;have HM:=zTD hm;clear hm;go_enter Tryz.func85,Tryz.ntmps85
 go_wp2_with fail
 go_loopw [5] (fun j wr=>∃(k:Nat),k≤m∧j=.int .i64 k∧Hid (∃d,wr=w.drewN d)) (fun j _=>m-(intOf j).toNat)
 case atStart=>exact ⟨0,Nat.zero_le _,rfl,zTD dr0⟩
 case round =>
  obtain ⟨k,hk,rfl,HW⟩:=hrel;have hb:Below w.heap.size w wr:=by obtain ⟨d,rfl⟩:=HW.out; exact below_drewN (Below.refl _ w) d
  by_cases hlt:k<m
  ·obtain ⟨b,o,x,rfl,hcx,hx⟩:=(h'.below hb).at hlt;obtain ⟨i,rfl,hi⟩:=HP.out k x hx.out;have i1:(k:Int)<(m:Int):=by omega
   have hw1:IntKind.i64.wrap ((n:Int)-1)=(n:Int)-1:=IntWalk.i64_in _ (by omega);have HQ:Hid (∀w':World,Calls Tryz.prog 138 #[.int .i64 (i:Int),.int .i64 0,.int .i64 ((n:Int)-1)] w' fun e w''=>e=.returned (.bool true)∧w''=w') :=
    zTD (fun w'=>(zCp i 0 ((n:Int)-1) w').mono fun e w'' ⟨h1,h2⟩=>⟨by rw [h1,zDK (by omega)],h2.symm⟩)
   rcases k with _ | k
   ·have e0:decide ((0:Int)<0)=false:=by decide
    rw [show (((0:Nat):Int))=0 from rfl];rw [Nat.add_zero] at hcx;go_wp2_with fail
    go_quiet ((go_at_call 138; exact Calls.quiet_of_same (HQ.out _)))
    clear hw1;go_wp2_with fail
    go_roundw
    case rel=>exact ⟨1,by omega,by go_num,zTD (by obtain ⟨d,rfl⟩:=HW.out; exact ⟨d+nq,by simp⟩)⟩
    case measure=>simp [intOf]; omega
   ·obtain ⟨b2,o2,y,e2,hcy,hy⟩:=(h'.below hb).at (j:=k) (by omega);simp only [Option.some.injEq,Addr.mk.injEq,and_true] at e2;obtain ⟨rfl,rfl⟩:=e2;have hlt2:=HA.out k y i hy.out hx.out;have e0:decide ((0:Int)<(k:Int)+1)=true:=decide_eq_true (by omega);have e1:decide ((i:Int)≤y)=false:=decide_eq_false (by omega);have j1:IntKind.i64.wrap ((k:Int)+1-1)=(k:Int):=(IntWalk.i64_in _ (by omega)).trans (by omega);have j2:(0:Int)≤(k:Int):=by omega
    have j3:(k:Int)<(m:Int):=by omega
    have j4:((k:Int)).toNat=k:=by omega
    go_wp2_with fail
    go_quiet ((go_at_call 138; exact Calls.quiet_of_same (HQ.out _)))
    clear hw1 j1;go_wp2_with fail
    go_roundw
    case rel=>exact ⟨k+1+1,by omega,by go_num,zTD (by obtain ⟨d,rfl⟩:=HW.out; exact ⟨d+nq,by simp⟩)⟩
    case measure=>simp [intOf]; omega
  ·have i1:¬(k:Int)<(m:Int):=by omega
   have h2:=h.below hb;go_wp2_with fail
   refine (zAr h2 hl).mono ?_;rintro e w5 ⟨rfl,hw5⟩;rw [hC.out];go_wp2_with fail
   go_ret
   refine ⟨rfl,?_⟩;obtain ⟨d,rfl⟩:=HW.out;obtain ⟨d',rfl⟩:=hw5;exact ⟨d+d',by simp⟩
theorem zEf {S S':Nat→Prop} {u v:Value} {c:List (List Int)} {l:List Int} {w:World} (h:RII S w u c) (h':RI S' w v l) (hc:CartanP c) (hl:total c≤16777216) (hp:Pts c.length l) (ha:Asc l) (hl0:1≤l.length) (hl':l.length≤16777216) :
  Calls Tryz.prog 48 #[u,v] w fun e w'=>∃r,e=.returned (.tuple #[r,.bool true])∧FR (New w w') w' r (subL c l)∧Below w.heap.size w w':=by
 have hn4:=hc.le;obtain ⟨a,cap,rfl⟩:=h.form;obtain ⟨a',cap',rfl⟩:=h'.form;have HP:=zTD hp;have HASC:=zTD ha;have HS:=zTD hc.sq;have HC:=zTD hc;clear hp ha hc;obtain ⟨A,hA⟩:∃A:Nat→List (List Int),∀k,A k=(l.take k).map (fun i=>rowL c i l):=⟨_,fun _=>rfl⟩;have HA0:Hid (A 0=[]):=zTD (by rw [hA]; simp);have HAn:Hid (A l.length=subL c l):=zTD (by rw [hA]; simp [subL]);have HAS:Hid (∀k x,l[k]? = some x→A (k+1)=A k++[rowL c x l]):=zTD (fun k x hx=>by rw [hA,hA]; exact zFF hx);have HAL:Hid (∀k,(A k).length≤k):=zTD (fun k=>by rw [hA]; simp; omega);clear hA;have HB0:Hid (∀x,rowL c x (l.take 0)=[]):=zTD (fun x=>by simp [rowL]);have HBn:Hid (∀x,rowL c x (l.take l.length)=rowL c x l):=zTD (fun x=>by simp);have HBL:Hid (∀x k,(rowL c x (l.take k)).length≤k):=zTD (fun x k=>by simp [rowL]; omega)
 have HL':=zTD hl';generalize hm:l.length=m at *;have HM:=zTD hm;clear hm;have z0:((m:Int) == 0)=false:=by simp; omega
 go_enter Tryz.func48,Tryz.ntmps48
 go_wp2_with fail
 obtain ⟨w1,hw1⟩:∃w1,w1=w.alloc (.cells #[] 29):=⟨_,rfl⟩;obtain ⟨f1,b1⟩:=FR.empty_of (Below.refl _ w) hw1;rw [<-hw1];clear hw1;rw [<-HA0.out] at f1;refine (zRN (h.below b1) (h'.below b1) HC.out hl HP.out HASC.out (by rw [HM.out]; exact HL'.out)).mono ?_;rintro e w2 ⟨rfl,hw2⟩;have b2:=zAu hw2;clear hw2;have f1:=f1.grow b2;have b1:=zAC.step b1 b2;clear b2;go_wp2_with fail
 generalize hn:c.length=n at *;have HN:=zTD hn;clear hn;go_loopw [6,7] (fun zz j wr=>∃(k:Nat) (z:Value),z=zz∧k≤m∧j=.int .i64 k∧FR (New w wr) wr z (A k)∧Below w.heap.size w wr) (fun _ j _=>m-(intOf j).toNat)
 case atStart=>exact ⟨0,_,rfl,Nat.zero_le _,rfl,f1,b1⟩
 case round =>
  obtain ⟨k,z,rfl,hk,rfl,hf,hb⟩:=hrel;have hal:=HAL.out k;by_cases hlt:k<m
  ·obtain ⟨b,o,x,rfl,hc0,hx⟩:=h'.at hlt;obtain ⟨i,rfl,hi⟩:=HP.out k x hx.out;have HST:=zTD (HAS.out k _ hx.out);have hb0:=HB0.out (i:Int);obtain ⟨b2,o2,r,r0,rfl,hcr0,hr,hr0⟩:=h.at hi;obtain ⟨ar,cr,rfl⟩:=hr.form;have hln:r0.length=n:=HS.out.row i r0 hr0.out;rw [hln] at hr hcr0;clear hln;generalize A k=Ak at *;have i1:(k:Int)<(m:Int):=by omega
   go_wp2_with fail
   obtain ⟨w2,hw2⟩:∃w2,w2=wr.alloc (.cells #[] 3):=⟨_,rfl⟩;obtain ⟨f2,b2'⟩:=zAN (Below.refl _ wr) hw2;rw [<-hw2];clear hw2;rw [<-hb0] at f2;clear hb0;generalize wr=wO at *;go_loopw [8,9] (fun yy j wr=>∃(q:Nat) (y:Value),y=yy∧q≤m∧j=.int .i64 q∧FI (New wO wr) wr y (rowL c i (l.take q))∧Below wO.heap.size wO wr) (fun _ j _=>m-(intOf j).toNat)
   case atStart=>exact ⟨0,_,rfl,Nat.zero_le _,rfl,f2,b2'⟩
   case round =>
    obtain ⟨q,y,rfl,hq,rfl,hfy,hby⟩:=hrel;have hb2:=zAC.step hb hby;by_cases hltq:q<m
    ·obtain ⟨b3,o3,x3,e3,hc30,hx3⟩:=h'.at hltq;simp only [Option.some.injEq,Addr.mk.injEq,and_true] at e3;obtain ⟨rfl,rfl⟩:=e3;obtain ⟨j,rfl,hj⟩:=HP.out q x3 hx3.out;obtain ⟨b4,o4,y4,rfl,hc40,hx4⟩:=hr.at hj;have l0:=zTH w _ hc0;have l2:=zTH w _ hcr0;have l4:=zTH w _ hc40;have hc:=(hb2.cell (p:=⟨b,o+k,none⟩) l0).trans hc0;have hc3:=(hb2.cell (p:=⟨b,o+q,none⟩) l0).trans hc30;have hcr:=(hb2.cell (p:=⟨b2,o2+i,none⟩) l2).trans hcr0;have hc4:=(hb2.cell (p:=⟨b4,o4+j,none⟩) l4).trans hc40;have hF:=zTD (fun (k:Nat) hk=>Nat.le_trans hb.size (hfy.2 k hk).1);have HS2:Hid (rowL c i (l.take (q+1))=rowL c i (l.take q)++[y4]):=zTD (by rw [zE9 hx3.out]; simp only [Int.toNat_natCast]; rw [zB0 hr0.out hx4.out]);have hbl:=HBL.out (i:Int) q;have i2:(q:Int)<(m:Int):=by omega
     have i3:(i:Int)<(n:Int):=by omega
     have i4:(j:Int)<(n:Int):=by omega
     generalize rowL c i (l.take q)=R at *;have bbd:Below wr.heap.size wr (wr.alloc (.cells #[.int .i64 y4] 3)).drew:=((Below.refl _ _).alloc (zTI _) _).drew;have hcn:(wr.alloc (.cells #[.int .i64 y4] 3)).drew.cell? ⟨wr.heap.size,0,none⟩=some (.int .i64 y4):=by go_simp
     have hfn:=hfy.grow bbd;have hbn:=zAC.step hby bbd;have hln2:R.length+1≤67108864:=by omega
     clear hc30 hc40;go_wp2_with fail
     go_region_held3 (fun w'=>w'.cell? ⟨b,o+k,none⟩=some (.int .i64 i)∧w'.cell? ⟨b,o+q,none⟩=some (.int .i64 j)∧w'.cell? ⟨b2,o2+i,none⟩=some (.slice (some ⟨b4,o4,none⟩) n cr)∧w'.cell? ⟨b4,o4+j,none⟩=some (.int .i64 y4)) (first | go_keep | (go_split_ands; exact ⟨zA6 hgrow (by assumption) l0 hF.out,zA6 hgrow (by assumption) l0 hF.out,zA6 hgrow (by assumption) l2 hF.out,zA6 hgrow (by assumption) l4 hF.out⟩)) ((refine zFC (W:=wO) (by rfl) _ _ (by rfl) (by rfl) hfn hbn (by rfl) hcn hln2 ?_; intro v' w3 f3 b5 hgrow))
     clear hc hc3 hcr hc4;go_wp2_with fail
     go_roundw
     case rel=>exact ⟨q+1,_,rfl,by omega,by go_num,by rw [HS2.out]; exact f3,b5⟩
     case measure=>simp [intOf]; omega
    ·have hqm:q=m:=by omega
     have hbn:=HBn.out (i:Int);rw [hqm,hbn] at hfy;have hf2:=hf.grow hby;have hs0:w.heap.size≤wO.heap.size:=hb.size;obtain ⟨ay,cy,rfl⟩:=hfy.form;clear hbn hqm;generalize rowL c i l=R at *;generalize R.length=ly at *;have hy:RI (New w wr) wr (.slice ay ly cy) R:=hfy.reads.mono (fun b hb'=>⟨Nat.le_trans hs0 hb'.1,hb'.2⟩);have bb:Below wr.heap.size wr (wr.alloc (.cells #[.slice ay ly cy] 29)):=(Below.refl _ _).alloc (zTI _) _;have hcn:(wr.alloc (.cells #[.slice ay ly cy] 29)).cell? ⟨wr.heap.size,0,none⟩=some (.slice ay ly cy):=by go_simp
     have hln:Ak.length+1≤67108864:=by have:=HL'.out; omega
     have i2:¬(q:Int)<(m:Int):=by omega
     go_wp2_with (at_builtin; go_must (refine zBg (W:=w) rfl _ _ rfl rfl (hf2.grow bb) (zAC.step hb2 bb) rfl hcn ((hy.below bb).mono (fun b hb'=>⟨hb'.1,Nat.lt_of_lt_of_le hb'.2 bb.size⟩)) hln ?_))
     intro v' w4 f4 b4 _;go_wp2_with fail
     go_roundw
     case rel=>exact ⟨k+1,_,rfl,by omega,by go_num,by rw [HST.out]; exact f4,b4⟩
     case measure=>simp [intOf]; omega
  ·have hkm:k=m:=by omega
   have HF:Hid (A k=subL c l):=zTD (by rw [hkm,HAn.out]);have i1:¬(k:Int)<(m:Int):=by omega
   clear hkm;go_wp2_with fail
   go_ret2
   exact ⟨_,rfl,by rw [<-HF.out]; exact hf,hb⟩
theorem zJz {S:Nat→Prop} {u:Value} {m:List (List Int)} {w:World} {n:Nat} (h:RII S w u m) (hs:Fin.Sqr m (n+1)) (hn:n≤3) (c:Nat) :
  Calls Tryz.prog 192 #[u,.int .i64 c] w fun e w'=>∃r,e=.returned r∧FR (New w w') w' r (Fin.without m c)∧Below w.heap.size w w':=by
 obtain ⟨a,cap,rfl⟩:=h.form;have HROW:=zTD hs.row;have HL:=zTD hs.len;rw [hs.len] at h ⊢;have HR:Hid (((m.drop 1).take n).map (Fin.cut c)=Fin.without m c):=zTD (by rw [List.take_of_length_le (by have:=hs.len; simp; omega)]; rfl);have HR0:Hid (((m.drop 1).take 0).map (Fin.cut c)=[]):=zTD (by simp);clear hs;go_enter Tryz.func192,Tryz.ntmps192
 go_wp2_with fail
 obtain ⟨w1,hw1⟩:∃w1,w1=w.alloc (.cells #[] 29):=⟨_,rfl⟩;obtain ⟨f1,b1⟩:=FR.empty_of (Below.refl _ w) hw1;rw [<-hw1];clear hw1;rw [<-HR0.out] at f1;go_loopw [5,6] (fun z j wr=>∃(k:Nat),k≤n∧j=.int .i64 ((k:Int)+1)∧FR (New w wr) wr z (((m.drop 1).take k).map (Fin.cut c))∧Below w.heap.size w wr) (fun _ j _=>n+1-(intOf j).toNat)
 case atStart=>exact ⟨0,Nat.zero_le _,by go_num,f1,b1⟩
 case round =>
  obtain ⟨k,hk,rfl,hf,hb⟩:=hrel;by_cases hlt:k<n
  ·obtain ⟨b,o,r,l,rfl,hc,hr,hl⟩:=(h.below hb).at (j:=k+1) (by omega);obtain ⟨ar,cr,rfl⟩:=hr.form;have hln:l.length=n+1:=HROW.out l (zTF hl.out);rw [hln] at hr hc;have HST:=zTD (Fin.without_step (j:=c) hl.out);have HC0:Hid (Fin.cut c (l.take 0)=[]):=zTD (by simp [Fin.cut]);have HC1:Hid (Fin.cut c (l.take (n+1))=Fin.cut c l):=zTD (by rw [<-hln]; simp);have HCL:Hid (∀q,q≤n+1→(Fin.cut c (l.take q)).length≤q):=zTD (fun q hq=>by simp [Fin.cut]; omega);clear hln;have i1:(k:Int)+1<((n+1:Nat):Int):=by omega
   go_wp2_with fail
   obtain ⟨w2,hw2⟩:∃w2,w2=wr.alloc (.cells #[] 3):=⟨_,rfl⟩;obtain ⟨f2,b2⟩:=zAN (Below.refl _ wr) hw2;rw [<-hw2];clear hw2;rw [<-HC0.out] at f2;generalize wr=wO at *;go_loopw [7,8] (fun yy j w'=>∃(q:Nat) (y:Value),y=yy∧q≤n+1∧j=.int .i64 q∧FI (New wO w') w' y (Fin.cut c (l.take q))∧Below wO.heap.size wO w') (fun _ j _=>n+1-(intOf j).toNat)
   case atStart=>exact ⟨0,_,rfl,Nat.zero_le _,rfl,f2,b2⟩
   case round =>
    obtain ⟨q,y,rfl,hq,rfl,hfy,hby⟩:=hrel;by_cases hltq:q<n+1
    ·obtain ⟨b',o',x,rfl,hcx,hx⟩:=(hr.below hby).at hltq;have hc':=(hby.cell (p:=⟨b,o+(k+1),none⟩) (zTH wO _ hc)).trans hc;have HCS:=zTD (Fin.cut_step (j:=c) hx.out);have hlen:=HCL.out q hq;have i2:(q:Int)<((n+1:Nat):Int):=by omega
     by_cases hqc:q=c
     ·have HCS2:Hid (Fin.cut c (l.take (q+1))=Fin.cut c (l.take q)):=zTD (by rw [HCS.out,if_pos hqc]);have e1:((q:Int) != (c:Int))=false:=by simp; omega
      clear hqc;go_wp2_with fail
      go_roundw
      case rel=>exact ⟨q+1,_,rfl,by omega,by go_num,by rw [HCS2.out]; exact hfy,hby⟩
      case measure=>simp [intOf]; omega
     ·have HCS2:Hid (Fin.cut c (l.take (q+1))=Fin.cut c (l.take q)++[x]):=zTD (by rw [HCS.out,if_neg hqc]);have e1:((q:Int) != (c:Int))=true:=by simp; omega
      clear hqc;have bb:∀wr:World,Below wr.heap.size wr (wr.alloc (.cells #[.int .i64 x] 3)):=fun wr=>(Below.refl wr.heap.size wr).alloc (zTI _) _;go_wp2_with (at_builtin; go_must (refine zAL (W:=wO) rfl _ _ rfl rfl (hfy.grow (bb _)) (zAC.step hby (bb _)) rfl (RI.one _ x) ?_ ?_))
      ·simp; omega
      ·intro v' w3 f3 b3 hg3;go_wp2_with fail
       go_roundw
       case rel=>exact ⟨q+1,_,rfl,by omega,by go_num,by rw [HCS2.out]; exact f3,b3⟩
       case measure=>simp [intOf]; omega
    ·have hqn:q=n+1:=by omega
     subst hqn;rw [HC1.out] at hfy;obtain ⟨ay,cy,rfl⟩:=hfy.form;generalize (Fin.cut c l).length=ly at *;have hf2:=hf.grow hby;have hb2:=zAC.step hb hby;have hs0:w.heap.size≤wO.heap.size:=hb.size;have hy:RI (New w wr) wr (.slice ay ly cy) (Fin.cut c l):=hfy.reads.mono (fun b hb'=>⟨Nat.le_trans hs0 hb'.1,hb'.2⟩);have bb:Below wr.heap.size wr (wr.alloc (.cells #[.slice ay ly cy] 29)):=(Below.refl _ _).alloc (zTI _) _;have hcn:(wr.alloc (.cells #[.slice ay ly cy] 29)).cell? ⟨wr.heap.size,0,none⟩=some (.slice ay ly cy):=by go_simp
     have hln:(((m.drop 1).take k).map (Fin.cut c)).length+1≤67108864:=by simp; omega
     generalize ((m.drop 1).take k).map (Fin.cut c)=acc at *;go_wp2_with (at_builtin; go_must (refine zBg (W:=w) rfl _ _ rfl rfl (hf2.grow bb) (zAC.step hb2 bb) rfl hcn ((hy.below bb).mono (fun b hb'=>⟨hb'.1,Nat.lt_of_lt_of_le hb'.2 bb.size⟩)) hln ?_))
     intro v' w4 f4 b4 _;go_wp2_with fail
     go_roundw
     case rel=>exact ⟨k+1,by omega,by go_num,by rw [HST.out]; exact f4,b4⟩
     case measure=>simp [intOf]; omega
  ·have hkn:k=n:=by omega
   subst hkn;go_wp2_with fail
   go_ret
   exact ⟨_,rfl,by rw [<-HR.out]; exact hf,hb⟩
theorem zFZ {k:Nat} (h:k % 2=1) (x:Int):Fin.sgn k x = -x:=by unfold Fin.sgn; rw [if_pos h]
theorem zET {k:Nat} (h:¬k % 2=1) (x:Int):Fin.sgn k x=x:=by unfold Fin.sgn; rw [if_neg h]
theorem zIh:∀(n:Nat) (S:Nat→Prop) (u:Value) (m:List (List Int)) (w:World),RII S w u m→Fin.Sqr m n→Fin.Small 2000 m→n≤4 →
  Calls Tryz.prog 164 #[u] w fun e w'=>e=.returned (.int .i64 (Fin.det n m))∧Below w.heap.size w w'
 | 0,S,u,m,w,h,hs,_,_=>by
  obtain ⟨a,cap,rfl⟩:=h.form;rw [hs.len];go_enter Tryz.func164,Tryz.ntmps164
  go_wp2_with fail
  go_ret
  exact ⟨rfl,Below.refl _ _⟩
 | n+1,S,u,m,w,h,hs,hsm,hn=>by
  have ih:=zTD (zIh n);obtain ⟨a,cap,rfl⟩:=h.form;have HS:=zTD hs;have HSM:=zTD hsm;rw [hs.len] at h ⊢;clear hs hsm;have HR:Hid (Fin.sum (fun j=>Fin.sgn j (Fin.en m 0 j*Fin.det n (Fin.without m j))) (n+1)=Fin.det (n+1) m):=zTD rfl;have HR0:Hid (Fin.sum (fun j=>Fin.sgn j (Fin.en m 0 j*Fin.det n (Fin.without m j))) 0=0):=zTD rfl;have HST:Hid (∀k,Fin.sum (fun j=>Fin.sgn j (Fin.en m 0 j*Fin.det n (Fin.without m j))) (k+1)=Fin.sum (fun j=>Fin.sgn j (Fin.en m 0 j*Fin.det n (Fin.without m j))) k+Fin.sgn k (Fin.en m 0 k*Fin.det n (Fin.without m k))):=zTD (fun _=>rfl);have HBD:Hid (∀k,k≤4→-384000000000000≤Fin.sum (fun j=>Fin.sgn j (Fin.en m 0 j*Fin.det n (Fin.without m j))) k∧Fin.sum (fun j=>Fin.sgn j (Fin.en m 0 j*Fin.det n (Fin.without m j))) k≤384000000000000):=zTD (fun k hk=>Fin.sum_bd (by omega) HSM.out hk)
  generalize Fin.det (n+1) m=res at *;generalize Fin.sum (fun j=>Fin.sgn j (Fin.en m 0 j*Fin.det n (Fin.without m j)))=sm at *;have z0:((n:Int)+1 == 0)=false:=by simp; omega
  go_enter Tryz.func164,Tryz.ntmps164
  go_wp2_with fail
  go_loopw [3,4] (fun d j wr=>∃(k:Nat) (s:Int),k≤n+1∧j=.int .i64 k∧d=.int .i64 s∧Hid (s=sm k)∧Below w.heap.size w wr) (fun _ j _=>n+1-(intOf j).toNat)
  case atStart=>exact ⟨0,0,Nat.zero_le _,rfl,rfl,zTD HR0.out.symm,Below.refl _ _⟩
  case round =>
   obtain ⟨k,s,hk,rfl,rfl,HSM2,hb⟩:=hrel;by_cases hlt:k<n+1
   ·obtain ⟨b,o,r,l,rfl,hc,hr,hl⟩:=(h.below hb).at (j:=0) (by omega);obtain ⟨ar,cr,rfl⟩:=hr.form;have hln:l.length=n+1:=HS.out.row l (zTF hl.out);rw [hln] at hr hc;rw [Nat.add_zero] at hc;clear hln;obtain ⟨b',o',x,rfl,hcx,hx⟩:=hr.at hlt;have HX:Hid (Fin.en m 0 k=x):=zTD (Fin.en_at hl.out hx.out);have hbd:=HBD.out k (by omega);rw [<-HSM2.out] at hbd;have hpd:=Fin.term_bd (n:=n) (by omega) HSM.out k;rw [HX.out] at hpd;have HSS:=HST.out k;rw [HX.out,<-HSM2.out] at HSS;have HSS2:=zTD HSS;clear HSS;have hw0:IntKind.i64.wrap (x*Fin.det n (Fin.without m k))=x*Fin.det n (Fin.without m k):=IntWalk.i64_in _ (by omega);have l1:=zTH wr _ hc;have l2:=zTH wr _ hcx;have i1:(k:Int)<((n+1:Nat):Int):=by omega
    generalize hD:Fin.det n (Fin.without m k)=D at *;have HD:=zTD hD;clear hD;go_wp2_with fail
    go_region_held3 (fun w'=>w'.cell? ⟨b,o,none⟩=some (.slice (some ⟨b',o',none⟩) (n+1) cr)∧w'.cell? ⟨b',o'+k,none⟩=some (.int .i64 x)) (first | go_keep | (go_split_ands; exact ⟨(b4.cell l1).trans (by go_simp),(b4.cell l2).trans (by go_simp)⟩) | (go_split_ands; exact ⟨(b5.cell (Nat.lt_of_lt_of_le l1 b4.size)).trans ((b4.cell l1).trans (by go_simp)),(b5.cell (Nat.lt_of_lt_of_le l2 b4.size)).trans ((b4.cell l2).trans (by go_simp))⟩)) (first
     | (go_at_call 192; refine (zJz ((h.below hb).drew) HS.out (by omega) k).mono ?_; rintro e w4 ⟨r4,rfl,f4,b4⟩)
     | (go_at_call 164; refine (ih.out _ _ _ _ f4.reads (HS.out.without (by omega)) (HSM.out.without k) (by omega)).mono ?_; rintro e w5 ⟨rfl,b5⟩; rw [HD.out]))
    have b14:Below wr.heap.size wr w4:=((Below.refl _ wr).drew).trans b4;have b15:=zAC.step (zAC.step hb b14) b5;clear b4 b5 b14 hw0;by_cases hk2:k % 2=1
    ·have HS3:Hid (sm (k+1)=s + -(x*D)):=zTD (by rw [HSS2.out,zFZ hk2]);have e1:((k:Int) % 2 == 1)=true:=by simp; omega
     clear hk2;go_wp2_with fail
     go_roundw
     case rel=>exact ⟨k+1,s + -(x*D),by omega,by go_num,by go_num,zTD HS3.out.symm,b15⟩
     case measure=>simp [intOf]; omega
    ·have HS3:Hid (sm (k+1)=s+x*D):=zTD (by rw [HSS2.out,zET hk2]);have e1:((k:Int) % 2 == 1)=false:=by simp; omega
     clear hk2;go_wp2_with fail
     go_roundw
     case rel=>exact ⟨k+1,s+x*D,by omega,by go_num,by go_num,zTD HS3.out.symm,b15⟩
     case measure=>simp [intOf]; omega
   ·have hkn:k=n+1:=by omega
    have e0:Hid (s=res):=zTD (by rw [HSM2.out,hkn,HR.out]);subst hkn;go_wp2_with fail
    go_ret
    exact ⟨zAR e0.out,hb⟩
theorem zQR {n:Nat} {S:Nat→Prop} {u:Value} {m:List (List Int)} {w:World} (h:RII S w u m) (hs:Fin.Sqr m n) (hm:Fin.Small 2000 m) (hn:n≤4) :
  Calls Tryz.prog 164 #[u] w fun e w'=>e=.returned (.int .i64 (Fin.det n m))∧Below w.heap.size w w':=zIh n S u m w h hs hm hn
def DetI (n:Nat):Prop:=∀(S:Nat→Prop) (u:Value) (m:List (List Int)) (w:World),RII S w u m→Fin.Sqr m n→Fin.Small 2000 m→n≤4 →
  Calls Tryz.prog 182 #[u] w fun e w'=>e=.returned (.int .i64 (Fin.det n m))∧Below w.heap.size w w'
theorem zOW:DetI 0:=by
 intro S u m w h hs _ _;obtain ⟨a,cap,rfl⟩:=h.form;rw [hs.len];go_enter Tryz.func182,Tryz.ntmps182
 go_wp2_with fail
 go_ret
 exact ⟨rfl,Below.refl _ _⟩
theorem zOX {n:Nat} (ih:DetI n):DetI (n+1):=by
 intro S u m w h hs hsm hn;have ih:=zTD ih;obtain ⟨a,cap,rfl⟩:=h.form;have HS:=zTD hs;have HSM:=zTD hsm;rw [hs.len] at h ⊢;have HLen:=zTD hs.len;clear hs hsm;have hcap:=h.cap.1;have HR:Hid (Fin.sum (fun j=>Fin.sgn j (Fin.en m 0 j*Fin.det n (Fin.without m j))) (n+1)=Fin.det (n+1) m):=zTD rfl;have HR0:Hid (Fin.sum (fun j=>Fin.sgn j (Fin.en m 0 j*Fin.det n (Fin.without m j))) 0=0):=zTD rfl;have HST:Hid (∀k,Fin.sum (fun j=>Fin.sgn j (Fin.en m 0 j*Fin.det n (Fin.without m j))) (k+1)=Fin.sum (fun j=>Fin.sgn j (Fin.en m 0 j*Fin.det n (Fin.without m j))) k+Fin.sgn k (Fin.en m 0 k*Fin.det n (Fin.without m k))):=zTD (fun _=>rfl)
 have HBD:Hid (∀k,k≤4→-384000000000000≤Fin.sum (fun j=>Fin.sgn j (Fin.en m 0 j*Fin.det n (Fin.without m j))) k∧Fin.sum (fun j=>Fin.sgn j (Fin.en m 0 j*Fin.det n (Fin.without m j))) k≤384000000000000):=zTD (fun k hk=>Fin.sum_bd (by omega) HSM.out hk);generalize Fin.det (n+1) m=res at *;generalize Fin.sum (fun j=>Fin.sgn j (Fin.en m 0 j*Fin.det n (Fin.without m j)))=sm at *;have z0:((n:Int)+1 == 0)=false:=by simp; omega
 obtain ⟨b,o,r0,l0,rfl,hc0,hr0,hl0⟩:=h.at (j:=0) (by omega);obtain ⟨ar0,cr0,rfl⟩:=hr0.form;have hln0:l0.length=n+1:=HS.out.row l0 (zTF hl0.out);rw [hln0] at hr0 hc0;rw [Nat.add_zero] at hc0;clear hln0;have hcases:cap=1∨1<cap:=by omega
 obtain ⟨A1,C1,hdr,hrun⟩:∃(A1 C1:Nat),RII S w (.slice (some ⟨b,A1,none⟩) n C1) (m.drop 1)∧((cap=1∧A1=o∧C1=0∧n=0)∨(1<cap∧A1=o+1∧C1=cap-1)):=by
  rcases hcases with hcp | hcp
  ·have hn0:n=0:=by omega
   subst hcp; subst hn0;exact ⟨o,0,h.cutEnd (zTI _) (by omega),.inl ⟨rfl,rfl,rfl,rfl⟩⟩
  ·exact ⟨o+1,cap-1,by simpa using h.cutFrom (k:=1) (by omega),.inr ⟨hcp,rfl,rfl⟩⟩
 clear hcases;rcases hrun with ⟨rfl,rfl,rfl,hn0⟩ | ⟨hcp1,rfl,rfl⟩
 rotate_left
 all_goals
  first
  |have hn0':n≤0:=by omega
   clear hn0
  | skip
  go_enter Tryz.func182,Tryz.ntmps182
  go_wp2_with fail
  go_loopw [3,4,17] (fun d g j wr=>∃(k:Nat) (s:Int),k≤n+1∧j=.int .i64 k∧d=.int .i64 s∧g=.int .i64 (Fin.sgn k 1)∧Hid (s=sm k)∧Below w.heap.size w wr) (fun _ _ j _=>n+1-(intOf j).toNat)
  case atStart=>exact ⟨0,0,Nat.zero_le _,rfl,rfl,rfl,zTD HR0.out.symm,Below.refl _ _⟩
  case round =>
   obtain ⟨k,s,hk,rfl,rfl,rfl,HSM2,hb⟩:=hrel;by_cases hlt:k<n+1
   ·obtain ⟨b',o',x,rfl,hcx,hx⟩:=(hr0.below hb).at hlt;have HX:Hid (Fin.en m 0 k=x):=zTD (Fin.en_at hl0.out hx.out);have hbd:=HBD.out k (by omega);rw [<-HSM2.out] at hbd;have hpd:=Fin.term_bd (n:=n) (by omega) HSM.out k;rw [HX.out] at hpd;have hxb:=HSM.out.en 0 k;rw [HX.out] at hxb;have HSS:=HST.out k;rw [HX.out,<-HSM2.out] at HSS;have HSS2:=zTD HSS;clear HSS;generalize hD:Fin.det n (Fin.without m k)=D at *;have HD:=zTD hD;clear hD;have hxb1:-2000≤x∧x≤2000:=by omega
    clear hxb;have i0:(k:Int)<(n:Int)+1:=by omega
    generalize wr=wO at *;have hsg:(Fin.sgn k 1=1∧Fin.sgn (k+1) 1 = -1∧∀y,Fin.sgn k y=y)∨(Fin.sgn k 1 = -1∧Fin.sgn (k+1) 1=1∧∀y,Fin.sgn k y = -y):=by
     by_cases h2:k % 2=1
     ·exact .inr ⟨zFZ h2 _,zET (by omega) _,fun y=>zFZ h2 y⟩
     ·exact .inl ⟨zET h2 _,zFZ (by omega) _,fun y=>zET h2 y⟩
    by_cases hx0:x=0
    ·subst hx0;have HS3:Hid (s=sm (k+1)):=zTD (by
      rw [HSS2.out,Int.zero_mul];rcases hsg with ⟨_,_,e⟩ | ⟨_,_,e⟩ <;> rw [e] <;> omega)
     rcases hsg with ⟨e1,e2,_⟩ | ⟨e1,e2,_⟩;all_goals
      rw [e1];have E2:=zTD e2;clear e1 e2 hpd;go_wp2_with fail
      go_roundw
      case rel=>exact ⟨k+1,s,by omega,by go_num,rfl,by rw [E2.out],HS3,hb⟩
      case measure=>simp [intOf]; omega
    ·have hx1:(x != 0)=true:=by simpa using hx0
     clear hx0;generalize Fin.sgn k 1=g at *;obtain ⟨A,hA⟩:∃A:Nat→List (List Int),∀q,A q=((m.drop 1).take q).map (Fin.cut k):=⟨_,fun _=>rfl⟩;have HA0:Hid (A 0=[]):=zTD (by rw [hA]; simp);have HAn:Hid (A n=Fin.without m k):=zTD (by rw [hA,List.take_of_length_le (by have:=HLen.out; simp; omega)]; rfl);have HAS:Hid (∀q r,m[q+1]? = some r→A (q+1)=A q++[Fin.cut k r]):=zTD (fun q r hr=>by rw [hA,hA]; exact Fin.without_step hr);have HAL:Hid (∀q,(A q).length≤q):=zTD (fun q=>by rw [hA]; simp; omega);clear hA;go_wp2_with fail
     obtain ⟨w1,hw1⟩:∃w1,w1=wO.alloc (.cells #[] 29):=⟨_,rfl⟩;obtain ⟨f1,b1⟩:=FR.empty_of (Below.refl _ wO) hw1;rw [<-hw1];clear hw1;rw [<-HA0.out] at f1;go_loopw [7,28] (fun vv j w'=>∃(q:Nat) (v:Value),v=vv∧q≤n∧j=.int .i64 q∧FR (New wO w') w' v (A q)∧Below wO.heap.size wO w') (fun _ j _=>n-(intOf j).toNat)
     case atStart=>exact ⟨0,_,rfl,Nat.zero_le _,rfl,f1,b1⟩
     case round =>
      obtain ⟨q,v,rfl,hq,rfl,hfm,hbm⟩:=hrel;by_cases hltq:q<n
      ·try (exfalso; omega)
       all_goals
        obtain ⟨b2,o2,r,l,e2,hcr,hr,hl⟩:=(hdr.below (zAC.step hb hbm)).at hltq;simp only [Option.some.injEq,Addr.mk.injEq,and_true] at e2;obtain ⟨rfl,rfl⟩:=e2;have hl1:m[q+1]? = some l:=by have:=hl.out; rw [List.getElem?_drop,Nat.add_comm] at this; exact this
        have HST:=zTD (HAS.out q l hl1);have hal:=HAL.out q;obtain ⟨ar,cr,rfl⟩:=hr.form;have hln:l.length=n+1:=HS.out.row l (zTF hl1);rw [hln] at hr hcr;obtain ⟨b3,o3,y,rfl,hcy,hy⟩:=hr.at (j:=0) (by omega);have hcr1:=hr.cap.1;have hT1:=hr.cutTo (k:=k) (by omega);have HTL:Hid ((l.take k).length≤4∧(l.drop (k+1)).length≤4):=zTD (by simp; omega);have HLL:Hid ((Fin.cut k l).length=n∧[]++l.take k++l.drop (k+1)=Fin.cut k l):=zTD ⟨by simp [Fin.cut]; omega,rfl⟩;clear hl1 hcy hy hln;generalize l.take k=lA at *;obtain ⟨wX,hwX⟩:∃wX,wX=(wr.alloc (.cells #[] 3)).drew:=⟨_,rfl⟩;have fX:FI (New wr wX) wX (.slice (some ⟨wr.heap.size,0,none⟩) 0 0) []:=by
         obtain ⟨f0,_⟩:=zAN (w:=wr) (Below.refl _ wr) rfl;rw [hwX];exact (f0.below ((Below.refl _ _).drew)).mono (fun _ h=>h)
        have bX:Below wr.heap.size wr wX:=by rw [hwX]; exact ((Below.refl _ wr).alloc (zTI _) _).drew
        have hT1X:=RI.below hT1 bX;by_cases hkc:k+1=cr
        ·have hT2:RI S wr (.slice (some ⟨b3,o3,none⟩) 0 0) (l.drop (k+1)):=RL.cutEnd hr (by omega) (by omega);subst hkc;generalize l.drop (k+1)=lB at *;rw [hwX] at fX bX hT1X;have i2:(0:Int)≤(k:Int)+1:=by omega
         have i3:(k:Int)+1≤(n:Int)+1:=by omega
         have i4:(k:Int)≤(k:Int)+1:=by omega
         have i5:k≤n:=by omega
         go_wp2_with fail
         have j1:IntKind.i64.wrap ((k:Int)+1)=(k:Int)+1:=IntWalk.i64_in _ (by omega);have j2:((k:Int)+1).toNat=k+1:=by omega
         go_region_held3 (fun _=>True) (trivial) (first
          | (refine zDf (W:=wr) (by rfl) _ _ (by rfl) (by rfl) fX bX (by rfl) hT1X (by have:=HTL.out; simp; omega) ?_; intro v1 w4 f4 b4 g4)
          | (refine zDf (W:=wr) (by rfl) _ _ (by rfl) (by rfl) f4 b4 (by rfl) (RI.below hT2 b4) (by have:=HTL.out; simp; omega) ?_; intro v2 w5 f5 b5 g5; rw [HLL.out.2] at f5; obtain ⟨a5,c5,e5⟩:=f5.form; rw [HLL.out.1] at e5; subst e5)
          | (refine zHy (W:=wO) (r:=.slice a5 n c5) (l:=Fin.cut k l) (by rfl) _ _ (by rfl) (by rfl) (hfm.grow (b5.trans ((Below.refl _ _).alloc b5.size _))) (zAC.step hbm (b5.trans ((Below.refl _ _).alloc b5.size _))) (by rfl) (by go_simp) ((f5.reads.below ((Below.refl _ _).alloc (zTI _) _)).mono (fun d hd=>⟨Nat.le_trans hbm.size hd.1,by have:=hd.2; simp; omega⟩)) (by omega) ?_; intro v6 w6 f6 b6 g6))
         clear j1 j2;go_wp2_with fail
         go_roundw
         case rel=>exact ⟨q+1,_,rfl,by omega,by go_num,by rw [HST.out]; exact f6,b6⟩
         case measure=>simp [intOf]; omega
        ·have hkc1:k+1<cr:=by omega
         have hT2:RI S wr (.slice (some ⟨b3,o3+(k+1),none⟩) (n-k) (cr-(k+1))) (l.drop (k+1)):=by
          have:=hr.cutFrom (k:=k+1) (by omega);rwa [show n+1-(k+1)=n-k by omega] at this
         clear hkc;generalize l.drop (k+1)=lB at *;rw [hwX] at fX bX hT1X;have i2:(0:Int)≤(k:Int)+1:=by omega
         have i3:(k:Int)+1≤(n:Int)+1:=by omega
         have i4:(k:Int)≤(k:Int)+1:=by omega
         have i5:k≤n:=by omega
         have i6:(k:Int)≤(cr:Int):=by omega
         have i7:¬cr=k+1:=by omega
         go_wp2_with fail
         have j1:IntKind.i64.wrap ((k:Int)+1)=(k:Int)+1:=IntWalk.i64_in _ (by omega);have j2:((k:Int)+1).toNat=k+1:=by omega
         go_region_held3 (fun _=>True) (trivial) (first
          | (refine zDf (W:=wr) (by rfl) _ _ (by rfl) (by rfl) fX bX (by rfl) hT1X (by have:=HTL.out; simp; omega) ?_; intro v1 w4 f4 b4 g4)
          | (refine zDf (W:=wr) (by rfl) _ _ (by rfl) (by rfl) f4 b4 (by rfl) (RI.below hT2 b4) (by have:=HTL.out; simp; omega) ?_; intro v2 w5 f5 b5 g5; rw [HLL.out.2] at f5; obtain ⟨a5,c5,e5⟩:=f5.form; rw [HLL.out.1] at e5; subst e5)
          | (refine zHy (W:=wO) (r:=.slice a5 n c5) (l:=Fin.cut k l) (by rfl) _ _ (by rfl) (by rfl) (hfm.grow (b5.trans ((Below.refl _ _).alloc b5.size _))) (zAC.step hbm (b5.trans ((Below.refl _ _).alloc b5.size _))) (by rfl) (by go_simp) ((f5.reads.below ((Below.refl _ _).alloc (zTI _) _)).mono (fun d hd=>⟨Nat.le_trans hbm.size hd.1,by have:=hd.2; simp; omega⟩)) (by omega) ?_; intro v6 w6 f6 b6 g6))
         clear j1 j2;go_wp2_with fail
         go_roundw
         case rel=>exact ⟨q+1,_,rfl,by omega,by go_num,by rw [HST.out]; exact f6,b6⟩
         case measure=>simp [intOf]; omega
      ·have hqn:q=n:=by omega
       rw [hqn,HAn.out] at hfm;clear hqn;rcases hsg with ⟨rfl,e2,e3⟩ | ⟨rfl,e2,e3⟩
       ·have E2:=zTD e2;have HS3:Hid (sm (k+1)=s+x*D):=zTD (by rw [HSS2.out,e3]);clear e2 e3 HSS2;go_wp2_with fail
        refine (ih.out _ _ _ _ hfm.reads (HS.out.without (by omega)) (HSM.out.without k) (by omega)).mono ?_;rintro e w9 ⟨rfl,b9⟩;rw [HD.out];have b19:=zAC.step (zAC.step hb hbm) b9;clear ih b9;go_wp2_with fail
        go_roundw
        case rel=>exact ⟨k+1,s+x*D,by omega,by go_num,by go_num,by rw [E2.out],zTD HS3.out.symm,b19⟩
        case measure=>simp [intOf]; omega
       ·have E2:=zTD e2;have HS3:Hid (sm (k+1)=s + -x*D):=zTD (by rw [HSS2.out,e3,Int.neg_mul]);have hneg:-96000000000000≤-x*D∧-x*D≤96000000000000:=by rw [Int.neg_mul]; omega
        clear e2 e3 HSS2;go_wp2_with fail
        refine (ih.out _ _ _ _ hfm.reads (HS.out.without (by omega)) (HSM.out.without k) (by omega)).mono ?_;rintro e w9 ⟨rfl,b9⟩;rw [HD.out];have b19:=zAC.step (zAC.step hb hbm) b9;clear ih b9;go_wp2_with fail
        go_roundw
        case rel=>exact ⟨k+1,s + -x*D,by omega,by go_num,by go_num,by rw [E2.out],zTD HS3.out.symm,b19⟩
        case measure=>simp [intOf]; omega
   ·have hkn:k=n+1:=by omega
    have e0:Hid (s=res):=zTD (by rw [HSM2.out,hkn,HR.out]);subst hkn;go_wp2_with fail
    go_ret
    exact ⟨zAR e0.out,hb⟩
theorem zIg:∀n,DetI n
 | 0=>zOW
 | n+1=>zOX (zIg n)
theorem zQQ {n:Nat} {S:Nat→Prop} {u:Value} {m:List (List Int)} {w:World} (h:RII S w u m) (hs:Fin.Sqr m n) (hm:Fin.Small 2000 m) (hn:n≤4) :
  Calls Tryz.prog 182 #[u] w fun e w'=>e=.returned (.int .i64 (Fin.det n m))∧Below w.heap.size w w':=zIg n S u m w h hs hm hn
def finB (c:List (List Int)):Bool:=isC c && Fin.isFin c
theorem zEm (n k:Nat):(zAT n k).length=(Fin.bits n k).length:=by simp [zAT]
theorem zP5:∀n,n<5→∀k,k<16→1≤k→k<2 ^ n→1≤(Fin.bits n k).length:=by decide
theorem zIS {n k:Nat} (hn:n≤4) (h1:1≤k) (h2:k<2 ^ n):1≤(zAT n k).length:=by
 rw [zEm];exact zP5 n (by omega) k (by have:=Nat.pow_le_pow_right (n:=2) (by omega) hn; omega) h1 h2
theorem zFt {n k m:Nat} (hm:n≤m):Pts m (zAT n k):=by
 intro j x hx;obtain ⟨i,hi,rfl⟩:=List.mem_map.1 (zTF hx);exact ⟨i,rfl,Nat.lt_of_lt_of_le (Fin.bits_lt hi) hm⟩
theorem zIT:∀(n k:Nat),Asc (zAT n k)
 | 0,k=>by intro j x y h; simp [zAT,Fin.bits] at h
 | n+1,k=>by
  have ih:=zIT n k;intro j x y hx hy;rw [zCX] at hx hy;by_cases h:k / 2 ^ n % 2=1
  ·rw [if_pos h] at hx hy;rcases Nat.lt_or_ge (j+1) (zAT n k).length with h1 | h1
   ·rw [List.getElem?_append_left (by omega)] at hx;rw [List.getElem?_append_left h1] at hy;exact ih j x y hx hy
   ·rw [List.getElem?_append_right h1] at hy;have h2:j+1-(zAT n k).length=0:=by
     rcases Nat.eq_zero_or_pos (j+1-(zAT n k).length) with h | h
     ·exact h
     ·rw [List.getElem?_eq_none (by simp; omega)] at hy; cases hy
    rw [h2] at hy;simp at hy;rw [List.getElem?_append_left (by omega)] at hx;obtain ⟨i,rfl,hi⟩:=zFt (zTI n) j x hx;omega
  ·rw [if_neg h,List.append_nil] at hx hy;exact ih j x y hx hy
theorem zK5 (c:List (List Int)) (l:List Int):Fin.Sqr (subL c l) l.length:=by
 refine ⟨by simp [subL],fun r hr=>?_⟩;obtain ⟨i,_,rfl⟩:=List.mem_map.1 hr;simp [rowL]
theorem zMF {c:List (List Int)} (hc:CartanP c) (i j:Nat):(ent c i j).natAbs≤3:=by
 by_cases hi:i<c.length
 ·by_cases hj:j<c.length
  ·by_cases h:i=j
   ·subst h; rw [hc.car.diag i hi]; decide
   ·have:=hc.car.off i j hi hj h; omega
  ·have hr:(c[i]).length=c.length:=hc.row _ (List.getElem_mem hi);have:(c[i])[j]? = none:=List.getElem?_eq_none (by omega);simp [ent,hi,this]
 ·have:c[i]? = none:=List.getElem?_eq_none (by omega);simp [ent,this]
theorem zHO {c:List (List Int)} (hc:CartanP c) (l:List Int):Fin.Small 2000 (subL c l):=by
 intro r hr x hx;obtain ⟨i,_,rfl⟩:=List.mem_map.1 hr;obtain ⟨j,_,rfl⟩:=List.mem_map.1 hx;have:=zMF hc i.toNat j.toNat;omega
theorem zHj (c:List (List Int)) (n k:Nat):Fin.minor c n k=Fin.det (zAT n k).length (subL c (zAT n k)):=by
 rw [zEm,zNZ]; rfl
def zHH (P:Nat→Prop) (w:World) (e:Ending) (w':World):Prop:=∃a n cap,e=.returned (.slice a n cap)∧P n∧Below w.heap.size w w'
theorem zJ1 {S:Nat→Prop} {u:Value} {c:List (List Int)} {w:World} (h:RII S w u c) (hc:CartanP c) (hl:total c≤16777216) :
  Calls Tryz.prog 109 #[u] w (zHH (fun n=>((n:Int) == 0)=Fin.isFin c) w):=by
 obtain ⟨a,cap,rfl⟩:=h.form;have hn4:=hc.le;have HC:=zTD hc;have HN:Hid (∀q,1≤q→q≤2 ^ c.length-1→¬0<Fin.minor c c.length q→Fin.isFin c=false):=zTD (fun q h1 h2 h3=>by
  cases e:Fin.isFin c
  ·rfl
  ·exact absurd (Fin.posUp_iff.1 e q h1 h2) h3)
 have HY:Hid ((∀q,1≤q→q≤2 ^ c.length-1→0<Fin.minor c c.length q)→Fin.isFin c=true):=zTD (fun h=>Fin.posUp_iff.2 h);have hpw:1≤2 ^ c.length:=Nat.one_le_two_pow;have hpw2:2 ^ c.length≤16:=Nat.pow_le_pow_right (n:=2) (by omega) hn4;generalize Fin.isFin c=res at *;clear hc;generalize hn:c.length=n at *;have HNN:=zTD hn;clear hn;have HL:=zTD (zCV n (2 ^ n-1));have HAT:=zTD (zJQ n (2 ^ n-1));generalize hm:2 ^ n-1=m at *;have HM:=zTD hm;have hm15:m≤15:=by omega
 clear hm;go_enter Tryz.func109,Tryz.ntmps109
 go_wp2_with fail
 refine (zAr h hl).mono ?_;rintro e w1 ⟨rfl,hw1⟩;rw [zAS.2 HC.out];have b1:=zAu hw1;clear hw1;go_wp2_with fail
 refine (zPX n (by omega) w1).mono ?_;rintro e w2 ⟨r2,rfl,f2,b2⟩;rw [HM.out] at f2;have h2:=f2.reads;obtain ⟨a2,c2,rfl⟩:=h2.form;rw [HL.out] at h2 ⊢;have b02:=zAC.step b1 b2;clear f2 b1 b2;go_wp2_with fail
 go_loopw [4] (fun j wr=>∃(k:Nat),k≤m∧j=.int .i64 k∧Hid (∀q,1≤q→q≤k→0<Fin.minor c n q)∧Below w2.heap.size w2 wr) (fun j _=>m-(intOf j).toNat)
 case atStart=>exact ⟨0,Nat.zero_le _,rfl,zTD (fun q h1 h2=>by omega),Below.refl _ _⟩
 case round =>
  obtain ⟨k,hk,rfl,HK,hb⟩:=hrel;have hb0:=zAC.step b02 hb;by_cases hlt:k<m
  ·obtain ⟨b,o,r,l,rfl,hcr,hr,hl1⟩:=(h2.below hb).at hlt;have hle:l=zAT n (k+1):=by have:=hl1.out; rw [HAT.out k hlt] at this; exact (Option.some.inj this).symm
   have hkn:k+1<2 ^ n:=by have:=HM.out; omega
   have HNE:=zTD (zIS (n:=n) (by omega) (by omega) hkn);have HMI:=zTD (zHj c n (k+1));have HPT:=zTD (zFt (k:=k+1) (zTI n));have HAS:=zTD (zIT n (k+1));have HBL:=zTD (zC1 n (k+1));rw [<-hle] at HNE HMI HPT HAS HBL;clear hle hl1 hkn;obtain ⟨ar,cr,rfl⟩:=hr.form;have i1:(k:Int)<(m:Int):=by omega
   have hu:=h.below hb0;go_wp2_with fail
   refine (zEf hu hr HC.out hl (by rw [HNN.out]; exact HPT.out) HAS.out HNE.out (by have:=HBL.out; omega)).mono ?_;rintro e w4 ⟨r4,rfl,f4,b4⟩;go_wp2_with fail
   refine (zQR f4.reads (zK5 c l) (zHO HC.out l) (by have:=HBL.out; omega)).mono ?_;rintro e w5 ⟨rfl,b5⟩;rw [<-HMI.out];have b25:=zAC.step (zAC.step hb b4) b5;have b05:=zAC.step b02 b25;by_cases hpos:0<Fin.minor c n (k+1)
   ·have HK2:Hid (∀q,1≤q→q≤k+1→0<Fin.minor c n q):=zTD (fun q h1 h2=>by
     rcases Nat.lt_or_ge k q with h3 | h3
     ·have:q=k+1:=by omega
      subst this; exact hpos
     ·exact HK.out q h1 h3)
    have i5:¬Fin.minor c n (k+1)≤0:=by omega
    clear hpos;generalize Fin.minor c n (k+1)=D at *;go_wp2_with fail
    go_roundw
    case rel=>exact ⟨k+1,by omega,by go_num,HK2,b25⟩
    case measure=>simp [intOf]; omega
   ·have HF:=zTD (HN.out (k+1) (by omega) (by have:=HM.out; omega) (by omega));have i5:Fin.minor c n (k+1)≤0:=by omega
    clear hpos;generalize Fin.minor c n (k+1)=D at *;have hc5:=((zAC.step b4 b5).cell (p:=⟨b,o+k,none⟩) (zTH wr _ hcr)).trans hcr;go_wp2_with fail
    go_ret
    exact ⟨_,_,_,rfl,by rw [HF.out]; exact beq_eq_false_iff_ne.2 (by have:=HNE.out; omega),b05⟩
  ·have hkm:k=m:=by omega
   have HF:Hid (res=true):=zTD (HY.out (fun q h1 h2=>HK.out q h1 (by have:=HM.out; omega)));have i1:¬(k:Int)<(m:Int):=by omega
   clear hkm;go_wp2_with fail
   go_ret
   exact ⟨some ⟨wr.heap.size,0,none⟩,0,0,rfl,by rw [HF.out]; rfl,hb0.alloc hb0.size _⟩
theorem zIu {S:Nat→Prop} {u:Value} {c:List (List Int)} {w:World} (h:RII S w u c) (hl:total c≤16777216) :
  Calls Tryz.prog 66 #[u] w fun e w'=>e=.returned (.bool (finB c))∧Below w.heap.size w w':=by
 have HF:Hid (finB c=(isC c && Fin.isFin c)):=zTD rfl;generalize finB c=res at *;go_enter Tryz.func66,Tryz.ntmps66
 go_wp2_with fail
 refine (zAr h hl).mono ?_;rintro e w1 ⟨rfl,hw1⟩;have b1:=zAu hw1;clear hw1;cases hC:isC c
 ·have e0:Hid (res=false):=zTD (by rw [HF.out,hC]; rfl);go_wp2_with fail
  go_ret
  exact ⟨zAG e0.out.symm,b1⟩
 ·have HC:=zTD (zAS.1 hC);have e0:Hid (res=Fin.isFin c):=zTD (by rw [HF.out,hC]; rfl);clear hC;go_wp2_with fail
  refine (zJ1 (h.below b1) HC.out hl).mono ?_;rintro e w2 ⟨a2,n2,c2,rfl,hq,b2⟩;rw [<-e0.out] at hq;have hq2:=zTD hq;clear hq;go_wp2_with fail
  go_ret
  exact ⟨zAG hq2.out,zAC.step b1 b2⟩
def minL (c:List (List Int)) (n:Nat):Nat→List Int
 | 0=>[]
 | k+1=>minL c n k++[Fin.minor c n (k+1)]
theorem zCq (c:List (List Int)) (n:Nat):∀k,(minL c n k).length=k
 | 0=>rfl
 | k+1=>by simp [minL,zCq c n k]
theorem zKf (c:List (List Int)) (n:Nat):∀(k j:Nat),j<k→(minL c n k)[j]? = some (Fin.minor c n (j+1))
 | 0,j,h=>by omega
 | k+1,j,h=>by
  simp only [minL];rcases Nat.lt_or_ge j k with h1 | h1
  ·rw [List.getElem?_append_left (by rw [zCq]; exact h1)];exact zKf c n k j h1
  ·have:j=k:=by omega
   subst this;rw [List.getElem?_append_right (by rw [zCq]; exact zTI _),zCq];simp
theorem zLY {S:Nat→Prop} {u:Value} {c:List (List Int)} {w:World} (h:RII S w u c) (hc:CartanP c) (hl:total c≤16777216) :
  Calls Tryz.prog 153 #[u] w fun e w'=>∃r,e=.returned r∧FI (New w w') w' r (minL c c.length (2 ^ c.length-1))∧Below w.heap.size w w':=by
 obtain ⟨a,cap,rfl⟩:=h.form;have hn4:=hc.le;have HC:=zTD hc;have HSQ:=zTD hc.sq;have hpw:1≤2 ^ c.length:=Nat.one_le_two_pow;have hpw2:2 ^ c.length≤16:=Nat.pow_le_pow_right (n:=2) (by omega) hn4;clear hc;generalize hn:c.length=n at *;have HNN:=zTD hn;clear hn;go_enter Tryz.func153,Tryz.ntmps153
 go_wp2_with fail
 obtain ⟨w1,hw1⟩:∃w1,w1=w.alloc (.cells #[] 3):=⟨_,rfl⟩;obtain ⟨f1,b1⟩:=zAN (Below.refl _ w) hw1;rw [<-hw1];clear hw1;refine (zBk (h.below b1) hl).mono ?_;rintro e w2 ⟨rfl,hw2⟩;rw [zAS.2 HC.out];have b2:=zAu hw2;clear hw2;have f1:=f1.grow b2;have b1:=zAC.step b1 b2;clear b2;go_wp2_with fail
 go_loopw [3,4] (fun zz j wr=>∃(k:Nat) (z:Value),z=zz∧k+1≤2 ^ n∧j=.int .i64 ((k:Int)+1)∧FI (New w wr) wr z (minL c n k)∧Below w.heap.size w wr) (fun _ j _=>2 ^ n-(intOf j).toNat)
 case atStart=>exact ⟨0,_,rfl,hpw,rfl,f1,b1⟩
 case round =>
  obtain ⟨k,z,rfl,hk,rfl,hf,hb⟩:=hrel;have HLEN:=zTD (zCq c n k);have HST:Hid (minL c n (k+1)=minL c n k++[Fin.minor c n (k+1)]):=zTD rfl;by_cases hlt:k+1<2 ^ n
  ·have i1:=(zFa (by omega:n≤4) (k:=k)).2 hlt;have HB:Hid (zAT 4 (k+1)=zAT n (k+1)):=zTD (zHN (Nat.div_eq_of_lt hlt) (by omega));have HMI:=zTD (zHj c n (k+1));have HPT:=zTD (zFt (k:=k+1) (zTI n));have HBL:=zTD (zC1 n (k+1));generalize minL c n k=A at *;go_wp2_with fail
   refine (zHv (k+1) (by omega) wr).mono ?_;rintro e w4 ⟨r4,rfl,f4,b4⟩;rw [HB.out] at f4;generalize zAT n (k+1)=l at *;have b04:=zAC.step hb b4;go_wp2_with fail
   refine (zGg (h.below b04) f4.reads HSQ.out HPT.out (by omega) (by have:=HBL.out; omega)).mono ?_;rintro e w5 ⟨r5,rfl,f5,b5⟩;have b05:=zAC.step b04 b5;go_wp2_with fail
   refine (zQQ f5.reads (zK5 c l) (zHO HC.out l) (by have:=HBL.out; omega)).mono ?_;rintro e w6 ⟨rfl,b6⟩;rw [<-HMI.out];have b06:=zAC.step b05 b6;have hf6:=(hf.grow b4).grow b5 |>.grow b6;generalize Fin.minor c n (k+1)=D at *;have bb:∀wr:World,Below wr.heap.size wr (wr.alloc (.cells #[.int .i64 D] 3)):=fun wr=>(Below.refl wr.heap.size wr).alloc (zTI _) _;go_wp2_with (at_builtin; go_must (refine zAL (W:=w) rfl _ _ rfl rfl (hf6.grow (bb _)) (zAC.step b06 (bb _)) rfl (RI.one _ D) ?_ ?_))
   ·have:=HLEN.out; simp; omega
   ·intro v' w7 f7 b7 _;go_wp2_with fail
    go_roundw
    case rel=>exact ⟨k+1,_,rfl,hlt,by go_num,by rw [HST.out]; exact f7,b7⟩
    case measure=>simp [intOf]; omega
  ·have i1:¬((k:Int)+1<wrap64 (2 ^ n)):=fun h=>hlt ((zFa (by omega)).1 h);have HR:Hid (k=2 ^ n-1):=zTD (by omega);clear hlt;go_wp2_with fail
   go_ret
   exact ⟨_,rfl,by rw [<-HR.out]; exact hf,hb⟩
theorem zJ0 {S:Nat→Prop} {u:Value} {c:List (List Int)} {w:World} (h:RII S w u c) (hc:CartanP c) (hl:total c≤16777216) :
  Calls Tryz.prog 102 #[u] w (zHH (fun n=>((n:Int) == 0)=Fin.isFin c) w):=by
 obtain ⟨a,cap,rfl⟩:=h.form;have hn4:=hc.le;have HC:=zTD hc;have HN:Hid (∀q,1≤q→q≤2 ^ c.length-1→¬0<Fin.minor c c.length q→Fin.isFin c=false):=zTD (fun q h1 h2 h3=>by
  cases e:Fin.isFin c
  ·rfl
  ·exact absurd (Fin.posUp_iff.1 e q h1 h2) h3)
 have HY:Hid ((∀q,1≤q→q≤2 ^ c.length-1→0<Fin.minor c c.length q)→Fin.isFin c=true):=zTD (fun h=>Fin.posUp_iff.2 h);have hpw:1≤2 ^ c.length:=Nat.one_le_two_pow;have hpw2:2 ^ c.length≤16:=Nat.pow_le_pow_right (n:=2) (by omega) hn4;generalize Fin.isFin c=res at *;clear hc;go_enter Tryz.func102,Tryz.ntmps102
 go_wp2_with fail
 refine (zLY h HC.out hl).mono ?_;rintro e w2 ⟨r2,rfl,f2,b2⟩;generalize hn:c.length=n at *;have HNN:=zTD hn;clear hn;have HL:=zTD (zCq c n (2 ^ n-1));have HAT:=zTD (zKf c n (2 ^ n-1));generalize hm:2 ^ n-1=m at *;have HM:=zTD hm;have hm15:m≤15:=by omega
 clear hm;have h2:=f2.reads;obtain ⟨a2,c2,rfl⟩:=h2.form;rw [HL.out] at h2 ⊢;clear f2;go_wp2_with fail
 go_loopw [8] (fun j wr=>∃(k:Nat),k≤m∧j=.int .i64 k∧Hid (∀q,1≤q→q≤k→0<Fin.minor c n q)∧w2=wr) (fun j _=>m-(intOf j).toNat)
 case atStart=>exact ⟨0,Nat.zero_le _,rfl,zTD (fun q h1 h2=>by omega),rfl⟩
 case round =>
  obtain ⟨k,hk,rfl,HK,rfl⟩:=hrel;by_cases hlt:k<m
  ·obtain ⟨b,o,D,rfl,hcD,hD⟩:=h2.at hlt;have HD:Hid (D=Fin.minor c n (k+1)):=zTD (by have:=hD.out; rw [HAT.out k hlt] at this; exact (Option.some.inj this).symm);have hkn:k+1<2 ^ n:=by have:=HM.out; omega
   have HNE:Hid (1≤(zAT 4 (k+1)).length):=zTD (zIS (by omega) (by omega) (by omega));have i1:(k:Int)<(m:Int):=by omega
   by_cases hpos:0<D
   ·have HK2:Hid (∀q,1≤q→q≤k+1→0<Fin.minor c n q):=zTD (fun q h1 h2=>by
     rcases Nat.lt_or_ge k q with h3 | h3
     ·have:q=k+1:=by omega
      subst this; rw [<-HD.out]; exact hpos
     ·exact HK.out q h1 h3)
    have i5:¬D≤0:=by omega
    clear hpos hkn;go_wp2_with fail
    go_roundw
    case rel=>exact ⟨k+1,by omega,by go_num,HK2,by trivial⟩
    case measure=>simp [intOf]; omega
   ·have HF:=zTD (HN.out (k+1) (by omega) (by have:=HM.out; omega) (by have:=HD.out; omega));have i5:D≤0:=by omega
    clear hpos hkn;go_wp2_with fail
    refine (zHv (k+1) (by omega) w2).mono ?_;rintro e w4 ⟨r4,rfl,f4,b4⟩;obtain ⟨a4,c4,rfl⟩:=f4.form;go_wp2_with fail
    go_ret
    exact ⟨_,_,_,rfl,by rw [HF.out]; exact beq_eq_false_iff_ne.2 (by have:=HNE.out; omega),zAC.step b2 b4⟩
  ·have hkm:k=m:=by omega
   have HF:Hid (res=true):=zTD (HY.out (fun q h1 h2=>HK.out q h1 (by have:=HM.out; omega)));have i1:¬(k:Int)<(m:Int):=by omega
   clear hkm;go_wp2_with fail
   go_ret
   exact ⟨some ⟨w2.heap.size,0,none⟩,0,0,rfl,by rw [HF.out]; rfl,b2.alloc b2.size _⟩
theorem zDZ {S:Nat→Prop} {u:Value} {c:List (List Int)} {w:World} (h:RII S w u c) (hl:total c≤16777216) :
  Calls Tryz.prog 63 #[u] w fun e w'=>e=.returned (.bool (finB c))∧Below w.heap.size w w':=by
 have HF:Hid (finB c=(isC c && Fin.isFin c)):=zTD rfl;generalize finB c=res at *;go_enter Tryz.func63,Tryz.ntmps63
 go_wp2_with fail
 refine (zBk h hl).mono ?_;rintro e w1 ⟨rfl,hw1⟩;have b1:=zAu hw1;clear hw1;cases hC:isC c
 ·have e0:Hid (res=false):=zTD (by rw [HF.out,hC]; rfl);go_wp2_with fail
  go_ret
  exact ⟨zAG e0.out.symm,b1⟩
 ·have HC:=zTD (zAS.1 hC);have e0:Hid (res=Fin.isFin c):=zTD (by rw [HF.out,hC]; rfl);clear hC;go_wp2_with fail
  refine (zJ0 (h.below b1) HC.out hl).mono ?_;rintro e w2 ⟨a2,n2,c2,rfl,hq,b2⟩;rw [<-e0.out] at hq;have hq2:=zTD hq;clear hq;go_wp2_with fail
  go_ret
  exact ⟨zAG hq2.out,zAC.step b1 b2⟩
theorem Only.drew {S:Nat→Prop} {a b:World} (h:Only S a b):Only S a b.drew:=⟨h.os,h.tape,h.output,h.size,h.block⟩
theorem FI.drew {S:Nat→Prop} {w:World} {v:Value} {l:List Int} (h:FI S w v l):FI S w.drew v l:=FI.keep h fun _ _=>rfl
def zEh (l L:List Int) (n k q:Nat):Prop:=L.length=n∧∀p,p<n→L[p]? = if k≤p∧p<q then l[p]? else l[n-1-p]?
theorem zPm {l:List Int} {n:Nat} (h:l.length=n):zEh l l n 0 n:=⟨h,fun p hp=>by rw [if_pos ⟨Nat.zero_le _,hp⟩]⟩
theorem zLq {l L:List Int} {n k q:Nat} (hl:l.length=n) (hkq:k+q=n) (h:zEh l L n k q) (hq:¬k+1<q):L=l.reverse:=by
 refine List.ext_getElem? fun p=>?_;rcases Nat.lt_or_ge p n with hp | hp
 ·rw [h.2 p hp,List.getElem?_reverse (by omega),hl];by_cases h1:k≤p∧p<q
  ·rw [if_pos h1]; congr 1; omega
  ·rw [if_neg h1]
 ·rw [List.getElem?_eq_none (by have:=h.1; omega),List.getElem?_eq_none (by simp; omega)]
theorem zJy {l L:List Int} {n k j:Nat} {x y:Int} (_:l.length=n) (hkq:k+(j+1)=n) (h:zEh l L n k (j+1)) (hq:k<j) (hx:L[k]? = some x) (hy:L[j]? = some y):zEh l ((L.set k y).set j x) n (k+1) j:=by
 refine ⟨by simp [h.1],fun p hp=>?_⟩;have hk:k<L.length:=by rw [h.1]; omega
 have hj:j<L.length:=by rw [h.1]; omega
 have e1:l[k]? = some x:=by rw [<-hx,h.2 k (by omega),if_pos (by omega)]
 have e2:l[j]? = some y:=by rw [<-hy,h.2 j (by omega),if_pos (by omega)]
 by_cases h1:p=j
 ·subst h1;rw [List.getElem?_set_self (by simp; omega),if_neg (by omega),show n-1-p=k by omega,e1]
 ·rw [List.getElem?_set_ne (by omega)];by_cases h2:p=k
  ·subst h2;rw [List.getElem?_set_self (by omega),if_neg (by omega),show n-1-p=j by omega,e2]
  ·rw [List.getElem?_set_ne (by omega),h.2 p hp];by_cases h3:k≤p∧p<j+1
   ·rw [if_pos h3,if_pos (by omega)]
   ·rw [if_neg h3,if_neg (by omega)]
theorem zIB {S:Nat→Prop} {v:Value} {l:List Int} {w:World} (h:FI S w v l) (hl:l.length≤16777216) :
  Calls Tryz.prog 71 #[v] w fun e w'=>e=.returned (.tuple #[])∧FI S w' v l.reverse∧Only S w w':=by
 obtain ⟨a,cap,rfl⟩:=h.form;have H0:=zTD (zPm (l:=l) rfl);generalize hn:l.length=n at *;have HN:=zTD hn;clear hn;go_enter Tryz.func71,Tryz.ntmps71
 go_wp2_with fail
 go_loopw [2,3] (fun i j wr=>∃(k q:Nat) (L:List Int),k+q=n∧i=.int .i64 k∧j=.int .i64 ((q:Int)-1)∧FI S wr (.slice a n cap) L∧Hid (zEh l L n k q)∧Only S w wr) (fun i _ _=>n-(intOf i).toNat)
 case atStart=>exact ⟨0,n,l,by omega,rfl,rfl,h,H0,Only.refl _ _⟩
 case round =>
  obtain ⟨k,q,L,hkq,rfl,rfl,hf,HTU,ho⟩:=hrel;by_cases hlt:k+1<q
  ·obtain ⟨j,rfl⟩:∃j,q=j+1:=⟨q-1,by omega⟩;have e1:((j+1:Nat):Int)-1=(j:Int):=by omega
   rw [e1];have hL:=HTU.out.1;obtain ⟨x,hx⟩:∃x,L[k]? = some x:=⟨_,zTE (by omega)⟩;obtain ⟨y,hy⟩:∃y,L[j]? = some y:=⟨_,zTE (by omega)⟩;obtain ⟨g,rfl,hg,_⟩:=hf.head (by omega);have hcx:=hf.cell hx (by omega);have hcy:=hf.cell hy (by omega);have fx:=hf.froz hL k;have fy:=hf.froz hL j;have HST:=zTD (zJy HN.out hkq HTU.out (by omega) hx hy);have hp1:=hf.put hL k y;have hp2:=zTD (hp1.put (by simp [hL]) j x);have HLL:Hid (L.length=n):=zTD hL;clear hp1 hL hx hy e1;have i1:(k:Int)<(j:Int):=by omega
   have i2:(j:Int)<(n:Int):=by omega
   have i3:(k:Int)<(n:Int):=by omega
   have hne:¬k=j:=by omega
   have hne2:¬j=k:=by omega
   go_wp2_with fail
   go_region
   go_wp2_with fail
   go_roundw
   case rel=>exact ⟨k+1,j,_,by omega,by go_num,by go_num,hp2.out.drew,HST,((ho.setCell hg _).setCell hg _).drew⟩
   case measure=>simp [intOf]; omega
  ·have hr:Hid (L=l.reverse):=zTD (zLq HN.out hkq HTU.out hlt);have i1:¬(k:Int)<(q:Int)-1:=by omega
   go_wp2_with fail
   go_end0
   exact ⟨rfl,by rw [<-hr.out]; exact hf,ho⟩
theorem zDn {S:Nat→Prop} {v:Value} {l:List Int} {w:World} (h:RI S w v l) (hl:l.length≤16777216) :
  Calls Tryz.prog 33 #[v] w fun e w'=>∃r,e=.returned r∧FI (New w w') w' r l.reverse∧Below w.heap.size w w':=by
 obtain ⟨a,cap,rfl⟩:=h.form;go_enter Tryz.func33,Tryz.ntmps33
 obtain ⟨f1,b1⟩:=zAN (w:=w) (Below.refl _ w) rfl;go_wp2_with (at_builtin; go_must (refine zAL (W:=w) rfl _ _ rfl rfl f1 b1 rfl (h.below b1) ?_ ?_))
 ·simp; omega
 ·intro v1 w2 f2 b2 _;clear b1 f1 h;go_wp2_with fail
  refine (zIB f2 hl).mono ?_;rintro e w3 ⟨rfl,f3,o3⟩;go_wp2_with fail
  go_ret
  exact ⟨_,rfl,f3.mono (fun b hb=>⟨hb.1,by rw [o3.size]; exact hb.2⟩),b2.trans (o3.below (fun b hb=>hb.1))⟩
theorem zAb {n:Nat} {w:List Int} (h:Lets n w):Lets n w.reverse:=fun x hx=>h x (by simpa using hx)
def Two (L1 L2:List Int) (ok:Bool) (w:World) (e:Ending) (w':World):Prop:=∃r1 r2,e=.returned (.tuple #[r1,r2,.bool ok])∧FI (New w w') w' r1 L1∧FI (New w w') w' r2 L2∧(∀b,r1.ownBlock=some b→r2.ownBlock≠some b)∧Below w.heap.size w w'
theorem zEr {c:List (List Int)} (h:finB c=true):FinP c:=by
 unfold finB at h;simp only [Bool.and_eq_true] at h;exact ⟨zAS.1 h.1,h.2⟩
theorem zHP {S:Nat→Prop} {v:Value} {l:List Int} {w:World} (h:RI S w v l) (hl:l.length≤16777216) :
  Calls Tryz.prog 203 #[v] w fun e w'=>∃r,e=.returned r∧FI (New w w') w' r l∧Below w.heap.size w w':=by
 obtain ⟨a,cap,rfl⟩:=h.form;cases a with
 | none =>
  have h0:l=[]:=by
   obtain ⟨_,_,hv,_,hc⟩:=h;simp only [Value.slice.injEq] at hv;obtain ⟨rfl,_,_⟩:=hv;rcases hc with h | ⟨b,o,e,_⟩
   ·exact h
   ·cases e
  subst h0;show Calls Tryz.prog 203 #[.slice none 0 cap] w _;clear h hl;go_enter Tryz.func203,Tryz.ntmps203
  have he:∀w:World,(binOp .eql 29 (.slice none 0 cap) (.slice none 0 0)).run Tryz.prog w=.ok (.bool true) w:=fun _=>rfl;go_wp2_with fail
  go_ret
  exact ⟨_,rfl,FI.empty _ _,Below.refl _ _⟩
 | some ad =>
  obtain ⟨f1,b1⟩:=zAN (w:=w) (Below.refl _ w) rfl;have he:∀(w:World) (n:Nat),(binOp .eql 29 (.slice (some ad) n cap) (.slice none 0 0)).run Tryz.prog w=.ok (.bool false) w:=fun _ _=>rfl;go_enter Tryz.func203,Tryz.ntmps203
  go_wp2_with (at_builtin; go_must (refine zAL (W:=w) rfl _ _ rfl rfl f1 b1 rfl (h.below b1) ?_ ?_))
  ·simp; omega
  ·intro v1 w2 f2 b2 _;go_wp2_with fail
   go_ret
   exact ⟨_,rfl,f2,b2⟩
theorem zGJ {S S':Nat→Prop} {u v:Value} {l l':List Int} {w:World} (h:RI S w u l) (h':RI S' w v l') (hl:l.length≤16777216) (hl':l'.length≤16777216) :
  Calls Tryz.prog 78 #[u,v] w fun e w'=>∃r,e=.returned r∧FI (New w w') w' r (l++l')∧Below w.heap.size w w':=by
 obtain ⟨a,cap,rfl⟩:=h.form;obtain ⟨a',cap',rfl⟩:=h'.form;obtain ⟨f1,b1⟩:=zAN (w:=w) (Below.refl _ w) rfl;go_enter Tryz.func78,Tryz.ntmps78
 go_wp2_with (at_builtin; go_must (refine zAL (W:=w) rfl _ _ rfl rfl f1 b1 rfl (h.below b1) ?_ ?_))
 ·first | omega | (simp; omega) | (simp; done)
 ·intro v2 w2 f2 b2 _;clear f1 b1;go_wp2_with (at_builtin; go_must (refine zAL (W:=w) rfl _ _ rfl rfl f2 b2 rfl (h'.below b2) ?_ ?_))
  ·first | omega | (simp; omega) | (simp; done)
  ·intro v3 w3 f3 b3 _;go_wp2_with fail
   go_ret
   exact ⟨_,rfl,f3,b3⟩
end Go.Proofs.YtlgcdacpjcnjgaaGreatDoor
