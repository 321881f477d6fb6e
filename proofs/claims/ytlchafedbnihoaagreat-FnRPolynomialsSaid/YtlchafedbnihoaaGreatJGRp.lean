/- R-polynomials by images of the ones: the program's recursion and the reference's agree. Plain. Condition: lengths together at most 29. -/
import Derived.Test.YtlchafedbnihoaaGreatJGNrm
namespace Go.Proofs.YtlchafedbnihoaaGreat
open Go.RowKit
set_option maxRecDepth 20000
set_option maxHeartbeats 8000000
def shI (p:List Int):List Int:=if trim p=[] then [] else 0::trim p
def rI (c:List (List Int)):List Int→List Int→List Int
 | mu,[]=>if zAH mu=none then [1] else []
 |mu,s::v=>if num mu s.toNat<0 then rI c (refl c s.toNat mu) v
  else addP (shI (rI c (refl c s.toNat mu) v)) (subP (shI (rI c mu v)) (rI c mu v))
def bel (c:List (List Int)):List Int→List Int→Bool
 | mu,[]=>decide (zAH mu=none)
 | mu,s::v=>decide ((nf c 30 mu).length≤v.length+1) && bel c (if num mu s.toNat<0 then refl c s.toNat mu else mu) v
def rS (c:List (List Int)):List Int→List Int→List Int
 | mu,[]=>if bel c mu [] then [1] else []
 | mu,s::v=>if bel c mu (s::v) then
   (if num mu s.toNat<0 then rS c (refl c s.toNat mu) v
   else addP (zAd (rS c (refl c s.toNat mu) v) 1) (subP (zAd (rS c mu v) 1) (rS c mu v)))
  else []
theorem Im.part {c:List (List Int)} {mu:List Int} {w:List Nat} (hl:mu.length=c.length) (hw:Cox.Lets c.length w) (h:Cox.Part c.length (ent c) (num mu) w):∃m,m≤w.length∧Im c mu m:=by
 obtain ⟨x,hx,he⟩:=h;exact ⟨x.length,hx.length_le,hl,x,Cox.part_lets hw hx,rfl,fun k hk=>(he k hk).symm⟩
theorem zEe {n:Nat} {c:Nat→Nat→Int} {m m':Nat→Int} {w:List Nat} (h:∀k,k<n→m k=m' k):Cox.Part n c m w↔Cox.Part n c m' w :=
 ⟨fun ⟨x,hx,he⟩=>⟨x,hx,fun k hk=>(he k hk).trans (h k hk)⟩,fun ⟨x,hx,he⟩=>⟨x,hx,fun k hk=>(he k hk).trans (h k hk).symm⟩⟩
theorem Im.refl_num {c:List (List Int)} (hc:CartanP c) {mu:List Int} {m:Nat} (h:Im c mu m) (hm:m≤30) {i:Nat} (hi:i<c.length) {k:Nat} (hk:k<c.length):num (refl c i mu) k=Cox.sW (ent c) i (num mu) k:=by
 obtain ⟨hl,w,hw,hwl,hn⟩:=h;rw [zBr hc hl hw (by omega) hn hi hk];unfold Cox.sW;rw [hn k hk,hn i hi]
theorem zFA {c:List (List Int)} (hc:CartanP c) {mu:List Int} {m:Nat} (h:Im c mu m) (hm:m≤30):(nf c 30 mu).length≤m:=by
 rw [zEJ hc m h hm hm]; exact zKc hc m
theorem Im.num_ne {c:List (List Int)} (hc:CartanP c) {mu:List Int} {m:Nat} (h:Im c mu m) {i:Nat} (hi:i<c.length):num mu i≠0:=by
 have hl:mu.length=c.length:=h.1;exact h.ne hc (x:=num mu i) (by simp [num,hl,hi])
theorem zDi {c:List (List Int)} (hc:CartanP c):∀(v:List Int) {mu:List Int} {m:Nat},Im c mu m→m≤29→v.length≤29→Lets c.length v→(bel c mu v=true↔Cox.Part c.length (ent c) (num mu) (toN v))
 | [],mu,m,h,hm,_,_=>by
  simp only [bel,decide_eq_true_eq,toN,List.map_nil];constructor
  ·intro e;refine ⟨[],List.Sublist.refl _,fun k hk=>?_⟩;rw [h.ones hc e];simp [Cox.aW,Cox.one,num,hk]
  ·rintro ⟨x,hx,he⟩;have:x=[]:=List.sublist_nil.1 hx;subst this;refine zCX.2 fun y hy=>?_;obtain ⟨k,hk,rfl⟩:=zEL hy;have hl:mu.length=c.length:=h.1;rw [<-he k (by omega)];simp [Cox.aW,Cox.one]
 | s::v,mu,m,h,hm,hv,hlv=>by
  have hs2:=hlv s (by simp);have hs:s.toNat<c.length:=by omega
  have hlv':Lets c.length v:=fun x hx=>hlv x (by simp [hx]);have hw:Cox.Lets c.length (toN v):=fun i hi=>by
   obtain ⟨x,hx,rfl⟩:=List.mem_map.1 hi;have:=hlv' x hx; omega
  have hw':Cox.Lets c.length (s.toNat::toN v):=fun i hi=>by
   rcases List.mem_cons.1 hi with rfl | hi
   ·exact hs
   ·exact hw i hi
  have hl:mu.length=c.length:=h.1;simp only [bel,Bool.and_eq_true,decide_eq_true_eq];have hg:Cox.Part c.length (ent c) (num mu) (toN (s::v))→(nf c 30 mu).length≤v.length+1:=fun hp=>by
   obtain ⟨m',h1,h2⟩:=Im.part hl hw' hp;have:=zFA hc h2 (by simp [toN] at h1; simp at hv; omega);simp [toN] at h1;omega
  have hne:=h.num_ne hc hs;by_cases hneg:num mu s.toNat<0
  ·rw [if_pos hneg];obtain ⟨m',hm',h3⟩:=h.back hc (by omega) (i:=s.toNat) (x:=num mu s.toNat) (by simp [num,hl,hs]) hneg;have ih:=zDi hc v h3 (by omega) (by simp at hv; omega) hlv';have e1:=Cox.part_down hc.car hs hw hneg;have e2:=zEe (c:=ent c) (w:=toN v) (fun k hk=>h.refl_num hc (by omega) hs (k:=k) hk);rw [ih,e2,<-e1];exact ⟨fun x=>x.2,fun x=>⟨hg x,x⟩⟩
  ·rw [if_neg hneg];have ih:=zDi hc v h hm (by simp at hv; omega) hlv';have e1:=(Cox.part_up hc.car (m:=num mu) hs hw (by omega)).1;rw [ih,<-e1];exact ⟨fun x=>x.2,fun x=>⟨hg x,x⟩⟩
theorem zI1 {c:List (List Int)} (hc:CartanP c):∀(v:List Int) {mu:List Int} {m:Nat},Im c mu m→m+v.length≤29→Lets c.length v→¬Cox.Part c.length (ent c) (num mu) (toN v)→rI c mu v=[]
 | [],mu,m,h,hm,hv,hn=>by
  have:=mt (zDi hc [] h (by simpa using hm) (by simp) hv).1 hn;simp [bel] at this;simp [rI,this]
 | s::v,mu,m,h,hm,hlv,hn=>by
  have hs2:=hlv s (by simp);have hs:s.toNat<c.length:=by omega
  have hlv':Lets c.length v:=fun x hx=>hlv x (by simp [hx]);have hw:Cox.Lets c.length (toN v):=fun i hi=>by
   obtain ⟨x,hx,rfl⟩:=List.mem_map.1 hi;have:=hlv' x hx; omega
  have hne:=h.num_ne hc hs;simp at hm;have h1:=h.step hc (by omega) hs;have e2:=zEe (c:=ent c) (w:=toN v) (fun k hk=>h.refl_num hc (by omega) hs (k:=k) hk);have a1:¬Cox.Part c.length (ent c) (num (refl c s.toNat mu)) (toN v):=by
   rw [e2];intro hp;by_cases hneg:num mu s.toNat<0
   ·exact hn ((Cox.part_down hc.car hs hw hneg).2 hp)
   ·have:=Cox.part_up hc.car (m:=num mu) hs hw (by omega);exact hn (this.1.2 (this.2 hp))
  unfold rI;rw [zI1 hc v h1 (by omega) hlv' a1];by_cases hneg:num mu s.toNat<0
  ·rw [if_pos hneg]
  ·have:=(Cox.part_up hc.car (m:=num mu) hs hw (by omega)).1;rw [if_neg hneg,zI1 hc v h (by omega) hlv' (mt this.2 hn)];decide
theorem zFp (p:List Int):∀n,zAU (0::p) (n+1)=if zAU p n=0 then 0 else zAU p n+1
 | 0=>by simp [zAU,num]
 | n+1=>by
  have ih:=zFp p n;have e:num (0::p) (n+1)=num p n:=by simp [num]
  rw [zAU,e,ih,zAU];by_cases h:num p n=0
  ·rw [if_pos h,if_pos h]
  ·rw [if_neg h,if_neg h,if_neg (by omega)]
theorem zCT (p:List Int):zAd p 1=shI p:=by
 unfold zAd shI;by_cases h:p.length=0
 ·have:p=[]:=List.eq_nil_of_length_eq_zero h;subst this;rfl
 ·rw [if_neg h];show trim (0::p)=_;unfold trim;rw [List.length_cons,zFp];have hle:=zDR p p.length;by_cases h0:zAU p p.length=0
  ·rw [if_pos h0,h0]; simp
  ·rw [if_neg h0,if_neg]
   ·rfl
   ·intro e;have:=congrArg List.length e;rw [List.length_take,List.length_nil] at this;omega
theorem zKg {c:List (List Int)} (hc:CartanP c):∀(v:List Int) {mu:List Int} {m:Nat},Im c mu m→m+v.length≤29→Lets c.length v→rS c mu v=rI c mu v
 | [],mu,m,h,hm,hv=>by simp [rS,rI,bel]
 | s::v,mu,m,h,hm,hlv=>by
  have hb:=zDi hc (s::v) h (by omega) (by omega) hlv;have hlv':Lets c.length v:=fun x hx=>hlv x (by simp [hx]);have hs2:=hlv s (by simp);have hs:s.toNat<c.length:=by omega
  simp at hm;by_cases hbt:bel c mu (s::v)=true
  ·unfold rS rI;rw [if_pos hbt,zKg hc v (h.step hc (by omega) hs) (by omega) hlv',zKg hc v h (by omega) hlv',zCT,zCT]
  ·have:=zI1 hc (s::v) h (by simp; omega) hlv (mt hb.2 hbt);unfold rS;rw [if_neg hbt,this]
theorem zFI {S:Nat→Prop} {v:Value} {l:List Int} {w:World} (h:RI S w v l) (hl:l.length≤8388608) :
  Calls Tryz.prog 74 #[v,.int .i64 1] w fun e w'=>∃r,e=.returned r∧FI (New w w') w' r (shI l)∧Below w.heap.size w w':=by
 obtain ⟨i0,hi,hz0,hz1,hz2⟩:=info_parts zBF;have HLE:=zBm l;have HSH:Hid (shI l=if trim l=[] then [] else 0::trim l):=zQY rfl;generalize shI l=res at *;go_enter Tryz.func74,Tryz.ntmps74
 go_wp2_with fail
 refine (zBN h (by omega)).mono ?_;rintro e w1 ⟨r1,rfl,f1,b1⟩;generalize trim l=t at *;obtain ⟨a1,c1,rfl⟩:=f1.reads.form;by_cases h0:t.length=0
 ·have i1:((t.length:Int) == 0)=true:=beq_iff_eq.2 (by omega);have ht:t=[]:=List.eq_nil_of_length_eq_zero h0;have hr:=HSH.out;rw [if_pos ht,<-ht] at hr;have HR:Hid (t=res):=zQY hr.symm;clear HSH hr ht h0;go_wp2_with fail
  go_ret
  rw [HR.out] at f1;have:=HR.out;subst this;exact ⟨_,rfl,f1,b1⟩
 ·have i1:((t.length:Int) == 0)=false:=beq_eq_false_iff_ne.2 (by omega);have hr:=HSH.out;rw [if_neg (fun e=>h0 (by rw [e]; rfl))] at hr;have HR:Hid (0::t=res):=zQY hr.symm;clear HSH hr h0;go_wp2_with (at_make; refine wpList_make_full _ rfl _ _ 25 rfl w1.heap.size 3 i0 (.int .i64 0) 1 Tryz.underlying25 hi hz0 hz1 _ _ _ _ 1 rfl rfl rfl rfl ?hb ?hm ?hs ?_)
  case hb=>first | (rw [hz2]; omega) | omega
  case hm=>unfold maxLen; omega
  case hs=>exact zQd _
  intro w2 hown hgr;have hb1:Below w.heap.size w w2:=b1.grown hgr (Nat.le_trans b1.size (zQd _)) (by simp);have hb2:Below w1.heap.size w1 w2:=(Below.refl _ w1).grown hgr (zQd _) (by simp);have hf1:FI (New w w2) w2 (.slice (some ⟨w1.heap.size,0,none⟩) 1 1) (List.replicate 1 0):=(FI.of_row hown (zQd _) (by simp) (by simp [toList_madeCells_one,Value.cells])).mono (fun b hb=>⟨Nat.le_trans b1.size hb.1,hb.2⟩);clear hgr hi hz0 hz1 hz2 hown;have f2:=f1.reads.below hb2;go_wp2_with (at_builtin; go_must (refine zAN (W:=w) rfl _ _ rfl rfl hf1 hb1 rfl f2 ?_ ?_))
  ·simp; omega
  ·intro v3 w3 f3 b3 _;rw [HR.out] at f3;go_wp2_with fail
   go_ret
   exact ⟨_,rfl,f3,b3⟩
theorem zC8 {c:List (List Int)} (hc:CartanP c):∀(m:Nat) {mu:List Int},Im c mu m→m≤30→Lets c.length (nf c 30 mu)
 | m,mu,h,hm=>by
  cases e:zAH mu with
  | none=>rw [zC1 e]; intro x hx; simp at hx
  | some i =>
   obtain ⟨m',rfl,h1,h2⟩:=zCq hc h hm e;have ih:=zC8 hc m' h1 (by omega);have hi:=zCG e;have hl:mu.length=c.length:=h.1;rw [h2];intro x hx;rcases List.mem_cons.1 hx with rfl | hx
   ·omega
   ·exact ih x hx
theorem zPv {c:List (List Int)} (hc:CartanP c) {mu:List Int} {m:Nat} (h:Im c mu m) (hm:m≤28) {i:Nat} (hi:i<c.length):(num mu i<0→(nf c 30 (refl c i mu)).length<(nf c 30 mu).length)∧(¬num mu i<0→¬(nf c 30 (refl c i mu)).length<(nf c 30 mu).length):=by
 have key:∀{nu:List Int} {k:Nat},Im c nu k→k≤29→num nu i<0→(nf c 30 (refl c i nu)).length<(nf c 30 nu).length:=by
  intro nu k hk hk2 hneg;have hl:=zFA hc hk (by omega);have hlt:Lets c.length (nf c 30 nu):=zC8 hc k hk (by omega);have him:=zAV hc hlt (by omega);rw [zBH hc k hk hk2] at him;obtain ⟨m',h1,h2⟩:=him.back hc (by omega) (i:=i) (x:=num nu i) (by have:=hk.1; simp [num,this,hi]) hneg;have:=zFA hc h2 (by omega);omega
 refine ⟨key h (by omega),fun hn=>?_⟩;have h2:=h.step hc (by omega) hi;have h3:=key h2 (by omega) (by
  rw [h.refl_num hc (by omega) hi hi];unfold Cox.sW;rw [hc.car.diag i hi];have:=h.num_ne hc hi;omega)
 rw [h.turn_two hc (by omega) hi] at h3;omega
theorem zEy {W w w1:World} {y:Int} (hw:Below W.heap.size W w) (h:w1=w.alloc (.cells #[.int .i64 y] 3)):FI (New W w1) w1 (.slice (some ⟨w.heap.size,0,none⟩) 1 1) [y]∧Below W.heap.size W w1:=by
 subst h;refine ⟨(FI.of_row (w:=w) (World.ownsRow_lit (base:=w.heap.size) (e:=3) (size:=1) w #[.int .i64 y] 1 (zQd _) (by unfold maxLen; omega) rfl) (zQd _) rfl rfl).mono (fun b hb=>⟨Nat.le_trans hw.size hb.1,hb.2⟩),hw.alloc hw.size _⟩
theorem zCA (p:List Int):(shI p).length≤p.length+1:=by
 unfold shI;have:=zBm p;by_cases h:trim p=[]
 ·rw [if_pos h]; simp
 ·rw [if_neg h]; simp; omega
theorem zM6 (l:List Int):(negL l).length=l.length:=by simp [negL]
theorem zDC (a b:List Int):(subP a b).length≤max a.length b.length:=by
 have:=zC7 a (negL b);rw [zM6] at this;exact this
theorem zFd (a b:List Int):InI (subP a b):=zC6 a (negL b)
theorem zFG {p:List Int} (h:InI p):InI (shI p):=by
 unfold shI;by_cases h0:trim p=[]
 ·rw [if_pos h0]; intro x hx; cases hx
 ·rw [if_neg h0];intro x hx;rcases List.mem_cons.1 hx with rfl | hx
  ·exact ⟨by decide,by decide⟩
  ·exact h x (zEn hx)
theorem zLr:InI [1]:=fun x hx=>by simp at hx; subst hx; exact ⟨by decide,by decide⟩
theorem zIn:InI []:=fun x hx=>by cases hx
theorem zDl (c:List (List Int)):∀(v:List Int) (mu:List Int),(rI c mu v).length≤v.length+1
 | [],mu=>by unfold rI; split <;> simp
 | s::v,mu=>by
  have h1:=zDl c v (refl c s.toNat mu);have h2:=zDl c v mu;unfold rI;split
  ·simp; omega
  ·have a1:=zC7 (shI (rI c (refl c s.toNat mu) v)) (subP (shI (rI c mu v)) (rI c mu v));have a2:=zDC (shI (rI c mu v)) (rI c mu v);have a3:=zCA (rI c (refl c s.toNat mu) v);have a4:=zCA (rI c mu v);simp;omega
theorem zHx (c:List (List Int)):∀(v:List Int) (mu:List Int),InI (rI c mu v)
 | [],mu=>by unfold rI; split; exact zLr; exact zIn
 | s::v,mu=>by
  unfold rI;split
  ·exact zHx c v _
  ·exact zC6 _ _
theorem zGg (c:List (List Int)):∀(v:List Int) (mu:List Int),(rS c mu v).length≤v.length+1
 | [],mu=>by unfold rS; split <;> simp
 | s::v,mu=>by
  have h1:=zGg c v (refl c s.toNat mu);have h2:=zGg c v mu;unfold rS;split
  ·split
   ·simp; omega
   ·rw [zCT,zCT];have a1:=zC7 (shI (rS c (refl c s.toNat mu) v)) (subP (shI (rS c mu v)) (rS c mu v));have a2:=zDC (shI (rS c mu v)) (rS c mu v);have a3:=zCA (rS c (refl c s.toNat mu) v);have a4:=zCA (rS c mu v);simp;omega
  ·simp
theorem zGf (c:List (List Int)):∀(v:List Int) (mu:List Int),InI (rS c mu v)
 | [],mu=>by unfold rS; split; exact zLr; exact zIn
 | s::v,mu=>by
  unfold rS;split
  ·split
   ·exact zGf c v _
   ·exact zC6 _ _
  ·exact zIn
theorem zDz {p:List Int} (h:InI p):InI (zAd p 1):=by rw [zCT]; exact zFG h
theorem zCS (p:List Int):(zAd p 1).length≤p.length+1:=by rw [zCT]; exact zCA p
end Go.Proofs.YtlchafedbnihoaaGreat
