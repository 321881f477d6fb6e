/- R-polynomials by images of the ones: the program's recursion and the reference's agree. Plain. Condition: lengths together at most 29. -/
import Derived.Test.YtlchafedbnihoaaGreatDoorJGPoly
import Derived.Test.YtlchafedbnihoaaGreatDoorJGNrm
namespace Go.Proofs.YtlchafedbnihoaaGreatDoor
open Go.RowKit
set_option maxRecDepth 20000
set_option maxHeartbeats 16000000
def shI (p:List Int):List Int:=if trim p=[] then [] else 0::trim p
def bel (c:List (List Int)):List Int→List Int→Bool
 | mu,[]=>decide (zAL mu=none)
 | mu,s::v=>decide ((nf c 30 mu).length≤v.length+1) && bel c (if num mu s.toNat<0 then refl c s.toNat mu else mu) v
theorem Im.part {c:List (List Int)} {mu:List Int} {w:List Nat} (hl:mu.length=c.length) (hw:Cox.Lets c.length w) (h:Cox.Part c.length (ent c) (num mu) w):∃m,m≤w.length∧Im c mu m:=by
 obtain ⟨x,hx,he⟩:=h;exact ⟨x.length,hx.length_le,hl,x,Cox.part_lets hw hx,rfl,fun k hk=>(he k hk).symm⟩
theorem zEe (p:List Int):∀n,zAR (0::p) (n+1)=if zAR p n=0 then 0 else zAR p n+1
 | 0=>by simp [zAR,num]
 | n+1=>by
  have ih:=zEe p n;have e:num (0::p) (n+1)=num p n:=by simp [num]
  rw [zAR,e,ih,zAR];by_cases h:num p n=0
  ·rw [if_pos h,if_pos h]
  ·rw [if_neg h,if_neg h,if_neg (by omega)]
theorem zFg (p:List Int):zCy p 1=shI p:=by
 unfold zCy shI;by_cases h:p.length=0
 ·have:p=[]:=List.eq_nil_of_length_eq_zero h;subst this;rfl
 ·rw [if_neg h];show trim (0::p)=_;unfold trim;rw [List.length_cons,zEe];have hle:=zCg p p.length;by_cases h0:zAR p p.length=0
  ·rw [if_pos h0,h0]; simp
  ·rw [if_neg h0,if_neg]
   ·rfl
   ·intro e;have:=congrArg List.length e;rw [List.length_take,List.length_nil] at this;omega
theorem zKS {S:Nat→Prop} {v:Value} {l:List Int} {w:World} (h:RI S w v l) (hl:l.length≤8388608) :
  Calls Tryz.prog 100 #[v,.int .i64 1] w fun e w'=>∃r,e=.returned r∧FI (New w w') w' r (shI l)∧Below w.heap.size w w':=by
 obtain ⟨i0,hi,hz0,hz1,hz2⟩:=info_parts zBK;have HLE:=zCX l;have HSH:Hid (shI l=if trim l=[] then [] else 0::trim l):=zNg rfl;generalize shI l=res at *;go_enter Tryz.func100,Tryz.ntmps100
 go_wp2_with fail
 refine (zBC h (by omega)).mono ?_;rintro e w1 ⟨r1,rfl,f1,b1⟩;generalize trim l=t at *;obtain ⟨a1,c1,rfl⟩:=f1.reads.form;by_cases h0:t.length=0
 ·have i1:((t.length:Int) == 0)=true:=beq_iff_eq.2 (by omega);have ht:t=[]:=List.eq_nil_of_length_eq_zero h0;have hr:=HSH.out;rw [if_pos ht,<-ht] at hr;have HR:Hid (t=res):=zNg hr.symm;clear HSH hr ht h0;go_wp2_with fail
  go_ret
  rw [HR.out] at f1;have:=HR.out;subst this;exact ⟨_,rfl,f1,b1⟩
 ·have i1:((t.length:Int) == 0)=false:=beq_eq_false_iff_ne.2 (by omega);have hr:=HSH.out;rw [if_neg (fun e=>h0 (by rw [e]; rfl))] at hr;have HR:Hid (0::t=res):=zNg hr.symm;clear HSH hr h0;go_wp2_with (at_make; refine wpList_make_full _ rfl _ _ 33 rfl w1.heap.size 3 i0 (.int .i64 0) 1 Tryz.underlying33 hi hz0 hz1 _ _ _ _ 1 rfl rfl rfl rfl ?hb ?hm ?hs ?_)
  case hb=>first | (rw [hz2]; omega) | omega
  case hm=>unfold maxLen; omega
  case hs=>exact zNl _
  intro w2 hown hgr;have hb1:Below w.heap.size w w2:=b1.grown hgr (Nat.le_trans b1.size (zNl _)) (by simp);have hb2:Below w1.heap.size w1 w2:=(Below.refl _ w1).grown hgr (zNl _) (by simp);have hf1:FI (New w w2) w2 (.slice (some ⟨w1.heap.size,0,none⟩) 1 1) (List.replicate 1 0):=(FI.of_row hown (zNl _) (by simp) (by simp [toList_madeCells_one,Value.cells])).mono (fun b hb=>⟨Nat.le_trans b1.size hb.1,hb.2⟩);clear hgr hi hz0 hz1 hz2 hown;have f2:=f1.reads.below hb2;go_wp2_with (at_builtin; go_must (refine zAG (W:=w) rfl _ _ rfl rfl hf1 hb1 rfl f2 ?_ ?_))
  ·simp; omega
  ·intro v3 w3 f3 b3 _;rw [HR.out] at f3;go_wp2_with fail
   go_ret
   exact ⟨_,rfl,f3,b3⟩
theorem zGI {W w w1:World} {y:Int} (hw:Below W.heap.size W w) (h:w1=w.alloc (.cells #[.int .i64 y] 3)):FI (New W w1) w1 (.slice (some ⟨w.heap.size,0,none⟩) 1 1) [y]∧Below W.heap.size W w1:=by
 subst h;refine ⟨(FI.of_row (w:=w) (World.ownsRow_lit (base:=w.heap.size) (e:=3) (size:=1) w #[.int .i64 y] 1 (zNl _) (by unfold maxLen; omega) rfl) (zNl _) rfl rfl).mono (fun b hb=>⟨Nat.le_trans hw.size hb.1,hb.2⟩),hw.alloc hw.size _⟩
theorem zIi (p:List Int):(shI p).length≤p.length+1:=by
 unfold shI;have:=zCX p;by_cases h:trim p=[]
 ·rw [if_pos h]; simp
 ·rw [if_neg h]; simp; omega
theorem zKR {p:List Int} (h:InI p):InI (shI p):=by
 unfold shI;by_cases h0:trim p=[]
 ·rw [if_pos h0]; intro x hx; cases hx
 ·rw [if_neg h0];intro x hx;rcases List.mem_cons.1 hx with rfl | hx
  ·exact ⟨by decide,by decide⟩
  ·exact h x (zCY hx)
end Go.Proofs.YtlchafedbnihoaaGreatDoor
