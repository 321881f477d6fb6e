/- Numbers that make a matrix of finite type symmetric: the program's and the reference's. Plain lists; all matrices checked. -/
import Derived.Test.YtallmimhfmaapaaGreatDoorCGPart
namespace Go.Proofs.YtallmimhfmaapaaGreatDoor
open Go.RowKit
set_option maxRecDepth 20000
theorem zCb {σ α:Type} {f:Option σ→α→Option σ} (hn:∀x,f none x=none):∀L:List α,L.foldl f none=none
 | []=>rfl
 | x::L=>by rw [List.foldl_cons,hn]; exact zCb hn L
theorem zBr {σ α:Type} {f:Option σ→α→Option σ} (hn:∀x,f none x=none) {L:List α} {s0:Option σ} (h:(L.foldl f s0).isSome=true) {k:Nat} {x:α} (hx:L[k]? = some x) :
  ∃st st',(L.take k).foldl f s0=some st∧f (some st) x=some st'∧(L.take (k+1)).foldl f s0=some st':=by
 have e:L.foldl f s0=(L.drop (k+1)).foldl f (f ((L.take k).foldl f s0) x):=by
  conv=>lhs; rw [<-List.take_append_drop k L,List.foldl_append,zAD hx,List.foldl_cons]
 have e2:(L.take (k+1)).foldl f s0=f ((L.take k).foldl f s0) x:=by rw [zAE hx,List.foldl_append]; rfl
 cases e1:(L.take k).foldl f s0 with
 | none=>rw [e1,hn] at e; rw [e,zCb hn] at h; cases h
 | some st =>
  cases e3:f (some st) x with
  | none=>rw [e1,e3] at e; rw [e,zCb hn] at h; cases h
  | some st'=>exact ⟨st,st',rfl,e3,by rw [e2,e1,e3]⟩
def quoP (a b d:Int):Option Int:=if d≠0∧(-1000000≤a*b∧a*b≤1000000) then some ((a*b).tdiv d) else none
abbrev Gs:=List Int × List Nat
def zDE (c:List (List Int)) (i:Nat) (st:Option Gs) (j:Nat):Option Gs :=
 match st with
 | none=>none
 | some (out,q)=>if num out j=0 then
   match quoP (num out i) (ent c i j) (ent c j i) with
   | none=>none
   | some x=>if q.length<5 then some (out.set j x,q++[j]) else none
  else some (out,q)
def gBfs (c:List (List Int)):Nat→Nat→Gs→Option Gs
 | 0,k,st=>if st.2.length≤k then some st else none
 |f+1,k,st=>match st.2[k]? with
  | none=>some st
  |some i=>match (nbr c i).foldl (zDE c i) (some st) with
   | none=>none
   | some st'=>gBfs c f (k+1) st'
def gcdF:Nat→Int→Int→Option Int
 | 0,a,b=>if b=0 then some a else none
 | f+1,a,b=>if b=0 then some a else gcdF f b (a.tmod b)
def gcdP (a b:Int):Option Int:=if -1000000≤a∧a≤1000000∧-1000000≤b∧b≤1000000 then gcdF 40 a b else none
def zD9 (out:List Int) (g:Option Int) (i:Nat):Option Int:=match g with
 | none=>none
 | some g=>gcdP (num out i) g
def zDk (g:Int) (o:Option (List Int)) (i:Nat):Option (List Int):=match o with
 | none=>none
 |some o=>match quoP (num o i) 1 g with
  | none=>none
  | some x=>some (o.set i x)
def zCh (c:List (List Int)) (o:Option (List Int)) (part:List Nat):Option (List Int):=match o with
 | none=>none
 |some out=>match part.head? with
  | none=>none
  |some p=>match gBfs c 6 0 (out.set p 36,[p]) with
   | none=>none
   |some st=>match part.foldl (zD9 st.1) (some 0) with
    | none=>none
    | some g=>part.foldl (zDk g) (some st.1)
def symI (c:List (List Int)):Option (List Int):=(zAP c).foldl (zCh c) (some (List.replicate c.length 0))
def zDm (c:List (List Int)) (i:Nat) (o:Option (List Int)) (k:Nat):Option (List Int):=match o with
 | none=>none
 | some out=>if 0<num out i∧num out k=0∧i≠k∧ent c i k≠0 then
   match quoP (num out i) (ent c i k) (ent c k i) with
   | none=>none
   | some x=>if (num out i*ent c i k).tmod (ent c k i)=0 then some (out.set k x) else some out
  else some out
def zDp (c:List (List Int)) (o:Option (List Int)) (i:Nat):Option (List Int):=(List.range c.length).foldl (zDm c i) o
def zEF (c:List (List Int)) (o:Option (List Int)) (_:Nat):Option (List Int):=(List.range c.length).foldl (zDp c) o
def zEe (c:List (List Int)) (p:List Nat) (d:Int):Option (List Int):=match p.head? with
 | none=>none
 | some p0=>p.foldl (zEF c) (some ((List.replicate c.length 0).set p0 d))
def zCU (l:List Int) (p:List Nat):Bool:=p.all fun i=>decide (0<num l i)
def layS (l out:List Int) (p:List Nat):List Int:=p.foldl (fun o i=>o.set i (num l i)) out
def tryS (c:List (List Int)) (p:List Nat) (out:List Int):Nat→Int→Option (List Int)
 | 0,_=>some out
 |f+1,d=>match zEe c p d with
  | none=>none
  | some l=>if zCU l p=true then some (layS l out p) else tryS c p out f (d+1)
def zC7 (c:List (List Int)) (o:Option (List Int)) (p:List Nat):Option (List Int):=match o with
 | none=>none
 | some out=>tryS c p out 3 1
def symS (c:List (List Int)):Option (List Int):=(zBN c).foldl (zC7 c) (some (List.replicate c.length 0))
def zNk (c:List (List Int)):Bool:=(symI c).isSome && decide (symI c=symS c) && decide (((symI c).getD []).length=c.length) && ((symI c).getD []).all fun x=>decide (0<x∧x≤1000)
theorem zMm:(Fin.L1++Fin.L2++Fin.L3++Fin.L4).all zNk=true:=by decide +kernel
def symP (c:List (List Int)):List Int:=(symI c).getD []
theorem FinP.sym {c:List (List Int)} (h:FinP c):symI c=some (symP c)∧symS c=some (symP c)∧(symP c).length=c.length∧∀x∈symP c,0<x∧x≤1000:=by
 have:=h.all zMm;unfold zNk at this;simp only [Bool.and_eq_true,decide_eq_true_eq,List.all_eq_true] at this;obtain ⟨⟨⟨h1,h2⟩,h3⟩,h4⟩:=this;have e:symI c=some (symP c):=by
  unfold symP;cases e:symI c with
  | none=>rw [e] at h1; cases h1
  | some x=>rfl
 exact ⟨e,by rw [<-h2]; exact e,h3,h4⟩
def tyN:List (List UInt8):=[[65,49],[65,50],[65,51],[65,52],[66,50],[66,51],[66,52],[67,51],[67,52],[68,52],[70,52],[71,50]]
def tyM:List (List (List Int)):=[[[2]],[[2,-1],[-1,2]],[[2,-1,0],[-1,2,-1],[0,-1,2]],[[2,-1,0,0],[-1,2,-1,0],[0,-1,2,-1],[0,0,-1,2]],
 [[2,-1],[-2,2]],[[2,-1,0],[-1,2,-1],[0,-2,2]],[[2,-1,0,0],[-1,2,-1,0],[0,-1,2,-1],[0,0,-2,2]],
 [[2,-1,0],[-1,2,-2],[0,-1,2]],[[2,-1,0,0],[-1,2,-1,0],[0,-1,2,-2],[0,0,-1,2]],
 [[2,-1,0,0],[-1,2,-1,-1],[0,-1,2,0],[0,-1,0,2]],[[2,-1,0,0],[-1,2,-1,0],[0,-2,2,-1],[0,0,-1,2]],[[2,-1],[-3,2]]]
def tyS:List Nat:=[2,6,24,120,8,48,384,48,384,192,1152,12]
def zAa (c:List (List Int)) (p:List Nat):List (List Int):=p.map fun i=>p.map fun j=>ent c i j
def zL6 (n:Nat) (out:List (List Nat)):List (List Nat):=out.flatMap fun o=>(List.range n).filterMap fun x=>if x∈o then none else some (o++[x])
def ordN (n:Nat):List (List Nat):=(List.range n).foldl (fun out _=>zL6 n out) [[]]
def isoS (a b:List (List Int)):Bool:=decide (a.length=b.length) && (ordN a.length).any fun o=>decide (zAa a o=b)
def fitB (a b:List (List Int)) (o:List Nat) (i:Nat):Bool:=(List.range o.length).all fun j=>decide (ent a i ((o[j]?).getD 0)=ent b o.length j) && decide (ent a ((o[j]?).getD 0) i=ent b j o.length)
def mt1 (a b:List (List Int)):Nat→List Nat→Option (List Nat)
 | 0,o=>some o
 | f+1,o=>(List.range a.length).findSome? fun i=>if i∈o then none else if fitB a b o i=true then mt1 a b f (o++[i]) else none
def isoI (a b:List (List Int)):Bool:=decide (a.length=b.length) && (mt1 a b b.length []).isSome
def nmK (iso:List (List Int)→List (List Int)→Bool) (a:List (List Int)):Option Nat:=(List.range 12).find? fun k=>iso a ((tyM[k]?).getD [])
def szK (k:Nat):Nat:=(tyS[k]?).getD 0
def nms (iso:List (List Int)→List (List Int)→Bool) (c:List (List Int)) (ps:List (List Nat)):List (Option Nat):=ps.map fun p=>nmK iso (zAa c p)
def chkN (c:List (List Int)):Bool:=(zAP c == zBN c) && ((nms isoI c (zAP c)).all Option.isSome && (nms isoI c (zAP c) == nms isoS c (zAP c)))
theorem zSy:(Fin.L1++Fin.L2++Fin.L3).all chkN=true:=by decide +kernel
theorem zSr:((Fin.L4.drop 0).take 37).all chkN=true:=by decide +kernel
theorem zSs:((Fin.L4.drop 37).take 37).all chkN=true:=by decide +kernel
theorem zSt:((Fin.L4.drop 74).take 37).all chkN=true:=by decide +kernel
theorem zSu:((Fin.L4.drop 111).take 37).all chkN=true:=by decide +kernel
theorem zSv:((Fin.L4.drop 148).take 37).all chkN=true:=by decide +kernel
theorem zSw:((Fin.L4.drop 185).take 37).all chkN=true:=by decide +kernel
theorem zSx:(Fin.L4.drop 222).all chkN=true:=by decide +kernel
theorem zBK {α:Type} {p:α→Bool} {l:List α} {k m k':Nat} (h1:((l.drop k).take m).all p=true) (h2:(l.drop k').all p=true) (hk:k'=k+m):(l.drop k).all p=true:=by
 subst hk;rw [<-List.take_append_drop m (l.drop k),List.all_append,h1,List.drop_drop,h2]; rfl
theorem zPL:(Fin.L1++Fin.L2++Fin.L3++Fin.L4).all chkN=true:=by
 have h6:=zSx;have h5:=zBK zSw h6 rfl;have h4:=zBK zSv h5 rfl;have h3:=zBK zSu h4 rfl;have h2:=zBK zSt h3 rfl;have h1:=zBK zSs h2 rfl;have h0:=zBK zSr h1 rfl;rw [List.drop_zero] at h0;rw [List.all_append,zSy,h0];rfl
def szP (c:List (List Int)):Nat:=((nms isoI c (zAP c)).map fun o=>szK (o.getD 12)).foldl (· * ·) 1
theorem FinP.names {c:List (List Int)} (h:FinP c):zAP c=zBN c∧(∀p∈zAP c,∃k,k<12∧nmK isoI (zAa c p)=some k∧nmK isoS (zAa c p)=some k):=by
 have:=h.all zPL;unfold chkN at this;rw [Bool.and_eq_true,Bool.and_eq_true] at this;obtain ⟨h1,h2,h3⟩:=this;refine ⟨by simpa using h1,fun p hp=>?_⟩;have h3:nms isoI c (zAP c)=nms isoS c (zAP c):=by simpa using h3
 have h4:nmK isoI (zAa c p)=nmK isoS (zAa c p):=by
  unfold nms at h3;exact List.map_inj_left.1 h3 p hp
 have h5:=List.all_eq_true.1 h2 (nmK isoI (zAa c p)) (List.mem_map_of_mem hp);obtain ⟨k,hk⟩:=Option.isSome_iff_exists.1 h5;refine ⟨k,?_,hk,by rw [<-h4,hk]⟩;unfold nmK at hk;exact List.mem_range.1 (List.mem_of_find?_eq_some hk)
end Go.Proofs.YtallmimhfmaapaaGreatDoor
