/- Numbers that make a matrix of finite type symmetric: the program's and the reference's. Plain lists; all matrices checked. -/
import Derived.Test.YtphbichgpcicnaaGreatDoorJGPart
namespace Go.Proofs.YtphbichgpcicnaaGreatDoor
open Go.RowKit
set_option maxRecDepth 20000
theorem zDP {σ α:Type} {f:Option σ→α→Option σ} (hn:∀x,f none x=none):∀L:List α,L.foldl f none=none
 | []=>rfl
 | x::L=>by rw [List.foldl_cons,hn]; exact zDP hn L
theorem zB3 {σ α:Type} {f:Option σ→α→Option σ} (hn:∀x,f none x=none) {L:List α} {s0:Option σ} (h:(L.foldl f s0).isSome=true) {k:Nat} {x:α} (hx:L[k]? = some x) :
  ∃st st',(L.take k).foldl f s0=some st∧f (some st) x=some st'∧(L.take (k+1)).foldl f s0=some st':=by
 have e:L.foldl f s0=(L.drop (k+1)).foldl f (f ((L.take k).foldl f s0) x):=by
  conv=>lhs; rw [<-List.take_append_drop k L,List.foldl_append,zAC hx,List.foldl_cons]
 have e2:(L.take (k+1)).foldl f s0=f ((L.take k).foldl f s0) x:=by rw [zAG hx,List.foldl_append]; rfl
 cases e1:(L.take k).foldl f s0 with
 | none=>rw [e1,hn] at e; rw [e,zDP hn] at h; cases h
 | some st =>
  cases e3:f (some st) x with
  | none=>rw [e1,e3] at e; rw [e,zDP hn] at h; cases h
  | some st'=>exact ⟨st,st',rfl,e3,by rw [e2,e1,e3]⟩
def quoP (a b d:Int):Option Int:=if d≠0∧(-1000000≤a*b∧a*b≤1000000) then some ((a*b).tdiv d) else none
abbrev Gs:=List Int × List Nat
def zDE (c:List (List Int)) (i:Nat) (st:Option Gs) (j:Nat):Option Gs :=
 match st with
 | none=>none
 | some (out,q)=>if num out j=0 then
   match quoP (num out i) (ent c i j) (ent c j i) with
   | none=>none
   | some x=>if q.length<5 then some (out.set j x,q++[j]) else none
  else some (out,q)
def gBfs (c:List (List Int)):Nat→Nat→Gs→Option Gs
 | 0,k,st=>if st.2.length≤k then some st else none
 |f+1,k,st=>match st.2[k]? with
  | none=>some st
  |some i=>match (nbr c i).foldl (zDE c i) (some st) with
   | none=>none
   | some st'=>gBfs c f (k+1) st'
def gcdF:Nat→Int→Int→Option Int
 | 0,a,b=>if b=0 then some a else none
 | f+1,a,b=>if b=0 then some a else gcdF f b (a.tmod b)
def gcdP (a b:Int):Option Int:=if -1000000≤a∧a≤1000000∧-1000000≤b∧b≤1000000 then gcdF 40 a b else none
def zEQ (out:List Int) (g:Option Int) (i:Nat):Option Int:=match g with
 | none=>none
 | some g=>gcdP (num out i) g
def zDm (g:Int) (o:Option (List Int)) (i:Nat):Option (List Int):=match o with
 | none=>none
 |some o=>match quoP (num o i) 1 g with
  | none=>none
  | some x=>some (o.set i x)
def zCp (c:List (List Int)) (o:Option (List Int)) (part:List Nat):Option (List Int):=match o with
 | none=>none
 |some out=>match part.head? with
  | none=>none
  |some p=>match gBfs c 6 0 (out.set p 36,[p]) with
   | none=>none
   |some st=>match part.foldl (zEQ st.1) (some 0) with
    | none=>none
    | some g=>part.foldl (zDm g) (some st.1)
def symI (c:List (List Int)):Option (List Int):=(zAU c).foldl (zCp c) (some (List.replicate c.length 0))
def zDn (c:List (List Int)) (i:Nat) (o:Option (List Int)) (k:Nat):Option (List Int):=match o with
 | none=>none
 | some out=>if 0<num out i∧num out k=0∧i≠k∧ent c i k≠0 then
   match quoP (num out i) (ent c i k) (ent c k i) with
   | none=>none
   | some x=>if (num out i*ent c i k).tmod (ent c k i)=0 then some (out.set k x) else some out
  else some out
def zDq (c:List (List Int)) (o:Option (List Int)) (i:Nat):Option (List Int):=(List.range c.length).foldl (zDn c i) o
def zEX (c:List (List Int)) (o:Option (List Int)) (_:Nat):Option (List Int):=(List.range c.length).foldl (zDq c) o
def zEz (c:List (List Int)) (p:List Nat) (d:Int):Option (List Int):=match p.head? with
 | none=>none
 | some p0=>p.foldl (zEX c) (some ((List.replicate c.length 0).set p0 d))
def zCe (l:List Int) (p:List Nat):Bool:=p.all fun i=>decide (0<num l i)
def layS (l out:List Int) (p:List Nat):List Int:=p.foldl (fun o i=>o.set i (num l i)) out
def tryS (c:List (List Int)) (p:List Nat) (out:List Int):Nat→Int→Option (List Int)
 | 0,_=>some out
 |f+1,d=>match zEz c p d with
  | none=>none
  | some l=>if zCe l p=true then some (layS l out p) else tryS c p out f (d+1)
def zC6 (c:List (List Int)) (o:Option (List Int)) (p:List Nat):Option (List Int):=match o with
 | none=>none
 | some out=>tryS c p out 3 1
def symS (c:List (List Int)):Option (List Int):=(zBU c).foldl (zC6 c) (some (List.replicate c.length 0))
def zOa (c:List (List Int)):Bool:=(symI c).isSome && decide (symI c=symS c) && decide (((symI c).getD []).length=c.length) && ((symI c).getD []).all fun x=>decide (0<x∧x≤1000)
theorem zNQ:(Fin.L1++Fin.L2++Fin.L3++Fin.L4).all zOa=true:=by decide +kernel
def symP (c:List (List Int)):List Int:=(symI c).getD []
theorem FinP.sym {c:List (List Int)} (h:FinP c):symI c=some (symP c)∧symS c=some (symP c)∧(symP c).length=c.length∧∀x∈symP c,0<x∧x≤1000:=by
 have:=h.all zNQ;unfold zOa at this;simp only [Bool.and_eq_true,decide_eq_true_eq,List.all_eq_true] at this;obtain ⟨⟨⟨h1,h2⟩,h3⟩,h4⟩:=this;have e:symI c=some (symP c):=by
  unfold symP;cases e:symI c with
  | none=>rw [e] at h1; cases h1
  | some x=>rfl
 exact ⟨e,by rw [<-h2]; exact e,h3,h4⟩
def tyN:List (List UInt8):=[[65,49],[65,50],[65,51],[65,52],[66,50],[66,51],[66,52],[67,51],[67,52],[68,52],[70,52],[71,50]]
def tyM:List (List (List Int)):=[[[2]],[[2,-1],[-1,2]],[[2,-1,0],[-1,2,-1],[0,-1,2]],[[2,-1,0,0],[-1,2,-1,0],[0,-1,2,-1],[0,0,-1,2]],
 [[2,-1],[-2,2]],[[2,-1,0],[-1,2,-1],[0,-2,2]],[[2,-1,0,0],[-1,2,-1,0],[0,-1,2,-1],[0,0,-2,2]],
 [[2,-1,0],[-1,2,-2],[0,-1,2]],[[2,-1,0,0],[-1,2,-1,0],[0,-1,2,-2],[0,0,-1,2]],
 [[2,-1,0,0],[-1,2,-1,-1],[0,-1,2,0],[0,-1,0,2]],[[2,-1,0,0],[-1,2,-1,0],[0,-2,2,-1],[0,0,-1,2]],[[2,-1],[-3,2]]]
def tyS:List Nat:=[2,6,24,120,8,48,384,48,384,192,1152,12]
def zBH (c:List (List Int)) (p:List Nat):List (List Int):=p.map fun i=>p.map fun j=>ent c i j
def zT2 (n:Nat) (out:List (List Nat)):List (List Nat):=out.flatMap fun o=>(List.range n).filterMap fun x=>if x∈o then none else some (o++[x])
def ordN (n:Nat):List (List Nat):=(List.range n).foldl (fun out _=>zT2 n out) [[]]
def isoS (a b:List (List Int)):Bool:=decide (a.length=b.length) && (ordN a.length).any fun o=>decide (zBH a o=b)
def fitB (a b:List (List Int)) (o:List Nat) (i:Nat):Bool:=(List.range o.length).all fun j=>decide (ent a i ((o[j]?).getD 0)=ent b o.length j) && decide (ent a ((o[j]?).getD 0) i=ent b j o.length)
def mt1 (a b:List (List Int)):Nat→List Nat→Option (List Nat)
 | 0,o=>some o
 | f+1,o=>(List.range a.length).findSome? fun i=>if i∈o then none else if fitB a b o i=true then mt1 a b f (o++[i]) else none
def isoI (a b:List (List Int)):Bool:=decide (a.length=b.length) && (mt1 a b b.length []).isSome
def nmK (iso:List (List Int)→List (List Int)→Bool) (a:List (List Int)):Option Nat:=(List.range 12).find? fun k=>iso a ((tyM[k]?).getD [])
def szK (k:Nat):Nat:=(tyS[k]?).getD 0
def nms (iso:List (List Int)→List (List Int)→Bool) (c:List (List Int)) (ps:List (List Nat)):List (Option Nat):=ps.map fun p=>nmK iso (zBH c p)
def chkN (c:List (List Int)):Bool:=(zAU c == zBU c) && ((nms isoI c (zAU c)).all Option.isSome && (nms isoI c (zAU c) == nms isoS c (zAU c)))
theorem zVF:(Fin.L1++Fin.L2++Fin.L3).all chkN=true:=by decide +kernel
theorem zU8:((Fin.L4.drop 0).take 37).all chkN=true:=by decide +kernel
theorem zU9:((Fin.L4.drop 37).take 37).all chkN=true:=by decide +kernel
theorem zVA:((Fin.L4.drop 74).take 37).all chkN=true:=by decide +kernel
theorem zVB:((Fin.L4.drop 111).take 37).all chkN=true:=by decide +kernel
theorem zVC:((Fin.L4.drop 148).take 37).all chkN=true:=by decide +kernel
theorem zVD:((Fin.L4.drop 185).take 37).all chkN=true:=by decide +kernel
theorem zVE:(Fin.L4.drop 222).all chkN=true:=by decide +kernel
theorem zBR {α:Type} {p:α→Bool} {l:List α} {k m k':Nat} (h1:((l.drop k).take m).all p=true) (h2:(l.drop k').all p=true) (hk:k'=k+m):(l.drop k).all p=true:=by
 subst hk;rw [<-List.take_append_drop m (l.drop k),List.all_append,h1,List.drop_drop,h2]; rfl
theorem zRA:(Fin.L1++Fin.L2++Fin.L3++Fin.L4).all chkN=true:=by
 have h6:=zVE;have h5:=zBR zVD h6 rfl;have h4:=zBR zVC h5 rfl;have h3:=zBR zVB h4 rfl;have h2:=zBR zVA h3 rfl;have h1:=zBR zU9 h2 rfl;have h0:=zBR zU8 h1 rfl;rw [List.drop_zero] at h0;rw [List.all_append,zVF,h0];rfl
def szP (c:List (List Int)):Nat:=((nms isoI c (zAU c)).map fun o=>szK (o.getD 12)).foldl (· * ·) 1
theorem FinP.names {c:List (List Int)} (h:FinP c):zAU c=zBU c∧(∀p∈zAU c,∃k,k<12∧nmK isoI (zBH c p)=some k∧nmK isoS (zBH c p)=some k):=by
 have:=h.all zRA;unfold chkN at this;rw [Bool.and_eq_true,Bool.and_eq_true] at this;obtain ⟨h1,h2,h3⟩:=this;refine ⟨by simpa using h1,fun p hp=>?_⟩;have h3:nms isoI c (zAU c)=nms isoS c (zAU c):=by simpa using h3
 have h4:nmK isoI (zBH c p)=nmK isoS (zBH c p):=by
  unfold nms at h3;exact List.map_inj_left.1 h3 p hp
 have h5:=List.all_eq_true.1 h2 (nmK isoI (zBH c p)) (List.mem_map_of_mem hp);obtain ⟨k,hk⟩:=Option.isSome_iff_exists.1 h5;refine ⟨k,?_,hk,by rw [<-h4,hk]⟩;unfold nmK at hk;exact List.mem_range.1 (List.mem_of_find?_eq_some hk)
end Go.Proofs.YtphbichgpcicnaaGreatDoor
