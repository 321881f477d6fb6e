/- Numbers that make a matrix of finite type symmetric: the program's and the reference's. Plain lists; all matrices checked. -/
import Derived.Test.YtlgcdacpjcnjgaaGreatDoorJGPart
namespace Go.Proofs.YtlgcdacpjcnjgaaGreatDoor
open Go.RowKit
set_option maxRecDepth 20000
abbrev Gs:=List Int × List Nat
def tyN:List (List UInt8):=[[65,49],[65,50],[65,51],[65,52],[66,50],[66,51],[66,52],[67,51],[67,52],[68,52],[70,52],[71,50]]
def tyM:List (List (List Int)):=[[[2]],[[2,-1],[-1,2]],[[2,-1,0],[-1,2,-1],[0,-1,2]],[[2,-1,0,0],[-1,2,-1,0],[0,-1,2,-1],[0,0,-1,2]],
 [[2,-1],[-2,2]],[[2,-1,0],[-1,2,-1],[0,-2,2]],[[2,-1,0,0],[-1,2,-1,0],[0,-1,2,-1],[0,0,-2,2]],
 [[2,-1,0],[-1,2,-2],[0,-1,2]],[[2,-1,0,0],[-1,2,-1,0],[0,-1,2,-2],[0,0,-1,2]],
 [[2,-1,0,0],[-1,2,-1,-1],[0,-1,2,0],[0,-1,0,2]],[[2,-1,0,0],[-1,2,-1,0],[0,-2,2,-1],[0,0,-1,2]],[[2,-1],[-3,2]]]
def tyS:List Nat:=[2,6,24,120,8,48,384,48,384,192,1152,12]
def zAc (c:List (List Int)) (p:List Nat):List (List Int):=p.map fun i=>p.map fun j=>ent c i j
def zKp (n:Nat) (out:List (List Nat)):List (List Nat):=out.flatMap fun o=>(List.range n).filterMap fun x=>if x∈o then none else some (o++[x])
def ordN (n:Nat):List (List Nat):=(List.range n).foldl (fun out _=>zKp n out) [[]]
def isoS (a b:List (List Int)):Bool:=decide (a.length=b.length) && (ordN a.length).any fun o=>decide (zAc a o=b)
def fitB (a b:List (List Int)) (o:List Nat) (i:Nat):Bool:=(List.range o.length).all fun j=>decide (ent a i ((o[j]?).getD 0)=ent b o.length j) && decide (ent a ((o[j]?).getD 0) i=ent b j o.length)
def mt1 (a b:List (List Int)):Nat→List Nat→Option (List Nat)
 | 0,o=>some o
 | f+1,o=>(List.range a.length).findSome? fun i=>if i∈o then none else if fitB a b o i=true then mt1 a b f (o++[i]) else none
def isoI (a b:List (List Int)):Bool:=decide (a.length=b.length) && (mt1 a b b.length []).isSome
def nmK (iso:List (List Int)→List (List Int)→Bool) (a:List (List Int)):Option Nat:=(List.range 12).find? fun k=>iso a ((tyM[k]?).getD [])
def szK (k:Nat):Nat:=(tyS[k]?).getD 0
def nms (iso:List (List Int)→List (List Int)→Bool) (c:List (List Int)) (ps:List (List Nat)):List (Option Nat):=ps.map fun p=>nmK iso (zAc c p)
def chkN (c:List (List Int)):Bool:=(zAU c == zGf c) && ((nms isoI c (zAU c)).all Option.isSome && (nms isoI c (zAU c) == nms isoS c (zAU c)))
theorem zSK:(Fin.L1++Fin.L2++Fin.L3).all chkN=true:=by decide +kernel
theorem zSD:((Fin.L4.drop 0).take 37).all chkN=true:=by decide +kernel
theorem zSE:((Fin.L4.drop 37).take 37).all chkN=true:=by decide +kernel
theorem zSF:((Fin.L4.drop 74).take 37).all chkN=true:=by decide +kernel
theorem zSG:((Fin.L4.drop 111).take 37).all chkN=true:=by decide +kernel
theorem zSH:((Fin.L4.drop 148).take 37).all chkN=true:=by decide +kernel
theorem zSI:((Fin.L4.drop 185).take 37).all chkN=true:=by decide +kernel
theorem zSJ:(Fin.L4.drop 222).all chkN=true:=by decide +kernel
theorem zAZ {α:Type} {p:α→Bool} {l:List α} {k m k':Nat} (h1:((l.drop k).take m).all p=true) (h2:(l.drop k').all p=true) (hk:k'=k+m):(l.drop k).all p=true:=by
 subst hk;rw [<-List.take_append_drop m (l.drop k),List.all_append,h1,List.drop_drop,h2]; rfl
theorem zOT:(Fin.L1++Fin.L2++Fin.L3++Fin.L4).all chkN=true:=by
 have h6:=zSJ;have h5:=zAZ zSI h6 rfl;have h4:=zAZ zSH h5 rfl;have h3:=zAZ zSG h4 rfl;have h2:=zAZ zSF h3 rfl;have h1:=zAZ zSE h2 rfl;have h0:=zAZ zSD h1 rfl;rw [List.drop_zero] at h0;rw [List.all_append,zSK,h0];rfl
def szP (c:List (List Int)):Nat:=((nms isoI c (zAU c)).map fun o=>szK (o.getD 12)).foldl (· * ·) 1
theorem FinP.names {c:List (List Int)} (h:FinP c):zAU c=zGf c∧(∀p∈zAU c,∃k,k<12∧nmK isoI (zAc c p)=some k∧nmK isoS (zAc c p)=some k):=by
 have:=h.all zOT;unfold chkN at this;rw [Bool.and_eq_true,Bool.and_eq_true] at this;obtain ⟨h1,h2,h3⟩:=this;refine ⟨by simpa using h1,fun p hp=>?_⟩;have h3:nms isoI c (zAU c)=nms isoS c (zAU c):=by simpa using h3
 have h4:nmK isoI (zAc c p)=nmK isoS (zAc c p):=by
  unfold nms at h3;exact List.map_inj_left.1 h3 p hp
 have h5:=List.all_eq_true.1 h2 (nmK isoI (zAc c p)) (List.mem_map_of_mem hp);obtain ⟨k,hk⟩:=Option.isSome_iff_exists.1 h5;refine ⟨k,?_,hk,by rw [<-h4,hk]⟩;unfold nmK at hk;exact List.mem_range.1 (List.mem_of_find?_eq_some hk)
end Go.Proofs.YtlgcdacpjcnjgaaGreatDoor
