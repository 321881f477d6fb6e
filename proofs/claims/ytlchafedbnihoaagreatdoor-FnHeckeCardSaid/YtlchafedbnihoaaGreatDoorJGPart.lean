/- Points of a diagram that are connected; parts. Plain lists. -/
import Derived.Test.YtlchafedbnihoaaGreatDoorJGCart
namespace Go.Proofs.YtlchafedbnihoaaGreatDoor
open Go.RowKit
def nbr (c:List (List Int)) (i:Nat):List Nat:=(List.range c.length).filter fun j=>decide (j≠i) && decide (ent c i j≠0)
abbrev Sn:=List Bool × List Nat
def zNW (st:Sn) (j:Nat):Sn:=if (st.1[j]?).getD true=true then st else (st.1.set j true,st.2++[j])
def zKj (s:List Bool):Nat:=s.count false
structure SnOk (n:Nat) (st:Sn):Prop where
 len:st.1.length=n
 lt:∀j∈st.2,j<n
 cnt:st.2.length+zKj st.1≤n
theorem SnOk.le {n:Nat} {st:Sn} (h:SnOk n st):st.2.length≤n:=by have:=h.cnt; omega
def bfsP (c:List (List Int)):Nat→Nat→Sn→Sn
 | 0,_,st=>st
 |f+1,k,st=>match st.2[k]? with
  | none=>st
  | some i=>bfsP c f (k+1) ((nbr c i).foldl zNW st)
def start (_n i:Nat) (s:List Bool):Sn:=(s.set i true,[i])
def zGy (c:List (List Int)) (i:Nat) (s:List Bool):Sn:=bfsP c (c.length+1) 0 (start c.length i s)
def zLW (c:List (List Int)) (i:Nat):List Nat:=(List.range c.length).filter fun k=>((zGy c i (List.replicate c.length false)).1[k]?).getD false
def zMO (c:List (List Int)) (k:Nat):List (List Nat):=(List.range k).filterMap fun i=>if (zLW c i).head? = some i then some (zLW c i) else none
def zJ7 (c:List (List Int)):List (List Nat):=zMO c c.length
def insN (x:Nat):List Nat→List Nat
 | []=>[x]
 | y::l=>if x≤y then x::y::l else y::insN x l
def srtN:List Nat→List Nat
 | []=>[]
 | x::l=>insN x (srtN l)
def zJ8 (c:List (List Int)) (st:List Bool × List (List Nat)) (i:Nat):List Bool × List (List Nat) :=
 if (st.1[i]?).getD true=true then st else ((zGy c i st.1).1,st.2++[srtN (zGy c i st.1).2])
def zBY (c:List (List Int)):List (List Nat):=((List.range c.length).foldl (zJ8 c) (List.replicate c.length false,[])).2
set_option maxRecDepth 20000
abbrev iL (l:List Nat):List Int:=l.map fun (j:Nat)=>(j:Int)
end Go.Proofs.YtlchafedbnihoaaGreatDoor
