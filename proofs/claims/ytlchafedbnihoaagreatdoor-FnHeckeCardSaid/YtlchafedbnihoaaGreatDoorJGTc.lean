/- Matrices with a name, names of groups as texts, their sizes. Plain lists; checked for all matrices of finite type. -/
import Derived.Test.YtlchafedbnihoaaGreatDoorJGSy
import Derived.Lib.Split
import Derived.Lib.Join
import Derived.Test.YtlchafedbnihoaaGreatDoorJGInV
import Derived.Shelf.RegionOpenPlain
namespace Go.Proofs.YtlchafedbnihoaaGreatDoor
open Go.RowKit
set_option maxRecDepth 20000
def chB (n i:Nat):List Int:=if 0<i then ((List.replicate n (0:Int)).set i 2).set (i-1) (-1) else (List.replicate n (0:Int)).set i 2
def chR (n i:Nat):List Int:=if i+1<n then (chB n i).set (i+1) (-1) else chB n i
def chM (n:Nat):List (List Int):=(List.range n).map (chR n)
theorem zLj (n i:Nat):(chB n i).length=n:=by unfold chB; split <;> simp
theorem zLl (n i:Nat):(chR n i).length=n:=by unfold chR; split <;> simp [zLj]
theorem zLk (n:Nat):(chM n).length=n:=by simp [chM]
theorem zDX (n k:Nat):(List.range (k+1)).map (chR n)=(List.range k).map (chR n)++[chR n k]:=by rw [List.range_succ,List.map_append]; rfl
def put1 (c:List (List Int)) (i j:Nat) (x:Int):List (List Int):=c.set i (((c[i]?).getD []).set j x)
structure Sqn (c:List (List Int)) (n:Nat):Prop where
 len:c.length=n
 row:∀r∈c,r.length=n
theorem zBi (n:Nat):Sqn (chM n) n:=⟨zLk n,fun r hr=>by
 obtain ⟨i,_,rfl⟩:=List.mem_map.1 hr;exact zLl n i⟩
theorem zCU {c:List (List Int)} {n i j:Nat} {x:Int} (h:Sqn c n) (hi:i<n):Sqn (put1 c i j x) n:=⟨by simp [put1,h.len],fun r hr=>by
 have hil:i<c.length:=by rw [h.len]; exact hi
 rcases List.mem_or_eq_of_mem_set hr with h' | h'
 ·exact h.row r h'
 ·subst h';rw [List.length_set,zNh hil];exact h.row _ (List.getElem_mem hil)⟩
def tyNm (k:Nat):List UInt8:=(tyN[k]?).getD []
def tyMx (k:Nat):List (List Int):=(tyM[k]?).getD []
def nmOf (a:List (List Int)):List UInt8:=tyNm ((nmK isoI a).getD 12)
def nmL (c:List (List Int)):List (List UInt8):=(zBY c).map fun p=>nmOf (zB2 c p)
def nmT (c:List (List Int)):List UInt8:=Lib.join (nmL c) [120]
def szB (x:List UInt8):Nat:=((List.range 12).find? fun k=>tyNm k == x).elim 0 szK
def szN (l:List (List UInt8)):Nat:=(l.map szB).foldl (· * ·) 1
def ascB:List Nat→Bool
 | []=>true
 | [_]=>true
 | x::y::r=>decide (x<y) && ascB (y::r)
def zIA (x:UInt8) (s:List (List UInt8) × List UInt8) (b:UInt8):List (List UInt8) × List UInt8:=if b=x then (s.1++[s.2],[]) else (s.1,s.2++[b])
def cutF (x:UInt8) (s:List UInt8):List (List UInt8):=(s.foldl (zIA x) ([],[])).1++[(s.foldl (zIA x) ([],[])).2]
def zCZ (c:List (List Int)):Bool:=(zBY c).all (fun p=>ascB p && p.all (fun i=>decide (i<c.length)) && decide (0<p.length) && isC (zB2 c p) && decide ((zBY (zB2 c p)).length=1))
 && (cutF 120 (nmT c) == nmL c) && (Lib.split (nmT c) [120] == nmL c) && decide (szN (nmL c)=szP c) && decide ((nmL c).length≤4) && decide ((nmT c).length≤16)
theorem zLt:(Fin.L1++Fin.L2++Fin.L3).all zCZ=true:=by decide +kernel
theorem zLm:((Fin.L4.drop 0).take 37).all zCZ=true:=by decide +kernel
theorem zLn:((Fin.L4.drop 37).take 37).all zCZ=true:=by decide +kernel
theorem zLo:((Fin.L4.drop 74).take 37).all zCZ=true:=by decide +kernel
theorem zLp:((Fin.L4.drop 111).take 37).all zCZ=true:=by decide +kernel
theorem zLq:((Fin.L4.drop 148).take 37).all zCZ=true:=by decide +kernel
theorem zLr:((Fin.L4.drop 185).take 37).all zCZ=true:=by decide +kernel
theorem zLs:(Fin.L4.drop 222).all zCZ=true:=by decide +kernel
theorem zJZ:(Fin.L1++Fin.L2++Fin.L3++Fin.L4).all zCZ=true:=by
 have h6:=zLs;have h5:=zBE zLr h6 rfl;have h4:=zBE zLq h5 rfl;have h3:=zBE zLp h4 rfl;have h2:=zBE zLo h3 rfl;have h1:=zBE zLn h2 rfl;have h0:=zBE zLm h1 rfl;rw [List.drop_zero] at h0;rw [List.all_append,zLt,h0];rfl
structure PartOk (c:List (List Int)) (p:List Nat):Prop where
 asc:Asc (iL p)
 pts:Pts c.length (iL p)
 pos:1≤(iL p).length
 car:isC (zB2 c p)=true
 one:(zBY (zB2 c p)).length=1
theorem zH2:∀{p:List Nat},ascB p=true→∀(j x y:Nat),p[j]? = some x→p[j+1]? = some y→x<y
 | [],_,_,_,_,h,_=>by simp at h
 | [_],_,j,_,_,_,h=>by simp at h
 | a::b::r,h,j,x,y,h1,h2=>by
  unfold ascB at h;rw [Bool.and_eq_true] at h;cases j with
  | zero=>simp at h1 h2; subst h1; subst h2; simpa using h.1
  | succ j=>exact zH2 h.2 j x y (by simpa using h1) (by simpa using h2)
structure NamesOk (c:List (List Int)):Prop where
 part:∀p∈zBY c,PartOk c p
 cutS:cutF 120 (nmT c)=nmL c
 cutI:Lib.split (nmT c) [120]=nmL c
 size:szN (nmL c)=szP c
 few:(nmL c).length≤4
 len:(nmT c).length≤16
theorem FinP.texts {c:List (List Int)} (h:FinP c):NamesOk c:=by
 have:=h.all zJZ;unfold zCZ at this;simp only [Bool.and_eq_true] at this;obtain ⟨⟨⟨⟨⟨h1,h2⟩,h3⟩,h4⟩,h5⟩,h6⟩:=this;refine ⟨fun p hp=>?_,by simpa using h2,by simpa using h3,by simpa using h4,by simpa using h5,by simpa using h6⟩;have hq:=List.all_eq_true.1 h1 p hp;simp only [Bool.and_eq_true] at hq;obtain ⟨⟨⟨⟨q1,q2⟩,q3⟩,q4⟩,q5⟩:=hq;refine ⟨fun j x y hx hy=>?_,fun j x hx=>?_,by have q3':0<p.length:=(by simpa using q3); simp only [iL,List.length_map]; omega,q4,by simpa using q5⟩
 ·simp only [iL,List.getElem?_map,Option.map_eq_some_iff] at hx hy;obtain ⟨a,ha,rfl⟩:=hx;obtain ⟨b,hb,rfl⟩:=hy;have:=zH2 q1 j a b ha hb;omega
 ·simp only [iL,List.getElem?_map,Option.map_eq_some_iff] at hx;obtain ⟨a,ha,rfl⟩:=hx;exact ⟨a,rfl,by simpa using List.all_eq_true.1 q2 a (zNi ha)⟩
theorem zCp {l:List Int} {n j:Nat} (hl:l.length=n) (hj:j<n):∃x,l[j]? = some x:=⟨l[j]'(by omega),zNh _⟩
theorem zF4 {Z:Zl} {u:Nat} {v:Value} {l l':List Int} (h:Z[u]? = some (v,l)):(Z.set u (v,l')).map Prod.fst=Z.map Prod.fst:=by
 have hu:=(zNj h).1;rw [List.map_set];refine List.ext_getElem? fun m=>?_;by_cases e1:m=u
 ·subst e1;rw [List.getElem?_set_self (by simpa using hu),List.getElem?_map,h];rfl
 ·rw [List.getElem?_set_ne (Ne.symm e1)]
def TcP (k:Nat) (w:World):Ending→World→Prop:=fun e w'=>∃r,e=.returned (.tuple #[r,.bool true])∧FII (New w w') w' r (tyMx k)∧Below w.heap.size w w'
theorem TcP.of {k:Nat} {w w':World} {r:Value} {L:List (List Int)} (h:FII (New w w') w' r L) (hb:Below w.heap.size w w') (e:L=tyMx k):TcP k w (.returned (.tuple #[r,.bool true])) w':=by subst e; exact ⟨r,rfl,h,hb⟩
theorem litN {w w1:World} (l:List Int) (hl:l.length≤1000) (h:w1=w.alloc (.cells (l.map (Value.int .i64)).toArray 3)):FI (New w w1) w1 (.slice (some ⟨w.heap.size,0,none⟩) l.length l.length) l∧Below w.heap.size w w1:=by
 subst h;exact ⟨FI.of_row (w:=w) (World.ownsRow_lit (base:=w.heap.size) (e:=3) (size:=1) w (l.map (Value.int .i64)).toArray l.length (zNl _) (by unfold maxLen; omega) (by simp)) (zNl _) rfl (by simp),(Below.refl _ w).alloc (zNl _) _⟩
end Go.Proofs.YtlchafedbnihoaaGreatDoor
