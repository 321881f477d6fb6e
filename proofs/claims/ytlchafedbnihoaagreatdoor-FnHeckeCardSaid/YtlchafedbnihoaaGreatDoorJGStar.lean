/- Matrices of some points. Condition: a square matrix of at most four rows, its points in order. -/
import Derived.Test.YtlchafedbnihoaaGreatDoorJGOwn
import Derived.RegionTactic
import Derived.BigRegion
import Derived.Test.YtlchafedbnihoaaGreatDoorJGNrm
import Derived.Test.YtlchafedbnihoaaGreatDoorJGCell
namespace Go.Proofs.YtlchafedbnihoaaGreatDoor
open Go.RowKit
set_option maxRecDepth 20000
def Pts (n:Nat) (l:List Int):Prop:=∀(j:Nat) (x:Int),l[j]? = some x→∃i:Nat,x=(i:Int)∧i<n
def Asc (l:List Int):Prop:=∀(j:Nat) (x y:Int),l[j]? = some x→l[j+1]? = some y→x<y
section
variable {w:World} {ops:Array Oper} {rest:List Oper} {o:Oper} {a:Act} {Q:Exit→Act→World→Prop}
theorem zE0 {P:Program} (w:World) (base:Nat) (t ty e:TypeId) (i:TypeInfo) (z:Value) (size bytes:Nat) (ht:P.underlying t=some (.slice e)) (hi:P.info? e=some i) (hz:i.zero=some z)
  (hsize:i.size=size) (hby:i.bytes=bytes) (hzs:z.cells.size=size) (hsz:0<size)
  (v:Value) (n:Nat) (xs:List Value) (hown:w.ownsRow base e size v n xs)
  (a:Addr) (m c:Nat) (news:List Value) (hl:news.length=m*size) (hnews:∀j u,news[j]? = some u→w.cell? (a.add j)=some u) (h1:∀u∈news,u.oneCell'=true)
  (h63:n+m≤maxLen) (hbytes:(n+m)*bytes≤140737488355328) {v':Value} {w':World}
  (hrun:(Builtin.append_ #[t,t] ty #[v,.slice (some a) m c]).run P w=.ok v' w'):∀b,v'.ownBlock=some b→v.ownBlock=some b∨w.heap.size≤b:=by
 subst hsize;subst hby;have hsmall:n+m≤9223372036854775807:=by simp only [maxLen] at h63; omega
 rcases hown.2 with ⟨rfl,rfl⟩ | ⟨g,cap,cur,rfl,hbg,hg,hnc,hcm,hcs,htake⟩
 ·by_cases hm:m=0
  ·subst hm;have hn:news=[]:=List.eq_nil_of_length_eq_zero (by simpa using hl);subst hn;have hr:(Builtin.append_ #[t,t] ty #[.slice none 0 0,.slice (some a) 0 c]).run P w=.ok (.slice none 0 0) w:=by
    simp [Builtin.append_,run_underlying ht,sizeOf,typeInfo,hi,Builtin.lenOf,Builtin.firstCells,loadCells,loadCellsFrom]
   rw [hr] at hrun
   injection hrun with e1 e2
   subst e1;intro b hb;cases hb
  ·have hr:=run_append_nil (P:=P) w t ty e i z ht hi hz a m c news hl hnews (by omega) (by omega) (by have hb:=hbytes; simp only [Nat.zero_add] at hb; omega);rw [hr] at hrun
   injection hrun with e1 e2
   subst e1;intro b hb;simp [Value.ownBlock] at hb;exact .inr (by omega)
 ·by_cases hroom:n+m≤cap
  ·have hfit:n*i.size+news.length≤cur.size:=by rw [hl,hcs,<-Nat.add_mul]; exact Nat.mul_le_mul_right _ hroom
   have hr:=run_append_room (P:=P) w t ty e i ht hi g n cap cur hg a m c news hl hnews h1 hroom hfit;rw [hr] at hrun
   injection hrun with e1 e2
   subst e1;intro b hb;exact .inl hb
  ·have holds:∀j u,xs[j]? = some u→w.cell? ((⟨g,0,none⟩:Addr).add j)=some u:=hown.cells (g:=g) rfl;have hr:=run_append_grow (P:=P) w t ty e i z ht hi hz ⟨g,0,none⟩ n cap xs hown.1 holds a m c news hl hnews (by omega) (by omega) (growslice_fits (by omega) hbytes);rw [hr] at hrun
   injection hrun with e1 e2
   subst e1;intro b hb;simp [Value.ownBlock] at hb;exact .inr (by omega)
end
theorem FI.own {S:Nat→Prop} {w:World} {v:Value} {l:List Int} (h:FI S w v l):FI (fun b=>S b∧v.ownBlock=some b) w v l:=⟨h.1,fun b hb=>⟨h.2 b hb,hb⟩⟩
end Go.Proofs.YtlchafedbnihoaaGreatDoor
namespace Go.Proofs.YtlchafedbnihoaaGreatDoor
open Go.RowKit
set_option maxRecDepth 20000
set_option maxHeartbeats 16000000
theorem Only.drew {S:Nat→Prop} {a b:World} (h:Only S a b):Only S a b.drew:=⟨h.os,h.tape,h.output,h.size,h.block⟩
theorem FI.drew {S:Nat→Prop} {w:World} {v:Value} {l:List Int} (h:FI S w v l):FI S w.drew v l:=FI.keep h fun _ _=>rfl
theorem lets_rev {n:Nat} {w:List Int} (h:Lets n w):Lets n w.reverse:=fun x hx=>h x (by simpa using hx)
def Two (L1 L2:List Int) (ok:Bool) (w:World) (e:Ending) (w':World):Prop:=∃r1 r2,e=.returned (.tuple #[r1,r2,.bool ok])∧FI (New w w') w' r1 L1∧FI (New w w') w' r2 L2∧(∀b,r1.ownBlock=some b→r2.ownBlock≠some b)∧Below w.heap.size w w'
theorem lets_snoc {n:Nat} {x:List Int} {i:Nat} (hx:Lets n x) (hi:i<n):Lets n (x++[(i:Int)]):=fun y hy=>by
 rcases List.mem_append.1 hy with h | h
 ·exact hx y h
 ·simp at h; omega
theorem zIz {S S':Nat→Prop} {u v:Value} {l l':List Int} {w:World} (h:RI S w u l) (h':RI S' w v l') (hl:l.length≤16777216) (hl':l'.length≤16777216) :
  Calls Tryz.prog 64 #[u,v] w fun e w'=>∃r,e=.returned r∧FI (New w w') w' r (l++l')∧Below w.heap.size w w':=by
 obtain ⟨a,cap,rfl⟩:=h.form;obtain ⟨a',cap',rfl⟩:=h'.form;obtain ⟨f1,b1⟩:=zAa (w:=w) (Below.refl _ w) rfl;go_enter Tryz.func64,Tryz.ntmps64
 go_wp2_with (at_builtin; go_must (refine zAG (W:=w) rfl _ _ rfl rfl f1 b1 rfl (h.below b1) ?_ ?_))
 ·first | omega | (simp; omega) | (simp; done)
 ·intro v2 w2 f2 b2 _;clear f1 b1;go_wp2_with (at_builtin; go_must (refine zAG (W:=w) rfl _ _ rfl rfl f2 b2 rfl (h'.below b2) ?_ ?_))
  ·first | omega | (simp; omega) | (simp; done)
  ·intro v3 w3 f3 b3 _;go_wp2_with fail
   go_ret
   exact ⟨_,rfl,f3,b3⟩
end Go.Proofs.YtlchafedbnihoaaGreatDoor
