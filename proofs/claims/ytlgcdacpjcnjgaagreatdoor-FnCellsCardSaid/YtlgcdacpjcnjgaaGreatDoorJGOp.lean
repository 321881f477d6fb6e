/- What came in as data reads as lists: numbers, lists of numbers, pairs. No condition. -/
import Derived.Test.YtlgcdacpjcnjgaaGreatDoorJGBase
import Derived.ProofKit
import Derived.OpenShut
import Derived.ShutString
import Derived.ChangeOld
import Derived.Deep.SlicePairs
namespace Go.Proofs.YtlgcdacpjcnjgaaGreatDoor
open Go.ChangeShapes Go.WideShapes Go.ChangeAt Go.RowKit Go.Deep
theorem own:ownKnob Tryz.prog.godebug=none:=by kernel_rfl
theorem zKb:laidOutB Tryz.prog=true:=by kernel_rfl
abbrev I64 (n:Int):Prop:=(Lit.int .i64 n).wf=true
def zSt (_:World) (r:Value) (n:Int):Prop:=r=.int .i64 n∧I64 n
abbrev RIW:=RL none Any zSt
abbrev RIIW:=RL none Any RIW
section
variable {H:Type} {enc:TypeId × Value→H} {w:World}
theorem zRA {α:Type} [Inhabited α] {R:World→Value→α→Prop} {t e:TypeId} {v:Value} {d:DataW H} {p:List MemPlace}
  (ht:Tryz.prog.underlying t=some (.slice e)) (hc:Tryz.prog.cellsOf e=1) (hv:∃a n c,v=.slice a n c)
  (hR:∀(n:Nat) (r:Value) (x:DataW H × List MemPlace),DataW.trod enc Tryz.prog w 0 (fun _=>true) true n e [r]=some x→∃y,R w r y)
  (h:DataW.Trod enc Tryz.prog w 0 (fun _=>true) true t v d p):∃L:List α,RL none Any R w v L:=by
 obtain ⟨fuel,hf⟩:=h;obtain ⟨a0,n0,c0,rfl⟩:=hv;rcases open_slice1 ht hc hf with ⟨hcs,_⟩ | ⟨a,len,cap,m,n,V,D,Pl,hcs,_,hl,hm,hmm,_,hx⟩
 ·simp [Value.cells] at hcs;obtain ⟨rfl,rfl,rfl⟩:=hcs;exact ⟨[],RL.nil _ _ (by unfold maxLen; omega)⟩
 ·simp [Value.cells] at hcs;obtain ⟨rfl,rfl,rfl⟩:=hcs;have hlm:n0≤m:=by rw [hmm]; simpa using hl
  obtain ⟨Y,hY⟩:=choose_lt (α:=α) (p:=fun i y=>R w (V i) y) (fun i (hi:i<m)=>hR _ _ _ (hx i hi).2);refine ⟨(List.range n0).map Y,a,c0,by simp,⟨by simpa using hl,hm⟩,?_⟩;by_cases h0:n0=0
  ·left; simp [h0]
  ·right;obtain ⟨b,o,spot⟩:=a;have hspot:spot=none:=by simpa [Addr.add] using World.cell?_spot (hx 0 (by omega)).1
   subst hspot;refine ⟨b,o,rfl,trivial,trivial,fun j x hj=>?_⟩;have hjn:j<n0:=by
    rcases Nat.lt_or_ge j n0 with h | h
    ·exact h
    ·rw [List.getElem?_eq_none (by simpa using h)] at hj; cases hj
   refine ⟨V j,?_,?_⟩
   ·have:=(hx j (by omega)).1;rwa [add_plain] at this
   ·have:=hY j (by omega);simp [hjn] at hj;rwa [hj] at this
def zLt (w:World) (r r':Value) (x:List Int × List Int):Prop:=RIW w r x.1∧RIW w r' x.2
end
theorem RIW.plain {w:World} {v:Value} {L:List Int} (h:RIW w v L):RI0 w v L:=RL.mono h (fun _ h=>h) (fun _ _ h=>h.1)
theorem RIW.wf {w:World} {v:Value} {L:List Int} (h:RIW w v L):∀x∈L,I64 x:=by
 intro x hx;obtain ⟨a,cap,_,_,h⟩:=h;rcases h with h | ⟨b,o,_,_,_,h⟩
 ·subst h; cases hx
 ·obtain ⟨j,hj⟩:=List.getElem?_of_mem hx;obtain ⟨_,_,h2⟩:=h j x hj;exact h2.2
theorem RIIW.plain {w:World} {v:Value} {L:List (List Int)} (h:RIIW w v L):RII0 w v L:=RL.mono h (fun _ h=>h) (fun _ _ h=>RIW.plain h)
theorem RIIW.wf {w:World} {v:Value} {L:List (List Int)} (h:RIIW w v L):∀l∈L,∀x∈l,I64 x:=by
 intro l hl;obtain ⟨a,cap,_,_,h⟩:=h;rcases h with h | ⟨b,o,_,_,_,h⟩
 ·subst h; cases hl
 ·obtain ⟨j,hj⟩:=List.getElem?_of_mem hl;obtain ⟨_,_,h2⟩:=h j l hj;exact RIW.wf h2
end Go.Proofs.YtlgcdacpjcnjgaaGreatDoor
namespace Go.Proofs.YtlgcdacpjcnjgaaGreatDoor
open Go.RowKit
set_option maxRecDepth 20000
def total (L:List (List Int)):Nat:=L.length+(L.map List.length).sum
theorem zNJ {L:List (List Int)} {l:List Int} (h:l∈L):L.length+l.length≤total L:=by
 unfold total;have:l.length≤(L.map List.length).sum:=by
  induction L with
  | nil=>cases h
  | cons x L ih =>
   rcases List.mem_cons.1 h with rfl | h
   ·simp
   ·have:=ih h; simp; omega
 omega
end Go.Proofs.YtlgcdacpjcnjgaaGreatDoor
