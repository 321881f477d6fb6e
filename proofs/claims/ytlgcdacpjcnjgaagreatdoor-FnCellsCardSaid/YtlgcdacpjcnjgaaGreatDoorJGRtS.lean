/- Roots reflected, simple roots, transposed matrices, by the reference and by the program. Condition: numbers up to 1000. -/
import Derived.Test.YtlgcdacpjcnjgaaGreatDoorJGRtP
import Derived.Test.YtlgcdacpjcnjgaaGreatDoorJGSy
import Derived.Shelf.RegionOpenPlain
import Derived.Test.YtlgcdacpjcnjgaaGreatDoorJGHeap
import Derived.StillTail
namespace Go.Proofs.YtlgcdacpjcnjgaaGreatDoor
open Go.RowKit
set_option maxRecDepth 20000
structure Mx (M:List (List Int)) (n:Nat):Prop where
 len:M.length=n
 row:∀l∈M,l.length=n
 ent:∀l∈M,∀x∈l,-3≤x∧x≤3
theorem CartanP.mx {c:List (List Int)} (hc:CartanP c):Mx c c.length:=by
 refine ⟨rfl,hc.row,fun l hl x hx=>?_⟩;obtain ⟨i,hi⟩:=List.getElem?_of_mem hl;obtain ⟨j,hj⟩:=List.getElem?_of_mem hx;have li:=(zTG hi).1;have lj:j<c.length:=by rw [<-hc.row l hl]; exact (zTG hj).1
 have e:ent c i j=x:=by unfold ent; rw [hi]; simp [hj]
 by_cases h:i=j
 ·subst h;have:=hc.car.diag i li;rw [e] at this; omega
 ·have:=hc.car.off i j li lj h;rw [e] at this; omega
theorem Mx.at {M:List (List Int)} {n i:Nat} (h:Mx M n) {l:List Int} (hl:M[i]? = some l):l.length=n∧(∀x∈l,-3≤x∧x≤3)∧rwL M i=l:=⟨h.row l (zTF hl),h.ent l (zTF hl),by unfold rwL; rw [hl]; rfl⟩
end Go.Proofs.YtlgcdacpjcnjgaaGreatDoor
