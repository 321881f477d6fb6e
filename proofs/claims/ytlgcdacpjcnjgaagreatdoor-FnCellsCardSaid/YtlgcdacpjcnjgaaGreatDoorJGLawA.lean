/- The laws' own helpers over lists of arrows. Condition: sizes up to 2^24. -/
import Derived.Test.YtlgcdacpjcnjgaaGreatDoorJGWgP
namespace Go.Proofs.YtlgcdacpjcnjgaaGreatDoor
open Go.RowKit
set_option maxRecDepth 20000
theorem zLX {l:List Int} {k i:Nat} (h:i<l.length):((zCZ k i)++l.drop i).set i ((k+i:Nat):Int)=(zCZ k (i+1))++l.drop (i+1):=by
 rw [List.set_append_right _ _ (by simp [zCZ]),zIz,Nat.sub_self,List.drop_eq_getElem_cons h,List.set_cons_zero];unfold zCZ;rw [List.range_succ,List.map_append,List.append_assoc]; rfl
theorem F3.mark {S:Nat→Prop} {w:World} {g cap n k i:Nat} {xs:List Int} (h:F3 S w (.slice (some ⟨g,0,none⟩) n cap) n (zCZ k i++xs.drop i)) (hi:i<xs.length) {x:Int} (hx:x=((k+i:Nat):Int)) :
  F3 S (w.setCell ⟨g,i,none⟩ (.int .i64 x)) (.slice (some ⟨g,0,none⟩) n cap) n (zCZ k (i+1)++xs.drop (i+1)):=by
 subst hx;have:=h.put i ((k+i:Nat):Int);rwa [zLX hi] at this
end Go.Proofs.YtlgcdacpjcnjgaaGreatDoor
