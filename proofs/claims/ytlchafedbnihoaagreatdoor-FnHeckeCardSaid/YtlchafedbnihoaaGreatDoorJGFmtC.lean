/- Weights and characters as text. Condition: sizes up to 2^20. -/
import Derived.Test.YtlchafedbnihoaaGreatDoorJGStrs
import Derived.Test.YtlchafedbnihoaaGreatDoorJGWords
import Derived.StillTail
namespace Go.Proofs.YtlchafedbnihoaaGreatDoor
open Go.RowKit
set_option maxRecDepth 20000
theorem zEN {l:List UInt8} (h:l≠[]):(bs l).toList.isEmpty=false:=by
 have e:(bs l).toList=l:=by simp [bs,ByteArray.toList_eq]
 rw [e];cases l with
 | nil=>exact absurd rfl h
 | cons a l=>rfl
theorem zHs (sp:List UInt8) (q q':Nat) (hq:q+sp.length=q') (xs:List (List UInt8)) (h:∀x∈xs,x.length≤q) (k:Nat):(jn sp (xs.take k)).length≤k*q':=by
 have h1:=zJp sp q (xs.take k) (fun x hx=>h x (List.mem_of_mem_take hx));rw [hq] at h1;have h2:(xs.take k).length≤k:=by simp; omega
 exact Nat.le_trans h1 (Nat.mul_le_mul_right q' h2)
theorem i64_in {n:Int} (h:I64 n):-9223372036854775808≤n∧n≤9223372036854775807:=by
 simp only [I64,Lit.wf,Bool.and_eq_true,decide_eq_true_eq] at h;rw [show IntKind.i64.min = -9223372036854775808 from rfl,show IntKind.i64.max=9223372036854775807 from rfl] at h;exact h
end Go.Proofs.YtlchafedbnihoaaGreatDoor
