/- Texts as values. No condition. -/
import Derived.Test.YtlchafedbnihoaaGreatJGNrm
namespace Go.Proofs.YtlchafedbnihoaaGreat
open Go.RowKit
set_option maxRecDepth 20000
def bs (l:List UInt8):ByteArray:=⟨l.toArray⟩
theorem zNq (a:List UInt8):(bs a).size=a.length:=by simp [bs,ByteArray.size]
theorem zD7 (a b:List UInt8):bs a++bs b=bs (a++b):=by
 apply ByteArray.ext;simp [bs]
theorem zNo (x:List UInt8):(bs x).data.toList=x:=by simp [bs]
theorem zHn {α β:Type} (f:α→β) {l:List α} {k:Nat} {x:α} (h:l[k]? = some x):(l.take (k+1)).map f=(l.take k).map f++[f x]:=by rw [zAW h]; simp
end Go.Proofs.YtlchafedbnihoaaGreat
