/- The coefficient of a word in a list of terms. Condition: sizes up to 2^24. -/
import Derived.Test.YtlchafedbnihoaaJGWords
import Derived.Test.YtlchafedbnihoaaJGCart
namespace Go.Proofs.Ytlchafedbnihoaa
open Go.RowKit
set_option maxRecDepth 20000
set_option maxHeartbeats 8000000
theorem zA8 {w:World} {e:TypeId}:Below w.heap.size w (w.alloc (.cells #[] e)):=(Below.refl _ w).alloc (zJm _) _
theorem FI.fresh0 (w:World):FI (New w (w.alloc (.cells #[] 3))) (w.alloc (.cells #[] 3)) (.slice (some ⟨w.heap.size,0,none⟩) 0 0) []:=by
 have:=World.ownsRow_lit (base:=w.heap.size) (e:=3) (size:=1) w #[] 0 (zJm _) (by unfold maxLen; omega) rfl;exact FI.of_row this (zJm _) rfl rfl
theorem zBg {S S':Nat→Prop} {u v:Value} {l l':List Int} {w:World} (h:RI S w u l) (h':RI S' w v l') (hl:l.length≤16777216) (hl':l'.length≤16777216) :
  Calls Try.prog 45 #[u,v] w fun e w'=>e=.returned (.bool (eqL l l'))∧∃m,w'=w.drewN m:=by
 go_enter Try.func45,Try.ntmps45
 go_wp2_with fail
 refine (zDP h h' hl hl').mono ?_;rintro e w' ⟨rfl,hw⟩;go_wp2_with fail
 go_ret
 exact ⟨rfl,hw⟩
end Go.Proofs.Ytlchafedbnihoaa
