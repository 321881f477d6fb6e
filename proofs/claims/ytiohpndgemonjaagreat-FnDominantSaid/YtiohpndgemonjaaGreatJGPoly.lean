/- Polynomials without zeros at their end. Condition: at most 2^24 numbers. -/
import Derived.Test.YtiohpndgemonjaaGreatJAppS
import Derived.Test.YtiohpndgemonjaaGreatJGFin
import Derived.Laws.CopyOwn
namespace Go.Proofs.YtiohpndgemonjaaGreat
open Go.RowKit
set_option maxRecDepth 20000
theorem RI.take {S:Nat→Prop} {w:World} {a:Option Addr} {n cap k:Nat} {l:List Int} (h:RI S w (.slice a n cap) l) (hk:k≤n):RI S w (.slice a k cap) (l.take k):=by
 obtain ⟨a',cap',hv,hc,h⟩:=h;simp only [Value.slice.injEq] at hv;obtain ⟨rfl,rfl,rfl⟩:=hv;have hl:(l.take k).length=k:=by simp; omega
 refine ⟨a,cap,by rw [hl],⟨by omega,hc.2⟩,?_⟩;rcases h with h | ⟨b,o,ha,hs,ht,h⟩
 ·subst h; exact .inl (by simp)
 ·exact .inr ⟨b,o,ha,hs,ht,fun j x hx=>h j x (by rw [List.getElem?_take] at hx; split at hx <;> first | exact hx | cases hx)⟩
def InI (l:List Int):Prop:=∀x∈l,-9223372036854775808≤x∧x≤9223372036854775807
def bel (c:List (List Int)):List Int→List Int→Bool
 | mu,[]=>decide (zAD mu=none)
 | mu,s::v=>decide ((nf c 30 mu).length≤v.length+1) && bel c (if num mu s.toNat<0 then refl c s.toNat mu else mu) v
theorem Im.part {c:List (List Int)} {mu:List Int} {w:List Nat} (hl:mu.length=c.length) (hw:Cox.Lets c.length w) (h:Cox.Part c.length (ent c) (num mu) w):∃m,m≤w.length∧Im c mu m:=by
 obtain ⟨x,hx,he⟩:=h;exact ⟨x.length,hx.length_le,hl,x,Cox.part_lets hw hx,rfl,fun k hk=>(he k hk).symm⟩
theorem Im.refl_num {c:List (List Int)} (hc:CartanP c) {mu:List Int} {m:Nat} (h:Im c mu m) (hm:m≤30) {i:Nat} (hi:i<c.length) {k:Nat} (hk:k<c.length):num (refl c i mu) k=Cox.sW (ent c) i (num mu) k:=by
 obtain ⟨hl,w,hw,hwl,hn⟩:=h;rw [zB4 hc hl hw (by omega) hn hi hk];unfold Cox.sW;rw [hn k hk,hn i hi]
end Go.Proofs.YtiohpndgemonjaaGreat
