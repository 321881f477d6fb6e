/- What came in as bytes reads as bytes. No condition. -/
import Derived.Test.YtlchafedbnihoaaGreatDoorJGDrA
namespace Go.Proofs.YtlchafedbnihoaaGreatDoor
open Go.ChangeShapes Go.WideShapes Go.ChangeAt Go.RowKit Go.Deep
set_option maxRecDepth 20000
def RByW (_:World) (r:Value) (n:Int):Prop:=r=.int .u8 n∧(Lit.int .u8 n).wf=true
section
variable {H:Type} {enc:TypeId × Value→H} {w:World}
theorem zF0 (n:Nat) (r:Value) (x:DataW H × List MemPlace) (h:DataW.trod enc Tryz.prog w 0 (fun _=>true) true n 5 [r]=some x):∃y,RByW w r y:=by
 obtain ⟨y,h,_,hw⟩:=DataW.trod_int Tryz.underlying5 h;simp at h;exact ⟨y,h,hw⟩
theorem zFX {v:Value} {d:DataW H} {p:List MemPlace} (hv:∃a n c,v=.slice a n c) (h:DataW.Trod enc Tryz.prog w 0 (fun _=>true) true 22 v d p):∃n:Nat,RBy Any w v n:=by
 obtain ⟨L,a,cap,rfl,_,hL⟩:=zMK (R:=RByW) Tryz.underlying22 (by kernel_rfl) hv zF0 h;refine ⟨L.length,a,cap,rfl,fun j hj=>?_⟩;rcases hL with rfl | ⟨b,o,ha,_,_,hx⟩
 ·simp at hj
 ·obtain ⟨r,h1,h2,h3⟩:=hx j L[j] (zNh hj);refine ⟨b,o,L[j],ha,trivial,by rw [<-h2]; exact h1,zNg ?_⟩;have e1:IntKind.u8.min=0:=by decide
  have e2:IntKind.u8.max=255:=by decide
  simp only [Lit.wf,e1,e2,Bool.and_eq_true,decide_eq_true_eq] at h3;exact h3
end
end Go.Proofs.YtlchafedbnihoaaGreatDoor
