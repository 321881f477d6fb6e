/- Lists of vectors in descending order. Plain lists. -/
import Derived.Test.YtphbichgpcicnaaGreatDoorJGWords
namespace Go.Proofs.YtphbichgpcicnaaGreatDoor
open Go.RowKit
def gtL:List Int→List Int→Bool
 | x::xs,y::ys=>if x=y then gtL xs ys else decide (y<x)
 | _,_=>false
theorem zGd:∀{a b:List Int},a.length=b.length→(gtL a b=true↔lexC b a<0)
 | [],[],_=>by simp [gtL,lexC]
 | [],_::_,h=>by simp at h
 | _::_,[],h=>by simp at h
 | x::xs,y::ys,h=>by
  have ih:=zGd (a:=xs) (b:=ys) (by simpa using h);unfold gtL lexC;by_cases e:x=y
  ·subst e;rw [if_pos rfl,if_neg (by omega),if_neg (by omega)];exact ih
  ·rw [if_neg e];by_cases h2:y<x
   ·rw [if_pos h2]; simp [h2]
   ·rw [if_neg h2,if_pos (by omega)]; simp; omega
theorem zCk:∀a:List Int,gtL a a=false
 | []=>rfl
 | x::xs=>by unfold gtL; rw [if_pos rfl]; exact zCk xs
theorem zCl:∀{a b:List Int},a.length=b.length→a≠b→gtL a b=true∨gtL b a=true
 | [],[],_,h=>absurd rfl h
 | [],_::_,h,_=>by simp at h
 | _::_,[],h,_=>by simp at h
 | x::xs,y::ys,h,hn=>by
  unfold gtL;by_cases e:x=y
  ·subst e;rw [if_pos rfl,if_pos rfl];exact zCl (by simpa using h) (fun e=>hn (by rw [e]))
  ·rw [if_neg e,if_neg (fun e'=>e e'.symm)];simp only [decide_eq_true_eq];omega
theorem zCK:∀{a b d:List Int},gtL a b=true→gtL b d=true→gtL a d=true
 | [],_,_,h,_=>by simp [gtL] at h
 | _::_,[],_,h,_=>by simp [gtL] at h
 | _::_,_::_,[],_,h=>by simp [gtL] at h
 | x::xs,y::ys,z::zs,h,k=>by
  unfold gtL at h k ⊢;by_cases e:x=y
  ·subst e;rw [if_pos rfl] at h;by_cases e2:x=z
   ·rw [if_pos e2] at k ⊢; exact zCK h k
   ·rw [if_neg e2] at k ⊢; exact k
  ·rw [if_neg e] at h;have h:=of_decide_eq_true h;by_cases e2:y=z
   ·subst e2;rw [if_neg e]; simpa using h
   ·rw [if_neg e2] at k;have k:=of_decide_eq_true k;rw [if_neg (by omega)]; simp; omega
def putV (v:List Int):List (List Int)→List (List Int)
 | []=>[v]
 | x::l=>if x=v then x::l else if gtL v x=true then v::x::l else x::putV v l
theorem zFL {v x:List Int}:∀{l:List (List Int)},x∈putV v l↔x=v∨x∈l
 | []=>by simp [putV]
 | y::l=>by
  unfold putV;by_cases h:y=v
  ·rw [if_pos h]; subst h; simp
  ·rw [if_neg h];by_cases h2:gtL v y=true
   ·rw [if_pos h2]; simp
   ·rw [if_neg h2,List.mem_cons,zFL,List.mem_cons];constructor
    ·rintro (h | h | h)
     ·exact .inr (.inl h)
     ·exact .inl h
     ·exact .inr (.inr h)
    ·rintro (h | h | h)
     ·exact .inr (.inl h)
     ·exact .inl h
     ·exact .inr (.inr h)
structure Dsc (n:Nat) (l:List (List Int)):Prop where
 srt:l.Pairwise fun a b=>gtL a b=true
 len:∀x∈l,x.length=n
theorem zK7 {n:Nat} {v:List Int} (hv:v.length=n):∀{l:List (List Int)},Dsc n l→Dsc n (putV v l)
 | [],_=>⟨List.pairwise_singleton _ _,fun x hx=>by simp [putV] at hx; subst hx; exact hv⟩
 | y::l,h=>by
  have hc:=List.pairwise_cons.1 h.srt;have hlen:∀x∈putV v (y::l),x.length=n:=fun x hx=>by
   rcases zFL.1 hx with rfl | hx
   ·exact hv
   ·exact h.len x hx
  refine ⟨?_,hlen⟩;unfold putV;by_cases e:y=v
  ·rw [if_pos e]; exact h.srt
  ·rw [if_neg e];by_cases h2:gtL v y=true
   ·rw [if_pos h2];refine List.pairwise_cons.2 ⟨fun x hx=>?_,h.srt⟩;rcases List.mem_cons.1 hx with rfl | hx
    ·exact h2
    ·exact zCK h2 (hc.1 x hx)
   ·rw [if_neg h2];refine List.pairwise_cons.2 ⟨fun x hx=>?_,(zK7 hv ⟨hc.2,fun x hx=>h.len x (List.mem_cons_of_mem _ hx)⟩).srt⟩;rcases zFL.1 hx with rfl | hx
    ·rcases zCl (by rw [hv,h.len y (List.mem_cons_self ..)]) (fun e'=>e e'.symm) with h3 | h3
     ·exact absurd h3 h2
     ·exact h3
    ·exact hc.1 x hx
def zA5 (q:List (List Int)):List (List Int):=q.foldl (fun l v=>putV v l) []
theorem zK8 {n:Nat}:∀{q l:List (List Int)},(∀x∈q,x.length=n)→Dsc n l→Dsc n (q.foldl (fun l v=>putV v l) l)∧∀x,x∈q.foldl (fun l v=>putV v l) l↔x∈l∨x∈q
 | [],l,_,h=>⟨h,fun x=>by simp⟩
 | v::q,l,hq,h=>by
  obtain ⟨a,b⟩:=zK8 (q:=q) (fun x hx=>hq x (List.mem_cons_of_mem _ hx)) (zK7 (hq v (List.mem_cons_self ..)) h);refine ⟨a,fun x=>?_⟩;rw [List.foldl_cons,b,zFL,List.mem_cons];constructor
  ·rintro ((h | h) | h)
   ·exact .inr (.inl h)
   ·exact .inl h
   ·exact .inr (.inr h)
  ·rintro (h | h | h)
   ·exact .inl (.inr h)
   ·exact .inl (.inl h)
   ·exact .inr h
theorem zB9 {n:Nat} {q:List (List Int)} (hq:∀x∈q,x.length=n):Dsc n (zA5 q)∧∀x,x∈zA5 q↔x∈q:=by
 obtain ⟨a,b⟩:=zK8 (l:=[]) hq ⟨List.Pairwise.nil,fun x hx=>by simp at hx⟩;exact ⟨a,fun x=>by rw [show zA5 q=q.foldl (fun l v=>putV v l) [] from rfl,b]; simp⟩
theorem zMQ {n:Nat}:∀{l m:List (List Int)},Dsc n l→Dsc n m→(∀x,x∈l↔x∈m)→l=m
 | [],[],_,_,_=>rfl
 | [],y::m,_,_,h=>by have:=(h y).2 (List.mem_cons_self ..); simp at this
 | x::l,[],_,_,h=>by have:=(h x).1 (List.mem_cons_self ..); simp at this
 | x::l,y::m,hl,hm,h=>by
  have h1:=List.pairwise_cons.1 hl.srt;have h2:=List.pairwise_cons.1 hm.srt;have e:x=y:=by
   rcases List.mem_cons.1 ((h x).1 (List.mem_cons_self ..)) with e | hx
   ·exact e
   ·rcases List.mem_cons.1 ((h y).2 (List.mem_cons_self ..)) with e | hy
    ·exact e.symm
    ·have:=zCK (h1.1 y hy) (h2.1 x hx);rw [zCk] at this; cases this
  subst e;have hnl:x∉l:=fun hx=>by have:=h1.1 x hx; rw [zCk] at this; cases this
  have hnm:x∉m:=fun hx=>by have:=h2.1 x hx; rw [zCk] at this; cases this
  rw [zMQ ⟨h1.2,fun z hz=>hl.len z (List.mem_cons_of_mem _ hz)⟩ ⟨h2.2,fun z hz=>hm.len z (List.mem_cons_of_mem _ hz)⟩ (fun z=>?_)];constructor
  ·intro hz;rcases List.mem_cons.1 ((h z).1 (List.mem_cons_of_mem _ hz)) with rfl | h'
   ·exact absurd hz hnl
   ·exact h'
  ·intro hz;rcases List.mem_cons.1 ((h z).2 (List.mem_cons_of_mem _ hz)) with rfl | h'
   ·exact absurd hz hnm
   ·exact h'
theorem zUQ {n:Nat} {l:List (List Int)} (hs:l.Pairwise fun a b=>¬lexC a b<0) (hn:l.Nodup) (hl:∀x∈l,x.length=n):Dsc n l:=by
 refine ⟨?_,hl⟩;have hb:=List.pairwise_and_iff.2 ⟨hs,hn⟩;refine List.Pairwise.imp_of_mem (fun {a b} ha hb' h=>?_) hb;rcases zCl (by rw [hl a ha,hl b hb']) h.2 with h1 | h1
 ·exact h1
 ·exact absurd ((zGd (by rw [hl a ha,hl b hb'])).1 h1) h.1
set_option maxRecDepth 20000
structure GW (w:World) where
 wd:World
 le:Below w.heap.size w wd
instance (w:World):Nonempty (GW w):=⟨⟨w,Below.refl _ _⟩⟩
theorem GW.cell {w:World} (x:GW w) {b o:Nat} {v:Value} (h:w.cell? ⟨b,o,none⟩=some v):x.wd.cell? ⟨b,o,none⟩=some v :=
 (x.le.cell (p:=⟨b,o,none⟩) (zWJ w _ h)).trans h
theorem Calls.grow {f:FuncId} {args:Array Value} {w:World} {v:Value} (x:GW w)
  (h:Calls Tryz.prog f args x.wd fun e w'=>e=.returned v∧Below x.wd.heap.size x.wd w'):Calls Tryz.prog f args x.wd fun e w''=>e=.returned v∧∃y:GW w,w''=y.wd :=
 h.mono fun _ w' ⟨he,hb⟩=>⟨he,⟨w',zAA.step x.le hb⟩,rfl⟩
theorem Calls.grow_of {f:FuncId} {args:Array Value} {w:World} {v v':Value} (x:GW w)
  (h:Calls Tryz.prog f args x.wd fun e w'=>e=.returned v∧Below x.wd.heap.size x.wd w') (hv:v=v'):Calls Tryz.prog f args x.wd fun e w''=>e=.returned v'∧∃y:GW w,w''=y.wd:=by
 subst hv; exact Calls.grow x h
theorem Calls.quietly {f:FuncId} {args:Array Value} {w:World} {v:Value}
  (h:Calls Tryz.prog f args w fun e w'=>e=.returned v∧∃m,w'=w.drewN m):Calls Tryz.prog f args w fun e w'=>e=.returned v∧Below w.heap.size w w' :=
 h.mono fun _ _ ⟨he,hm⟩=>⟨he,zAW hm⟩
theorem zAg {id:Nat} {Q:Exit→Act→World→Prop} {a:Act} {w:World} {l:List Oper} (hm:Tryz.prog.follows .mixedOrders=true) (hB:Region.lexB .any l.toArray=true)
  (h:wpQuiet Tryz.prog l.toArray (fun w'=>∃x:GW w,w'=x.wd) (fun a'=>∀w',Below w.heap.size w w'→Q .normal a' w') l a):(Code.region id l.toArray true).wp Tryz.prog Q a w:=by
 refine wp_region_quiet (C:=fun w'=>∃x:GW w,w'=x.wd) hm hB ⟨⟨w.drew,(Below.refl _ w).drew⟩,rfl⟩ ?_;have:(fun a'=>∀w',Below w.heap.size w w'→Q .normal a' w')=(fun a'=>∀w',(∃x:GW w,w'=x.wd)→Q .normal a' w'):=by
  funext a';refine propext ⟨fun h w' hx=>?_,fun h w' hb=>h w' ⟨⟨w',hb⟩,rfl⟩⟩;obtain ⟨x,rfl⟩:=hx;exact h _ x.le
 rw [this] at h;simpa using h
end Go.Proofs.YtphbichgpcicnaaGreatDoor
