/- Terms in memory as cells: a slice of terms read so, own terms so, cut, and those that are kept. No condition. -/
import Derived.Test.YtlchafedbnihoaaGreatDoorJGBas
import Derived.Lib.SliceRun
import Derived.Test.YtlchafedbnihoaaGreatDoorJGSort
import Derived.Lib.AppendZeros
namespace Go.Proofs.YtlchafedbnihoaaGreatDoor
open Go.RowKit
open Mrg
set_option maxRecDepth 20000
set_option maxHeartbeats 16000000
def El.t (e:El):Trm:=(e.x,e.y)
theorem zCJ:∀{E:List El} {j:Nat} {u:Value},(zAN E)[j]? = some u→∃e,E[j / 2]? = some e∧u=if j % 2=0 then e.r else e.r'
 | [],j,u,h=>by simp [zAN] at h
 | e::E,0,u,h=>⟨e,rfl,by simp [zAN] at h; simp [h]⟩
 | e::E,1,u,h=>⟨e,rfl,by simp [zAN] at h; simp [h]⟩
 | e::E,j+2,u,h=>by
  obtain ⟨f,h1,h2⟩:=zCJ (E:=E) (j:=j) (by simpa [zAN] using h);exact ⟨f,by rw [show (j+2) / 2=j / 2+1 by omega]; simpa using h1,by rw [show (j+2) % 2=j % 2 by omega]; exact h2⟩
theorem zGE:∀{E:List El} {j:Nat} {l:List Int},(zAF (E.map El.t))[j]? = some l→∃e,E[j / 2]? = some e∧l=if j % 2=0 then e.x else e.y
 | [],j,u,h=>by simp [zAF] at h
 | e::E,0,u,h=>⟨e,rfl,by simp [zAF,El.t] at h; simp [h]⟩
 | e::E,1,u,h=>⟨e,rfl,by simp [zAF,El.t] at h; simp [h]⟩
 | e::E,j+2,u,h=>by
  obtain ⟨f,h1,h2⟩:=zGE (E:=E) (j:=j) (by simpa [zAF] using h);exact ⟨f,by rw [show (j+2) / 2=j / 2+1 by omega]; simpa using h1,by rw [show (j+2) % 2=j % 2 by omega]; exact h2⟩
theorem zEX:∀(E:List El) (j:Nat),(zAN E).take (j*2)=zAN (E.take j)
 | [],j=>by simp [zAN]
 | e::E,0=>by simp [zAN]
 | e::E,j+1=>by
  rw [show (j+1)*2=j*2+1+1 by omega];simp [zAN,zEX E j]
theorem zIy {E F:List El} (h:E.Sublist F):(zAN E).Sublist (zAN F):=by
 induction h with
 | slnil=>exact List.Sublist.refl _
 | cons e _ ih=>exact (ih.cons _).cons _
 | cons_cons e _ ih=>exact (ih.cons_cons _).cons_cons _
def ApT (E:List El):Prop:=(zAN E).Pairwise fun r r'=>∀b,r.ownBlock=some b→r'.ownBlock≠some b
theorem ApT.sub {E F:List El} (h:ApT F) (hs:E.Sublist F):ApT E:=h.sublist (zIy hs)
theorem zID:∀(L:List Trm) (vs:List Value),vs.length=(zAF L).length→∃E:List El,E.map El.t=L∧zAN E=vs
 | [],vs,h=>⟨[],rfl,(List.eq_nil_of_length_eq_zero (by rw [h]; rfl)).symm⟩
 | t::L,r::r'::vs,h=>by
  obtain ⟨E,h1,h2⟩:=zID L vs (by simp [zAF] at h; exact h);exact ⟨⟨r,r',t.1,t.2⟩::E,by simp [El.t,h1],by simp [zAN,h2]⟩
 | t::L,[r],h=>by simp [zAF] at h
 | t::L,[],h=>by simp [zAF] at h
theorem zKs {E:List El} {L:List Trm} (h:E.map El.t=L) {j:Nat} {e:El} (hj:E[j]? = some e):L[j]? = some (e.x,e.y):=by
 rw [<-h,List.getElem?_map,hj]; rfl
theorem FT.els {S:Nat→Prop} {w:World} {v:Value} {L:List Trm} (h:FT S w v L):∃E:List El,E.map El.t=L∧w.ownsRow 0 39 2 v L.length (zAN E)∧(∀b,v.ownBlock=some b→S b) ∧
  (∀e∈E,FI S w e.r e.x∧FI S w e.r' e.y)∧ApT E:=by
 obtain ⟨vs,h1,h2,h3,h4,h5⟩:=h;obtain ⟨E,e1,rfl⟩:=zID L vs (by rw [h2]; simp [zAf]);refine ⟨E,e1,h1,h3,fun e he=>?_,?_⟩
 ·obtain ⟨j,hj⟩:=List.getElem?_of_mem he;obtain ⟨c1,c2⟩:=zC2 hj;obtain ⟨f1,f2⟩:=zGw L j _ (zKs e1 hj);exact ⟨h4 _ _ _ c1 (zBI f1),h4 _ _ _ c2 (zBI f2)⟩
 ·refine List.pairwise_iff_getElem.2 fun i j hi hj hij b hb=>?_;exact h5 i j _ _ b (by omega) (zNh hi) (zNh hj) hb
theorem FT.of_els {S:Nat→Prop} {w:World} {v:Value} {E:List El} {n:Nat} (hn:E.length=n) (h:w.ownsRow 0 39 2 v n (zAN E)) (hS:∀b,v.ownBlock=some b→S b)
  (hf:∀e∈E,FI S w e.r e.x∧FI S w e.r' e.y) (ha:ApT E):FT S w v (E.map El.t):=by
 show FC S _ 2 w v (E.map El.t).length _;rw [List.length_map,hn];refine ⟨zAN E,h,by simp [zBs,zAf,zBa],hS,fun j r x hr hx=>?_,fun i j r r' b hij hr hr' hb=>?_⟩
 ·obtain ⟨e,he,rfl⟩:=zCJ hr;simp only [zAf,List.getElem?_map] at hx;obtain ⟨l,hl,rfl⟩:=Option.map_eq_some_iff.1 hx;obtain ⟨e',he',rfl⟩:=zGE hl;rw [he] at he';cases he';have:=hf e (zNi he);by_cases hp:j % 2=0
  ·rw [if_pos hp,if_pos hp]; exact this.1
  ·rw [if_neg hp,if_neg hp]; exact this.2
 ·have hi:=(zNj hr);have hj:=(zNj hr');obtain ⟨hi,rfl⟩:=hi;obtain ⟨hj,rfl⟩:=hj;have key:=List.pairwise_iff_getElem.1 ha;rcases Nat.lt_or_ge i j with h1 | h1
  ·exact key i j hi hj h1 b hb
  ·intro hb';exact key j i hj hi (by omega) b hb' hb
theorem zJe {Q:Nat→Value→Value→Trm→Prop}:∀(L:List Trm) (i:Nat),(∀j x,L[j]? = some x→∃r r',Q (i+j) r r' x)→∃E:List El,E.map El.t=L∧∀j e,E[j]? = some e→Q (i+j) e.r e.r' e.t
 | [],_,_=>⟨[],rfl,fun j e h=>by simp at h⟩
 | t::L,i,h=>by
  obtain ⟨r,r',h0⟩:=h 0 t rfl;obtain ⟨E,e1,e2⟩:=zJe L (i+1) (fun j x hx=>by
   obtain ⟨r,r',h⟩:=h (j+1) x (by simpa using hx);exact ⟨r,r',by rw [show i+1+j=i+(j+1) by omega]; exact h⟩)
  refine ⟨⟨r,r',t.1,t.2⟩::E,by simp [El.t,e1],fun j e hj=>?_⟩
  match j,hj with
  | 0,hj=>simp at hj; subst hj; exact h0
  | j+1,hj =>
   have:=e2 j e (by simpa using hj);rw [show i+(j+1)=i+1+j by omega]; exact this
theorem RT.els {S:Nat→Prop} {w:World} {a:Option Addr} {n cap:Nat} {L:List Trm} (h:RT S w (.slice a n cap) L):∃E:List El,E.map El.t=L ∧
  (∀j u,(zAN E)[j]? = some u→∃b o,a=some ⟨b,o,none⟩∧w.cell? ⟨b,o+j,none⟩=some u)∧∀e∈E,RI S w e.r e.x∧RI S w e.r' e.y:=by
 obtain ⟨a',cap',hv,_,h⟩:=h;simp only [Value.slice.injEq] at hv;obtain ⟨rfl,rfl,rfl⟩:=hv;rcases h with h | ⟨b,o,ha,hS,_,h⟩
 ·subst h;exact ⟨[],rfl,fun j u h=>by simp [zAN] at h,fun e h=>by simp at h⟩
 ·obtain ⟨E,e1,e2⟩:=zJe (Q:=fun j r r' x=>w.cell? ⟨b,o+j*2,none⟩=some r∧w.cell? ⟨b,o+j*2+1,none⟩=some r'∧RTrm S w r r' x) L 0 (fun j x hx=>by
   rw [Nat.zero_add]; exact h j x hx)
  refine ⟨E,e1,fun j u hj=>⟨b,o,ha,?_⟩,fun e he=>?_⟩
  ·obtain ⟨e,he,rfl⟩:=zCJ hj;have:=e2 _ _ he;rw [Nat.zero_add] at this;by_cases hp:j % 2=0
   ·rw [if_pos hp,show o+j=o+j / 2*2 by omega]; exact this.1
   ·rw [if_neg hp,show o+j=o+j / 2*2+1 by omega]; exact this.2.1
  ·obtain ⟨j,hj⟩:=List.getElem?_of_mem he;exact (e2 j e hj).2.2
theorem RowT.reading {blk N cap:Nat} {w:World} {E:List El} (h:RowT blk N cap w E) (hc:N≤cap∧cap≤maxLen):RT Any w (.slice (some ⟨blk,0,none⟩) N cap) (E.map El.t):=by
 have hN:(E.map El.t).length=N:=by rw [List.length_map]; exact h.1
 obtain ⟨cur,hg⟩:=zAt h.2.1 (b:=blk) rfl;refine ⟨_,cap,by rw [hN],⟨by rw [hN]; exact hc.1,hc.2⟩,.inr ⟨blk,0,rfl,trivial,⟨cur,(0,0),hg⟩,fun j x hx=>?_⟩⟩;rw [List.getElem?_map] at hx;obtain ⟨e,he,rfl⟩:=Option.map_eq_some_iff.1 hx;obtain ⟨c1,c2⟩:=h.cell he;obtain ⟨r1,r2⟩:=h.reads he;exact ⟨e.r,e.r',by rw [Nat.zero_add]; exact c1,by rw [Nat.zero_add]; exact c2,r1.any,r2.any⟩
theorem zD8 {B:Nat} {w:World} {e:TypeId} {s n:Nat} {v:Value} {xs:List Value} (h:w.ownsRow B e s v n xs):(v=.slice none 0 0∧n=0)∨∃g cap,v=.slice (some ⟨g,0,none⟩) n cap:=by
 rcases h.2 with h | ⟨g,cap,cur,hv,_⟩
 ·exact .inl h
 ·exact .inr ⟨g,cap,hv⟩
theorem zEz {B:Nat} {w:World} {e:TypeId} {s n g cap:Nat} {xs:List Value} (h:w.ownsRow B e s (.slice (some ⟨g,0,none⟩) n cap) n xs):n≤cap∧cap≤maxLen:=by
 rcases h.2 with ⟨h',_⟩ | ⟨g',cap',cur,h',_,_,h1,h2,_⟩
 ·cases h'
 ·cases h';exact ⟨h1,h2⟩
theorem zMM {B:Nat} {w:World} {e:TypeId} {s n i g cap:Nat} {xs:List Value} (h:w.ownsRow B e s (.slice (some ⟨g,0,none⟩) n cap) n xs) (hi:i≤n):w.ownsRow B e s (.slice (some ⟨g,0,none⟩) i cap) i (xs.take (i*s)):=by
 obtain ⟨h1,h2⟩:=h;have hm:i*s≤n*s:=Nat.mul_le_mul_right _ hi;rcases h2 with ⟨h0,_⟩ | ⟨g',cap',cur,hv,hg,hh,hn,hcap,hsz,htake⟩
 ·cases h0
 ·cases hv;refine ⟨by rw [List.length_take,h1]; omega,.inr ⟨g,cap,cur,rfl,hg,hh,by omega,hcap,hsz,?_⟩⟩;rw [<-htake,List.take_take,Nat.min_eq_left hm]
theorem zD9 {B:Nat} {e:TypeId} {s n g cap:Nat}:∀(us:List Value) (o:Nat) (w:World) (xs:List Value),w.ownsRow B e s (.slice (some ⟨g,0,none⟩) n cap) n xs →
  ∃ys,(w.setCells g o us).ownsRow B e s (.slice (some ⟨g,0,none⟩) n cap) n ys∧ys.take o=xs.take o∧w.grownBy (w.setCells g o us) (some g)
 | [],o,w,xs,h=>⟨xs,h,rfl,World.grownBy.refl _ _⟩
 | u::us,o,w,xs,h=>by
  obtain ⟨h1,g1⟩:=h.stored o u;obtain ⟨ys,h2,h3,g2⟩:=zD9 us (o+1) _ _ h1;refine ⟨ys,h2,?_,Off.tr g1 g2⟩;have:=congrArg (List.take o) h3;rw [List.take_take,List.take_take,Nat.min_eq_left (by omega)] at this;rw [this,List.take_set_of_le (by omega)]
def ClT (w w':World) (v:Value) (L:List Trm):Prop :=
 (v=.slice none 0 0∧L=[])∨∃blk cap E,v=.slice (some ⟨blk,0,none⟩) L.length cap∧w.heap.size≤blk∧E.map El.t=L∧RowT blk L.length cap w' E
theorem zM7 {S:Nat→Prop} {v:Value} {L:List Trm} {w:World} (h:RT S w v L) (hN:L.length≤1048576) :
  Calls Tryz.prog 90 #[v] w fun e w'=>∃a c,e=.returned (.slice a L.length c)∧ClT w w' (.slice a L.length c) L∧Below w.heap.size w w':=by
 have h0:=h.old;obtain ⟨a,cap,rfl⟩:=h.form;obtain ⟨E,hE,hcells,hreads⟩:=h0.els;have hEl:E.length=L.length:=by rw [<-hE,List.length_map]
 have hN0:a=none→L=[]:=fun e=>by
  subst e;obtain ⟨a',cap',hv,_,h⟩:=h0;simp only [Value.slice.injEq] at hv;rcases h with h | ⟨b,o,ha,_⟩
  ·exact h
  ·rw [<-hv.1] at ha; cases ha
 clear h h0;cases a with
 | none =>
  have h0:=hN0 rfl;subst h0;have he:∀w:World,(binOp .eql 25 (.slice none 0 cap) (.slice none 0 0)).run Tryz.prog w=.ok (.bool true) w:=fun _=>rfl;go_enter Tryz.func90,Tryz.ntmps90
  go_wp2_with fail
  go_ret
  exact ⟨_,_,rfl,.inl ⟨rfl,rfl⟩,Below.refl _ _⟩
 | some ad =>
  clear hN0;obtain ⟨i0,hi,hz0,hz1,hz2⟩:=info_parts zCu;have hlt:∀e∈E,RI (Bt 0 w.heap.size) w e.r e.x∧RI (Bt 0 w.heap.size) w e.r' e.y:=hreads;have HE:=zNg hE;have HC:=zNg hcells;have HR:=zNg hreads;have HEL:=zNg hEl;clear hE hcells hreads hEl hlt;generalize hn:L.length=n at *;have HLN:=zNg hn;clear hn;have he:∀(w:World) (n:Nat),(binOp .eql 25 (.slice (some ad) n cap) (.slice none 0 0)).run Tryz.prog w=.ok (.bool false) w:=fun _ _=>rfl;go_enter Tryz.func90,Tryz.ntmps90
  go_wp2_with (at_builtin; go_must (refine wpList_append_own _ rfl _ _ 25 rfl w.heap.size 39 i0 (.agg #[.slice none 0 0,.slice none 0 0]) 2 48 Tryz.underlying25 hi hz0 hz1 hz2 rfl (by decide) _ 0 [] rfl (World.ownsRow_lit (base:=w.heap.size) (e:=39) (size:=2) w #[] 0 (zNl _) (by unfold maxLen; omega) rfl) ad n cap (zAN E) rfl ?hl ?hc ?h1 ?hs ?hb ?hh ?_))
  case hl=>rw [zBs,HEL.out]
  case hc =>
   intro j u hj;obtain ⟨b,o,ha,hcell⟩:=HC.out j u hj;simp only [Option.some.injEq] at ha;subst ha;have hadd:(⟨b,o,none⟩:Addr).add j=⟨b,o+j,none⟩:=by unfold Addr.add; split <;> simp_all
   rw [hadd];exact zAT hcell _
  case h1 =>
   intro u hu;obtain ⟨j,hj⟩:=List.getElem?_of_mem hu;obtain ⟨e,he,rfl⟩:=zCJ hj;obtain ⟨r1,r2⟩:=HR.out e (zNi he);obtain ⟨_,_,e1⟩:=r1.form;obtain ⟨_,_,e2⟩:=r2.form;split
   ·rw [e1]; rfl
   ·rw [e2]; rfl
  case hs=>unfold maxLen; omega
  case hb=>omega
  case hh=>simp
  intro v' w' h1 h2 _;have hb0:Below w.heap.size w (w.alloc (.cells #[] 39)):=(Below.refl _ w).alloc (zNl _) _;have hb:Below w.heap.size w w':=hb0.grown h2 hb0.size (fun k hk=>by simp [Value.ownBlock] at hk; omega);try rw [List.nil_append,Nat.zero_add] at h1
  rcases zD8 h1 with ⟨rfl,hz⟩ | ⟨g,cg,rfl⟩
  ·have hL:L=[]:=List.eq_nil_of_length_eq_zero (by rw [HLN.out]; exact hz);subst hz;go_wp2_with fail
   go_ret
   exact ⟨_,_,rfl,.inl ⟨rfl,by first | exact hL | rfl⟩,hb⟩
  ·have hg:=h1.lt g rfl;go_wp2_with fail
   go_ret
   refine ⟨_,_,rfl,?_,hb⟩;unfold ClT;rw [HLN.out];refine .inr ⟨g,cg,E,rfl,hg.1,HE.out,HEL.out,zBp h1 (Nat.zero_le _),fun e he=>?_⟩;obtain ⟨r1,r2⟩:=HR.out e he;have k:∀b,Bt 0 w.heap.size b→Off g b:=fun b hb' e=>by have:=hb'.2; omega
   exact ⟨RL.mono (r1.below hb) k (fun _ _ h=>h),RL.mono (r2.below hb) k (fun _ _ h=>h)⟩
theorem zNF {w:World} {fv:Value}:Calls Tryz.prog 131 #[.slice none 0 0,.int .i64 0,.int .i64 0,fv] w fun e w'=>e=.returned (.tuple #[])∧Below w.heap.size w w':=by
 go_enter Tryz.func131,Tryz.ntmps131
 go_wp2_with fail
 go_loopw [8] (fun i wr=>i=.int .i64 1∧Below w.heap.size w wr) (fun _ _=>0)
 case atStart=>exact ⟨rfl,Below.refl _ _⟩
 case round =>
  obtain ⟨rfl,hb⟩:=hrel;go_wp2_with fail
  go_end0
  exact ⟨rfl,hb⟩
theorem zKT {w:World} {fv:Value}:Calls Tryz.prog 117 #[.slice none 0 0,.int .i64 0,fv] w fun e w'=>e=.returned (.tuple #[])∧Below w.heap.size w w':=by
 go_enter Tryz.func117,Tryz.ntmps117
 go_wp2_with fail
 go_loopw [7,8] (fun a b wr=>a=.int .i64 0∧b=.int .i64 20∧Below w.heap.size w wr) (fun _ _ _=>0)
 case atStart=>exact ⟨rfl,rfl,Below.refl _ _⟩
 case round =>
  obtain ⟨rfl,rfl,hb⟩:=hrel;go_wp2_with fail
  refine zNF.mono ?_;rintro e w1 ⟨rfl,b1⟩;have hb1:=zAA.step hb b1;go_wp2_with fail
  go_loopw [6] (fun a wr=>a=.int .i64 20∧Below w.heap.size w wr) (fun _ _=>0)
  case atStart=>exact ⟨rfl,hb1⟩
  case round =>
   obtain ⟨rfl,hb⟩:=hrel;go_wp2_with fail
   go_end0
   exact ⟨rfl,hb⟩
theorem zMa {w:World} {fv:Value}:Calls Tryz.prog 91 #[.slice none 0 0,fv] w fun e w'=>e=.returned (.tuple #[])∧Below w.heap.size w w':=by
 go_enter Tryz.func91,Tryz.ntmps91
 go_wp2_with fail
 refine zKT.mono ?_;rintro e w1 ⟨rfl,hM⟩;go_wp2_with fail
 go_end0
 exact ⟨rfl,hM⟩
theorem zMZ {v:Value} {L:List Trm} {w0 w:World} (hc:ClT w0 w v L) (hN:L.length≤1048576) (hw:∀t∈L,t.1.length≤16777216) (h0:w0.heap.size≤w.heap.size) :
  Calls Tryz.prog 91 #[v,.func (.func 92) #[] #[]] w fun e w' =>
   e=.returned (.tuple #[])∧(∃M,M.Perm L∧M.Pairwise (fun a b=>cmpW a.1 b.1≤0)∧RT Any w' v M)∧Below w0.heap.size w w':=by
 rcases hc with ⟨rfl,rfl⟩ | ⟨blk,cap,E,rfl,hblk,hE,hr⟩
 ·refine zMa.mono ?_;rintro e w' ⟨he,hb⟩;exact ⟨he,⟨[],List.Perm.refl _,List.Pairwise.nil,RL2.nil _ _ (by unfold maxLen; omega)⟩,hb.mono h0⟩
 ·refine (zHv hr hN (fun e he=>?_)).mono ?_
  ·exact hw e.t (by rw [<-hE]; exact List.mem_map_of_mem he)
  ·rintro e w' ⟨he,M,hp,hs,hr',hg⟩;have hcap:=zEz hr'.2.1;refine ⟨he,⟨M.map El.t,by rw [<-hE]; exact hp.map _,List.pairwise_map.2 hs,?_⟩,(Below.refl w0.heap.size w).grown hg h0 (fun k hk=>by simp only [Option.some.injEq] at hk; omega)⟩;exact hr'.reading hcap
theorem zJf {S S':Nat→Prop} {r r':Value} {x y:List Int} {w:World} (h:RI S w r x) (h':RI S' w r' y) :
  Calls Tryz.prog 96 #[.agg #[r,r']] w fun e w'=>e=.returned (.bool ((y.length:Int) == 0))∧Below w.heap.size w w':=by
 obtain ⟨a,cap,rfl⟩:=h.form;obtain ⟨a',cap',rfl⟩:=h'.form;generalize y.length=n' at *;go_enter Tryz.func96,Tryz.ntmps96
 go_wp2_with fail
 go_ret
 exact ⟨rfl,(Below.refl _ w).alloc (zNl _) _⟩
theorem zG0 {t:Trm}:full t=!((t.2.length:Int) == 0):=by
 unfold full;cases t.2 with
 | nil=>rfl
 | cons a l =>
  have:(((a::l).length:Int) == 0)=false:=by simp; omega
  rw [this]; rfl
theorem zI3 {S:Nat→Prop} {v:Value} {L:List Trm} {w:World} (h:RT S w v L) (hN:L.length≤1048576) :
  Calls Tryz.prog 118 #[v,.func (.func 96) #[] #[]] w fun e w'=>∃i:Int,e=.returned (.int .i64 i) ∧
   ((i = -1∧∀t∈L,full t=true)∨∃(k:Nat) (t:Trm),i=(k:Int)∧L[k]? = some t∧full t=false∧∀s∈L.take k,full s=true)∧Below w.heap.size w w':=by
 obtain ⟨a,cap,rfl⟩:=h.form;have HN:Hid (L.take L.length=L):=zNg (List.take_of_length_le (zNl _));have H0:Hid (∀s∈L.take 0,full s=true):=zNg (fun s hs=>by simp at hs);generalize hm:L.length=m at *;clear hm;go_enter Tryz.func118,Tryz.ntmps118
 go_wp2_with fail
 go_loopw [8] (fun i wr=>∃k:Nat,k≤m∧i=.int .i64 k∧Hid (∀s∈L.take k,full s=true)∧Below w.heap.size w wr) (fun i _=>m-(intOf i).toNat)
 case atStart=>exact ⟨0,Nat.zero_le _,rfl,H0,Below.refl _ _⟩
 case round =>
  obtain ⟨k,hk,rfl,HA,hb⟩:=hrel;by_cases h1:k<m
  ·obtain ⟨b,o,r,r',x,e8,hc,hc',⟨hr,hr'⟩,hx⟩:=h.at h1;subst e8;have lb0:b<w.heap.size:=zNk w _ hc;have hc:=(hb.cell (p:=⟨b,o+k*2,none⟩) lb0).trans hc;have hc':=(hb.cell (p:=⟨b,o+k*2+1,none⟩) lb0).trans hc';have hr:=hr.below hb;have hr':=hr'.below hb;obtain ⟨ax,cx,rfl⟩:=hr.form;obtain ⟨ay,cy,rfl⟩:=hr'.form;have i1:(k:Int)<(m:Int):=by omega
   have HF:=zNg (zG0 (t:=x));have HST:=zNg (zAV hx.out);have he:=zJf hr hr';generalize hq:((x.2.length:Int) == 0)=q at *;clear hq;cases q
   ·have HA2:Hid (∀s∈L.take (k+1),full s=true):=zNg (fun s hs=>by
     rw [HST.out,List.mem_append] at hs;rcases hs with hs | hs
     ·exact HA.out s hs
     ·rw [List.mem_singleton] at hs; subst hs; rw [HF.out]; rfl)
    go_wp2_with fail
    refine he.mono ?_;rintro e w2 ⟨rfl,b2⟩;have hb2:=zAA.step hb b2;go_wp2_with fail
    go_roundw
    case rel=>exact ⟨k+1,by omega,by go_num,HA2,hb2⟩
    case measure=>simp [intOf]; omega
   ·go_wp2_with fail
    refine he.mono ?_;rintro e w2 ⟨rfl,b2⟩;have hb2:=zAA.step hb b2;go_wp2_with fail
    go_ret
    exact ⟨_,rfl,.inr ⟨k,x,rfl,hx.out,by rw [HF.out]; rfl,HA.out⟩,hb2⟩
  ·have hkm:k=m:=by omega
   have i1:¬(k:Int)<(m:Int):=by omega
   rw [hkm,HN.out] at HA;clear hkm;go_wp2_with fail
   go_ret
   exact ⟨_,rfl,.inl ⟨rfl,by first | exact HA.out | exact fun a b h=>HA.out (a,b) h⟩,hb⟩
theorem FI.offT {S:Nat→Prop} {w:World} {r:Value} {l:List Int} {g:Nat} (h:FI S w r l) (hg:∃cur,w.heap[g]? = some (.cells cur 39 (0,0))):RI (Off g) w r l :=
 RL.mono h.read (fun b hb e=>by
  obtain ⟨c1,t1⟩:=hg;obtain ⟨c2,t2⟩:=zAt h.1 hb.2;rw [e,t1] at t2;simp at t2) (fun _ _ h=>h)
theorem zLO (w:World):(zeroValue 39).run Tryz.prog w=.ok (.agg #[.slice none 0 0,.slice none 0 0]) w:=by
 obtain ⟨i0,hi,hz0,hz1,hz2⟩:=info_parts zCu;simp [zeroValue,typeInfo,hi,hz0]
theorem zJB {w:World} {g p n c:Nat} (ty:TypeId) (hn:0<n) (hc:∀j,j<n*2→(w.cell? ⟨g,p+j,none⟩).isSome=true) (hf:∀j,w.frozen? ⟨g,j,none⟩=false) :
  ∃us,(Builtin.clear_ #[25] ty #[.slice (some ⟨g,p,none⟩) n c]).run Tryz.prog w=.ok (.tuple #[]) (w.setCells g p us):=by
 have hl:((Builtin.zeroCells (Value.agg #[.slice none 0 0,.slice none 0 0]).cells n).toList).length=n*2:=by simp [Builtin.zeroCells,Value.cells]
 have hst:=run_storeCells_cells (P:=Tryz.prog) g p ((Builtin.zeroCells (Value.agg #[.slice none 0 0,.slice none 0 0]).cells n).toList) 0 w (by rw [hl]; simpa using hc) (by intro j _; exact hf _) (by
  intro v hv;simp [Builtin.zeroCells,Value.cells] at hv;obtain ⟨i,_,rfl⟩:=hv;have hi:i % 2=0∨i % 2=1:=by omega
  rcases hi with e | e <;> simp [e] <;> rfl)
 simp only [Nat.add_zero] at hst;obtain ⟨m,rfl⟩:∃m,n=m+1:=⟨n-1,by omega⟩;refine ⟨(Builtin.zeroCells (Value.agg #[.slice none 0 0,.slice none 0 0]).cells (m+1)).toList,?_⟩;simp only [Builtin.clear_];simp [run_underlying Tryz.underlying25,zLO,hst]
def kp (e:El):Bool:=full e.t
theorem zHq {v:Value} {L:List Trm} {W w:World} (hW:Below W.heap.size W w) (h:FT (New W w) w v L) (hN:L.length≤1048576) :
  Calls Tryz.prog 95 #[v,.func (.func 96) #[] #[]] w fun e w'=>∃r,e=.returned r∧FT (New W w') w' r (L.filter full)∧Below W.heap.size W w':=by
 have hix:=zI3 h.any hN;obtain ⟨a,cap,rfl,_⟩:=FC.form h;go_enter Tryz.func95,Tryz.ntmps95
 go_wp2_with fail
 refine hix.mono ?_;rintro e w1 ⟨i,rfl,hi,b1⟩;rcases hi with ⟨rfl,hall⟩ | ⟨k,t,rfl,hk,hf,hbef⟩
 ·clear hix;have HALL:Hid (L.filter full=L):=zNg (List.filter_eq_self.2 hall);clear hall;go_wp2_with fail
  go_ret
  refine ⟨_,rfl,?_,zAA.step hW b1⟩;rw [HALL.out];exact FC.grow h b1
 ·clear hix;obtain ⟨E,hE,hown,hS,hfi,hap⟩:=h.els;have hkL:k<L.length:=(zNj hk).1;obtain ⟨g,cap',e,hSg⟩:=FC.head h (by omega);simp only [Value.slice.injEq] at e;obtain ⟨rfl,_,rfl⟩:=e;have hEl:E.length=L.length:=by rw [<-hE,List.length_map]
  have htag:=zAt hown (b:=g) rfl;have htag1:∃cur,w1.heap[g]? = some (.cells cur 39 (0,0)):=by
   obtain ⟨cur,ht⟩:=htag;exact ⟨cur,by rw [b1.block g (hown.lt g rfl).2]; exact ht⟩
  have hfi1:∀e∈E,FI (New W w) w1 e.r e.x∧FI (New W w) w1 e.r' e.y:=fun e he=>⟨(hfi e he).1.below b1,(hfi e he).2.below b1⟩;have hrow:RowT g L.length cap w1 E:=⟨hEl,zCe hown b1,fun e he=>⟨(hfi1 e he).1.offT htag1,(hfi1 e he).2.offT htag1⟩⟩;have hcap:=zEz hown;have hkE:∃e,E[k]? = some e∧kp e=false:=by
   rw [<-hE,List.getElem?_map] at hk;obtain ⟨e,he,rfl⟩:=Option.map_eq_some_iff.1 hk;exact ⟨e,he,hf⟩
  have hKk:(E.take (k+1)).filter kp=E.take k:=by
   obtain ⟨e,he,hke⟩:=hkE;rw [zAV he,List.filter_append,List.filter_eq_self.2 (fun s hs=>hbef s.t (by rw [<-hE,<-List.map_take]; exact List.mem_map_of_mem hs))];simp [hke]
  have HK0:=zNg hKk;have HK1:Hid ((E.take k).length=k):=zNg (by simp; omega);have HK2:Hid (E.take k++E.drop k=E):=zNg (List.take_append_drop k E);have HFIN:Hid (∀(K:List El) (i:Nat) (wr:World) (us:List Value),K=(E.take L.length).filter kp→K.length=i→i≤L.length→RowT g L.length cap wr (K++E.drop i)→w1.grownBy wr (some g) →
    FT (New W (wr.setCells g (i*2) us)) (wr.setCells g (i*2) us) (.slice (some ⟨g,0,none⟩) i cap) (L.filter full)∧Below W.heap.size W (wr.setCells g (i*2) us)):=zNg (fun K i wr us hKe hKl hiL hr hg=>by
   obtain ⟨ys,y1,y2,y3⟩:=zD9 us (i*2) wr _ hr.2.1;have y4:=zMM y1 hiL;have hgg:=Off.tr hg y3;rw [y2,zEX,List.take_append_of_le_length (by omega),List.take_of_length_le (by omega)] at y4;have hWb:Below W.heap.size W (wr.setCells g (i*2) us):=(zAA.step hW b1).grown hgg (zAA.step hW b1).size (fun k hk=>by
    simp only [Option.some.injEq] at hk;subst hk;exact hSg.1)
   have hsz:w.heap.size≤(wr.setCells g (i*2) us).heap.size:=Nat.le_trans b1.size hgg.size;refine ⟨?_,hWb⟩;have hfil:L.filter full=K.map El.t:=by
    rw [hKe,List.take_of_length_le (by omega),<-hE,List.filter_map]; rfl
   rw [hfil];have hmem:∀e∈K,e∈E:=fun e he=>by
    rw [hKe] at he;exact List.mem_of_mem_take (List.mem_filter.1 he).1
   refine FT.of_els hKl y4 (fun b hb=>?_) (fun e he=>?_) (hap.sub (by rw [hKe]; exact List.filter_sublist.trans (List.take_sublist _ _)))
   ·cases hb;exact ⟨hSg.1,Nat.lt_of_lt_of_le hSg.2 hsz⟩
   ·have k1:∀{r:Value} {l:List Int},FI (New W w) w1 r l→FI (New W (wr.setCells g (i*2) us)) (wr.setCells g (i*2) us) r l:=fun hf =>
     (hf.grownT (v:=.slice (some ⟨g,0,none⟩) L.length cap) hgg (fun b hb=>by cases hb; exact htag1)).mono (fun b hb=>⟨hb.1,by have:=hb.2; omega⟩)
    exact ⟨k1 (hfi1 e (hmem e he)).1,k1 (hfi1 e (hmem e he)).2⟩)
  have HSTK:Hid (∀(j:Nat) (e:El),E[j]? = some e→kp e=true→(E.take (j+1)).filter kp=(E.take j).filter kp++[e]):=zNg (fun j e he hke=>by
   rw [zAV he,List.filter_append]; simp [hke])
  have HSTD:Hid (∀(j:Nat) (e:El),E[j]? = some e→kp e=false→(E.take (j+1)).filter kp=(E.take j).filter kp):=zNg (fun j e he hke=>by
   rw [zAV he,List.filter_append]; simp [hke])
  have HEL:=zNg hEl;clear hKk hbef hfi hfi1 htag htag1 hap hS hown hE hkE hk hf h hEl;generalize hn:L.length=n at *;have HLN:=zNg hn;clear hn;have i0:((k:Int) == -1)=false:=by simp
  go_wp2_with fail
  go_loopw [5,6] (fun iv jv wr=>∃(i j:Nat) (K:List El),iv=.int .i64 i∧jv=.int .i64 j∧i<j∧j≤n∧Hid (K=(E.take j).filter kp)∧Hid (K.length=i)∧RowT g n cap wr (K++E.drop i)∧w1.grownBy wr (some g)) (fun _ jv _=>n-(intOf jv).toNat)
  case atStart=>exact ⟨k,k+1,E.take k,rfl,by go_num,by omega,by omega,zNg HK0.out.symm,HK1,by rw [HK2.out]; exact hrow,World.grownBy.refl _ _⟩
  case round =>
   obtain ⟨i,j,K,rfl,rfl,hij,hjn,HK,HKL,hr,hg⟩:=hrel;by_cases h1:j<n
   ·have i1:(j:Int)<(n:Int):=by omega
    obtain ⟨e,he⟩:∃e,E[j]? = some e:=⟨E[j]'(by rw [HEL.out]; exact h1),zNh _⟩;have hx:(K++E.drop i)[j]? = some e:=by
     rw [List.getElem?_append_right (by rw [HKL.out]; omega),HKL.out,List.getElem?_drop,show i+(j-i)=j by omega]; exact he
    obtain ⟨ax,lx,qx,ax',lx',qx',ex,ex'⟩:=hr.forms hx;obtain ⟨cx,cx'⟩:=hr.cell hx;have f0:=hr.froz (i*2);have f1:=hr.froz (i*2+1);have hrd:=hr.reads hx;obtain ⟨w2,hw2⟩:∃w2,w2=wr.alloc (.cells #[e.r,e.r'] 39):=⟨_,rfl⟩;have b2:Below wr.heap.size wr w2:=by rw [hw2]; exact (Below.refl _ wr).alloc (zNl _) _
    have k0:w2.cell? ⟨wr.heap.size,0,none⟩=some e.r:=by rw [hw2]; go_simp
    have k1:w2.cell? ⟨wr.heap.size,1,none⟩=some e.r':=by rw [hw2]; go_simp
    have l0:wr.heap.size<w2.heap.size:=by rw [hw2]; simp
    have hr2:=hr.below b2;have hg2:=Off.tr hg (Off.grown b2);have hem:=zJf (hrd.1.below b2) (hrd.2.below b2);have HF:Hid (kp e=!((e.y.length:Int) == 0)):=zNg (zG0 (t:=e.t));rw [ex] at cx k0 hw2 hem;rw [ex'] at cx' k1 hw2 hem;have HE:=zNg he;have HEX:=zNg (And.intro ex ex');generalize hq:((e.y.length:Int) == 0)=q at *;clear hq ex ex' he hx;have HW2:=zNg hw2;cases q
    ·have HS2:=zNg (HSTK.out j e HE.out (by rw [HF.out]; rfl));clear hw2;go_wp2_with fail
     rw [<-HW2.out];go_wp2_with fail
     refine hem.mono ?_;rintro e1 w3 ⟨rfl,b3⟩;have hr3:=hr2.below b3;have hg3:=Off.tr hg2 (Off.grown b3);have k0:=(b3.cell (p:=⟨wr.heap.size,0,none⟩) l0).trans k0;have k1:=(b3.cell (p:=⟨wr.heap.size,1,none⟩) l0).trans k1;have f0:=hr3.froz (i*2);have f1:=hr3.froz (i*2+1);have hx3:(K++E.drop i)[j]? = some e:=by
      rw [List.getElem?_append_right (by rw [HKL.out]; omega),HKL.out,List.getElem?_drop,show i+(j-i)=j by omega]; exact HE.out
     obtain ⟨z,hz⟩:∃z,(K++E.drop i)[i]? = some z:=by
      have:i<(K++E.drop i).length:=by rw [hr3.1]; omega
      exact ⟨_,zNh this⟩
     obtain ⟨cz,cz'⟩:=hr3.cell hz;have hput:=hr3.put (j:=i) (hr3.reads hx3);rw [HEX.out.1,HEX.out.2] at hput;have HPUT:=zNg hput;have HSET:Hid ((K++E.drop i).set i e=(K++[e])++E.drop (i+1)):=zNg (by
      have hil:i<E.length:=by rw [HEL.out]; omega
      rw [List.set_append_right _ _ (by rw [HKL.out]; exact zNl _),HKL.out,Nat.sub_self,List.drop_eq_getElem_cons hil,List.set_cons_zero,List.append_assoc];rfl)
     clear hput hx3 hz;go_wp2_with fail
     go_roundw
     case rel=>exact ⟨i+1,j+1,K++[e],by go_num,by go_num,by omega,by omega,zNg (by rw [HS2.out,<-HK.out]),zNg (by simp [HKL.out]),by rw [<-HSET.out]; exact HPUT.out.1,Off.tr hg3 HPUT.out.2⟩
     case measure=>simp [intOf]; omega
    ·have HS2:=zNg (HSTD.out j e HE.out (by rw [HF.out]; rfl));clear hw2;go_wp2_with fail
     rw [<-HW2.out];go_wp2_with fail
     refine hem.mono ?_;rintro e1 w3 ⟨rfl,b3⟩;have hr3:=hr2.below b3;have hg3:=Off.tr hg2 (Off.grown b3);go_wp2_with fail
     go_roundw
     case rel=>exact ⟨i,j+1,K,rfl,by go_num,by omega,by omega,zNg (by rw [HS2.out,<-HK.out]),HKL,hr3,hg3⟩
     case measure=>simp [intOf]; omega
   ·have hjn:j=n:=by omega
    have i1:¬(j:Int)<(n:Int):=by omega
    rw [hjn] at HK;have HF:=zNg (fun us=>HFIN.out K i wr us HK.out HKL.out (by omega) hr hg);have hcl:∀q,q<(n-i)*2→(wr.cell? ⟨g,i*2+q,none⟩).isSome=true:=fun q hq=>by
     rw [hr.2.1.cellAt (i*2+q) (by omega)];have:i*2+q<(zAN (K++E.drop i)).length:=by rw [zBs,hr.1]; omega
     rw [zNh this]; rfl
    have hfz:∀q,wr.frozen? ⟨g,q,none⟩=false:=hr.froz;have HCL:=zNg hcl;have HFZ:=zNg hfz;have i2:(0:Int)≤(i:Int):=by omega
    have i3:(i:Int)≤(n:Int):=by omega
    have i4:(i:Int)≤(cap:Int):=by omega
    have i5:¬cap=i:=by omega
    have hin:i<n:=by omega
    obtain ⟨us,hrun⟩:=zJB (c:=cap-i) 0 (show 0<n-i by omega) HCL.out HFZ.out;have HRUN:=zNg hrun;clear hcl hfz hjn hij hrun;go_wp2_with fail
    rw [HRUN.out];go_wp2_with fail
    go_ret
    exact ⟨_,rfl,HF.out us⟩
theorem zKw (acc:List Trm) (t:Trm):(grpT acc t).length≤acc.length+1:=by
 rcases zBG acc with rfl | ⟨a,l,rfl⟩
 ·rw [zDa]; simp
 ·rw [zC7]; split <;> simp
theorem zL6 {A B:Nat} {acc:List Trm} {t:Trm} (ht:t.1.length≤A∧t.2.length≤B∧InI t.2) (ha:∀s∈acc,s.1.length≤A∧s.2.length≤B∧InI s.2):∀s∈grpT acc t,s.1.length≤A∧s.2.length≤B∧InI s.2:=by
 have h1:(t.1,trim t.2).1.length≤A∧(t.1,trim t.2).2.length≤B∧InI (t.1,trim t.2).2:=⟨ht.1,Nat.le_trans (zCX _) ht.2.1,zF7 ht.2.2⟩;rcases zBG acc with rfl | ⟨a,l,rfl⟩
 ·rw [zDa];intro s hs;rw [List.mem_singleton] at hs;rw [hs]; exact h1
 ·rw [zC7];have hl:=ha l (List.mem_append_right _ (List.mem_singleton.2 rfl));split
  ·intro s hs;rcases List.mem_append.1 hs with hs | hs
   ·exact ha s (List.mem_append_left _ hs)
   ·rw [List.mem_singleton] at hs;rw [hs];have:=zEM l.2 t.2;exact ⟨hl.1,by show (addP l.2 t.2).length≤B; omega,zEL _ _⟩
  ·intro s hs;rcases List.mem_append.1 hs with hs | hs
   ·exact ha s hs
   ·rw [List.mem_singleton] at hs;rw [hs]; exact h1
theorem zG3 {A B:Nat}:∀(n:Nat) (L:List Trm),L.length=n→(∀t∈L,t.1.length≤A∧t.2.length≤B∧InI t.2)→(zA0 L).length≤n∧∀s∈zA0 L,s.1.length≤A∧s.2.length≤B∧InI s.2
 | 0,L,hn,_=>by
  have:=List.eq_nil_of_length_eq_zero hn;subst this;exact ⟨zNl _,fun s hs=>by simp [zA0] at hs⟩
 | n+1,L,hn,hi=>by
  rcases zBG L with rfl | ⟨a,t,rfl⟩
  ·simp at hn
  ·obtain ⟨g1,g2⟩:=zG3 n a (by simp at hn; exact hn) (fun s h=>hi s (List.mem_append_left _ h));rw [zDb];have:=zKw (zA0 a) t;exact ⟨by omega,zL6 (hi t (List.mem_append_right _ (List.mem_singleton.2 rfl))) g2⟩
theorem zJL {m:Nat} (h:m≤1048576):wrap64 (m:Int)=(m:Int)∧IntKind.i64.wrap (m:Int)=(m:Int)∧IntKind.i64.wrap ((m:Int)+1-1)=(m:Int)∧(m:Int)<(m:Int)+1:=by
 have j:IntKind.i64.wrap (m:Int)=(m:Int):=IntWalk.i64_in _ (by omega);exact ⟨by unfold wrap64; omega,j,by rw [Int.add_sub_cancel]; exact j,by omega⟩
theorem FT.poly {W w8 w9:World} {g cap m:Nat} {a:List Trm} {l:Trm} {q:List Int} {r9:Value} (h:FT (New W w8) w8 (.slice (some ⟨g,0,none⟩) (m+1) cap) (a++[l])) (hm:a.length=m) (b9:Below w8.heap.size w8 w9)
  (f9:FI (New w8 w9) w9 r9 q) (hW:Below W.heap.size W w8):FT (New W (w9.setCell ⟨g,m*2+1,none⟩ r9)) (w9.setCell ⟨g,m*2+1,none⟩ r9) (.slice (some ⟨g,0,none⟩) (m+1) cap) (a++[(l.1,q)]) ∧
  Below W.heap.size W (w9.setCell ⟨g,m*2+1,none⟩ r9):=by
 have hlen:(a++[l]).length=m+1:=by simp [hm]
 have hlen':(a++[(l.1,q)]).length=m+1:=by simp [hm]
 have h:FC (New W w8) 39 2 w8 (.slice (some ⟨g,0,none⟩) (m+1) cap) (m+1) (zAf (zAF (a++[l]))):=by
  have h0:FC (New W w8) 39 2 w8 (.slice (some ⟨g,0,none⟩) (m+1) cap) (a++[l]).length (zAf (zAF (a++[l]))):=h;rwa [hlen] at h0
 have hg:g<w8.heap.size∧W.heap.size≤g:=by
  obtain ⟨g',c',e,hS⟩:=FC.head h (by omega);simp only [Value.slice.injEq,Option.some.injEq,Addr.mk.injEq,and_true,true_and] at e;obtain ⟨rfl,_⟩:=e;exact ⟨hS.2,hS.1⟩
 have h9:=h.below b9;have hil:(zAf (zAF (a++[l]))).length=(m+1)*2:=by simp [zAf,zBa,hm]
 have hz:w9.heap.size=(w9.setCell ⟨g,m*2+1,none⟩ r9).heap.size:=(zAw _ _ _).symm;have p:=FC.put (h9.mono (S':=New W w9) (fun b hb=>⟨hb.1,Nat.lt_of_lt_of_le hb.2 b9.size⟩)) (by decide) (j:=m*2+1) (r:=r9) (l:=q) (by rw [hil]; omega) (f9.mono (fun b hb=>⟨Nat.le_trans hW.size hb.1,hb.2⟩)) (fun i r' b hc _ hi hb hb'=>by
  obtain ⟨r2,hc2,hcell,_⟩:=FC.cell h9 (j:=i) (zNh hi);rw [hc] at hc2;cases hc2;have h1:=(hcell.lt hb').2.2;have h2:=(f9.2 b hb).1;omega)
 have e:(zAf (zAF (a++[l]))).set (m*2+1) (.inl q)=zAf (zAF (a++[(l.1,q)])):=by
  have hfl:(zAF a).length=m*2:=by rw [zBa,hm]
  rw [zCB,zCB];simp only [zAf,List.map_append];rw [List.set_append_right _ _ (by simp [hfl])];simp [hfl,zAF]
 rw [e] at p;refine ⟨?_,(zAA.step hW b9).setCell hg.2 _⟩;show FC _ _ 2 _ _ (a++[(l.1,q)]).length _;rw [hlen'];exact p.mono (fun b hb=>⟨hb.1,by rw [<-hz]; exact hb.2⟩)
theorem zCh {S:Nat→Prop} {v:Value} {L:List Trm} {w:World} (h:RT S w v L) (hN:L.length≤1048576) (hi:∀t∈L,t.1.length≤1048576∧t.2.length≤1048576∧Trd t.2∧InI t.2) :
  Calls Tryz.prog 51 #[v] w fun e w'=>∃r,e=.returned r∧FT (New w w') w' r (puts L)∧Below w.heap.size w w':=by
 have HI:=zNg hi;have hcl:=zM7 h hN;have HWL:Hid (∀t∈L,t.1.length≤16777216):=zNg (fun t ht=>by have:=(hi t ht).1; omega);clear h hi;go_enter Tryz.func51,Tryz.ntmps51
 go_wp2_with fail
 refine hcl.mono ?_;rintro e w1 ⟨a1,c1,rfl,hc,b1⟩;go_wp2_with fail
 refine (zMZ hc hN HWL.out b1.size).mono ?_;rintro e wS ⟨rfl,⟨M,hp,hs,hM⟩,bS⟩;have bS:=b1.trans bS;have HPUT:=zNg (zJb hp hs (fun t ht=>(HI.out t ht).2.2));have hMi:∀t∈M,t.1.length≤1048576∧t.2.length≤1048576∧InI t.2:=fun t ht=>by
  have:=HI.out t (hp.mem_iff.1 ht);exact ⟨this.1,this.2.1,this.2.2.2⟩
 have HMI:=zNg hMi;have HML:=zNg hp.length_eq;have HOK:=zNg (fun k=>zG3 (A:=1048576) (B:=1048576) _ (M.take k) rfl (fun t ht=>hMi t (List.mem_of_mem_take ht)));have hst:∀(k:Nat) (t:Trm),M[k]? = some t→zA0 (M.take (k+1))=grpT (zA0 (M.take k)) t:=fun k t ht=>by rw [zAV ht,zDb]
 have HST:=zNg hst;have HN:Hid (zA0 (M.take M.length)=zA0 M):=zNg (by rw [List.take_of_length_le (zNl _)]);have H0:Hid (zA0 (M.take 0)=[]):=zNg rfl;have HCOLL:Hid ((zA0 M).filter full=puts L):=zNg HPUT.out;rw [HML.out] at HN;have HKL:Hid (∀k,(zA0 (M.take k)).length≤1048576):=zNg (fun k=>by
  have h1:=(HOK.out k).1;have h2:(M.take k).length≤M.length:=by rw [List.length_take]; exact Nat.min_le_right _ _
  have:=HML.out;omega)
 clear hc hcl hp hs hMi hst HPUT HI HWL b1;generalize hn:L.length=n at *;have HLN:=zNg hn;clear hn;go_wp2_with fail
 have f1:FT (New wS (wS.alloc (.cells #[] 39))) (wS.alloc (.cells #[] 39)) (.slice (some ⟨wS.heap.size,0,none⟩) 0 0) []:=FC.of_row (w:=wS) (World.ownsRow_lit (base:=wS.heap.size) (e:=39) (size:=2) wS #[] 0 (zNl _) (by unfold maxLen; omega) rfl) (zNl _) rfl (fun j r x hr _=>by simp at hr);have b3:Below wS.heap.size wS (wS.alloc (.cells #[] 39)):=(Below.refl _ wS).alloc (zNl _) _;generalize wS.alloc (.cells #[] 39)=w3 at *;rw [<-H0.out] at f1;go_loopw [4,15] (fun zz j wr=>∃(k:Nat) (zv:Value),zv=zz∧k≤n∧j=.int .i64 k∧FT (New wS wr) wr zv (zA0 (M.take k))∧Below wS.heap.size wS wr) (fun _ j _=>n-(intOf j).toNat)
 case atStart=>exact ⟨0,_,rfl,Nat.zero_le _,rfl,f1,b3⟩
 case round =>
  obtain ⟨k,zv,rfl,hk,rfl,hf,hb⟩:=hrel;by_cases h1:k<n
  ·obtain ⟨b,o,r,r',x,e8,hc,hc',⟨hr,hr'⟩,hx⟩:=(hM.below hb).at h1;subst e8;obtain ⟨ax,cx,rfl⟩:=hr.form;obtain ⟨ay,cy,rfl⟩:=hr'.form;have i1:(k:Int)<(n:Int):=by omega
   obtain ⟨hx1,hx2,hx3⟩:=HMI.out x (zNi hx.out);obtain ⟨w2,hw2⟩:∃w2,w2=wr.alloc (.cells #[.slice ax x.1.length cx,.slice ay x.2.length cy] 39):=⟨_,rfl⟩;have b2:Below wr.heap.size wr w2:=by rw [hw2]; exact (Below.refl _ wr).alloc (zNl _) _
   have k0:w2.cell? ⟨wr.heap.size,0,none⟩=some (.slice ax x.1.length cx):=by rw [hw2]; go_simp
   have k1:w2.cell? ⟨wr.heap.size,1,none⟩=some (.slice ay x.2.length cy):=by rw [hw2]; go_simp
   have hr2:=hr.below b2;have hr3:=hr'.below b2;have hf2:=hf.grow b2;have b02:=zAA.step hb b2;have HW2:=zNg hw2;have l0:wr.heap.size<w2.heap.size:=by rw [hw2]; simp
   have HS:=zNg (HST.out k x hx.out);have HAL:=HKL.out k;have HAO:=zNg (HOK.out k).2;have HX3:=zNg hx3;have HNE:Hid (some wr.heap.size≠zv.ownBlock):=zNg (fun e=>by
    obtain ⟨_,_,_,hS,_⟩:=hf;have:=(hS _ e.symm).2;omega)
   clear hw2 hf hx3;generalize hacc:zA0 (M.take k)=acc at *;clear hacc;rcases zBG acc with rfl | ⟨a,l,rfl⟩
   ·rw [zDa] at HS;obtain ⟨az,cz,rfl,_⟩:=FC.form hf2;go_wp2_with fail
    rw [<-HW2.out];go_wp2_with fail
    refine zAK (by kernel_rfl) (by kernel_rfl) ?_
    repeat (go_big_quiet_step ((first | (rename_i z; go_at_call 74; fail))))
    refine wpQuiet_nil ?_;intro w8 hb8;have hf8:=hf2.grow hb8;have hbS:=zAA.step b02 hb8;have l8:wr.heap.size<w8.heap.size:=Nat.lt_of_lt_of_le l0 hb8.size;have c0:=(hb8.cell (p:=⟨wr.heap.size,0,none⟩) l0).trans k0;have c1:=(hb8.cell (p:=⟨wr.heap.size,1,none⟩) l0).trans k1;have hr8:=hr2.below hb8;have hr9:=hr3.below hb8;obtain ⟨wX,hwX⟩:∃wX,wX=(w8.alloc (.cells #[] 3)).drew:=⟨_,rfl⟩;have fX:FI (New w8 wX) wX (.slice (some ⟨w8.heap.size,0,none⟩) 0 0) []:=by
     obtain ⟨f0,_⟩:=zAa (w:=w8) (Below.refl _ w8) rfl;rw [hwX];exact (f0.below ((Below.refl _ _).drew)).mono (fun _ h=>h)
    have bX:Below w8.heap.size w8 wX:=by rw [hwX]; exact ((Below.refl _ w8).alloc (zNl _) _).drew
    have hT1X:=hr8.below bX;rw [hwX] at fX bX hT1X;clear hwX;go_wp2_with fail
    go_region_held3 (fun w'=>w'.cell? ⟨wr.heap.size,0,none⟩=some (.slice ax x.1.length cx)∧w'.cell? ⟨wr.heap.size,1,none⟩=some (.slice ay x.2.length cy)) (first | go_keep | exact ⟨(b4.cell (p:=⟨wr.heap.size,0,none⟩) l8).trans c0,(b4.cell (p:=⟨wr.heap.size,1,none⟩) l8).trans c1⟩ | exact ⟨(b5.cell (p:=⟨wr.heap.size,0,none⟩) (Nat.lt_of_lt_of_le l8 b4.size)).trans ((b4.cell (p:=⟨wr.heap.size,0,none⟩) l8).trans c0),(b5.cell (p:=⟨wr.heap.size,1,none⟩) (Nat.lt_of_lt_of_le l8 b4.size)).trans ((b4.cell (p:=⟨wr.heap.size,1,none⟩) l8).trans c1)⟩ | exact ⟨g6.cell (zAT ((b5.cell (p:=⟨wr.heap.size,0,none⟩) (Nat.lt_of_lt_of_le l8 b4.size)).trans ((b4.cell (p:=⟨wr.heap.size,0,none⟩) l8).trans c0)) _) HNE.out,g6.cell (zAT ((b5.cell (p:=⟨wr.heap.size,1,none⟩) (Nat.lt_of_lt_of_le l8 b4.size)).trans ((b4.cell (p:=⟨wr.heap.size,1,none⟩) l8).trans c1)) _) HNE.out⟩) (first
     | (refine zE2 (W:=w8) (by rfl) _ _ (by rfl) (by rfl) fX bX (by rfl) hT1X (by simp; omega) ?_; intro v4 w4 f4 b4 g4; rw [List.nil_append] at f4; obtain ⟨a4,c4,e4⟩:=f4.form; subst e4)
     | (go_at_call 94; refine (zBC (hr9.below b4) (by omega)).mono ?_; rintro e w5 ⟨r5,rfl,f5,b5⟩; obtain ⟨a5,c5,e5⟩:=f5.form; subst e5; have R1:=zNg (zBW hbS hf8 (zAA.step b4 b5) ((f4.below b5).mono (fun b h=>⟨h.1,Nat.lt_of_lt_of_le h.2 b5.size⟩)) (f5.mono (fun b h=>⟨Nat.le_trans b4.size h.1,h.2⟩))); have hd1:∀b,(Value.slice a4 x.1.length c4).ownBlock=some b→(Value.slice a5 (trim x.2).length c5).ownBlock≠some b:=fun b hb1 hb2=>absurd (f4.2 b hb1).2 (Nat.not_lt.2 (f5.2 b hb2).1))
     | (refine zCH (W:=wS) (by rfl) _ _ (by rfl) (by rfl) R1.out.1 hbS.size R1.out.2.2.2.2.1 R1.out.2.2.2.1 (by rfl) R1.out.2.2.2.2.2.1 R1.out.2.2.2.2.2.2 R1.out.2.1 R1.out.2.2.1 hd1 (by decide) ?_; intro v6 w6 f6 b6 g6))
    go_wp2_with fail
    go_roundw
    case rel=>exact ⟨k+1,_,rfl,by omega,by go_num,by rw [HS.out]; exact f6,b6⟩
    case measure=>simp [intOf]; omega
   ·generalize hm:a.length=m at *;have hlen:(a++[l]).length=m+1:=by simp [hm]
    have HM:=zNg hm;have hm1:m≤1048576:=by rw [hlen] at HAL; omega
    have hl:=HAO.out l (List.mem_append_right _ (List.mem_singleton.2 rfl));obtain ⟨hl1,hl2,hl3⟩:=hl;have hfc:FC (New wS w2) 39 2 w2 zv (m+1) (zAf (zAF (a++[l]))):=by
     have h0:FC (New wS w2) 39 2 w2 zv (a++[l]).length (zAf (zAF (a++[l]))):=hf2;rwa [hlen] at h0
    obtain ⟨g,cz,rfl,hSg⟩:=FC.head hfc (by omega);have hfl:(zAF a).length=m*2:=by rw [zBa,hm]
    have hat0:(zAf (zAF (a++[l])))[m*2]? = some (.inl l.1):=zBI (by rw [zCB,List.getElem?_append_right (by omega),hfl,Nat.sub_self]; rfl);have hat1:(zAf (zAF (a++[l])))[m*2+1]? = some (.inl l.2):=zBI (by rw [zCB,List.getElem?_append_right (by omega),show m*2+1-(zAF a).length=1 by omega]; rfl);obtain ⟨q0,d0,e0,z0⟩:=FC.cell hfc hat0;obtain ⟨q1,d1,e1,z1⟩:=FC.cell hfc hat1;have e0:FI (New wS w2) w2 q0 l.1:=e0;have e1:FI (New wS w2) w2 q1 l.2:=e1;obtain ⟨a0,c0',rfl⟩:=e0.form;obtain ⟨a1',c1',rfl⟩:=e1.form;have HL3:=zNg hl3;have HF2:=zNg hf2;rw [zC7] at HS;clear hm hlen hat0 hat1 hfc hfl hl3 hf2;have g0:=fun z:GW w2=>z.cell d0;have g1:=fun z:GW w2=>z.cell d1;have g2:=fun z:GW w2=>z.cell k0;have g3:=fun z:GW w2=>z.cell k1;have p0:(0:Int)<(m:Int)+1:=by omega
    have p1:(0:Int)≤(m:Int):=by omega
    have he8:=fun z:GW w2=>Calls.quietly (zCR (e0.reads.below z.le) (hr2.below z.le) (by omega) (by omega));by_cases heq:l.1=x.1
    ·rw [if_pos heq] at HS;have HE:Hid (eqL l.1 x.1=true):=zNg (by unfold eqL; simp [heq]);rw [HE.out] at he8;clear heq;go_wp2_with fail
     rw [<-HW2.out];go_wp2_with fail
     refine zAK (by kernel_rfl) (by kernel_rfl) ?_
     repeat (go_big_quiet_step ((first | (rename_i z; go_at_call 74; exact Calls.grow z (he8 z)))))
     refine wpQuiet_nil ?_;intro w8 hb8;have hf8:=HF2.out.grow hb8;have hbS:=zAA.step b02 hb8;have l8:wr.heap.size<w8.heap.size:=Nat.lt_of_lt_of_le l0 hb8.size;have lg:g<w8.heap.size:=Nat.lt_of_lt_of_le hSg.2 hb8.size;have D1:=(hb8.cell (p:=⟨g,m*2+1,none⟩) hSg.2).trans d1;have Z1:=(hb8.frozen (p:=⟨g,m*2+1,none⟩) hSg.2).trans z1;have K1:=(hb8.cell (p:=⟨wr.heap.size,1,none⟩) l0).trans k1;have q8:=e1.reads.below hb8;have q9:=hr3.below hb8;clear g0 g1 g2 g3 he8 d0 d1 k0 k1 z0 z1;go_wp2_with fail
     have hl28:l.2.length≤8388608:=Nat.le_trans hl2 (by decide);have hx28:x.2.length≤8388608:=Nat.le_trans hx2 (by decide);obtain ⟨j0,j1,j2,j3⟩:=zJL hm1;go_region_with (first
      | (go_at_call 93; refine (zLc q8.drew q9.drew HL3.out hl28 hx28).mono ?_; rintro e w9 ⟨r9,rfl,f9,b9⟩; obtain ⟨a9,c9,e9⟩:=f9.form; subst e9; have b9':Below w8.heap.size w8 w9:=((Below.refl _ w8).drew).trans b9; have D9:=(b9'.cell (p:=⟨g,m*2+1,none⟩) lg).trans D1; have Z9:=(b9'.frozen (p:=⟨g,m*2+1,none⟩) lg).trans Z1))
     all_goals
      clear j0 j1 j2 j3;have HP:=zNg (FT.poly hf8 HM.out b9' f9 hbS);go_wp2_with fail
      go_roundw
      case rel=>exact ⟨k+1,_,rfl,by omega,by go_num,by rw [HS.out]; exact HP.out.1,HP.out.2⟩
      case measure=>simp [intOf]; omega
    ·rw [if_neg heq] at HS;have HE:Hid (eqL l.1 x.1=false):=zNg (by unfold eqL; simp [heq]);rw [HE.out] at he8;have hf2:=HF2.out;clear heq;go_wp2_with fail
     rw [<-HW2.out];go_wp2_with fail
     refine zAK (by kernel_rfl) (by kernel_rfl) ?_
     repeat (go_big_quiet_step ((first | (rename_i z; go_at_call 74; exact Calls.grow z (he8 z)))))
     refine wpQuiet_nil ?_;intro w8 hb8;have hf8:=hf2.grow hb8;have hbS:=zAA.step b02 hb8;have l8:wr.heap.size<w8.heap.size:=Nat.lt_of_lt_of_le l0 hb8.size;have c0:=(hb8.cell (p:=⟨wr.heap.size,0,none⟩) l0).trans k0;have c1:=(hb8.cell (p:=⟨wr.heap.size,1,none⟩) l0).trans k1;have hr8:=hr2.below hb8;have hr9:=hr3.below hb8;obtain ⟨wX,hwX⟩:∃wX,wX=(w8.alloc (.cells #[] 3)).drew:=⟨_,rfl⟩;have fX:FI (New w8 wX) wX (.slice (some ⟨w8.heap.size,0,none⟩) 0 0) []:=by
      obtain ⟨f0,_⟩:=zAa (w:=w8) (Below.refl _ w8) rfl;rw [hwX];exact (f0.below ((Below.refl _ _).drew)).mono (fun _ h=>h)
     have bX:Below w8.heap.size w8 wX:=by rw [hwX]; exact ((Below.refl _ w8).alloc (zNl _) _).drew
     have hT1X:=hr8.below bX;rw [hwX] at fX bX hT1X;clear hwX g0 g1 g2 g3 he8;go_wp2_with fail
     go_region_held3 (fun w'=>w'.cell? ⟨wr.heap.size,0,none⟩=some (.slice ax x.1.length cx)∧w'.cell? ⟨wr.heap.size,1,none⟩=some (.slice ay x.2.length cy)) (first | go_keep | exact ⟨(b4.cell (p:=⟨wr.heap.size,0,none⟩) l8).trans c0,(b4.cell (p:=⟨wr.heap.size,1,none⟩) l8).trans c1⟩ | exact ⟨(b5.cell (p:=⟨wr.heap.size,0,none⟩) (Nat.lt_of_lt_of_le l8 b4.size)).trans ((b4.cell (p:=⟨wr.heap.size,0,none⟩) l8).trans c0),(b5.cell (p:=⟨wr.heap.size,1,none⟩) (Nat.lt_of_lt_of_le l8 b4.size)).trans ((b4.cell (p:=⟨wr.heap.size,1,none⟩) l8).trans c1)⟩ | exact ⟨g6.cell (zAT ((b5.cell (p:=⟨wr.heap.size,0,none⟩) (Nat.lt_of_lt_of_le l8 b4.size)).trans ((b4.cell (p:=⟨wr.heap.size,0,none⟩) l8).trans c0)) _) HNE.out,g6.cell (zAT ((b5.cell (p:=⟨wr.heap.size,1,none⟩) (Nat.lt_of_lt_of_le l8 b4.size)).trans ((b4.cell (p:=⟨wr.heap.size,1,none⟩) l8).trans c1)) _) HNE.out⟩) (first
      | (refine zE2 (W:=w8) (by rfl) _ _ (by rfl) (by rfl) fX bX (by rfl) hT1X (by simp; omega) ?_; intro v4 w4 f4 b4 g4; rw [List.nil_append] at f4; obtain ⟨a4,c4,e4⟩:=f4.form; subst e4)
      | (go_at_call 94; refine (zBC (hr9.below b4) (by omega)).mono ?_; rintro e w5 ⟨r5,rfl,f5,b5⟩; obtain ⟨a5,c5,e5⟩:=f5.form; subst e5; have R1:=zNg (zBW hbS hf8 (zAA.step b4 b5) ((f4.below b5).mono (fun b h=>⟨h.1,Nat.lt_of_lt_of_le h.2 b5.size⟩)) (f5.mono (fun b h=>⟨Nat.le_trans b4.size h.1,h.2⟩))); have hd1:∀b,(Value.slice a4 x.1.length c4).ownBlock=some b→(Value.slice a5 (trim x.2).length c5).ownBlock≠some b:=fun b hb1 hb2=>absurd (f4.2 b hb1).2 (Nat.not_lt.2 (f5.2 b hb2).1))
      | (refine zCH (W:=wS) (by rfl) _ _ (by rfl) (by rfl) R1.out.1 hbS.size R1.out.2.2.2.2.1 R1.out.2.2.2.1 (by rfl) R1.out.2.2.2.2.2.1 R1.out.2.2.2.2.2.2 R1.out.2.1 R1.out.2.2.1 hd1 (by simp at HAL ⊢; omega) ?_; intro v6 w6 f6 b6 g6))
     go_wp2_with fail
     go_roundw
     case rel=>exact ⟨k+1,_,rfl,by omega,by go_num,by rw [HS.out]; exact f6,b6⟩
     case measure=>simp [intOf]; omega
  ·have hkm:k=n:=by omega
   have i1:¬(k:Int)<(n:Int):=by omega
   rw [hkm,HN.out] at hf;have hlf:(zA0 M).length≤1048576:=by have:=HKL.out n; rw [HN.out] at this; exact this
   clear hkm;have hdel:=zHq hb hf hlf;rw [HCOLL.out] at hdel;clear hlf;go_wp2_with fail
   refine hdel.mono ?_;rintro e w9 ⟨r9,rfl,f9,b9⟩;go_wp2_with fail
   go_ret
   exact ⟨_,rfl,f9.mono (fun b hb'=>⟨Nat.le_trans bS.size hb'.1,hb'.2⟩),zAA.step bS b9⟩
end Go.Proofs.YtlchafedbnihoaaGreatDoor
namespace Go.Proofs.YtlchafedbnihoaaGreatDoor
open Go.RowKit
set_option maxRecDepth 20000
theorem RI.grownT {S:Nat→Prop} {w w':World} {r:Value} {l:List Int} {own:Option Nat} (h:RI S w r l) (hg:w.grownBy w' own) (ht:∀b,own=some b→∃cur,w.heap[b]? = some (.cells cur 39 (0,0))):RI S w' r l:=by
 obtain ⟨a,cap,hv,hcap,h⟩:=h;refine ⟨a,cap,hv,hcap,?_⟩;rcases h with h | ⟨b,o,ha,hs,ht',h⟩
 ·exact .inl h
 ·have hlt:b<w.heap.size:=by
   obtain ⟨cur,fz,h0⟩:=ht';exact (Array.getElem?_eq_some_iff.1 h0).1
  have hk:w'.heap[b]? = w.heap[b]?:=hg.block b hlt (fun e=>by
   obtain ⟨c1,t1⟩:=ht b e.symm;obtain ⟨cur,fz,h0⟩:=ht';rw [t1] at h0;simp at h0)
  refine .inr ⟨b,o,ha,hs,ht'.keep (fun _=>hk),fun j x hx=>?_⟩;obtain ⟨r,h1,h2⟩:=h j x hx;exact ⟨r,by rw [World.cell?_of_block (w:=w) hk]; exact h1,h2⟩
def OT (W w:World) (v:Value) (L:List Trm):Prop :=
 ∃E:List El,E.map El.t=L∧w.ownsRow W.heap.size 39 2 v L.length (zAN E)∧∀e∈E,RI Any w e.r e.x∧RI Any w e.r' e.y
theorem OT.form {W w:World} {v:Value} {L:List Trm} (h:OT W w v L):∃a cap,v=.slice a L.length cap:=by
 obtain ⟨E,_,h1,_⟩:=h;rcases zD8 h1 with ⟨rfl,h0⟩ | ⟨g,cap,rfl⟩
 ·exact ⟨none,0,by rw [h0]⟩
 ·exact ⟨_,cap,rfl⟩
theorem OT.below {W w w':World} {v:Value} {L:List Trm} (h:OT W w v L) (hb:Below w.heap.size w w'):OT W w' v L:=by
 obtain ⟨E,h0,h1,h2⟩:=h;exact ⟨E,h0,zCe h1 hb,fun e he=>⟨(h2 e he).1.below hb,(h2 e he).2.below hb⟩⟩
theorem OT.read {W w:World} {v:Value} {L:List Trm} (h:OT W w v L):RT Any w v L:=by
 obtain ⟨E,rfl,h1,h2⟩:=h;rw [List.length_map] at h1;rcases zD8 h1 with ⟨rfl,h0⟩ | ⟨g,cap,rfl⟩
 ·have:=List.eq_nil_of_length_eq_zero h0;subst this;exact RL2.nil _ _ (by unfold maxLen; omega)
 ·obtain ⟨cur,ht⟩:=zAt h1 (b:=g) rfl;refine ⟨_,cap,by rw [List.length_map],by rw [List.length_map]; exact zEz h1,.inr ⟨g,0,rfl,trivial,⟨cur,(0,0),ht⟩,fun j x hx=>?_⟩⟩;rw [List.getElem?_map] at hx;obtain ⟨e,he,rfl⟩:=Option.map_eq_some_iff.1 hx;have hj:=(zNj he).1;obtain ⟨c1,c2⟩:=zC2 he;exact ⟨e.r,e.r',by rw [Nat.zero_add,h1.cellAt (j*2) (by omega)]; exact c1,by rw [Nat.zero_add,h1.cellAt (j*2+1) (by omega)]; exact c2,h2 e (zNi he)⟩
theorem OT.nil (W w:World):OT W w (.slice none 0 0) []:=⟨[],rfl,World.ownsRow_nil _ _ _ _,fun e he=>by simp at he⟩
theorem OT.fresh {W w:World} (hW:Below W.heap.size W w):OT W (w.alloc (.cells #[] 39)) (.slice (some ⟨w.heap.size,0,none⟩) 0 0) [] :=
 ⟨[],rfl,World.ownsRow_lit (base:=W.heap.size) (e:=39) (size:=2) w #[] 0 hW.size (by unfold maxLen; omega) rfl,fun e he=>by simp at he⟩
theorem OT.ne {W w:World} {v:Value} {L:List Trm} {b:Nat} (h:OT W w v L) (hb:w.heap.size≤b∨b<W.heap.size):some b≠v.ownBlock:=fun e=>by
 obtain ⟨E,_,h1,_⟩:=h;have:=h1.lt b e.symm;omega
theorem RT.lit {w w':World} (E:List El) (hw:w'=w.alloc (.cells (zAN E).toArray 39)) (hE:E.length≤1000) (hr:∀e∈E,RI Any w e.r e.x∧RI Any w e.r' e.y) :
  RT Any w' (.slice (some ⟨w.heap.size,0,none⟩) E.length E.length) (E.map El.t):=by
 have hb:Below w.heap.size w w':=by rw [hw]; exact (Below.refl _ w).alloc (zNl _) _
 have hrow:w'.ownsRow w.heap.size 39 2 (.slice (some ⟨w.heap.size,0,none⟩) E.length E.length) E.length (zAN E):=by
  rw [hw];have:=World.ownsRow_lit (base:=w.heap.size) (e:=39) (size:=2) w (zAN E).toArray E.length (zNl _) (by unfold maxLen; omega) (by simp [zBs]);simpa using this
 exact OT.read (W:=w) ⟨E,rfl,by rw [List.length_map]; exact hrow,fun e he=>⟨(hr e he).1.below hb,(hr e he).2.below hb⟩⟩
section
variable {w:World} {ops:Array Oper} {rest:List Oper} {o:Oper} {a:Act} {Q:Exit→Act→World→Prop}
theorem zIs {W:World} {K:Act→World→Prop} {S:Nat→Prop} (s x:Operand)
  (ho:o.op=.call { callee:=.builtin .append,args:=#[s,x],argTypes:=#[25,25] })
  {v:Value} {L N:List Trm} (hs:a.eval s=v) (hf:OT W w v L) (hb:Below W.heap.size W w)
  {sa:Option Addr} {m c:Nat} (hx:a.eval x=.slice sa m c) (hr:RT S w (.slice sa m c) N) (hlen:L.length+N.length≤33554432)
  (h:∀v' w',OT W w' v' (L++N)→Below W.heap.size W w'→w.grownBy w' v.ownBlock→K (a.put o.dst v') w'):o.wp Tryz.prog a w K Q:=by
 obtain ⟨i0,hi,hz0,hz1,hz2⟩:=info_parts zCu;obtain ⟨E,hE,hown,hrd⟩:=hf;obtain ⟨F,hF,hcells,hrd2⟩:=hr.els;have hm:m=N.length:=by
  obtain ⟨a',cap',hv,_⟩:=hr;simp only [Value.slice.injEq] at hv;exact hv.2.1
 have hFl:F.length=N.length:=by rw [<-hF,List.length_map]
 have htag:∀b,v.ownBlock=some b→∃cur,w.heap[b]? = some (.cells cur 39 (0,0)):=fun b hb=>zAt hown hb;have fin:∀v' w',w'.ownsRow W.heap.size 39 2 v' (L.length+N.length) (zAN E++zAN F)→w.grownBy w' v.ownBlock→K (a.put o.dst v') w':=fun v' w' h1 h2=>by
  refine h v' w' ⟨E++F,by rw [List.map_append,hE,hF],by rw [zE9,List.length_append]; exact h1,fun e he=>?_⟩ (hb.grown h2 hb.size (fun k hk=>(hown.lt k hk).1)) h2;rcases List.mem_append.1 he with he | he
  ·exact ⟨(hrd e he).1.grownT h2 htag,(hrd e he).2.grownT h2 htag⟩
  ·exact ⟨((hrd2 e he).1.any).grownT h2 htag,((hrd2 e he).2.any).grownT h2 htag⟩
 cases sa with
 | none =>
  have h0:N=[]:=by
   obtain ⟨a',cap',hv,_,h⟩:=hr;simp only [Value.slice.injEq] at hv;rcases h with h | ⟨b,o,ha,_⟩
   ·exact h
   ·rw [<-hv.1] at ha; cases ha
  subst h0;have hF0:F=[]:=List.eq_nil_of_length_eq_zero (by rw [hFl]; rfl);subst hF0;subst hm;have hrun:=zBj (w:=w) W.heap.size 25 o.type 39 i0 2 Tryz.underlying25 hi v L.length c _ hown;have fin':=fin v w (by simpa [zAN] using hown) (World.grownBy.refl _ _);clear fin h hb;unfold Oper.wp;rw [show ([]:List Trm).length=0 from rfl] at hx;simp [execOp,ho,resolve,invoke,builtin,hs,hx,hrun,Result.andThen];exact fin'
 | some ad =>
  refine wp_append_own w s x 25 ho W.heap.size 39 i0 (.agg #[.slice none 0 0,.slice none 0 0]) 2 48 Tryz.underlying25 hi hz0 hz1 hz2 rfl (by decide) v L.length (zAN E) hs hown ad m c (zAN F) hx ?_ ?_ ?_ ?_ ?_ hb.size ?_
  ·rw [zBs,hFl,hm]
  ·intro j u hj;obtain ⟨b,o,ha,hcell⟩:=hcells j u hj;simp only [Option.some.injEq] at ha;subst ha;have hadd:(⟨b,o,none⟩:Addr).add j=⟨b,o+j,none⟩:=by unfold Addr.add; split <;> simp_all
   rw [hadd];exact hcell
  ·intro u hu;obtain ⟨j,hj⟩:=List.getElem?_of_mem hu;obtain ⟨e,he,rfl⟩:=zCJ hj;obtain ⟨r1,r2⟩:=hrd2 e (zNi he);obtain ⟨_,_,e1⟩:=r1.form;obtain ⟨_,_,e2⟩:=r2.form;split
   ·rw [e1]; rfl
   ·rw [e2]; rfl
  ·unfold maxLen; omega
  ·omega
  ·intro v' w' h1 h2 _;exact fin v' w' (by rw [<-hm]; exact h1) h2
theorem zCb {W:World} {S:Nat→Prop} (hgd:o.guard=none) (s x:Operand)
  (ho:o.op=.call { callee:=.builtin .append,args:=#[s,x],argTypes:=#[25,25] })
  {v:Value} {L N:List Trm} (hs:a.eval s=v) (hf:OT W w v L) (hb:Below W.heap.size W w)
  {sa:Option Addr} {m c:Nat} (hx:a.eval x=.slice sa m c) (hr:RT S w (.slice sa m c) N) (hlen:L.length+N.length≤33554432)
  (h:∀v' w',OT W w' v' (L++N)→Below W.heap.size W w'→w.grownBy w' v.ownBlock→wpList Tryz.prog ops Q rest (a.put o.dst v') w'):wpList Tryz.prog ops Q (o::rest) a w :=
 wpList_plain hgd fun _ hK=>zIs s x ho hs hf hb hx hr hlen (fun v' w' h1 h2 h3=>hK _ _ (h v' w' h1 h2 h3))
theorem zGW {W:World} {K:Act→World→Prop} {E:Prop} {S:Nat→Prop} (hgd:o.guard=none) (s x:Operand)
  (ho:o.op=.call { callee:=.builtin .append,args:=#[s,x],argTypes:=#[25,25] })
  {v:Value} {L N:List Trm} (hs:a.eval s=v) (hf:OT W w v L) (hb:Below W.heap.size W w)
  {sa:Option Addr} {m c:Nat} (hx:a.eval x=.slice sa m c) (hr:RT S w (.slice sa m c) N) (hlen:L.length+N.length≤33554432)
  (h:∀v' w',OT W w' v' (L++N)→Below W.heap.size W w'→w.grownBy w' v.ownBlock→K (a.put o.dst v') w') :
  if Region.wanted o (yielded ops a.tmps)=true then Oper.wp Tryz.prog o a w K Q else E:=by
 have hw:Region.wanted o (yielded ops a.tmps)=true:=by simp [Region.wanted,hgd]
 rw [if_pos hw];exact zIs s x ho hs hf hb hx hr hlen h
end
end Go.Proofs.YtlchafedbnihoaaGreatDoor
