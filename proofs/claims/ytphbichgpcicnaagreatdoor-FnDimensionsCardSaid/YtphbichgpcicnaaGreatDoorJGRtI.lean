/-
 DERIVED: THE SHELF's CONTRACTS AT THIS DUMP, IN PLAIN WORDS (tools/lay-plain.mjs out of 'TryQShelf.lean', which tools/lay-shelf.mjs wrote): THE SAME DECLARATIONS UNDER THE SAME NAMES: 'import', 'namespace', 'open', 'def', 'theorem' AND NOTHING ELSE: no command of the shelf's: FOR A HAND-IN. Each laying: the table of numbers ('.._ren') and one theorem, a field a fact of the dump's own or the kernel's comparison; each contract: ONE APPLICATION.
-/
import Derived.Shelf.SlSortCmp.WholeK
import Derived.Test.YtphbichgpcicnaaGreatDoorJGRtS
import Derived.Test.YtphbichgpcicnaaGreatDoorJGSortV
import Derived.Test.YtphbichgpcicnaaGreatDoorJGKeys
namespace Go.Proofs
open Go.Shelf
def Tryz.laysSlF06_f91_ren:Go.Shelf.Ren:=⟨fun | 6=>74 | 15=>114 | 14=>113 | 28=>155 | 29=>156 | 20=>147 | 21=>148 | 22=>149 | 23=>150 | 24=>151 | 25=>152 | 26=>153 | 27=>154 | 46=>184 | 47=>185 | 48=>186 | 49=>187 | 50=>188 | 57=>203 | n=>n,fun | 22=>73 | 24=>77 | 25=>82 | 3=>3 | 39=>102 | 0=>0 | 53=>131 | 55=>133 | 4=>4 | 46=>125 | 45=>124 | 50=>41 | 5=>5 | 9=>9 | 66=>147 | 70=>151 | 76=>168 | 77=>169 | n=>n,fun | n=>n⟩
theorem Tryz.laysSlF06_f91:Go.Proofs.SlLaysF0.n6 Tryz.prog Tryz.laysSlF06_f91_ren:={
 mixed:=by kernel_rfl
 f6:=⟨Tryz.f74.name,by decide,Tryz.func74.trans (congrArg some (by kernel_rfl))⟩
 f14:=⟨Tryz.f113.name,by decide,Tryz.func113.trans (congrArg some (by kernel_rfl))⟩
 f15:=Tryz.func114.trans (congrArg some (by kernel_rfl))
 f20:=⟨Tryz.f147.name,by decide,Tryz.func147.trans (congrArg some (by kernel_rfl))⟩
 f21:=⟨Tryz.f148.name,by decide,Tryz.func148.trans (congrArg some (by kernel_rfl))⟩
 f22:=⟨Tryz.f149.name,by decide,Tryz.func149.trans (congrArg some (by kernel_rfl))⟩
 f23:=⟨Tryz.f150.name,by decide,Tryz.func150.trans (congrArg some (by kernel_rfl))⟩
 f24:=⟨Tryz.f151.name,by decide,Tryz.func151.trans (congrArg some (by kernel_rfl))⟩
 f25:=⟨Tryz.f152.name,by decide,Tryz.func152.trans (congrArg some (by kernel_rfl))⟩
 f26:=⟨Tryz.f153.name,by decide,Tryz.func153.trans (congrArg some (by kernel_rfl))⟩
 f27:=⟨Tryz.f154.name,by decide,Tryz.func154.trans (congrArg some (by kernel_rfl))⟩
 f28:=Tryz.func155.trans (congrArg some (by kernel_rfl))
 f29:=Tryz.func156.trans (congrArg some (by kernel_rfl))
 f46:=⟨Tryz.f184.name,by decide,Tryz.func184.trans (congrArg some (by kernel_rfl))⟩
 f47:=Tryz.func185.trans (congrArg some (by kernel_rfl))
 f48:=Tryz.func186.trans (congrArg some (by kernel_rfl))
 f49:=⟨Tryz.f187.name,by decide,Tryz.func187.trans (congrArg some (by kernel_rfl))⟩
 f50:=⟨Tryz.f188.name,by decide,Tryz.func188.trans (congrArg some (by kernel_rfl))⟩
 f57:=⟨Tryz.f203.name,by decide,Tryz.func203.trans (congrArg some (by kernel_rfl))⟩
 t0:=Tryz.underlying0
 a0:=Tryz.isAgg0
 z0:=Tryz.sizeOf0
 v0:=Tryz.zeroValue0
 t3:=Tryz.underlying3
 a3:=Tryz.isAgg3
 z3:=Tryz.sizeOf3
 v3:=Tryz.zeroValue3
 t4:=Tryz.underlying4
 a4:=Tryz.isAgg4
 z4:=Tryz.sizeOf4
 v4:=Tryz.zeroValue4
 t5:=Tryz.underlying5
 a5:=Tryz.isAgg5
 z5:=Tryz.sizeOf5
 v5:=Tryz.zeroValue5
 t9:=Tryz.underlying9
 a9:=Tryz.isAgg9
 z9:=Tryz.sizeOf9
 v9:=Tryz.zeroValue9
 t22:=Tryz.underlying73
 a22:=Tryz.isAgg73
 z22:=Tryz.sizeOf73
 v22:=Tryz.zeroValue73
 t25:=Tryz.underlying82
 a25:=Tryz.isAgg82
 z25:=Tryz.sizeOf82
 v25:=Tryz.zeroValue82
 t39:=Tryz.underlying102
 a39:=Tryz.isAgg102
 z39:=Tryz.sizeOf102
 v39:=Tryz.zeroValue102
 t45:=Tryz.underlying124
 a45:=Tryz.isAgg124
 z45:=Tryz.sizeOf124
 v45:=Tryz.zeroValue124
 t46:=Tryz.underlying125
 a46:=Tryz.isAgg125
 z46:=Tryz.sizeOf125
 v46:=Tryz.zeroValue125
 t50:=Tryz.underlying41
 a50:=Tryz.isAgg41
 z50:=Tryz.sizeOf41
 v50:=Tryz.zeroValue41
 t53:=Tryz.underlying131
 a53:=Tryz.isAgg131
 z53:=Tryz.sizeOf131
 v53:=Tryz.zeroValue131
 t55:=Tryz.underlying133
 a55:=Tryz.isAgg133
 z55:=Tryz.sizeOf133
 v55:=Tryz.zeroValue133
 t66:=Tryz.underlying147
 a66:=Tryz.isAgg147
 z66:=Tryz.sizeOf147
 v66:=Tryz.zeroValue147
 t70:=Tryz.underlying151
 a70:=Tryz.isAgg151
 z70:=Tryz.sizeOf151
 v70:=Tryz.zeroValue151
 t76:=Tryz.underlying168
 a76:=Tryz.isAgg168
 z76:=Tryz.sizeOf168
 v76:=Tryz.zeroValue168
 t77:=Tryz.underlying169
 a77:=Tryz.isAgg169
 z77:=Tryz.sizeOf169
 v77:=Tryz.zeroValue169 }
open Go.RowKit Go.Lib Go.Sort in
theorem Tryz.slices_SortFunc_f91 {α:Type} [Inhabited α] (enc:α→List Value) (hk:∀x,(enc x).length=2) (h1:∀x,∀v∈enc x,v.oneCell'=true) (cf:α→α→Int) (hO:SWO (ltOf cf)) (g:Nat) (cb:Array Value) (blk off cap:Nat) (d:Array α) (w:World) (eg:∀args w,(callFunc g args).run Tryz.prog w=.ok (.enter g args) w) (hcmp:CmpLays Tryz.prog g cb enc 2 cf blk off d.size w) (hH:HoldsK enc 2 w blk off d) (hblk:blk<w.heap.size) (hsz:d.size<4611686018427387904) :
  Calls Tryz.prog 74 #[.slice (some ⟨blk,off,none⟩) d.size cap,.func (.func g) #[] cb] w fun e w' =>
   e=.returned (.tuple #[])∧∃d' n os,PermIn 0 d.size d d'∧SortedIn (ltOf cf) 0 d.size d'∧w'=sortWorldK enc 2 w blk off n d' os:=AnyQ.slices_SortFunc Tryz.laysSlF06_f91 2 Tryz.isAgg77 Tryz.sizeOf77 enc hk h1 cf hO g cb blk off cap d w eg hcmp hH hblk hsz
theorem Tryz.slices_SortFunc_none_f91 {α:Type} [Inhabited α] (p:Option Addr) (cap:Nat) (fv:Value) (w:World) :
  Calls Tryz.prog 74 #[.slice p 0 cap,fv] w fun e w'=>e=.returned (.tuple #[])∧w'=w:=AnyF.slices_SortFunc_none Tryz.laysSlF06_f91 p cap fv w
end Go.Proofs
namespace Go.Proofs.YtphbichgpcicnaaGreatDoor
open Go.RowKit Go.Sort
set_option maxRecDepth 20000
set_option maxHeartbeats 8000000
def zDB (a b:List Int):Int:=if cmp3 (htR a) (htR b)=0 then lexC b a else cmp3 (htR a) (htR b)
theorem zI0 {x y:Int}:cmp3 x y=0↔x=y:=by
 unfold cmp3;split
 ·omega
 ·split <;> omega
theorem zRD {x y:Int}:cmp3 x y<0↔x<y:=by
 unfold cmp3;split
 ·omega
 ·split <;> omega
theorem zI1 {a b:List Int} (h:a.length=b.length):decide (zDB a b<0)=befR a b:=by
 unfold zDB befR;by_cases e:htR a=htR b
 ·rw [if_pos (zI0.2 e),if_pos e,Bool.eq_iff_iff,decide_eq_true_iff];exact (zGd h).symm
 ·rw [if_neg (fun h=>e (zI0.1 h)),if_neg e,Bool.eq_iff_iff,decide_eq_true_iff,decide_eq_true_iff];exact zRD
theorem zUa {α:Type} {f:α→List Int} {n:Nat} (hn:∀x,(f x).length=n):SWO (ltOf fun x y=>zDB (f x) (f y)):=by
 have e:∀x y,ltOf (fun x y=>zDB (f x) (f y)) x y=befR (f x) (f y):=fun x y=>zI1 (by rw [hn,hn]);refine ⟨fun x=>by rw [e]; exact zCv _,fun x y z h1 h2=>?_,fun x y z h1 h2=>?_⟩
 ·rw [e] at *; exact zCq h1 h2
 ·rw [e] at *;cases h3:befR (f x) (f z) with
  | false=>rfl
  | true =>
   exfalso;by_cases h4:f x=f y
   ·rw [h4] at h3; rw [h3] at h2; cases h2
   ·by_cases h5:f y=f z
    ·rw [h5] at h1; rw [h1] at h3; cases h3
    ·rcases zDk (by rw [hn,hn]) h4 with h6 | h6
     ·rw [h6] at h1; cases h1
     ·rcases zDk (by rw [hn,hn]) h5 with h7 | h7
      ·rw [h7] at h2; cases h2
      ·have:=zCq (zCq h7 h6) h3;rw [zCv] at this; cases this
theorem zNX (w:World) (m:Nat) (os:Array Obj):(grow w os).drewN m=grow (w.drewN m) os:=rfl
theorem zHD {S S':Nat→Prop} {u v:Value} {l l':List Int} {w:World} (h:RI S w u l) (h':RI S' w v l') (hs:SmI 100000 l) (hs':SmI 100000 l') (hl:l.length≤1000) (hl':l'.length≤1000) :
  Calls Tryz.prog 76 #[u,v] w fun e w'=>e=.returned (.int .i64 (zDB l l'))∧∃q os,w'=grow (w.drewN q) os:=by
 have HR:Hid (zDB l l'=if cmp3 (htR l) (htR l')=0 then lexC l' l else cmp3 (htR l) (htR l')):=zWF rfl;have hc1:=zCT h hs hl;have HC2:=zWF (fun m=>zCT (h'.drewN m) hs' hl');have HC3:=zWF (fun m=>zFe (h'.drewN m) (h.drewN m) (by omega) (by omega));obtain ⟨a,cap,rfl⟩:=h.form;obtain ⟨a',cap',rfl⟩:=h'.form;generalize l.length=n at *;generalize l'.length=m at *;clear h h' hs hs';go_enter Tryz.func76,Tryz.ntmps76
 go_wp2_with fail
 refine hc1.mono ?_;rintro e w1 ⟨rfl,m1,rfl⟩;have hc2:=HC2.out m1;clear hc1;go_wp2_with fail
 refine hc2.mono ?_;rintro e w1 ⟨rfl,m2,rfl⟩;rw [World.drewN_drewN];clear hc2;go_wp2_with fail
 refine (zE8 (htR l) (htR l') (w.drewN (m1+m2))).mono ?_;rintro e w1 ⟨rfl,rfl⟩;have hc3:=HC3.out (m1+m2);go_wp2_with fail
 refine hc3.mono ?_;rintro e w1 ⟨rfl,rfl⟩;clear hc3;generalize lexC l' l=y at *;generalize cmp3 (htR l) (htR l')=x at *;obtain ⟨w9,hw9⟩:∃w9,w9=w.drewN (m1+m2):=⟨_,rfl⟩;rw [<-hw9];have HW9:=zWF hw9;clear hw9;obtain ⟨w2,hw2⟩:∃w2,w2=w9.alloc (.cells #[.int .i64 x,.int .i64 y] 3):=⟨_,rfl⟩;have hf:RI Any w2 (.slice (some ⟨w9.heap.size,0,none⟩) 2 2) [x,y]:=by
  subst hw2;exact ⟨_,2,rfl,⟨zWK _,by unfold maxLen; omega⟩,.inr ⟨_,0,rfl,trivial,⟨_,(0,0),heap_alloc_new _ _⟩,fun j z hj=>by
   match j,hj with
   | 0,hj=>simp at hj; subst hj; exact ⟨_,by go_simp,rfl⟩
   | 1,hj=>simp at hj; subst hj; exact ⟨_,by go_simp,rfl⟩⟩⟩
 have hc4:=zVO hf;have HW2:=zWF hw2;rw [<-HR.out] at hc4;clear hw2 hf;obtain ⟨z,hz⟩:∃z,z=zDB l l':=⟨_,rfl⟩;rw [<-hz] at hc4;have HZ:=zWF hz;clear hz;go_wp2_with fail
 rw [<-HW2.out];refine hc4.mono ?_;rintro e w1 ⟨rfl,rfl⟩;go_wp2_with fail
 go_ret
 exact ⟨zAP HZ.out,_,_,by rw [HW2.out,HW9.out,alloc_eq_grow]⟩
abbrev Zq:=(Value × List Int) × (Value × List Int)
abbrev Zp:=List Zq
def zBS (Z:Zp):List Value:=Z.flatMap fun z=>[z.1.1,z.2.1]
abbrev aP (v:Value) (Z:Zp):zAF:=fun F w=>w.ownsRow 0 77 2 v Z.length (zBS Z)∧∀b,v.ownBlock=some b→F b
theorem st_P (v:Value) (Z:Zp):zAh (aP v Z):=fun _ _ _ h k=>⟨zAw h.1 fun b hb=>k b (h.2 b hb) (h.1.lt b hb).2,h.2⟩
abbrev aC (b:Nat) (cs:Array Value) (e:TypeId):zAF:=fun F w=>F b∧w.heap[b]? = some (.cells cs e (0,0))
theorem st_C (b:Nat) (cs:Array Value) (e:TypeId):zAh (aC b cs e):=fun _ _ _ h k=>⟨h.1,by rw [k b h.1 (Array.getElem?_eq_some_iff.1 h.2).1]; exact h.2⟩
theorem zRY:(Tryz.prog.info? 77).map (fun i=>(i.zero,i.size,i.bytes))=some (some (.agg #[.slice none 0 0,.slice none 0 0]),2,48):=by kernel_rfl
section
variable {α:Type} [Inhabited α]
theorem zFx {β:Type} (f g:β→Value):∀(l:List β) (j:Nat),(l.flatMap fun x=>[f x,g x])[2*j]? = (l[j]?).map f∧(l.flatMap fun x=>[f x,g x])[2*j+1]? = (l[j]?).map g
 | [],j=>by simp
 | x::l,0=>by simp
 | x::l,j+1=>by
  have ih:=zFx f g l j;rw [show 2*(j+1)=2*j+2 by omega,show 2*j+2+1=(2*j+1)+2 by omega];simpa [List.flatMap_cons] using ih
theorem zFy {β:Type} (f g:β→Value):∀l:List β,(l.flatMap fun x=>[f x,g x]).length=2*l.length
 | []=>rfl
 | x::l=>by
  have:=zFy f g l;simp only [List.flatMap_cons,List.length_append,List.length_cons,List.length_nil];omega
theorem zOx (f g:α→Value) (l:List α):flatK (fun x=>[f x,g x]) 2 l.toArray=(l.flatMap fun x=>[f x,g x]).toArray:=by
 apply Array.ext
 ·simp only [size_flatK,List.size_toArray,zFy]; omega
 ·intro t h1 h2;have h1':t<l.length*2:=by simpa using h1
  have e1:(flatK (fun x=>[f x,g x]) 2 l.toArray)[t]! = (flatK (fun x=>[f x,g x]) 2 l.toArray)[t]'h1:=getElem!_pos (flatK (fun x=>[f x,g x]) 2 l.toArray) t h1;rw [<-e1,get_flatK _ _ _ _ (by simpa using h1')];have h3:(l.flatMap fun x=>[f x,g x])[t]? = some ((l.flatMap fun x=>[f x,g x]).toArray[t]'h2):=by
   rw [<-List.getElem?_toArray]; exact Array.getElem?_eq_getElem h2
  have hj:t / 2<l.length:=by omega
  have e3:l.toArray[t / 2]! = l[t / 2]:=by rw [getElem!_pos l.toArray (t / 2) (by simpa using hj)]; simp
  obtain ⟨a1,a2⟩:=zFx f g l (t / 2);rw [e3];rcases Nat.mod_two_eq_zero_or_one t with h | h
  ·rw [show 2*(t / 2)=t by omega,h3,zWG hj] at a1;rw [h];simpa using a1.symm
  ·rw [show 2*(t / 2)+1=t by omega,h3,zWG hj] at a2;rw [h];simpa using a2.symm
end
theorem zCR (Z:Zp):(zBS Z).length=2*Z.length:=zFy _ _ Z
theorem zNN (Z:Zp) (j:Nat):(zBS Z)[2*j]? = (Z[j]?).map (·.1.1)∧(zBS Z)[2*j+1]? = (Z[j]?).map (·.2.1):=zFx (fun z:Zq=>z.1.1) (fun z:Zq=>z.2.1) Z j
theorem zLi (Z:Zp) (z:Zq):zBS (Z++[z])=zBS Z++[z.1.1,z.2.1]:=by simp [zBS]
section
variable {A:Nat→Prop} {w0 w w':World} {Ps:List zAF}
theorem HSx.cellC {b:Nat} {cs:Array Value} {e:TypeId} (h:HSx A w0 w Ps) (i:Nat) (hi:Ps[i]? = some (aC b cs e)) {j:Nat} {r:Value} (hr:cs[j]? = some r) :
  w.cell? ⟨b,j,none⟩=some r∧w.frozen? ⟨b,j,none⟩=false:=by
 obtain ⟨F,hF,_⟩:=HSx.get h i hi;exact ⟨by simp [World.cell?,hF.2,hr],by simp [World.frozen?,hF.2]⟩
theorem HSx.newC {b:Nat} {cs:Array Value} {e:TypeId} (h:HSx A w0 w Ps) (hw:w'=w.alloc (.cells cs e)) (hb:b=w.heap.size):HSx A w0 w' (Ps++[aC b cs e]):=by
 subst hw; subst hb;exact h.add ((Below.refl _ _).alloc (zWK _) _) (st_C _ _ _) (F:=fun b=>b=w.heap.size) ⟨rfl,heap_alloc_new w _⟩ (fun b hb=>by subst hb; exact ⟨zWK _,by simp⟩)
theorem HSx.putC {b:Nat} {v x:Value} {e:TypeId} (h:HSx A w0 w Ps) (i:Nat) (hi:Ps[i]? = some (aC b #[v] e)) (hnew:w0.heap.size≤b) :
  HSx A w0 (w.setCell ⟨b,0,none⟩ x) (Ps.set i (aC b #[x] e)):=by
 have hz:=zAI w ⟨b,0,none⟩ x;exact h.upd i hi (st_C _ _ _) (h.bl.setCell hnew _) (by rw [hz]; exact zWK _) fun F hF _=>⟨F,⟨hF.1,one_setCell hF.2⟩,fun _ hb=>.inl hb,fun b' _ hb=>heap_setCell_other w ⟨b,0,none⟩ b' _ (fun e=>hb (by have e:b'=b:=e; subst e; exact hF.1))⟩
theorem HSx.cellP {g n cap:Nat} {Z:Zp} (h:HSx A w0 w Ps) (i:Nat) (hi:Ps[i]? = some (aP (.slice (some ⟨g,0,none⟩) n cap) Z)) {j:Nat} {z:Zq} (hz:Z[j]? = some z) :
  w.cell? ⟨g,j*2,none⟩=some z.1.1∧w.cell? ⟨g,j*2+1,none⟩=some z.2.1:=by
 obtain ⟨F,hF,_⟩:=HSx.get h i hi;have hj:=(zWI hz).1;obtain ⟨a1,a2⟩:=zNN Z j;rw [hz] at a1 a2;have hn:n=Z.length:=by
  rcases hF.1.2 with ⟨hv,_⟩ | ⟨_,_,_,hv,_⟩ <;> simp at hv; exact hv.2.1
 subst hn;exact ⟨by rw [hF.1.cellAt (j*2) (by omega),Nat.mul_comm]; exact a1,by rw [hF.1.cellAt (j*2+1) (by omega),Nat.mul_comm]; exact a2⟩
theorem HSx.formP {v:Value} {Z:Zp} (h:HSx A w0 w Ps) (i:Nat) (hi:Ps[i]? = some (aP v Z)):(∃a cap,v=.slice a Z.length cap)∧(0<Z.length→∃g cap,v=.slice (some ⟨g,0,none⟩) Z.length cap):=by
 obtain ⟨F,hF,_⟩:=HSx.get h i hi;rcases hF.1.2 with ⟨rfl,h0⟩ | ⟨g,cap,cur,rfl,_⟩
 ·exact ⟨⟨_,_,by rw [h0]⟩,fun h=>by omega⟩
 ·exact ⟨⟨_,_,rfl⟩,fun _=>⟨g,cap,rfl⟩⟩
theorem zVW (h:HSx A w0 w Ps) {w1:World} (hw:w1=w.alloc (.cells #[] 77)):HSx A w0 w1 (Ps++[aP (.slice (some ⟨w.heap.size,0,none⟩) 0 0) []]):=by
 subst hw;refine h.add ((Below.refl _ _).alloc (zWK _) _) (st_P _ _) (F:=fun b=>b=w.heap.size) ⟨?_,fun b hb=>by simpa [Value.ownBlock] using hb.symm⟩ (fun b hb=>by subst hb; exact ⟨zWK _,by simp⟩);exact World.ownsRow_lit (base:=0) (e:=77) (size:=2) w #[] 0 (Nat.zero_le _) (by unfold maxLen; omega) rfl
variable {ops:Array Oper} {rest:List Oper} {o:Oper} {a:Act} {Q:Exit→Act→World→Prop}
theorem zOJ (hgd:o.guard=none) (s x:Operand)
  (ho:o.op=.call { callee:=.builtin .append,args:=#[s,x],argTypes:=#[73,73] })
  {v:Value} {Z:Zp} {z:Zq} (hs:a.eval s=v) (h:HSx A w0 w Ps) (i:Nat) (hi:Ps[i]? = some (aP v Z)) (hnew:∀b,v.ownBlock=some b→w0.heap.size≤b)
  {H:Nat} (hx:a.eval x=.slice (some ⟨H,0,none⟩) 1 1) (hc:w.cell? ⟨H,0,none⟩=some z.1.1) (hc':w.cell? ⟨H,1,none⟩=some z.2.1) (h1:z.1.1.oneCell'=true) (h2:z.2.1.oneCell'=true) (hlen:Z.length+1≤67108864)
  (k:∀v' w',HSx A w0 w' (Ps.set i (aP v' (Z++[z])))→(∀b,v'.ownBlock=some b→w0.heap.size≤b)→wpList Tryz.prog ops Q rest (a.put o.dst v') w'):wpList Tryz.prog ops Q (o::rest) a w:=by
 obtain ⟨F0,hf,_⟩:=HSx.get h i hi;refine wpList_plain hgd fun K hK=>zD4 s x Tryz.underlying73 zRY rfl (by decide) ho (base:=0) (news:=[z.1.1,z.2.1]) hs hf.1 (Nat.zero_le _) hx rfl ?_ (by intro u hu; simp at hu; rcases hu with rfl | rfl <;> assumption) (by omega) (by decide) ?_
 ·intro j u hj
  match j,hj with
  | 0,hj=>simp at hj; subst hj; simpa [Addr.add] using hc
  | 1,hj=>simp at hj; subst hj; simpa [Addr.add] using hc'
 ·intro v' w' h2 h3 h4;refine hK _ _ (k v' w' (h.upd i hi (st_P _ _) (zBO h.bl h3 hnew) h3.size fun F hF _=>⟨fun b=>v'.ownBlock=some b,⟨?_,fun b hb=>hb⟩,fun b hb=>?_,fun b hl hb=>h3.block b hl (fun e=>hb (hF.2 b e.symm))⟩) (fun b hb=>?_))
  ·rw [List.length_append,zLi]; exact h2
  ·rcases h4 b hb with e | e
   ·exact .inl (hF.2 b e)
   ·exact .inr ⟨e,(h2.lt b hb).2⟩
  ·rcases h4 b hb with e | e
   ·exact hnew b e
   ·exact Nat.le_trans h.bl.size e
end
theorem zLj {S S':Nat→Prop} {u v u' v':Value} {l l':List Int} {w:World} (h:RI S w u l) (h':RI S' w v l') (hs:SmI 100000 l) (hs':SmI 100000 l') (hl:l.length≤1000) (hl':l'.length≤1000) :
  Calls Tryz.prog 75 #[.agg #[u,u'],.agg #[v,v']] w fun e w'=>e=.returned (.int .i64 (zDB l l'))∧∃q os,w'=grow (w.drewN q) os:=by
 obtain ⟨w2,hw2⟩:∃w2,w2=(w.alloc (.cells #[u,u'] 77)).alloc (.cells #[v,v'] 77):=⟨_,rfl⟩;have b2:Below w.heap.size w w2:=by rw [hw2]; exact ((Below.refl _ _).alloc (zWK _) _).alloc (by simp) _
 have hc:=zHD (h.below b2) (h'.below b2) hs hs' hl hl';have c0:w2.cell? ⟨w.heap.size,0,none⟩=some u:=by rw [hw2]; go_simp
 have c1:w2.cell? ⟨w.heap.size+1,0,none⟩=some v:=by rw [hw2]; go_simp
 rw [hw2] at c0 c1;have HW2:=zWF hw2;clear b2 hw2;generalize zDB l l'=z at *;go_enter Tryz.func75,Tryz.ntmps75
 go_wp2_with fail
 rw [<-HW2.out];refine hc.mono ?_;rintro e w' ⟨rfl,q,os,rfl⟩;go_wp2_with fail
 go_ret
 exact ⟨rfl,q,_,by rw [HW2.out,alloc_eq_grow,alloc_eq_grow,grow_grow,zNX,grow_grow]⟩
theorem zN8 {v:Value} {Z:Zp} {w:World} {n:Nat} (hown:w.ownsRow 0 77 2 v Z.length (zBS Z)) (hr:∀z∈Z,RI (fun b=>v.ownBlock≠some b) w z.1.1 z.1.2∧z.2.1.oneCell'=true) (hn:∀z∈Z,z.1.2.length=n∧SmI 100000 z.1.2) (hn0:n≤1000) (hl:Z.length≤67108864) :
  Calls Tryz.prog 74 #[v,.func (.func 75) #[] #[]] w fun e w'=>e=.returned (.tuple #[]) ∧
   ∃Z':Zp,Z'.Perm Z∧(Z'.map (·.1.2)).Pairwise (fun a b=>befR b a=false)∧w'.ownsRow 0 77 2 v Z.length (zBS Z')∧w.grownBy w' v.ownBlock:=by
 rcases hown.2 with ⟨rfl,h0⟩ | ⟨g,cap,cur,rfl,hbase,hb,e1,e2,e3,e4⟩
 ·have hz:Z=[]:=List.eq_nil_of_length_eq_zero h0;subst hz;exact (Tryz.slices_SortFunc_none_f91 (α:=Nat) none 0 _ w).mono fun e w' ⟨he,hw⟩=>by
   subst hw;exact ⟨he,[],List.Perm.refl _,List.Pairwise.nil,hown,World.grownBy.refl _ _⟩
 ·by_cases hz:Z=[]
  ·subst hz;exact (Tryz.slices_SortFunc_none_f91 (α:=Nat) (some ⟨g,0,none⟩) cap _ w).mono fun e w' ⟨he,hw⟩=>by
    subst hw;exact ⟨he,[],List.Perm.refl _,List.Pairwise.nil,hown,World.grownBy.refl _ _⟩
  ·obtain ⟨z0,hz0⟩:=List.exists_mem_of_ne_nil Z hz
   let α:={ z:Zq // z∈Z }
   have:Inhabited α:=⟨⟨z0,hz0⟩⟩
   let enc:α→List Value:=fun z=>[z.1.1.1,z.1.2.1]
   let cf:α→α→Int:=fun x y=>zDB x.1.1.2 y.1.1.2
   have hlen:Z.attach.length=Z.length:=List.length_attach;have hflat:∀l:List α,l.flatMap enc=zBS (l.map Subtype.val):=fun l=>by unfold zBS; rw [List.flatMap_map]
   have hfl:∀l:List α,flatK enc 2 l.toArray=(zBS (l.map Subtype.val)).toArray:=fun l=>by rw [<-hflat]; exact zOx (fun z:α=>z.1.1.1) (fun z:α=>z.1.2.1) l
   have hH:HoldsK enc 2 w g 0 Z.attach.toArray:=by
    unfold HoldsK;rw [hfl,List.attach_map_subtype_val];refine zF0 hb ?_;rw [zCR,List.map_id,Nat.mul_comm]; exact e4
   have hgl:g<w.heap.size:=(Array.getElem?_eq_some_iff.1 hb).1;have h1:∀x:α,∀v∈enc x,v.oneCell'=true:=fun z v hv=>by
    have hv:v∈[z.1.1.1,z.1.2.1]:=hv;simp only [List.mem_cons,List.not_mem_nil,or_false] at hv;rcases hv with rfl | rfl
    ·obtain ⟨_,_,e⟩:=(hr z.1 z.2).1.form;rw [e]; rfl
    ·exact (hr z.1 z.2).2
   have hO:SWO (ltOf cf):=zUa (f:=fun z:α=>z.1.1.2) (n:=n) (fun z=>(hn z.1 z.2).1);have eg:∀args w,(callFunc 75 args).run Tryz.prog w=.ok (.enter 75 args) w:=enters_of Tryz.func75 (by kernel_rfl) rfl;have hcmp:CmpLays Tryz.prog 75 #[] enc 2 cf g 0 Z.attach.toArray.size w:=fun m os dk _ x y=>by
    have hk:∀z:α,RI (fun b=>b≠g) (sortWorldK enc 2 w g 0 m dk os) z.1.1.1 z.1.1.2:=fun z =>
     RI.keep (RI.mono (hr z.1 z.2).1 (fun b hb e=>hb (by rw [e]; rfl))) (fun b hb hl=>(zDQ (enc:=id) (n:=m) (os:=os) (flatK enc 2 dk)).block b hl (fun e=>hb (by simpa using e)))
    exact zLj (hk x) (hk y) (hn x.1 x.2).2 (hn y.1 y.2).2 (by rw [(hn x.1 x.2).1]; exact hn0) (by rw [(hn y.1 y.2).1]; exact hn0)
   have hs:=Tryz.slices_SortFunc_f91 enc (fun _=>rfl) h1 cf hO 75 #[] g 0 cap Z.attach.toArray w eg hcmp hH hgl (by simp; omega);simp only [List.size_toArray,hlen] at hs;refine hs.mono ?_;rintro e w' ⟨rfl,d',m,os,hp,hsrt,rfl⟩;have hd:d'.size=Z.length:=by rw [hp.1]; exact hlen
   have hperm:d'.toList.Perm Z.attach:=by
    have h9:=hp.2.2;simp only [Array.toList_extract] at h9;have t1:List.extract d'.toList 0 Z.length=d'.toList:=by
     simp only [List.extract,Nat.sub_zero,List.drop_zero];exact List.take_of_length_le (by rw [<-hd]; simp)
    have t2:List.extract Z.attach 0 Z.length=Z.attach:=by
     simp only [List.extract,Nat.sub_zero,List.drop_zero];rw [<-hlen,List.take_length]
    rw [t1] at h9;exact h9.trans (by rw [t2])
   have hpz:(d'.toList.map Subtype.val).Perm Z:=by
    have:=hperm.map Subtype.val;rwa [List.attach_map_subtype_val] at this
   refine ⟨rfl,d'.toList.map Subtype.val,hpz,?_,?_,?_⟩
   ·rw [List.map_map,List.pairwise_map,List.pairwise_iff_getElem];intro i j hi hj hij;have:=hsrt i j (Nat.zero_le _) hij (by rw [<-hd]; simpa using hj);have e5:∀x y:α,ltOf cf x y=befR x.1.1.2 y.1.1.2:=fun x y=>zI1 (by rw [(hn x.1 x.2).1,(hn y.1 y.2).1]);have hi':i<d'.size:=by simpa using hi
    have hj':j<d'.size:=by simpa using hj
    rw [getElem!_pos d' i hi',getElem!_pos d' j hj',e5] at this;simpa using this
   ·have hsw:sortWorldK enc 2 w g 0 m d' os=grow (putRow id (Sort.ahead w m) g 0 (zBS (d'.toList.map Subtype.val)).toArray) os:=by
     unfold sortWorldK putRowK;rw [<-hfl]
    rw [hsw];have hts:(zBS (d'.toList.map Subtype.val)).length=(zBS Z).length:=by rw [zCR,zCR,hpz.length_eq]
    refine ⟨by rw [hts,zCR,Nat.mul_comm],.inr ⟨g,cap,_,rfl,hbase,zKT _ hb,e1,e2,by simp [putCells,e3],?_⟩⟩;have:=zLY (enc:=id) cur (zBS (d'.toList.map Subtype.val)) (by rw [hts,zCR,e3]; omega);rw [hts,zCR,List.map_id,Nat.mul_comm] at this;exact this
   ·exact zDQ (enc:=id) _
theorem HSx.sortPairs {A:Nat→Prop} {w0 w:World} {Ps:List zAF} {v:Value} {Z:Zp} {n:Nat} (h:HSx A w0 w Ps) (i:Nat) (hi:Ps[i]? = some (aP v Z)) (hnew:∀b,v.ownBlock=some b→w0.heap.size≤b)
  (hr:∀z∈Z,RI (fun b=>v.ownBlock≠some b) w z.1.1 z.1.2∧z.2.1.oneCell'=true) (hn:∀z∈Z,z.1.2.length=n∧SmI 100000 z.1.2) (hn0:n≤1000) (hl:Z.length≤67108864) :
  Calls Tryz.prog 74 #[v,.func (.func 75) #[] #[]] w fun e w'=>e=.returned (.tuple #[]) ∧
   ∃Z':Zp,Z'.Perm Z∧(Z'.map (·.1.2)).Pairwise (fun a b=>befR b a=false)∧HSx A w0 w' (Ps.set i (aP v Z')):=by
 obtain ⟨F,hF,_⟩:=HSx.get h i hi;refine (zN8 hF.1 hr hn hn0 hl).mono ?_;rintro e w' ⟨rfl,Z',hp,hs,ho,hg⟩;exact ⟨rfl,Z',hp,hs,h.upd i hi (st_P v Z') (zBO h.bl hg hnew) hg.size fun F hF _=>⟨F,⟨by rw [hp.length_eq]; exact ho,hF.2⟩,fun b hb=>.inl hb,fun b hl hb=>hg.block b hl (fun e=>hb (hF.2 b e.symm))⟩⟩
end Go.Proofs.YtphbichgpcicnaaGreatDoor
namespace Go.Proofs.YtphbichgpcicnaaGreatDoor
open Go.RowKit
open Go.Maps (Keyed)
set_option maxRecDepth 20000
theorem zKb:Keyed Tryz.prog 75:=Keyed.of_law (Go.deep_law_laid zIf (m:=5) (by decide) (k:=75) (of_decide_eq_true (by kernel_rfl)) (by kernel_rfl) (by kernel_rfl))
theorem zKa {a:List Int} (ha:InI a):keyOf Tryz.prog 75 (vec a)=some (zBq a):=by
 have a0:=zDX ha 0;have a1:=zDX ha 1;have a2:=zDX ha 2;have a3:=zDX ha 3;unfold vec zBq;generalize num a 0=x0 at *;generalize num a 1=x1 at *;generalize num a 2=x2 at *;generalize num a 3=x3 at *;have cs1:Tryz.prog.cellsOf 75=4:=by kernel_rfl
 have cs0:Tryz.prog.cellsOf 3=1:=by kernel_rfl
 have hk:Tryz.prog.keyType 75=true:=by kernel_rfl
 obtain ⟨d,hd⟩:∃d,Tryz.prog.types.size+1=d+2:=⟨Tryz.prog.types.size-1,by have:1≤Tryz.prog.types.size:=of_decide_eq_true (by kernel_rfl); omega⟩;have h0:∀x:Int,I64 x→Tryz.prog.keyLits (d+1) 3 [.int .i64 x]=some [.int .i64 x]:=fun x hx=>by
  simp [Program.keyLits,Tryz.underlying3]; exact hx
 have h1:Tryz.prog.keyLits (d+2) 75 [.int .i64 x0,.int .i64 x1,.int .i64 x2,.int .i64 x3]=some [.int .i64 x0,.int .i64 x1,.int .i64 x2,.int .i64 x3]:=by
  unfold Program.keyLits;simp [Tryz.underlying75,cs1,cs0,show List.range 4=[0,1,2,3] from rfl,h0 _ a0,h0 _ a1,h0 _ a2,h0 _ a3]
 unfold keyOf;rw [hd];simp [Tryz.underlying75,hk,Value.formed,cs1,Value.cells,h1]
section
variable {A:Nat→Prop} {w0 w w':World} {Ps:List zAF}
theorem HSx.setRun {mb n:Nat} {L:List (List Int)} (h:HSx A w0 w Ps) (i:Nat) (hi:Ps[i]? = some (aS 75 mb n L)) {p:List Int} (hp:p.length=n) (hpi:InI p) :
  (Go.Instr.lookup 74 (.map (some mb)) (vec p) false).run Tryz.prog w=.ok (.bool (decide (p∈L))) w:=by
 obtain ⟨F,⟨_,D,m,_,hown,hD⟩,_⟩:=HSx.get h i hi;obtain ⟨v,ps,hrun,hv⟩:=hown.lookup zKb Tryz.underlying74 (z:=.bool false) (by kernel_rfl) (zd:=.held (.bool false)) (zp:=[]) rfl (zKa hpi);rw [hD p hp hpi] at hv;simp only [RD,Option.some.injEq,Prod.mk.injEq,DataW.held.injEq] at hv;obtain ⟨rfl,_⟩:=hv;exact hrun
section
variable {ops:Array Oper} {rest:List Oper} {o:Oper} {a:Act} {Q:Exit→Act→World→Prop} {tm t mb n:Nat} {L:List (List Int)}
theorem zIr (hg:o.guard=none) (mo x y:Operand) (hop:o.op=Op.mapUpdate 74 mo x y) (hm:a.eval mo=.map (some mb)) (h:HSx A w0 w Ps) (i:Nat) (hi:Ps[i]? = some (aS 75 mb n L)) (hnew:w0.heap.size≤mb) (hn:n≤4) (hlen:L.length<67108864) {p:List Int} (hp:p.length=n) (hpi:InI p) (hx:a.eval x=vec p) (hy:a.eval y=.bool true)
  (k:∀w',HSx A w0 w' (Ps.set i (aS 75 mb n (L++[p])))→wpList Tryz.prog ops Q rest (a.put o.dst undef) w'):wpList Tryz.prog ops Q (o::rest) a w:=by
 obtain ⟨F,⟨_,D,m,hmL,hown,hD⟩,_⟩:=HSx.get h i hi;refine wpList_plain hg fun K' hK'=>?_;obtain ⟨w',hrun,ho,hgr⟩:=hown.update (val:=.bool true) (d:=.held (.bool true)) (ps:=[]) zKb Tryz.underlying74 (by unfold maxLen; omega) (zKa hpi) rfl;have hk:=k w' (h.upd i hi (st_S _ _ _ _) (h.bl.grown hgr h.bl.size (fun b hb=>by simp only [Option.some.injEq] at hb; omega)) hgr.size fun F' hF' _=>⟨F',⟨hF'.1,_,m+1,by simp; omega,ho,hD.put hown.isMap (zKb.key (zKa hpi)) hn hp hpi⟩,fun b hb=>.inl hb,fun b hl hb=>hgr.block b hl (fun e=>by simp only [Option.some.injEq] at e; subst e; exact hb hF'.1)⟩);unfold Oper.wp;simp only [execOp,hop,hm,hx,hy,Sem.run_bind,Sem.run_pure,Result.andThen_ok,hrun];exact hK' _ _ hk
end
end
end Go.Proofs.YtphbichgpcicnaaGreatDoor
namespace Go.Proofs.YtphbichgpcicnaaGreatDoor
open Go.RowKit Go.Sort
set_option maxRecDepth 20000
set_option maxHeartbeats 8000000
def prz (z:Zq):Pr:=(z.1.2,z.2.2)
abbrev addS (b7 b8 b3 mb n:Nat) (vl:Value) (Z:Zp) (rest:List zAF):List zAF :=
 [aC b7 #[vl] 73,aP vl Z,aRs (Z.map Prod.fst),aRs (Z.map Prod.snd),aC b8 #[.map (some mb)] 74,aS 75 mb n (Z.map fun z=>z.1.2),aC b3 #[.int .i64 12] 3]++rest
theorem zGv {A:Nat→Prop} {w0 w:World} {b7 b8 b3 mb n:Nat} {vl u v:Value} {Z:Zp} {l l':List Int} {rest:List zAF} (h:HSx A w0 w (addS b7 b8 b3 mb n vl Z (aI u l::aI v l'::rest))) (hn:n≤4) (hl:l.length=n) (hs:SmI 100000 l) (_hll:∀z∈Z,z.1.2.length=n) (hz:Z.length≤1000) (h7:w0.heap.size≤b7) (h8:w0.heap.size≤mb) (hnew:∀b,vl.ownBlock=some b→w0.heap.size≤b) :
  Calls Tryz.prog 70 #[u,v,.pointer (some ⟨b8,0,none⟩),.pointer (some ⟨b3,0,none⟩),.pointer (some ⟨b7,0,none⟩)] w fun e w'=>e=.returned (.tuple #[]) ∧
   ∃vl' Z',Z'.map prz=zBJ (Z.map prz) (l,l')∧(∃t,Z'=Z++t)∧HSx A w0 w' (addS b7 b8 b3 mb n vl' Z' (zBj::zBj::rest))∧∀b,vl'.ownBlock=some b→w0.heap.size≤b:=by
 have hu:∃S,RI S w u l:=let ⟨F,hF,_⟩:=h.get 7 rfl; ⟨F,hF.reads⟩
 have hv:∃S,RI S w v l':=let ⟨F,hF,_⟩:=h.get 8 rfl; ⟨F,hF.reads⟩
 obtain ⟨Su,hu⟩:=hu;obtain ⟨Sv,hv⟩:=hv;have HI8:InI l:=fun x hx=>by have:=hs x hx; first | omega | (unfold I64; omega) | (constructor <;> omega)
 obtain ⟨au,cu,rfl⟩:=hu.form;obtain ⟨av,cv,rfl⟩:=hv.form;have HL4:Hid (l.length≤4):=zWF (by omega);have HSP:=zWF (zIH HL4.out);have HLN:=zWF hl;have HSM:=zWF hs;have HII:=zWF HI8;have HST:Hid (∀p:Pr,zBJ (Z.map prz) p=if p.1∉(Z.map prz).map Prod.fst∧zAk p.1=1∧htR p.1≤12 then Z.map prz++[p] else Z.map prz):=zWF (fun _=>rfl);have HMF:Hid ((Z.map prz).map Prod.fst=Z.map fun z=>z.1.2):=zWF (by simp [prz,Function.comp_def]);rw [hl] at h hu ⊢;generalize hnv:l'.length=nv at *;clear hs HI8 hnv hl;go_enter Tryz.func70,Tryz.ntmps70
 have bw1:Below w.heap.size w (w.alloc (Obj.cells #[Value.int IntKind.i64 0,Value.int IntKind.i64 0,Value.int IntKind.i64 0,Value.int IntKind.i64 0] 75)):=(Below.refl _ _).alloc (zWK _) _;go_wp2_with (refine wpList_copy_splice (P:=Tryz.prog) rfl _ _ 28 28 rfl 3 Tryz.underlying28 (by kernel_rfl) (some ⟨w.heap.size,0,none⟩) au 4 4 n cu rfl rfl w.heap.size 0 [.int .i64 0,.int .i64 0,.int .i64 0,.int .i64 0] 75 ?h0 (l.map (Value.int .i64)) ?hmin ?h1 ?hfit ?h2 w.heap.size _ (Below.refl _ _) (zWK _) ?h3)
 case h0=>simpa using heap_alloc_new w (Obj.cells #[Value.int IntKind.i64 0,Value.int IntKind.i64 0,Value.int IntKind.i64 0,Value.int IntKind.i64 0] 75)
 case hmin=>have:=HL4.out; rw [List.length_map,HLN.out]; exact (Nat.min_eq_left (by omega)).symm
 case hfit=>have:=HL4.out; simp; omega
 case h1 =>
  intro hp;have h5:=hu.below bw1;obtain ⟨a',cap',hv,_,hcase⟩:=h5;simp only [Value.slice.injEq] at hv;obtain ⟨rfl,_,rfl⟩:=hv;rcases hcase with h0 | ⟨b,off,ha,_,_,hc⟩
  ·subst h0; simp at hp
  ·refine ⟨_,ha,fun j v hj=>?_⟩;obtain ⟨r,h1,h2⟩:=hc j v hj;have hadd:(⟨b,off,none⟩:Addr).add j=⟨b,off+j,none⟩:=by unfold Addr.add; split <;> simp_all
   rw [hadd,h1];exact congrArg some h2
 case h2 =>
  intro v hv;first | (obtain ⟨x,_,rfl⟩:=List.mem_map.1 hv; rfl) | (obtain ⟨x,_,rfl⟩:=hv; rfl)
 case h3 =>
  intro w3 hg3 hb3;rw [HSP.out] at hg3;clear HSP;have b03:Below w.heap.size w w3:=bw1.trans hb3;have hB:w3.heap[w.heap.size]? = some (.cells #[.int .i64 (num l 0),.int .i64 (num l 1),.int .i64 (num l 2),.int .i64 (num l 3)] 75 (0,0)):=hg3.out;have c0:w3.cell? ⟨w.heap.size,0,none⟩=some (.int .i64 (num l 0)):=by simp [World.cell?,hB]
  have c1:w3.cell? ⟨w.heap.size,1,none⟩=some (.int .i64 (num l 1)):=by simp [World.cell?,hB]
  have c2:w3.cell? ⟨w.heap.size,2,none⟩=some (.int .i64 (num l 2)):=by simp [World.cell?,hB]
  have c3:w3.cell? ⟨w.heap.size,3,none⟩=some (.int .i64 (num l 3)):=by simp [World.cell?,hB]
  have h3:=h.below b03;have hu3:=hu.below b03;have cb8:=(h3.cellC 4 rfl (j:=0) rfl).1;have cb3:=(h3.cellC 6 rfl (j:=0) rfl).1;have HRUN:=zWF (fun m=>(h3.drewN m).setRun 5 rfl HLN.out HII.out);have HC1:=zWF (fun m=>zPk (hu3.drewN m));have HC2:=zWF (fun m=>zCT (hu3.drewN m) HSM.out (by have:=HL4.out; omega));have hh1:-400000≤htR l∧htR l≤400000:=by have:=zBF (B:=100000) (by omega) HSM.out; have:=HL4.out; unfold htR; omega
  have HSG:=zWF (HST.out (l,l'));rw [HMF.out] at HSG;have HSG:Hid (zBJ (Z.map prz) (l,l')=if l∉(Z.map fun z=>z.1.2)∧zAk l=1∧htR l≤12 then Z.map prz++[(l,l')] else Z.map prz):=HSG;obtain ⟨sg,hsg⟩:∃sg,sg=zAk l:=⟨_,rfl⟩;obtain ⟨p,hp⟩:∃p,p=htR l:=⟨_,rfl⟩;rw [<-hsg] at HC1 HSG;rw [<-hp] at HC2 HSG hh1;clear hsg hp hg3 hb3 bw1 h hu hu3;obtain ⟨p1,p2⟩:=hh1;rw [HLN.out];have HNV:=zWF hnew;by_cases hM:l∈Z.map fun z=>z.1.2
  ·have HLK:∀m,(Go.Instr.lookup 74 (.map (some mb)) (.agg #[.int .i64 (num l 0),.int .i64 (num l 1),.int .i64 (num l 2),.int .i64 (num l 3)]) false).run Tryz.prog (w3.drewN m)=.ok (.bool true) (w3.drewN m):=fun m=>by
    have:=HRUN.out m; rw [decide_eq_true hM] at this; exact this
   have HNO:Hid (¬(l∉(Z.map fun z=>z.1.2)∧sg=1∧p≤12)):=zWF (fun h=>h.1 hM);go_wp2_with fail
   go_quiet (first | (go_at_call 71; exact Calls.quiet_of (HC1.out _)) | (go_at_call 50; exact Calls.quiet_of (HC2.out _)))
   have h4:=((h3.drewN nq).imp 7 rfl zCo (fun _ _=>trivial)).imp 8 rfl zCo (fun _ _=>trivial);clear h3;go_wp2_with fail
   refine bodyPost_end (v:=.tuple #[]) ?_ ?_ ?_
   ·exact results_none rfl _ _ _
   ·rfl
   ·exact ⟨rfl,vl,Z,by rw [HSG.out,if_neg HNO.out],⟨[],by simp⟩,h4,HNV.out⟩
  ·have HLK:∀m,(Go.Instr.lookup 74 (.map (some mb)) (.agg #[.int .i64 (num l 0),.int .i64 (num l 1),.int .i64 (num l 2),.int .i64 (num l 3)]) false).run Tryz.prog (w3.drewN m)=.ok (.bool false) (w3.drewN m):=fun m=>by
    have:=HRUN.out m; rw [decide_eq_false hM] at this; exact this
   by_cases hA:sg=1
   ·subst hA;by_cases hB:p≤12
    ·have HYES:Hid (l∉(Z.map fun z=>z.1.2)∧(1:Int)=1∧p≤12):=zWF ⟨hM,rfl,hB⟩;clear hM;go_wp2_with fail
     go_quiet (first | (go_at_call 71; exact Calls.quiet_of (HC1.out _)) | (go_at_call 50; exact Calls.quiet_of (HC2.out _)))
     have hs:=h3.drewN nq;clear h3 HLK cb8 cb3;have d0:(w3.drewN nq).cell? ⟨b8,0,none⟩=some (.map (some mb)):=(hs.cellC 4 rfl (j:=0) rfl).1;have e0:(w3.drewN nq).cell? ⟨w.heap.size,0,none⟩=some (.int .i64 (num l 0)):=c0;have e1:(w3.drewN nq).cell? ⟨w.heap.size,1,none⟩=some (.int .i64 (num l 1)):=c1;have e2:(w3.drewN nq).cell? ⟨w.heap.size,2,none⟩=some (.int .i64 (num l 2)):=c2;have e3:(w3.drewN nq).cell? ⟨w.heap.size,3,none⟩=some (.int .i64 (num l 3)):=c3;generalize w3.drewN nq=w4 at *;clear c0 c1 c2 c3 hB;have hzl:(Z.map fun z=>z.1.2).length<67108864:=by rw [List.length_map]; omega
     go_wp2_with (at_mapUpdate; go_must (refine zIr rfl _ _ _ rfl rfl hs 5 rfl h8 hn hzl HLN.out HII.out rfl rfl ?_))
     intro w5 hs5;clear hs d0 e0 e1 e2 e3;have f7:=(hs5.cellC 0 rfl (j:=0) rfl).1;obtain ⟨w6,hw6⟩:∃w6,w6=w5.alloc (.cells #[.slice au n cu,.slice av nv cv] 77):=⟨_,rfl⟩;have hs6:=hs5.alloc (.cells #[.slice au n cu,.slice av nv cv] 77);rw [<-hw6] at hs6;have g0:w6.cell? ⟨w5.heap.size,0,none⟩=some (.slice au n cu):=by rw [hw6]; go_simp
     have g1:w6.cell? ⟨w5.heap.size,1,none⟩=some (.slice av nv cv):=by rw [hw6]; go_simp
     have HW6:=zWF hw6;clear hw6 hs5;go_wp2_with (at_builtin; go_must (rw [<-HW6.out]; refine zOJ rfl _ _ rfl (z:=((.slice au n cu,l),(.slice av nv cv,l'))) rfl hs6 1 rfl HNV.out rfl g0 g1 rfl rfl (by omega) ?_))
     intro v7 w7 hs7 hn7;have hs8:=(hs7.moreS 2 7 (by decide) rfl rfl (List.perm_append_comm (l₁:=Z.map Prod.fst) (l₂:=[(.slice au n cu,l)]))).moreS 3 8 (by decide) rfl rfl (List.perm_append_comm (l₁:=Z.map Prod.snd) (l₂:=[(.slice av nv cv,l')]));have hs9:HSx A w0 w7 (aC b7 #[vl] 73::(addS b7 b8 b3 mb n v7 (Z++[((.slice au n cu,l),(.slice av nv cv,l'))]) (zBj::zBj::rest)).tail):=by
      unfold addS;simp only [List.map_append,List.map_cons,List.map_nil];exact hs8
     obtain ⟨⟨a7,c7,rfl⟩,_⟩:=hs9.formP 1 rfl;have HN7:=zWF hn7;generalize List.length (Z++[((Value.slice au n cu,l),(Value.slice av nv cv,l'))])=z7 at *;have k7:=(hs9.cellC 0 rfl (j:=0) rfl).1;have k7':=(hs9.cellC 0 rfl (j:=0) rfl).2;have hsA:=hs9.putC (x:=.slice a7 z7 c7) 0 rfl h7;have hsB:HSx A w0 (w7.setCell ⟨b7,0,none⟩ (.slice a7 z7 c7)) (addS b7 b8 b3 mb n (.slice a7 z7 c7) (Z++[((.slice au n cu,l),(.slice av nv cv,l'))]) (zBj::zBj::rest)):=hsA;clear hs6 hs7 hs8 hs9 hsA;go_wp2_with fail
     refine bodyPost_end (v:=.tuple #[]) ?_ ?_ ?_
     ·exact results_none rfl _ _ _
     ·rfl
     exact ⟨rfl,Value.slice a7 z7 c7,Z++[((Value.slice au n cu,l),(Value.slice av nv cv,l'))],by rw [HSG.out,if_pos HYES.out]; simp [prz],⟨_,rfl⟩,hsB,HN7.out⟩
    ·have HNO:Hid (¬(l∉(Z.map fun z=>z.1.2)∧(1:Int)=1∧p≤12)):=zWF (fun h=>hB h.2.2);have fB:decide (p≤12)=false:=decide_eq_false hB;go_wp2_with fail
     go_quiet (first | (go_at_call 71; exact Calls.quiet_of (HC1.out _)) | (go_at_call 50; exact Calls.quiet_of (HC2.out _)))
     have h4:=((h3.drewN nq).imp 7 rfl zCo (fun _ _=>trivial)).imp 8 rfl zCo (fun _ _=>trivial);clear h3;go_wp2_with fail
     refine bodyPost_end (v:=.tuple #[]) ?_ ?_ ?_
     ·exact results_none rfl _ _ _
     ·rfl
     ·exact ⟨rfl,vl,Z,by rw [HSG.out,if_neg HNO.out],⟨[],by simp⟩,h4,HNV.out⟩
   ·have HNO:Hid (¬(l∉(Z.map fun z=>z.1.2)∧sg=1∧p≤12)):=zWF (fun h=>hA h.2.1);have fA:(sg == 1)=false:=by simp [hA]
    go_wp2_with fail
    go_quiet (first | (go_at_call 71; exact Calls.quiet_of (HC1.out _)) | (go_at_call 50; exact Calls.quiet_of (HC2.out _)))
    have h4:=((h3.drewN nq).imp 7 rfl zCo (fun _ _=>trivial)).imp 8 rfl zCo (fun _ _=>trivial);clear h3;go_wp2_with fail
    refine bodyPost_end (v:=.tuple #[]) ?_ ?_ ?_
    ·exact results_none rfl _ _ _
    ·rfl
    ·exact ⟨rfl,vl,Z,by rw [HSG.out,if_neg HNO.out],⟨[],by simp⟩,h4,HNV.out⟩
theorem HSx.two {A:Nat→Prop} {w0 w:World} {Ps:List zAF} {P Q:zAF} (h:HSx A w0 w Ps) (i j:Nat) (hij:i≠j) (hi:Ps[i]? = some P) (hj:Ps[j]? = some Q):∃F G:Nat→Prop,P F w∧Q G w∧∀b,F b→¬G b:=by
 obtain ⟨_,Fs,h1,h2⟩:=h;exact ⟨Fs i,Fs j,(h1 i P hi).2.1,(h1 j Q hj).2.1,fun b=>h2 i j b (zWI hi).1 (zWI hj).1 hij⟩
def tkR (Z:Zl) (j:Nat):List Value:=(Z.take j).map Prod.fst
theorem zM7 (Z:Zl) (j:Nat):(tkR Z j).length≤j:=by unfold tkR; rw [List.length_map,List.length_take]; exact Nat.min_le_left _ _
theorem zLZ {Z:Zl} {j:Nat} {z:Value × List Int} (h:Z[j]? = some z):tkR Z j++[z.1]=tkR Z (j+1):=by unfold tkR; rw [zAG h]; simp
theorem zM6 {Z:Zl} {j:Nat} (h:Z.length≤j):tkR Z j=Z.map Prod.fst:=by unfold tkR; rw [List.take_of_length_le h]
def zCf (n m:Nat):List Pr:=(List.range m).foldl (fun L i=>zBJ L (zAE n i,zAE n i)) []
theorem zH4 (n m:Nat):zCf n (m+1)=zBJ (zCf n m) (zAE n m,zAE n m):=by unfold zCf; rw [List.range_succ,List.foldl_append]; rfl
theorem zOM (L:List Pr) (p:Pr):(zBJ L p).length≤L.length+1:=by unfold zBJ; split <;> simp
theorem zJI (n:Nat):∀m,(zCf n m).length≤m
 | 0=>by simp [zCf]
 | m+1=>by rw [zH4]; have:=zOM (zCf n m) (zAE n m,zAE n m); have:=zJI n m; omega
theorem zT6 {Q:List Pr} {c:List (List Int)} (hQ:Rq c Q) {Z:Zp} (h:∀q∈Z.map prz,q∈Q):∀z∈Z,z.1.2.length=c.length:=fun _z hz=>(hQ.sh _ (h _ (List.mem_map_of_mem hz))).1
theorem zJN {Q:List Pr} {c:List (List Int)} (hQ:Rq c Q) {q:Pr} (hq:q∈Q):SmI 12 q.1∧SmI 12 q.2:=by
 have h1:=hQ.ht q hq;have h2:=zA3 (hQ.nn q hq).1;have h3:=zA3 (hQ.nn q hq).2;have h4:=hQ.nn q hq;unfold htR at h1;exact ⟨fun y hy=>by have:=h2.2 y hy; have:=h4.1 y hy; omega,fun y hy=>by have:=h3.2 y hy; have:=h4.2 y hy; omega⟩
theorem zRx {Q:List Pr} {c:List (List Int)} (hQ:Rq c Q) (hc:CartanP c) {p:Pr} (hp:p∈Q) {i:Nat} (hi:i<c.length):(mirR c i p.1,mirR (trL c) i p.2)∈Q∨zAk (mirR c i p.1)≠1:=by
 rcases hQ.cl p hp i hi with e | e
 ·exact .inr (by rw [e]; exact zDf hc hi)
 ·exact .inl e
theorem zRw {Q:List Pr} {c:List (List Int)} (hQ:Rq c Q):∀m,m≤c.length→∀q∈zCf c.length m,q∈Q:=fun m hm=>(zHT hQ m hm).1
def PdC (c:List (List Int)) (w:World) (e:Ending) (w':World):Prop:=∃r1 r2,e=.returned (.tuple #[r1,r2])∧HS w w' [aF r1 (zAT c),aF r2 ((zAT c).map (zAZ c))]
theorem zEY {S0:Nat→Prop} {u:Value} {c:List (List Int)} {w:World} (h:RII S0 w u c) (hf:FinP c) (hl:total c≤16777216) :
  Calls Tryz.prog 32 #[u,.int .i64 12] w (PdC c w):=by
 have HRES:Hid (PdC c w=fun e w'=>∃r1 r2,e=.returned (.tuple #[r1,r2])∧HS w w' [aF r1 (zAT c),aF r2 ((zAT c).map (zAZ c))]):=zWF rfl;have hQ:=hf.rq;have hcp:=hf.cart;have h4:c.length≤4:=hcp.le;have hM:=hcp.mx;have hMT:=hcp.mxT;have HTR:=zWF (fun (w1:World) (b1:Below w.heap.size w w1)=>zJt (h.below b1) hf.isC hl);have HSI:=zWF (fun (w1:World) (i:Nat) (hi:i<c.length)=>zN5 (w:=w1) h4 hi);have HRF:=zWF (fun (w1:World) (b1:Below w.heap.size w w1) (i:Nat) (hi:i<c.length) (S9:Nat→Prop) (vv:Value) (x:List Int) (hx:RI S9 w1 vv x) (hxl:x.length=c.length) (hsm:SmI 12 x)=>zF8 (h.below b1) hx hM hxl h4 hi (hsm.mono (by omega)))
 have HRT:=zWF (fun (S8:Nat→Prop) (vt:Value) (w1:World) (ht:RII S8 w1 vt (trL c)) (i:Nat) (hi:i<c.length) (S9:Nat→Prop) (vv:Value) (x:List Int) (hx:RI S9 w1 vv x) (hxl:x.length=c.length) (hsm:SmI 12 x)=>zF8 ht hx hMT hxl h4 hi (hsm.mono (by omega)));have HML:=zWF (fun (i:Nat) (hi:i<c.length) (x:List Int) (hxl:x.length=c.length) (hsm:SmI 12 x)=>And.intro (zBX c i x) (zEW hM h4 hi hxl (B:=12) (by omega) (by omega) hsm));have HPL:=zWF (fun (Z:Zp) (h:∀q∈Z.map prz,q∈prsL c)=>zT6 hQ h);have HPS:=zWF (fun (q:Pr) (hq:q∈prsL c)=>And.intro (hQ.sh q hq) (zJN hQ hq));have HUL:Hid (∀m,(zAE c.length m).length=c.length∧SmI 100000 (zAE c.length m)):=zWF (fun m=>⟨zA4 _ _,(zCd _ _).mono (by omega)⟩);have HBI:=zWF (zRw hQ);have HBL:=zWF (zJI c.length);have HBS:=zWF (zH4 c.length)
 have HB0:Hid (([]:Zp).map prz=zCf c.length 0):=zWF rfl;have HI0:Hid (PI7 c (prsL c) 0 (zCf c.length c.length)):=zWF (zKx hQ);have HE0:Hid (zCF c (40-0) 0 (zCf c.length c.length)=zCO c):=zWF rfl;have HROW:=zWF (fun (k:Nat) (L:List Pr) (p:Pr) (h:PI7 c (prsL c) k L) (hp:L[k]? = some p)=>h.row hQ hcp hp);have HLEN:=zWF (fun (k:Nat) (L:List Pr) (h:PI7 c (prsL c) k L)=>h.len hQ);have HNDL:Hid (∀L:List Pr,(∀q∈L,q∈prsL c)→(L.map Prod.fst).Nodup→L.length≤24):=zWF (fun L h1 h2=>by
  have h3:=zDF h2 (fun x hx=>by obtain ⟨p,hp,rfl⟩:=List.mem_map.1 hx; exact List.mem_map_of_mem (h1 p hp));have:=hQ.len;simp at h3;omega)
 have HADD:=zWF (fun (L:List Pr) (p:Pr) (hs:∀q∈L,q∈prsL c) (hn:(L.map Prod.fst).Nodup) (hp:p∈prsL c∨zAk p.1≠1)=>zG9 hQ hs hn hp);have HPI:=zWF (fun (p:Pr) (hp:p∈prsL c) (i:Nat) (hi:i<c.length)=>zRx hQ hcp hp hi);have HRD:Hid (∀p L,zFR c p L=((List.range c.length).drop 0).foldl (zCc c p) L):=zWF (fun _ _=>rfl);have HPD:Hid (∀p L i,zCc c p L i=zBJ L (mirR c i p.1,mirR (trL c) i p.2)):=zWF (fun _ _ _=>rfl);have HSRT:=zWF (fun (P:List Pr) (hp:P.Perm (zCO c)) (hs:P.Pairwise fun a b=>befR b.1 a.1=false)=>zLQ hQ hcp hp hs);clear hf hQ hcp hM hMT;have hmf:∀(fn:Fn) (first cap:Array Value) (w:World),(Instr.makeFunc fn first cap).run Tryz.prog w=.ok (.func fn first cap) w:=fun _ _ _ _=>rfl;have hmm:=@run_makeMap Tryz.prog;have h0:=h;obtain ⟨au,cu,rfl⟩:=h.form;generalize hn:c.length=n at *
 clear hn;have mixed:Tryz.prog.follows .mixedOrders=true:=by kernel_rfl
 go_enter Tryz.func32,Tryz.ntmps32
 obtain ⟨w1,hw1⟩:∃w1,w1=w.alloc (.cells #[.int .i64 12] 3):=⟨_,rfl⟩;have hs1:=(HS.nil (Below.refl _ w)).newC hw1 rfl;have hs1:HS w w1 [aC w.heap.size #[.int .i64 12] 3]:=hs1;have hcall:=HTR.out w1 hs1.bl;have HW1:=zWF hw1;clear hw1;go_wp2_with fail
 rw [<-HW1.out];refine hcall.mono ?_;rintro e w2 ⟨vt,rfl,ft,bt⟩;have hs2:=hs1.addR bt ft;have hs2:HS w w2 [aC w.heap.size #[.int .i64 12] 3,aR vt (trL c)]:=hs2;obtain ⟨w6,hw6⟩:∃w6,w6=((((w2.alloc (.cells #[] 77)).alloc (.cells #[.slice (some ⟨w2.heap.size,0,none⟩) 0 0] 73)).alloc (.map #[] 0)).alloc (.cells #[.map (some (w2.heap.size+1+1))] 74)):=⟨_,rfl⟩;have hs6:HS w w6 [aC w.heap.size #[.int .i64 12] 3,aR vt (trL c),aP (.slice (some ⟨w2.heap.size,0,none⟩) 0 0) [],aC (w2.heap.size+1) #[.slice (some ⟨w2.heap.size,0,none⟩) 0 0] 73,aS 75 (w2.heap.size+1+1) n [],aC (w2.heap.size+1+1+1) #[.map (some (w2.heap.size+1+1))] 74]:=by
  have x1:=zVW hs2 (w1:=w2.alloc (.cells #[] 77)) rfl;have x2:=x1.newC (w':=(w2.alloc (.cells #[] 77)).alloc (.cells #[.slice (some ⟨w2.heap.size,0,none⟩) 0 0] 73)) rfl (b:=w2.heap.size+1) (by simp);have x3:=x2.newSet 75 n (w1:=((w2.alloc (.cells #[] 77)).alloc (.cells #[.slice (some ⟨w2.heap.size,0,none⟩) 0 0] 73)).alloc (.map #[] 0)) rfl;have e3:((w2.alloc (.cells #[] 77)).alloc (.cells #[.slice (some ⟨w2.heap.size,0,none⟩) 0 0] 73)).heap.size=w2.heap.size+1+1:=by simp
  rw [e3] at x3;exact x3.newC hw6 (by simp)
 have hs7:=(hs6.add (Below.refl _ w6) (zBs []) (F:=fun _=>False) ⟨fun x hx=>(by cases hx),(by simp)⟩ (fun b hb=>hb.elim)).add (Below.refl _ w6) (zBs []) (F:=fun _=>False) ⟨fun x hx=>(by cases hx),(by simp)⟩ (fun b hb=>hb.elim);have hs:=hs7.pick [3,2,6,7,5,4,0,1] (by decide);have h7:w.heap.size≤w2.heap.size+1:=Nat.le_trans hs2.bl.size (Nat.le_succ _);have h8:w.heap.size≤w2.heap.size+1+1:=Nat.le_succ_of_le h7;have hs:HS w w6 (addS (w2.heap.size+1) (w2.heap.size+1+1+1) w.heap.size (w2.heap.size+1+1) n (.slice (some ⟨w2.heap.size,0,none⟩) 0 0) [] [aR vt (trL c)]):=hs;have HNV:Hid (∀b,(Value.slice (some ⟨w2.heap.size,0,none⟩) 0 0).ownBlock=some b→w.heap.size≤b):=zWF (fun b hb=>by simp [Value.ownBlock] at hb; have:=hs2.bl.size; omega);have HW6:=zWF hw6;clear hcall ft bt hs1 hs2 hs6 hs7 hw6;go_wp2_with fail
 rw [<-HW6.out];generalize w2.heap.size+1+1+1=b8 at *;generalize hmb:w2.heap.size+1+1=mb at *;generalize hb7:w2.heap.size+1=b7 at *;clear hmb hb7;go_loopw [25] (fun kk wr=>∃(i:Nat) (vl:Value) (Z:Zp),i≤n∧kk=.int .i64 i∧HS w wr (addS b7 b8 w.heap.size mb n vl Z [aR vt (trL c)])∧Hid (Z.map prz=zCf n i)∧Hid (∀b,vl.ownBlock=some b→w.heap.size≤b)) (fun kk _=>n-(intOf kk).toNat)
 case atStart=>exact ⟨0,_,[],Nat.zero_le _,rfl,hs,HB0,HNV⟩
 case round =>
  clear hs;obtain ⟨i,vl,Z,hi,rfl,hs,HZ,HNV⟩:=hrel;by_cases hin:i<n
  ·have i1:(i:Int)<(n:Int):=by omega
   have hc1:=HSI.out wr i hin;go_wp2_with fail
   refine hc1.mono ?_;rintro e w3 ⟨r3,rfl,f3,b3⟩;have hs:=hs.addI b3 f3;have hc2:=HSI.out w3 i hin;clear hc1 f3 b3;go_wp2_with fail
   refine hc2.mono ?_;rintro e w4 ⟨r4,rfl,f4,b4⟩;have hs:=(hs.addI b4 f4).pick [0,1,2,3,4,5,6,8,9,7] (by decide);have hs:HS w w4 (addS b7 b8 w.heap.size mb n vl Z (aI r3 (zAE n i)::aI r4 (zAE n i)::[aR vt (trL c)])):=hs;have hin2:∀q∈Z.map prz,q∈prsL c:=by rw [HZ.out]; exact HBI.out i hi
   have hc3:=zGv hs h4 (HUL.out i).1 (HUL.out i).2 (HPL.out Z hin2) (by have:=HBL.out i; rw [<-HZ.out,List.length_map] at this; omega) h7 h8 HNV.out;clear hc2 f4 b4 hin2;go_wp2_with fail
   refine hc3.mono ?_;rintro e w5 ⟨rfl,vl',Z',hz',_,hs',hn'⟩;have hs9:=hs'.pick [0,1,2,3,4,5,6,9] (by decide);have hs9:HS w w5 (addS b7 b8 w.heap.size mb n vl' Z' [aR vt (trL c)]):=hs9;have HZ2:Hid (Z'.map prz=zCf n (i+1)):=zWF (by rw [hz',HZ.out,HBS.out]);have HN2:=zWF hn';clear hs hs' hc3 hz' hn';go_wp2_with fail
   go_roundw
   case rel=>exact ⟨i+1,vl',Z',by omega,by go_num,hs9,HZ2,HN2⟩
   case measure=>simp [intOf]; omega
  ·have i1:¬(i:Int)<(n:Int):=by omega
   have e:i=n:=by omega
   have HZ0:Hid (PI7 c (prsL c) 0 (Z.map prz)):=zWF (by rw [HZ.out,e]; exact HI0.out);have HZ1:Hid (zCF c (40-0) 0 (Z.map prz)=zCO c):=zWF (by rw [HZ.out,e]; exact HE0.out);clear e HZ;go_wp2_with fail
   go_loopw [11] (fun kk wr=>∃(k:Nat) (vl:Value) (Z:Zp),k≤Z.length∧kk=.int .i64 k∧HS w wr (addS b7 b8 w.heap.size mb n vl Z [aR vt (trL c)])∧Hid (PI7 c (prsL c) k (Z.map prz))∧Hid (zCF c (40-k) k (Z.map prz)=zCO c)∧Hid (∀b,vl.ownBlock=some b→w.heap.size≤b)) (fun kk _=>25-(intOf kk).toNat)
   case atStart=>exact ⟨0,vl,Z,Nat.zero_le _,rfl,hs,HZ0,HZ1,HNV⟩
   case round =>
    clear hs HNV;obtain ⟨k,vl,Z,hk,rfl,hs,HPI7,HBF,HNV⟩:=hrel;have hm24:Z.length≤24:=by have:=HLEN.out k _ HPI7.out; rwa [List.length_map] at this
    have cb7:=(hs.cellC 0 rfl (j:=0) rfl).1;obtain ⟨⟨al,cl,rfl⟩,hhead⟩:=hs.formP 1 rfl;generalize hzl:Z.length=m at *;have HZL:=zWF hzl;have HH:=zWF hhead;clear hzl hhead;by_cases hkm:k<m
    ·have i2:(k:Int)<(m:Int):=by omega
     obtain ⟨g,rfl⟩:∃g,al=some ⟨g,0,none⟩:=by
      obtain ⟨g,c9,e⟩:=HH.out (by omega);simp only [Value.slice.injEq] at e;exact ⟨g,e.1⟩
     obtain ⟨z,hz⟩:∃z,Z[k]? = some z:=⟨Z[k]'(by rw [HZL.out]; exact hkm),zWG _⟩;obtain ⟨⟨rk,xk⟩,⟨sk,yk⟩⟩:=z;have hzm:=zWH hz;obtain ⟨ck0,ck1⟩:=hs.cellP 1 rfl hz;have ck0:wr.cell? ⟨g,k*2,none⟩=some rk:=ck0;have ck1:wr.cell? ⟨g,k*2+1,none⟩=some sk:=ck1;have hq:(xk,yk)∈prsL c:=HPI7.out.sub _ (List.mem_map_of_mem (f:=prz) hzm);obtain ⟨⟨lx,ly⟩,sx,sy⟩:=HPS.out _ hq;have hrx:RI _ wr rk xk:=hs.rowS 2 rfl (List.mem_map_of_mem (f:=Prod.fst) hzm);have hry:RI _ wr sk yk:=hs.rowS 3 rfl (List.mem_map_of_mem (f:=Prod.snd) hzm);obtain ⟨ar,cr,rfl⟩:=hrx.form;obtain ⟨as',cs,rfl⟩:=hry.form;have lx:xk.length=n:=lx;have ly:yk.length=n:=ly;rw [lx] at hrx ck0 hz;rw [ly] at hry ck1 hz;have hzm:=zWH hz;have hpk:(Z.map prz)[k]? = some (xk,yk):=by simp [hz,prz]
     have hrow:=HROW.out k _ _ HPI7.out hpk;have hb:=zKy (c:=c) (f:=39-k) hpk;rw [show 39-k+1=40-k by omega,HBF.out] at hb;have HR0:=zWF (HRD.out (xk,yk) (Z.map prz)).symm;obtain ⟨Rr,hRr⟩:∃Rr,Rr=zFR c (xk,yk) (Z.map prz):=⟨_,rfl⟩;rw [<-hRr] at HR0 hrow hb;have HPN:=zWF hrow.1;have HBF2:Hid (zCF c (40-(k+1)) (k+1) Rr=zCO c):=zWF (by rw [hb,show 40-(k+1)=39-k by omega]);have HKL:Hid (k+1≤Rr.length):=zWF (by obtain ⟨l9,e9⟩:=hrow.2; rw [e9,List.length_append,List.length_map,HZL.out]; omega);have HSUB:=zWF HPI7.out.sub;have HND:=zWF HPI7.out.nd;have HQ:=zWF hq;have HLX:=zWF lx;have HLY:=zWF ly;have HSX:=zWF sx;have HSY:=zWF sy;have HZK:=zWF hz;obtain ⟨wp,hwp⟩:∃wp,wp=wr.alloc (.cells #[.slice ar n cr,.slice as' n cs] 77):=⟨_,rfl⟩;have hs:=hs.newC hwp rfl
     have hs:HS w wp (addS b7 b8 w.heap.size mb n (.slice (some ⟨g,0,none⟩) m cl) Z [aR vt (trL c),aC wr.heap.size #[.slice ar n cr,.slice as' n cs] 77]):=hs;have HWP:=zWF hwp;clear hrow hb hRr hpk hq lx ly sx sy hz hzm hrx hry hwp;go_wp2_with fail
     rw [<-HWP.out];generalize wr.heap.size=bp at *;go_loopw [51] (fun ii wr=>∃(i:Nat) (vl:Value) (Z:Zp),i≤n∧ii=.int .i64 i∧HS w wr (addS b7 b8 w.heap.size mb n vl Z [aR vt (trL c),aC bp #[.slice ar n cr,.slice as' n cs] 77])∧Hid (((List.range n).drop i).foldl (zCc c (xk,yk)) (Z.map prz)=Rr)∧Hid (∀q∈Z.map prz,q∈prsL c)∧Hid (((Z.map prz).map Prod.fst).Nodup)∧Hid (Z[k]? = some ((.slice ar n cr,xk),(.slice as' n cs,yk)))∧Hid (∀b,vl.ownBlock=some b→w.heap.size≤b)) (fun ii _=>n-(intOf ii).toNat)
     case atStart=>exact ⟨0,_,Z,Nat.zero_le _,rfl,hs,HR0,HSUB,HND,HZK,HNV⟩
     case round =>
      clear hs HNV HZK HSUB HND;obtain ⟨i,vl,Z,hi,rfl,hs,HR9,HSUB,HND,HZK,HNV⟩:=hrel;by_cases hin:i<n
      ·have i3:(i:Int)<(n:Int):=by omega
       have hzm:=zWH HZK.out;have h24:Z.length≤24:=by have:=HNDL.out _ HSUB.out HND.out; rwa [List.length_map] at this
       have hsd:=hs.drew;have hsd:HS w wr.drew (addS b7 b8 w.heap.size mb n vl Z [aR vt (trL c),aC bp #[.slice ar n cr,.slice as' n cs] 77]):=hsd;have HC1:=zWF (HRF.out wr.drew hsd.bl i hin _ _ _ (hsd.rowS 2 rfl (List.mem_map_of_mem (f:=Prod.fst) hzm)) HLX.out HSX.out);have HBP:Hid (bp<wr.heap.size∧wr.cell? ⟨bp,0,none⟩=some (.slice ar n cr)∧wr.cell? ⟨bp,1,none⟩=some (.slice as' n cs)):=zWF ⟨zWJ _ _ (hs.cellC 8 rfl (j:=0) rfl).1,(hs.cellC 8 rfl (j:=0) rfl).1,(hs.cellC 8 rfl (j:=1) rfl).1⟩;have cp0:=HBP.out.2.1;have cp1:=HBP.out.2.2;have HSD:=zWF hsd;have HZM:=zWF hzm;have h9:=HR9.out;rw [zKN hin,List.foldl_cons,HPD.out] at h9;have HST:=zWF h9;have HADD9:=zWF (HADD.out (Z.map prz) (mirR c i xk,mirR (trL c) i yk) HSUB.out HND.out (HPI.out _ HQ.out i hin));have HMX:Hid ((mirR c i xk).length=n∧SmI 100000 (mirR c i xk)):=zWF (by
        obtain ⟨g1,g2⟩:=HML.out i hin xk HLX.out HSX.out;exact ⟨by rw [g1,HLX.out],g2.mono (by omega)⟩)
       clear h9 hzm hsd hs;go_wp2_with fail
       go_region_held3 (fun w'=>w'.cell? ⟨bp,0,none⟩=some (.slice ar n cr)∧w'.cell? ⟨bp,1,none⟩=some (.slice as' n cs)) (first | go_keep | exact ⟨(b4.cell (p:=⟨bp,0,none⟩) HBP.out.1).trans HBP.out.2.1,(b4.cell (p:=⟨bp,1,none⟩) HBP.out.1).trans HBP.out.2.2⟩ | exact ⟨(HS5.out.cellC 10 rfl (j:=0) rfl).1,(HS5.out.cellC 10 rfl (j:=1) rfl).1⟩ | exact ⟨(HS6.out.cellC 8 rfl (j:=0) rfl).1,(HS6.out.cellC 8 rfl (j:=1) rfl).1⟩) (first
        | (go_at_call_of 73 (Value.slice au n cu); refine HC1.out.mono ?_; rintro e w4 ⟨r4,rfl,f4,b4⟩)
        | (go_at_call_of 73 vt; refine (HRT.out _ vt w4 ((HSD.out.addI b4 f4).get 7 rfl).choose_spec.1.reads i hin _ _ _ ((HSD.out.addI b4 f4).rowS 3 rfl (List.mem_map_of_mem (f:=Prod.snd) HZM.out)) HLY.out HSY.out).mono ?_; rintro e w5 ⟨r5,rfl,f5,b5⟩; have HS5:=zWF (show HS w w5 (addS b7 b8 w.heap.size mb n vl Z (aI r4 (mirR c i xk)::aI r5 (mirR (trL c) i yk)::[aR vt (trL c),aC bp #[.slice ar n cr,.slice as' n cs] 77])) from ((HSD.out.addI b4 f4).addI b5 f5).pick [0,1,2,3,4,5,6,9,10,7,8] (by decide)))
        | (go_at_call 70; refine (zGv HS5.out h4 HMX.out.1 HMX.out.2 (HPL.out Z HSUB.out) (by omega) h7 h8 HNV.out).mono ?_; rintro e w6 ⟨rfl,vl',Z',hz',hpre,hs',hn'⟩; have HS6:=zWF (show HS w w6 (addS b7 b8 w.heap.size mb n vl' Z' [aR vt (trL c),aC bp #[.slice ar n cr,.slice as' n cs] 77]) from hs'.pick [0,1,2,3,4,5,6,9,10] (by decide))))
       have hs9:=HS6.out;have HZ2:Hid (((List.range n).drop (i+1)).foldl (zCc c (xk,yk)) (Z'.map prz)=Rr):=zWF (by rw [hz',HST.out]);have HS2:Hid (∀q∈Z'.map prz,q∈prsL c):=zWF (by rw [hz']; exact HADD9.out.1);have HN2:Hid (((Z'.map prz).map Prod.fst).Nodup):=zWF (by rw [hz']; exact HADD9.out.2.1);have HK2:Hid (Z'[k]? = some ((.slice ar n cr,xk),(.slice as' n cs,yk))):=zWF (by
        obtain ⟨t9,e9⟩:=hpre;rw [e9,List.getElem?_append_left (zWI HZK.out).1]; exact HZK.out)
       have HNN:=zWF hn';clear hs' hz' hpre hn' b4 f4 b5 f5 HS5 HS6;go_wp2_with fail
       go_roundw
       case rel=>exact ⟨i+1,vl',Z',by omega,by go_num,hs9,HZ2,HS2,HN2,HK2,HNN⟩
       case measure=>simp [intOf]; omega
      ·have i3:¬(i:Int)<(n:Int):=by omega
       have h9:=HR9.out;rw [List.drop_eq_nil_of_le (by simp; omega),List.foldl_nil] at h9;have hs9:=hs.pick [0,1,2,3,4,5,6,7] (by decide);have hs9:HS w wr (addS b7 b8 w.heap.size mb n vl Z [aR vt (trL c)]):=hs9;have HP9:Hid (PI7 c (prsL c) (k+1) (Z.map prz)):=zWF (by rw [h9]; exact HPN.out);have HB9:Hid (zCF c (40-(k+1)) (k+1) (Z.map prz)=zCO c):=zWF (by rw [h9]; exact HBF2.out);have HK9:Hid (k+1≤Z.length):=zWF (by have:=HKL.out; rw [<-h9,List.length_map] at this; exact this);clear h9 hs;go_wp2_with fail
       go_roundw
       case rel=>exact ⟨k+1,vl,Z,HK9.out,by go_num,hs9,HP9,HB9,HNV⟩
       case measure=>simp [intOf]; omega
    ·have i2:¬(k:Int)<(m:Int):=by omega
     have hb:=zJJ (c:=c) (f:=40-k) (k:=k) (L:=Z.map prz) (by rw [List.length_map,HZL.out]; omega);rw [HBF.out] at hb;have hsub:=HPI7.out.sub;obtain ⟨F1,F2,hF1,hF2,hF12⟩:=hs.two 1 2 (by decide) rfl rfl;obtain ⟨F3,_,hF3,_,_⟩:=hs.two 3 4 (by decide) rfl rfl;have hsort:=HSx.sortPairs hs 1 rfl HNV.out (n:=n) (fun z hz=>by
      have g1:FI F2 wr z.1.1 z.1.2:=hF2.1 z.1 (List.mem_map_of_mem (f:=Prod.fst) hz);have g2:FI F3 wr z.2.1 z.2.2:=hF3.1 z.2 (List.mem_map_of_mem (f:=Prod.snd) hz);refine ⟨RI.mono g1.reads (fun b hb e=>hF12 b (hF1.2 b e) hb),oneC g2.reads⟩) (fun z hz=>by
      have:=HPS.out _ (hsub _ (List.mem_map_of_mem (f:=prz) hz));exact ⟨this.1.1,this.2.1.mono (by omega)⟩) (by omega) (by rw [HZL.out]; omega)
     have HPP:=zWF hb;have HSB:=zWF hsub;clear hb hsub hF1 hF2 hF3 hF12 hs HPI7 HBF;go_wp2_with fail
     refine hsort.mono ?_;rintro e w3 ⟨rfl,Z',hp,hpw,hs⟩;have hsx:=(hs.alloc (.cells #[] 28)).alloc (.cells #[] 28);have cb9:=(HSx.cellC hsx 0 rfl (j:=0) rfl).1;have hs:=((hs.permS 2 rfl (hp.map Prod.fst)).permS 3 rfl (hp.map Prod.snd)).pick [1,2,3] (by decide);have hs:HS w w3 [aP (.slice al m cl) Z',aRs (Z'.map Prod.fst),aRs (Z'.map Prod.snd)]:=hs;obtain ⟨HE1,HE2⟩:=HSRT.out (Z'.map prz) (by rw [HPP.out]; exact hp.map prz) (by rw [List.pairwise_map] at hpw ⊢; exact hpw);have HE1:Hid ((Z'.map Prod.fst).map Prod.snd=zAT c):=zWF (by rw [<-HE1]; simp [prz,Function.comp_def]);have HE2:Hid ((Z'.map Prod.snd).map Prod.snd=(zAT c).map (zAZ c)):=zWF (by rw [<-HE2]; simp [prz,Function.comp_def]);have HZL2:Hid (Z'.length=m):=zWF (by rw [hp.length_eq,HZL.out]);obtain ⟨wq,hwq⟩:∃wq,wq=(w3.alloc (.cells #[] 28)).alloc (.cells #[] 28):=⟨_,rfl⟩
     have hsq:HS w wq [aP (.slice al m cl) Z',aRs (Z'.map Prod.fst),aRs (Z'.map Prod.snd),aV 28 (.slice (some ⟨w3.heap.size,0,none⟩) 0 0) (tkR (Z'.map Prod.fst) 0),aV 28 (.slice (some ⟨w3.heap.size+1,0,none⟩) 0 0) (tkR (Z'.map Prod.snd) 0)]:=by
      have y1:=zBa hs (w1:=w3.alloc (.cells #[] 28)) rfl;have y2:=zBa y1 hwq;have e1:(w3.alloc (.cells #[] 28)).heap.size=w3.heap.size+1:=by simp
      rw [e1] at y2;exact y2
     have HWQ:=zWF hwq;clear hs hsx hsort hp hpw hwq cb7;go_wp2_with fail
     rw [<-HWQ.out];go_loopw [14,15,73] (fun r1 r2 jj wr=>∃(j:Nat) (v1 v2:Value),v1=r1∧v2=r2∧j≤m∧jj=.int .i64 j∧HS w wr [aP (.slice al m cl) Z',aRs (Z'.map Prod.fst),aRs (Z'.map Prod.snd),aV 28 v1 (tkR (Z'.map Prod.fst) j),aV 28 v2 (tkR (Z'.map Prod.snd) j)]) (fun _ _ jj _=>m-(intOf jj).toNat)
     case atStart=>exact ⟨0,_,_,rfl,rfl,Nat.zero_le _,rfl,hsq⟩
     case round =>
      clear hsq;obtain ⟨j,v1,v2,rfl,rfl,hj,rfl,hs⟩:=hrel;by_cases hjm:j<m
      ·have i3:(j:Int)<(m:Int):=by omega
       obtain ⟨g,rfl⟩:∃g,al=some ⟨g,0,none⟩:=by
        obtain ⟨g,c9,e⟩:=(hs.formP 0 rfl).2 (by rw [HZL2.out]; omega);simp only [Value.slice.injEq] at e;exact ⟨g,e.1⟩
       obtain ⟨z,hz⟩:∃z,Z'[j]? = some z:=⟨Z'[j]'(by rw [HZL2.out]; exact hjm),zWG _⟩;obtain ⟨⟨rk,xk⟩,⟨sk,yk⟩⟩:=z;have hzm:=zWH hz;obtain ⟨ck0,ck1⟩:=hs.cellP 0 rfl hz;have ck0:wr.cell? ⟨g,j*2,none⟩=some rk:=ck0;have ck1:wr.cell? ⟨g,j*2+1,none⟩=some sk:=ck1;have hrx:RI _ wr rk xk:=hs.rowS 1 rfl (List.mem_map_of_mem (f:=Prod.fst) hzm);have hry:RI _ wr sk yk:=hs.rowS 2 rfl (List.mem_map_of_mem (f:=Prod.snd) hzm);obtain ⟨ar,cr,rfl⟩:=hrx.form;obtain ⟨as',cs,rfl⟩:=hry.form;have HT1:Hid (tkR (Z'.map Prod.fst) j++[.slice ar xk.length cr]=tkR (Z'.map Prod.fst) (j+1)):=zWF (zLZ (z:=(Value.slice ar xk.length cr,xk)) (by simp [hz]));have HT2:Hid (tkR (Z'.map Prod.snd) j++[.slice as' yk.length cs]=tkR (Z'.map Prod.snd) (j+1)):=zWF (zLZ (z:=(Value.slice as' yk.length cs,yk)) (by simp [hz]));clear hz hzm hrx hry
       generalize xk.length=nx at *;generalize yk.length=ny at *;obtain ⟨wp,hwp⟩:∃wp,wp=wr.alloc (.cells #[.slice ar nx cr,.slice as' ny cs] 77):=⟨_,rfl⟩;have hsp:=hs.newC hwp rfl;have hsp:HS w wp [aP (.slice (some ⟨g,0,none⟩) m cl) Z',aRs (Z'.map Prod.fst),aRs (Z'.map Prod.snd),aV 28 v1 (tkR (Z'.map Prod.fst) j),aV 28 v2 (tkR (Z'.map Prod.snd) j),aC wr.heap.size #[.slice ar nx cr,.slice as' ny cs] 77]:=hsp;obtain ⟨wa,hwa⟩:∃wa,wa=wp.alloc (.cells #[.slice ar nx cr] 28):=⟨_,rfl⟩;have hsa:=hsp.alloc (.cells #[.slice ar nx cr] 28);rw [<-hwa] at hsa;have hca:wa.cell? ⟨wr.heap.size+1,0,none⟩=some (.slice ar nx cr):=by rw [hwa,hwp]; go_simp
       have hone1:(Value.slice ar nx cr).oneCell'=true:=rfl;have HL1:Hid ((tkR (Z'.map Prod.fst) j).length+1≤67108864):=zWF (by have:=zM7 (Z'.map Prod.fst) j; omega);have HL2:Hid ((tkR (Z'.map Prod.snd) j).length+1≤67108864):=zWF (by have:=zM7 (Z'.map Prod.snd) j; omega);have HNV1:=zWF (HS.newV hsa 3 rfl);have HWA:Hid (wa=(wr.alloc (.cells #[.slice ar nx cr,.slice as' ny cs] 77)).alloc (.cells #[.slice ar nx cr] 28)):=zWF (by rw [hwa,hwp]);clear hs hsp hwp hwa;go_wp2_with (at_builtin; go_must (rw [<-HWA.out]; refine zAN rfl _ _ rfl rfl hsa 3 rfl HNV1.out rfl hca hone1 HL1.out ?_))
       intro v3 w4 hs4 _;rw [HT1.out] at hs4;have hs4:HS w w4 [aP (.slice (some ⟨g,0,none⟩) m cl) Z',aRs (Z'.map Prod.fst),aRs (Z'.map Prod.snd),aV 28 v3 (tkR (Z'.map Prod.fst) (j+1)),aV 28 v2 (tkR (Z'.map Prod.snd) j),aC wr.heap.size #[.slice ar nx cr,.slice as' ny cs] 77]:=hs4;have cq1:=(hs4.cellC 5 rfl (j:=1) rfl).1;obtain ⟨wb,hwb⟩:∃wb,wb=w4.alloc (.cells #[.slice as' ny cs] 28):=⟨_,rfl⟩;have hsb:=hs4.alloc (.cells #[.slice as' ny cs] 28);rw [<-hwb] at hsb;have hcb:wb.cell? ⟨w4.heap.size,0,none⟩=some (.slice as' ny cs):=by rw [hwb]; go_simp
       have hone2:(Value.slice as' ny cs).oneCell'=true:=rfl;have HNV2:=zWF (HS.newV hsb 4 rfl);have HWB:=zWF hwb;clear hsa hs4 hwb;go_wp2_with (at_builtin; go_must (rw [<-HWB.out]; refine zAN rfl _ _ rfl rfl hsb 4 rfl HNV2.out rfl hcb hone2 HL2.out ?_))
       intro v5 w5 hs5 _;rw [HT2.out] at hs5;have hs6:=hs5.pick [0,1,2,3,4] (by decide);have hs6:HS w w5 [aP (.slice (some ⟨g,0,none⟩) m cl) Z',aRs (Z'.map Prod.fst),aRs (Z'.map Prod.snd),aV 28 v3 (tkR (Z'.map Prod.fst) (j+1)),aV 28 v5 (tkR (Z'.map Prod.snd) (j+1))]:=hs6;clear hsb hs5;go_wp2_with fail
       go_roundw
       case rel=>exact ⟨j+1,v3,v5,rfl,rfl,by omega,by go_num,hs6⟩
       case measure=>simp [intOf]; omega
      ·have i3:¬(j:Int)<(m:Int):=by omega
       rw [zM6 (show (Z'.map Prod.fst).length≤j by rw [List.length_map,HZL2.out]; omega),zM6 (show (Z'.map Prod.snd).length≤j by rw [List.length_map,HZL2.out]; omega)] at hs;have hs2:=((hs.shutF (Z:=Z'.map Prod.fst) (v:=v1) 3 1 (by decide) rfl rfl).shutF (Z:=Z'.map Prod.snd) (v:=v2) 4 2 (by decide) rfl rfl).pick [3,4] (by decide);have hs3:HS w wr [aF v1 ((Z'.map Prod.fst).map Prod.snd),aF v2 ((Z'.map Prod.snd).map Prod.snd)]:=hs2;rw [HE1.out,HE2.out] at hs3;clear hs hs2;go_wp2_with fail
       go_ret2
       rw [HRES.out];exact ⟨_,_,rfl,hs3⟩
theorem zFi {S0:Nat→Prop} {u:Value} {c:List (List Int)} {w:World} (h:RII S0 w u c) (hl:total c≤16777216) :
  Calls Tryz.prog 6 #[u] w (CoC c w):=by
 have HRES:Hid (CoC c w=fun e w'=>∃r,e=.returned (.tuple #[r,.bool (finB c)])∧FII (New w w') w' r (corR c)∧Below w.heap.size w w'):=zWF rfl;have hF:=zCM h hl;have h0:=h;obtain ⟨au,cu,rfl⟩:=h.form;generalize c.length=n at *;cases hB:finB c with
 | false =>
  rw [hB] at hF;have HR:Hid (corR c=[]):=zWF (by unfold corR; rw [hB]; rfl);have HBB:=zWF hB;clear hB;go_enter Tryz.func6,Tryz.ntmps6
  go_wp2_with fail
  refine hF.mono ?_;rintro e w1 ⟨rfl,b1⟩;have hfe:=FII.empty_of b1 (w1:=w1.alloc (.cells #[] 28)) rfl;go_wp2_with fail
  go_ret2
  rw [HRES.out];exact ⟨_,by rw [HBB.out]; rfl,by rw [HR.out]; exact hfe.1,hfe.2⟩
 | true =>
  have hf:=zCB hB;rw [hB] at hF;have HR:Hid (corR c=(zAT c).map (zAZ c)):=zWF (by unfold corR; rw [hB]; rfl);have HBB:=zWF hB;have HC:=zWF (fun (w1:World) (b1:Below w.heap.size w w1)=>zEY (h0.below b1) hf hl);clear hB hf;go_enter Tryz.func6,Tryz.ntmps6
  go_wp2_with fail
  refine hF.mono ?_;rintro e w1 ⟨rfl,b1⟩;have hcall:=HC.out w1 b1;have HPC:Hid (PdC c w1=fun e w'=>∃r1 r2,e=.returned (.tuple #[r1,r2])∧HS w1 w' [aF r1 (zAT c),aF r2 ((zAT c).map (zAZ c))]):=zWF rfl;rw [HPC.out] at hcall;clear HPC;go_wp2_with fail
  refine hcall.mono ?_;rintro e w2 ⟨r1,r2,rfl,hs⟩;have hz:=b1.size;have f3:=FC.mono (hs.F 1 rfl) (S':=New w w2) (fun b hb=>⟨Nat.le_trans hz hb.1,hb.2⟩);have b2:=zAA.step b1 hs.bl;clear hcall hs;go_wp2_with fail
  go_ret2
  rw [HRES.out];exact ⟨_,by rw [HBB.out]; rfl,by rw [HR.out]; exact f3,b2⟩
theorem zJn {S0:Nat→Prop} {u:Value} {c:List (List Int)} {w:World} (h:RII S0 w u c) (hf:FinP c) (hl:total c≤16777216) :
  Calls Tryz.prog 133 #[u,.int .i64 12] w (RuC c w):=by
 have HRES:Hid (RuC c w=fun e w'=>∃o,e=.returned o∧FII (New w w') w' o (zAT c)∧Below w.heap.size w w'):=zWF rfl;have hF:=zA1 h hl;rw [hf.isC] at hF;have HC:=zWF (fun (w1:World) (b1:Below w.heap.size w w1)=>zEY (h.below b1) hf hl);obtain ⟨au,cu,rfl⟩:=h.form;generalize c.length=n at *;clear hf;have mixed:Tryz.prog.follows .mixedOrders=true:=by kernel_rfl
 go_enter Tryz.func133,Tryz.ntmps133
 go_wp2_with fail
 refine hF.mono ?_;rintro e w1 ⟨rfl,m1,rfl⟩;have b1:Below w.heap.size w (w.drewN m1):=below_drewN (Below.refl _ w) m1;generalize w.drewN m1=w1 at *;have hcall:=HC.out w1 b1;have HPC:Hid (PdC c w1=fun e w'=>∃r1 r2,e=.returned (.tuple #[r1,r2])∧HS w1 w' [aF r1 (zAT c),aF r2 ((zAT c).map (zAZ c))]):=zWF rfl;rw [HPC.out] at hcall;clear HPC;go_wp2_with fail
 refine hcall.mono ?_;rintro e w2 ⟨r1,r2,rfl,hs⟩;have hz:=b1.size;have f3:=FC.mono (hs.F 0 rfl) (S':=New w w2) (fun b hb=>⟨Nat.le_trans hz hb.1,hb.2⟩);have b2:=zAA.step b1 hs.bl;clear hcall hs;go_wp2_with fail
 go_ret
 rw [HRES.out];exact ⟨_,rfl,f3,b2⟩
theorem zDh {S0:Nat→Prop} {u:Value} {c:List (List Int)} {w:World} (h:RII S0 w u c) (hl:total c≤16777216) :
  Calls Tryz.prog 95 #[u] w (PrC c w):=by
 have HRES:Hid (PrC c w=fun e w'=>∃r,e=.returned (.tuple #[r,.bool (finB c)])∧FII (New w w') w' r (prR c)∧Below w.heap.size w w'):=zWF rfl;have hF:=zCM h hl;have h0:=h;obtain ⟨au,cu,rfl⟩:=h.form;generalize c.length=n at *;cases hB:finB c with
 | false =>
  rw [hB] at hF;have HR:Hid (prR c=[]):=zWF (by unfold prR; rw [hB]; rfl);have HBB:=zWF hB;clear hB;go_enter Tryz.func95,Tryz.ntmps95
  go_wp2_with fail
  refine hF.mono ?_;rintro e w1 ⟨rfl,b1⟩;have hfe:=FII.empty_of b1 (w1:=w1.alloc (.cells #[] 28)) rfl;go_wp2_with fail
  go_ret2
  rw [HRES.out];exact ⟨_,by rw [HBB.out]; rfl,by rw [HR.out]; exact hfe.1,hfe.2⟩
 | true =>
  have hf:=zCB hB;rw [hB] at hF;have HR:Hid (prR c=zAT c):=zWF (by unfold prR; rw [hB]; rfl);have HBB:=zWF hB;have HC:=zWF (fun (w1:World) (b1:Below w.heap.size w w1)=>zJn (h0.below b1) hf hl);clear hB hf;go_enter Tryz.func95,Tryz.ntmps95
  go_wp2_with fail
  refine hF.mono ?_;rintro e w1 ⟨rfl,b1⟩;have hcall:=HC.out w1 b1;have HRU:Hid (RuC c w1=fun e w'=>∃o,e=.returned o∧FII (New w1 w') w' o (zAT c)∧Below w1.heap.size w1 w'):=zWF rfl;rw [HRU.out] at hcall;clear HRU;go_wp2_with fail
  refine hcall.mono ?_;rintro e w2 ⟨r,rfl,f2,b2⟩;have hz:=b1.size;have f3:=FC.mono f2 (S':=New w w2) (fun b hb=>⟨Nat.le_trans hz hb.1,hb.2⟩);clear hcall;go_wp2_with fail
  go_ret2
  rw [HRES.out];exact ⟨_,by rw [HBB.out]; rfl,by rw [HR.out]; exact f3,zAA.step b1 b2⟩
theorem zQH {A B:Nat}:∀{L:List (List Int)},L.length≤A→(∀x∈L,x.length≤B)→total L≤A*(B+1):=by
 intro L hA hB;have h1:(L.map List.length).sum≤L.length*B:=by
  clear hA
  induction L with
  | nil=>simp
  | cons x L ih =>
   have:=ih (fun y hy=>hB y (List.mem_cons_of_mem _ hy));have:=hB x (List.mem_cons_self ..);simp only [List.map_cons,List.sum_cons,List.length_cons,Nat.add_mul,Nat.one_mul];omega
 have h2:L.length*B≤A*B:=Nat.mul_le_mul_right _ hA;unfold total;rw [Nat.mul_add,Nat.mul_one];omega
theorem zCs (c:List (List Int)):total (corR c)≤1000:=by
 unfold corR;split
 ·rename_i h
  have hf:=zCB h;have h4:c.length≤4:=hf.cart.le;have h24:=zFY hf.rq hf.cart;refine Nat.le_trans (zQH (A:=24) (B:=4) (by rw [List.length_map]; exact h24) (fun x hx=>?_)) (by omega);obtain ⟨r,hr,rfl⟩:=List.mem_map.1 hx;rw [(zUG hf.rq hf.cart hr).2.1]; exact h4
 ·simp [total]
theorem zB8 {S0:Nat→Prop} {u:Value} {c:List (List Int)} {w:World} (h:RII S0 w u c) (hl:total c≤16777216) :
  Calls Tryz.prog 7 #[u] w fun e w'=>∃r,e=.returned (.tuple #[r,.bool (finB c)])∧FII (New w w') w' r (corR c)∧Below w.heap.size w w':=zFj h hl
theorem zB7 {S0:Nat→Prop} {u:Value} {c:List (List Int)} {w:World} (h:RII S0 w u c) (hl:total c≤16777216) :
  Calls Tryz.prog 6 #[u] w fun e w'=>∃r,e=.returned (.tuple #[r,.bool (finB c)])∧FII (New w w') w' r (corR c)∧Below w.heap.size w w':=zFi h hl
end Go.Proofs.YtphbichgpcicnaaGreatDoor
