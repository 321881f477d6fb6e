/- Texts as values. No condition. -/
import Derived.Test.YtlgcdacpjcnjgaaGreatDoorJGNrm
import Derived.Shelf.Strings.Builder1
import Derived.Shelf.Strings.Builder2
import Derived.Shelf.Strings.OnBuilder
import Derived.Shelf.Strings.Search1
import Derived.Shelf.Strings.Search2
import Derived.Shelf.Strings.Search3
import Derived.Shelf.Strings.Count
import Derived.Shelf.LaysM
import Derived.Shelf.Strings.Shaped
import Derived.Shelf.Strings.Split
import Derived.Test.YtlgcdacpjcnjgaaGreatDoorProg
import Derived.Lib.Join
namespace Go.Proofs.YtlgcdacpjcnjgaaGreatDoor
open Go.RowKit
set_option maxRecDepth 20000
def bs (l:List UInt8):ByteArray:=⟨l.toArray⟩
theorem zBU (a:List UInt8):(bs a).size=a.length:=by simp [bs,ByteArray.size]
theorem zDx (a b:List UInt8):bs a++bs b=bs (a++b):=by
 apply ByteArray.ext;simp [bs]
theorem zDJ (x:List UInt8):(bs x).data.toList=x:=by simp [bs]
theorem zH9 {α β:Type} (f:α→β) {l:List α} {k:Nat} {x:α} (h:l[k]? = some x):(l.take (k+1)).map f=(l.take k).map f++[f x]:=by rw [zAP h]; simp
end Go.Proofs.YtlgcdacpjcnjgaaGreatDoor
namespace Go.Proofs
open Go.Shelf
def Tryz.lays156_ren:Go.Shelf.Ren:=⟨fun | 156=>108 | 165=>160 | 166=>161 | 169=>162 | 240=>190 | 241=>191 | 276=>204 | 277=>205 | n=>n,fun | 31=>75 | 9=>9 | 3=>3 | 4=>4 | 0=>0 | 20=>20 | 72=>134 | 76=>138 | 70=>132 | 37=>22 | 75=>137 | 127=>160 | 164=>170 | 5=>5 | 80=>140 | n=>n,fun | n=>n⟩
theorem Tryz.lays156:Go.Proofs.Lays.n156 Tryz.prog Tryz.lays156_ren:={
 mixed:=by kernel_rfl
 f156:=Tryz.func108.trans (congrArg some (by kernel_rfl))
 f165:=Tryz.func160.trans (congrArg some (by kernel_rfl))
 f166:=Tryz.func161.trans (congrArg some (by kernel_rfl))
 f169:=Tryz.func162.trans (congrArg some (by kernel_rfl))
 f240:=Tryz.func190.trans (congrArg some (by kernel_rfl))
 f241:=Tryz.func191.trans (congrArg some (by kernel_rfl))
 f276:=Tryz.func204.trans (congrArg some (by kernel_rfl))
 f277:=Tryz.func205.trans (congrArg some (by kernel_rfl))
 t0:=Tryz.underlying0
 a0:=Tryz.isAgg0
 z0:=Tryz.sizeOf0
 v0:=Tryz.zeroValue0
 t3:=Tryz.underlying3
 a3:=Tryz.isAgg3
 z3:=Tryz.sizeOf3
 v3:=Tryz.zeroValue3
 t4:=Tryz.underlying4
 a4:=Tryz.isAgg4
 z4:=Tryz.sizeOf4
 v4:=Tryz.zeroValue4
 t9:=Tryz.underlying9
 a9:=Tryz.isAgg9
 z9:=Tryz.sizeOf9
 v9:=Tryz.zeroValue9
 t20:=Tryz.underlying20
 a20:=Tryz.isAgg20
 z20:=Tryz.sizeOf20
 v20:=Tryz.zeroValue20
 t31:=Tryz.underlying75
 a31:=Tryz.isAgg75
 z31:=Tryz.sizeOf75
 v31:=Tryz.zeroValue75
 t37:=Tryz.underlying22
 a37:=Tryz.isAgg22
 z37:=Tryz.sizeOf22
 v37:=Tryz.zeroValue22
 t70:=Tryz.underlying132
 a70:=Tryz.isAgg132
 z70:=Tryz.sizeOf132
 v70:=Tryz.zeroValue132
 t72:=Tryz.underlying134
 a72:=Tryz.isAgg134
 z72:=Tryz.sizeOf134
 v72:=Tryz.zeroValue134
 t75:=Tryz.underlying137
 a75:=Tryz.isAgg137
 z75:=Tryz.sizeOf137
 v75:=Tryz.zeroValue137
 t76:=Tryz.underlying138
 a76:=Tryz.isAgg138
 z76:=Tryz.sizeOf138
 v76:=Tryz.zeroValue138
 t127:=Tryz.underlying160
 a127:=Tryz.isAgg160
 z127:=Tryz.sizeOf160
 v127:=Tryz.zeroValue160
 t164:=Tryz.underlying170
 a164:=Tryz.isAgg170
 z164:=Tryz.sizeOf170
 v164:=Tryz.zeroValue170 }
theorem Tryz.Builder_Extra_156:Builder.Extra Tryz.prog Tryz.lays156_ren:={
 sizeBuilder:=by kernel_rfl
 liesBuilder:=by kernel_rfl
 t5:=Tryz.underlying5
 a5:=Tryz.isAgg5
 z5:=Tryz.sizeOf5
 v5:=Tryz.zeroValue5
 infoByte:=by kernel_rfl
 cellsByte:=by kernel_rfl
 sizeByte:=by kernel_rfl
 neB5:=by decide }
open Go.RowKit in
theorem Tryz.strings_Join_none (a:Option Addr) (c:Nat) (sep:ByteArray) (w:World) :
  Calls Tryz.prog 108 #[.slice a 0 c,.string sep] w fun e w'=>e=.returned (.string ⟨#[]⟩)∧w'=w:=Any.strings_Join_none Tryz.lays156 Tryz.Builder_Extra_156 a c sep w
open Go.RowKit in
theorem Tryz.strings_Join (bk o c:Nat) (xs:List ByteArray) (sep:ByteArray) (w:World) (hcells:∀(j:Nat) x,xs[j]? = some x→w.cell? ⟨bk,o+j,none⟩=some (.string x)) (hbk:bk<w.heap.size) (hN:xs.length≤140737488355328) (hcap:xs.length≤c) (hlen:(Lib.join (xs.map (·.data.toList)) sep.data.toList).length≤140737488355328) :
  Calls Tryz.prog 108 #[.slice (some ⟨bk,o,none⟩) xs.length c,.string sep] w fun e w'=>e=.returned (.string ⟨(Lib.join (xs.map (·.data.toList)) sep.data.toList).toArray⟩)∧Below w.heap.size w w':=Any.strings_Join Tryz.lays156 Tryz.Builder_Extra_156 bk o c xs sep w hcells hbk hN hcap hlen
def Tryz.lays146_ren:Go.Shelf.Ren:=⟨fun | 146=>103 | 221=>155 | 268=>183 | 138=>184 | 143=>185 | 195=>199 | 197=>200 | 218=>201 | 219=>202 | 260=>206 | 217=>207 | 225=>208 | 224=>209 | 267=>210 | 266=>211 | 314=>212 | n=>n,fun | 9=>9 | 31=>75 | 3=>3 | 4=>4 | 0=>0 | 105=>167 | 21=>21 | 5=>5 | 46=>83 | 119=>174 | 139=>177 | 138=>176 | 146=>178 | 51=>118 | n=>n,fun | 1=>0 | 3=>1 | 4=>2 | n=>n⟩
theorem Tryz.lays146:Go.Proofs.Lays.n146 Tryz.prog Tryz.lays146_ren:={
 mixed:=by kernel_rfl
 f138:=Tryz.func184.trans (congrArg some (by kernel_rfl))
 f143:=Tryz.func185.trans (congrArg some (by kernel_rfl))
 f146:=Tryz.func103.trans (congrArg some (by kernel_rfl))
 f195:=Tryz.func199.trans (congrArg some (by kernel_rfl))
 f197:=Tryz.func200.trans (congrArg some (by kernel_rfl))
 f217:=Tryz.func207.trans (congrArg some (by kernel_rfl))
 f218:=Tryz.func201.trans (congrArg some (by kernel_rfl))
 f219:=Tryz.func202.trans (congrArg some (by kernel_rfl))
 f221:=Tryz.func155.trans (congrArg some (by kernel_rfl))
 f224:=Tryz.func209.trans (congrArg some (by kernel_rfl))
 f225:=Tryz.func208.trans (congrArg some (by kernel_rfl))
 f260:=Tryz.func206.trans (congrArg some (by kernel_rfl))
 f266:=Tryz.func211.trans (congrArg some (by kernel_rfl))
 f267:=Tryz.func210.trans (congrArg some (by kernel_rfl))
 f268:=Tryz.func183.trans (congrArg some (by kernel_rfl))
 f314:=Tryz.func212.trans (congrArg some (by kernel_rfl))
 t0:=Tryz.underlying0
 a0:=Tryz.isAgg0
 z0:=Tryz.sizeOf0
 v0:=Tryz.zeroValue0
 t3:=Tryz.underlying3
 a3:=Tryz.isAgg3
 z3:=Tryz.sizeOf3
 v3:=Tryz.zeroValue3
 t4:=Tryz.underlying4
 a4:=Tryz.isAgg4
 z4:=Tryz.sizeOf4
 v4:=Tryz.zeroValue4
 t5:=Tryz.underlying5
 a5:=Tryz.isAgg5
 z5:=Tryz.sizeOf5
 v5:=Tryz.zeroValue5
 t9:=Tryz.underlying9
 a9:=Tryz.isAgg9
 z9:=Tryz.sizeOf9
 v9:=Tryz.zeroValue9
 t21:=Tryz.underlying21
 a21:=Tryz.isAgg21
 z21:=Tryz.sizeOf21
 v21:=Tryz.zeroValue21
 t31:=Tryz.underlying75
 a31:=Tryz.isAgg75
 z31:=Tryz.sizeOf75
 v31:=Tryz.zeroValue75
 t46:=Tryz.underlying83
 a46:=Tryz.isAgg83
 z46:=Tryz.sizeOf83
 v46:=Tryz.zeroValue83
 t51:=Tryz.underlying118
 a51:=Tryz.isAgg118
 z51:=Tryz.sizeOf118
 v51:=Tryz.zeroValue118
 t105:=Tryz.underlying167
 a105:=Tryz.isAgg167
 z105:=Tryz.sizeOf167
 v105:=Tryz.zeroValue167
 t119:=Tryz.underlying174
 a119:=Tryz.isAgg174
 z119:=Tryz.sizeOf174
 t138:=Tryz.underlying176
 a138:=Tryz.isAgg176
 z138:=Tryz.sizeOf176
 v138:=Tryz.zeroValue176
 t139:=Tryz.underlying177
 a139:=Tryz.isAgg177
 z139:=Tryz.sizeOf177
 v139:=Tryz.zeroValue177
 t146:=Tryz.underlying178
 a146:=Tryz.isAgg178
 z146:=Tryz.sizeOf178
 v146:=Tryz.zeroValue178
 g1:=by kernel_rfl
 g3:=by kernel_rfl
 g4:=by kernel_rfl }
open Go.RowKit Go.Lib in
theorem Tryz.strings_Split (s sep:ByteArray) (m:Int) (w:World) (hs:s.size<4294967281) (hm:w.cell? ⟨0,0,none⟩=some (.int .i64 m)) (h1:1≤sep.size) :
  Calls Tryz.prog 103 #[.string s,.string sep] w fun e w' =>
   e=.returned (.slice (some ⟨w.heap.size,0,none⟩) (Lib.countB s sep+1) (Lib.countB s sep+1))∧w'=w.alloc (.cells ((Lib.splitB sep 0 (Lib.countB s sep) s).map Value.string).toArray 9):=Any.strings_Split Tryz.lays146 (by kernel_rfl) s sep m w hs hm h1
end Go.Proofs
namespace Go.Proofs.YtlgcdacpjcnjgaaGreatDoor
open Go.RowKit
set_option maxRecDepth 20000
set_option maxHeartbeats 8000000
theorem zKX:(Tryz.prog.info? 9).map (fun i=>(i.zero,i.size,i.bytes))=some (some (.string ⟨#[]⟩),1,16):=by kernel_rfl
def FS (S:Nat→Prop) (w:World) (v:Value) (l:List (List UInt8)):Prop:=w.ownsRow 0 9 1 v l.length (l.map fun x=>Value.string (bs x))∧∀b,v.ownBlock=some b→S b
theorem FS.of_row {B:Nat} {w w':World} {v:Value} {l:List (List UInt8)} {n:Nat} {xs:List Value} (h:w'.ownsRow B 9 1 v n xs) (hB:w.heap.size≤B) (hn:n=l.length) (hx:xs=l.map fun x=>Value.string (bs x)):FS (New w w') w' v l:=by
 subst hn hx;exact ⟨zBp h (Nat.zero_le _),fun b hb=>by have:=h.lt b hb; exact ⟨by omega,this.2⟩⟩
theorem FS.below {S:Nat→Prop} {w w':World} {v:Value} {l:List (List UInt8)} (h:FS S w v l) (hb:Below w.heap.size w w'):FS S w' v l :=
 ⟨zAk h.1 (fun b hv=>hb.block b (h.1.lt b hv).2),h.2⟩
theorem FS.grow {W w w':World} {v:Value} {l:List (List UInt8)} (h:FS (New W w) w v l) (hb:Below w.heap.size w w'):FS (New W w') w' v l :=
 ⟨(h.below hb).1,fun b hv=>⟨(h.2 b hv).1,Nat.lt_of_lt_of_le (h.2 b hv).2 hb.size⟩⟩
theorem FS.form {S:Nat→Prop} {w:World} {v:Value} {l:List (List UInt8)} (h:FS S w v l):∃a cap,v=.slice a l.length cap:=by
 rcases h.1.2 with ⟨rfl,h0⟩ | ⟨g,cap,cur,rfl,_⟩
 ·exact ⟨none,0,by rw [h0]⟩
 ·exact ⟨_,cap,rfl⟩
theorem FS.empty {W w:World} (hb:Below W.heap.size W w):FS (New W (w.alloc (.cells #[] 9))) (w.alloc (.cells #[] 9)) (.slice (some ⟨w.heap.size,0,none⟩) 0 0) []:=by
 have:=FS.of_row (w:=w) (l:=[]) (World.ownsRow_lit (base:=w.heap.size) (e:=9) (size:=1) w #[] 0 (zTI _) (by unfold maxLen; omega) rfl) (zTI _) rfl rfl;exact ⟨this.1,fun b h=>⟨Nat.le_trans hb.size (this.2 b h).1,(this.2 b h).2⟩⟩
theorem FS.cells {S:Nat→Prop} {w:World} {g n cap:Nat} {l:List (List UInt8)} (h:FS S w (.slice (some ⟨g,0,none⟩) n cap) l) (hn:n=l.length):∀(j:Nat) x,(l.map bs)[j]? = some x→w.cell? ⟨g,0+j,none⟩=some (.string x):=by
 intro j x hj;subst hn;rw [List.getElem?_map] at hj;obtain ⟨y,hy,rfl⟩:=Option.map_eq_some_iff.1 hj;have hl:j<l.length:=(zTG hy).1;have:=h.1.cellAt j (by omega);rw [Nat.zero_add,this,List.getElem?_map,hy];rfl
section
variable {w:World} {ops:Array Oper} {rest:List Oper} {o:Oper} {a:Act} {Q:Exit→Act→World→Prop}
theorem zNn {W:World} {K:Act→World→Prop} (s x:Operand)
  (ho:o.op=.call { callee:=.builtin .append,args:=#[s,x],argTypes:=#[75,75] })
  {v:Value} {l:List (List UInt8)} {y:List UInt8} (hs:a.eval s=v) (hf:FS (New W w) w v l) (hb:Below W.heap.size W w)
  {H:Nat} (hx:a.eval x=.slice (some ⟨H,0,none⟩) 1 1) (hc:w.cell? ⟨H,0,none⟩=some (.string (bs y))) (hlen:l.length+1≤67108864)
  (h:∀v' w',FS (New W w') w' v' (l++[y])→Below W.heap.size W w'→w.grownBy w' v.ownBlock→K (a.put o.dst v') w'):o.wp Tryz.prog a w K Q:=by
 obtain ⟨i0,hi,hz0,hz1,hz2⟩:=info_parts zKX;obtain ⟨hown,hS⟩:=hf;have hown':w.ownsRow W.heap.size 9 1 v l.length (l.map fun x=>Value.string (bs x)):=by
  refine ⟨hown.1,?_⟩;rcases hown.2 with h | ⟨g,cap,cur,hv,_,r⟩
  ·exact .inl h
  ·exact .inr ⟨g,cap,cur,hv,(hS g (by rw [hv]; rfl)).1,r⟩
 refine wp_append_own w s x 75 ho W.heap.size 9 i0 (.string ⟨#[]⟩) 1 16 Tryz.underlying75 hi hz0 hz1 hz2 rfl (by decide) v l.length (l.map fun x=>Value.string (bs x)) hs hown' ⟨H,0,none⟩ 1 1 [.string (bs y)] hx rfl ?_ ?_ ?_ ?_ hb.size ?_
 ·intro j u hj
  match j,hj with
  | 0,hj=>simp at hj; subst hj; simpa [Addr.add] using hc
 ·intro u hu; simp at hu; subst hu; rfl
 ·unfold maxLen; omega
 ·omega
 ·intro v' w' h1 h2 _;exact h v' w' (FS.of_row h1 (zTI _) (by simp) (by simp)) (hb.grown h2 hb.size (fun k hk=>(hS k hk).1)) h2
theorem zEg {W:World} (hgd:o.guard=none) (s x:Operand)
  (ho:o.op=.call { callee:=.builtin .append,args:=#[s,x],argTypes:=#[75,75] })
  {v:Value} {l:List (List UInt8)} {y:List UInt8} (hs:a.eval s=v) (hf:FS (New W w) w v l) (hb:Below W.heap.size W w)
  {H:Nat} (hx:a.eval x=.slice (some ⟨H,0,none⟩) 1 1) (hc:w.cell? ⟨H,0,none⟩=some (.string (bs y))) (hlen:l.length+1≤67108864)
  (h:∀v' w',FS (New W w') w' v' (l++[y])→Below W.heap.size W w'→w.grownBy w' v.ownBlock→wpList Tryz.prog ops Q rest (a.put o.dst v') w'):wpList Tryz.prog ops Q (o::rest) a w :=
 wpList_plain hgd fun _ hK=>zNn s x ho hs hf hb hx hc hlen fun v' w' h1 h2 h3=>hK _ _ (h v' w' h1 h2 h3)
end
abbrev jn (sep:List UInt8) (xs:List (List UInt8)):List UInt8:=Lib.join xs sep
theorem zST (sep:List UInt8) (m:Nat):∀xs:List (List UInt8),(∀x∈xs,x.length≤m)→(jn sep xs).length≤xs.length*(m+sep.length)
 | [],_=>by simp [jn,Lib.join_nil]
 | x::r,h=>by
  have h1:=h x (by simp);have h2:((r.map (sep ++ ·)).flatten).length≤r.length*(m+sep.length):=by
   clear h1
   induction r with
   | nil=>simp
   | cons y r ih =>
    have h3:=h y (by simp);have:=ih (fun z hz=>h z (by rcases List.mem_cons.1 hz with rfl | hz <;> simp [*]));simp only [List.map_cons,List.flatten_cons,List.length_append,List.length_cons] at this ⊢;rw [Nat.add_mul];omega
  simp only [jn,Lib.join_cons,Lib.joinTail,List.length_append,List.length_cons];rw [Nat.add_mul];omega
theorem zMc {S:Nat→Prop} {w:World} {v:Value} {xs:List (List UInt8)} {sp:List UInt8} (h:FS S w v xs) (hl:xs.length≤1048576) (hm:∀x∈xs,x.length≤67108864) (hs:sp.length≤64) :
  Calls Tryz.prog 108 #[v,.string (bs sp)] w fun e w'=>e=.returned (.string (bs (jn sp xs)))∧Below w.heap.size w w':=by
 rcases h.1.2 with ⟨rfl,h0⟩ | ⟨g,cap,cur,rfl,_,hg,hnc,hcm,_⟩
 ·have:xs=[]:=List.eq_nil_of_length_eq_zero h0;subst this;refine (Tryz.strings_Join_none none 0 (bs sp) w).mono ?_;rintro e w' ⟨rfl,rfl⟩;exact ⟨rfl,Below.refl _ _⟩
 ·have hlen:=zST sp 67108864 xs hm;have hmul:xs.length*(67108864+sp.length)≤1048576*67108928:=Nat.mul_le_mul hl (by omega);have e1:(xs.map bs).map (fun x=>x.data.toList)=xs:=by
   rw [List.map_map]
   conv=>rhs; rw [<-List.map_id xs]
   exact List.map_congr_left (fun x _=>zDJ x)
  have hc:=Tryz.strings_Join g 0 cap (xs.map bs) (bs sp) w (h.cells rfl) (Array.getElem?_eq_some_iff.1 hg).1 (by simp; omega) (by simpa using hnc) (by rw [e1,zDJ]; have:(Lib.join xs sp).length≤_:=hlen; omega);rw [e1,zDJ,List.length_map] at hc;exact hc
end Go.Proofs.YtlgcdacpjcnjgaaGreatDoor
