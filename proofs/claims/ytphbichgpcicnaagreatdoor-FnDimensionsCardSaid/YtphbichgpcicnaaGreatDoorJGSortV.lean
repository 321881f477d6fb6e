/-
 DERIVED: THE SHELF's CONTRACTS AT THIS DUMP, IN PLAIN WORDS (tools/lay-plain.mjs out of 'TryShelf.lean', which tools/lay-shelf.mjs wrote): THE SAME DECLARATIONS UNDER THE SAME NAMES: 'import', 'namespace', 'open', 'def', 'theorem' AND NOTHING ELSE: no command of the shelf's: FOR A HAND-IN. Each laying: the table of numbers ('.._ren') and one theorem, a field a fact of the dump's own or the kernel's comparison; each contract: ONE APPLICATION.
-/
import Derived.Shelf.Small.Bits
import Derived.Shelf.Sort.Plain
import Derived.Shelf.Slices.Reverse
import Derived.Ground.Names2Prog
import Derived.Shelf.Slices.SearchI
import Derived.Shelf.Slices.Cells
import Derived.Shelf.Slices.In.SortNone
import Derived.Ground.SlsfProg
import Derived.Shelf.SlSortCmp.Insertion
import Derived.Shelf.SlSortCmp.SiftDown1
import Derived.Shelf.SlSortCmp.HeapSort1
import Derived.Shelf.SlSortCmp.Insertion1
import Derived.Shelf.SlSortCmp.Median1
import Derived.Shelf.SlSortCmp.Pivot1
import Derived.Shelf.SlSortCmp.ReverseRange1
import Derived.Shelf.SlSortCmp.PartialInsertion1
import Derived.Shelf.SlSortCmp.PartitionEqual1
import Derived.Shelf.SlSortCmp.Partition1
import Derived.Shelf.SlSortCmp.Pdq1
import Derived.Shelf.SlSortCmp.Whole1
import Derived.Shelf.SlSortCmp.NoneTotal
import Derived.Test.YtphbichgpcicnaaGreatDoorProg
import Derived.Sort.Grow
import Derived.Test.YtphbichgpcicnaaGreatDoorJGPart
import Derived.Test.YtphbichgpcicnaaGreatDoorJGHeap
namespace Go.Proofs
open Go.Shelf
def Tryz.lays189_ren:Go.Shelf.Ren:=⟨fun | 189=>79 | 125=>114 | 257=>117 | 128=>155 | 129=>156 | 294=>157 | 295=>158 | 296=>159 | 297=>160 | 298=>161 | 299=>162 | 216=>163 | 300=>164 | 301=>165 | 328=>189 | 329=>185 | 330=>186 | 331=>190 | 332=>191 | 215=>136 | 343=>204 | n=>n,fun | 28=>28 | 3=>3 | 46=>102 | 0=>0 | 51=>131 | 53=>133 | 4=>4 | 183=>125 | 182=>124 | 131=>41 | 5=>5 | 9=>9 | 218=>147 | 222=>151 | 228=>168 | 229=>169 | n=>n,fun | n=>n⟩
theorem Tryz.lays189:Go.Proofs.Lays.n189 Tryz.prog Tryz.lays189_ren:={
 mixed:=by kernel_rfl
 f125:=Tryz.func114.trans (congrArg some (by kernel_rfl))
 f128:=Tryz.func155.trans (congrArg some (by kernel_rfl))
 f129:=Tryz.func156.trans (congrArg some (by kernel_rfl))
 f189:=Tryz.func79.trans (congrArg some (by kernel_rfl))
 f215:=Tryz.func136.trans (congrArg some (by kernel_rfl))
 f216:=Tryz.func163.trans (congrArg some (by kernel_rfl))
 f257:=Tryz.func117.trans (congrArg some (by kernel_rfl))
 f294:=Tryz.func157.trans (congrArg some (by kernel_rfl))
 f295:=Tryz.func158.trans (congrArg some (by kernel_rfl))
 f296:=Tryz.func159.trans (congrArg some (by kernel_rfl))
 f297:=Tryz.func160.trans (congrArg some (by kernel_rfl))
 f298:=Tryz.func161.trans (congrArg some (by kernel_rfl))
 f299:=Tryz.func162.trans (congrArg some (by kernel_rfl))
 f300:=Tryz.func164.trans (congrArg some (by kernel_rfl))
 f301:=Tryz.func165.trans (congrArg some (by kernel_rfl))
 f328:=Tryz.func189.trans (congrArg some (by kernel_rfl))
 f329:=Tryz.func185.trans (congrArg some (by kernel_rfl))
 f330:=Tryz.func186.trans (congrArg some (by kernel_rfl))
 f331:=Tryz.func190.trans (congrArg some (by kernel_rfl))
 f332:=Tryz.func191.trans (congrArg some (by kernel_rfl))
 f343:=Tryz.func204.trans (congrArg some (by kernel_rfl))
 t0:=Tryz.underlying0
 a0:=Tryz.isAgg0
 z0:=Tryz.sizeOf0
 v0:=Tryz.zeroValue0
 t3:=Tryz.underlying3
 a3:=Tryz.isAgg3
 z3:=Tryz.sizeOf3
 v3:=Tryz.zeroValue3
 t4:=Tryz.underlying4
 a4:=Tryz.isAgg4
 z4:=Tryz.sizeOf4
 v4:=Tryz.zeroValue4
 t5:=Tryz.underlying5
 a5:=Tryz.isAgg5
 z5:=Tryz.sizeOf5
 v5:=Tryz.zeroValue5
 t9:=Tryz.underlying9
 a9:=Tryz.isAgg9
 z9:=Tryz.sizeOf9
 v9:=Tryz.zeroValue9
 t28:=Tryz.underlying28
 a28:=Tryz.isAgg28
 z28:=Tryz.sizeOf28
 v28:=Tryz.zeroValue28
 t46:=Tryz.underlying102
 a46:=Tryz.isAgg102
 z46:=Tryz.sizeOf102
 v46:=Tryz.zeroValue102
 t51:=Tryz.underlying131
 a51:=Tryz.isAgg131
 z51:=Tryz.sizeOf131
 v51:=Tryz.zeroValue131
 t53:=Tryz.underlying133
 a53:=Tryz.isAgg133
 z53:=Tryz.sizeOf133
 v53:=Tryz.zeroValue133
 t131:=Tryz.underlying41
 a131:=Tryz.isAgg41
 z131:=Tryz.sizeOf41
 v131:=Tryz.zeroValue41
 t182:=Tryz.underlying124
 a182:=Tryz.isAgg124
 z182:=Tryz.sizeOf124
 v182:=Tryz.zeroValue124
 t183:=Tryz.underlying125
 a183:=Tryz.isAgg125
 z183:=Tryz.sizeOf125
 v183:=Tryz.zeroValue125
 t218:=Tryz.underlying147
 a218:=Tryz.isAgg147
 z218:=Tryz.sizeOf147
 v218:=Tryz.zeroValue147
 t222:=Tryz.underlying151
 a222:=Tryz.isAgg151
 z222:=Tryz.sizeOf151
 v222:=Tryz.zeroValue151
 t228:=Tryz.underlying168
 a228:=Tryz.isAgg168
 z228:=Tryz.sizeOf168
 v228:=Tryz.zeroValue168
 t229:=Tryz.underlying169
 a229:=Tryz.isAgg169
 z229:=Tryz.sizeOf169
 v229:=Tryz.zeroValue169 }
open Go.Sort Go.RowKit in
theorem Tryz.slices_Sort_int (blk off cap:Nat) (zs:List Int) (w:World) (hH:Holds (Value.int .i64) w blk off zs.toArray) (hblk:blk<w.heap.size) (hsz:zs.length<4611686018427387904) :
  Calls Tryz.prog 79 #[.slice (some ⟨blk,off,none⟩) zs.length cap] w fun e w' =>
   e=.returned (.tuple #[])∧∃n os,w'=grow (putRow (Value.int .i64) (Sort.ahead w n) blk off (zs.mergeSort fun x y=>decide (x≤y)).toArray) os:=Any.slices_Sort_int Tryz.lays189 blk off cap zs w hH hblk hsz
open Go.RowKit Go.Sort in
theorem Tryz.slices_Sort_int_none (p:Option Addr) (cap:Nat) (w:World) :
  Calls Tryz.prog 79 #[.slice p 0 cap] w fun e w'=>e=.returned (.tuple #[])∧w'=w:=Any.slices_Sort_int_none Tryz.lays189 p cap w
def Tryz.laysSlF6_f70_ren:Go.Shelf.Ren:=⟨fun | 6=>92 | 15=>114 | 14=>130 | 28=>155 | 29=>156 | 20=>170 | 21=>171 | 22=>172 | 23=>173 | 24=>174 | 25=>175 | 26=>176 | 27=>177 | 46=>192 | 47=>185 | 48=>186 | 49=>193 | 50=>194 | 57=>205 | n=>n,fun | 22=>24 | 24=>28 | 25=>33 | 3=>3 | 39=>102 | 0=>0 | 53=>131 | 55=>133 | 4=>4 | 46=>125 | 45=>124 | 50=>41 | 5=>5 | 9=>9 | 66=>147 | 70=>151 | 76=>168 | 77=>169 | n=>n,fun | n=>n⟩
theorem Tryz.laysSlF6_f70:Go.Proofs.SlLaysF.n6 Tryz.prog Tryz.laysSlF6_f70_ren:={
 mixed:=by kernel_rfl
 f6:=⟨Tryz.f92.name,by decide,Tryz.func92.trans (congrArg some (by kernel_rfl))⟩
 f14:=⟨Tryz.f130.name,by decide,Tryz.func130.trans (congrArg some (by kernel_rfl))⟩
 f15:=Tryz.func114.trans (congrArg some (by kernel_rfl))
 f20:=⟨Tryz.f170.name,by decide,Tryz.func170.trans (congrArg some (by kernel_rfl))⟩
 f21:=⟨Tryz.f171.name,by decide,Tryz.func171.trans (congrArg some (by kernel_rfl))⟩
 f22:=⟨Tryz.f172.name,by decide,Tryz.func172.trans (congrArg some (by kernel_rfl))⟩
 f23:=⟨Tryz.f173.name,by decide,Tryz.func173.trans (congrArg some (by kernel_rfl))⟩
 f24:=⟨Tryz.f174.name,by decide,Tryz.func174.trans (congrArg some (by kernel_rfl))⟩
 f25:=⟨Tryz.f175.name,by decide,Tryz.func175.trans (congrArg some (by kernel_rfl))⟩
 f26:=⟨Tryz.f176.name,by decide,Tryz.func176.trans (congrArg some (by kernel_rfl))⟩
 f27:=⟨Tryz.f177.name,by decide,Tryz.func177.trans (congrArg some (by kernel_rfl))⟩
 f28:=Tryz.func155.trans (congrArg some (by kernel_rfl))
 f29:=Tryz.func156.trans (congrArg some (by kernel_rfl))
 f46:=⟨Tryz.f192.name,by decide,Tryz.func192.trans (congrArg some (by kernel_rfl))⟩
 f47:=Tryz.func185.trans (congrArg some (by kernel_rfl))
 f48:=Tryz.func186.trans (congrArg some (by kernel_rfl))
 f49:=⟨Tryz.f193.name,by decide,Tryz.func193.trans (congrArg some (by kernel_rfl))⟩
 f50:=⟨Tryz.f194.name,by decide,Tryz.func194.trans (congrArg some (by kernel_rfl))⟩
 f57:=⟨Tryz.f205.name,by decide,Tryz.func205.trans (congrArg some (by kernel_rfl))⟩
 t0:=Tryz.underlying0
 a0:=Tryz.isAgg0
 z0:=Tryz.sizeOf0
 v0:=Tryz.zeroValue0
 t3:=Tryz.underlying3
 a3:=Tryz.isAgg3
 z3:=Tryz.sizeOf3
 v3:=Tryz.zeroValue3
 t4:=Tryz.underlying4
 a4:=Tryz.isAgg4
 z4:=Tryz.sizeOf4
 v4:=Tryz.zeroValue4
 t5:=Tryz.underlying5
 a5:=Tryz.isAgg5
 z5:=Tryz.sizeOf5
 v5:=Tryz.zeroValue5
 t9:=Tryz.underlying9
 a9:=Tryz.isAgg9
 z9:=Tryz.sizeOf9
 v9:=Tryz.zeroValue9
 t22:=Tryz.underlying24
 a22:=Tryz.isAgg24
 z22:=Tryz.sizeOf24
 v22:=Tryz.zeroValue24
 a24:=Tryz.isAgg28
 z24:=Tryz.sizeOf28
 t25:=Tryz.underlying33
 a25:=Tryz.isAgg33
 z25:=Tryz.sizeOf33
 v25:=Tryz.zeroValue33
 t39:=Tryz.underlying102
 a39:=Tryz.isAgg102
 z39:=Tryz.sizeOf102
 v39:=Tryz.zeroValue102
 t45:=Tryz.underlying124
 a45:=Tryz.isAgg124
 z45:=Tryz.sizeOf124
 v45:=Tryz.zeroValue124
 t46:=Tryz.underlying125
 a46:=Tryz.isAgg125
 z46:=Tryz.sizeOf125
 v46:=Tryz.zeroValue125
 t50:=Tryz.underlying41
 a50:=Tryz.isAgg41
 z50:=Tryz.sizeOf41
 v50:=Tryz.zeroValue41
 t53:=Tryz.underlying131
 a53:=Tryz.isAgg131
 z53:=Tryz.sizeOf131
 v53:=Tryz.zeroValue131
 t55:=Tryz.underlying133
 a55:=Tryz.isAgg133
 z55:=Tryz.sizeOf133
 v55:=Tryz.zeroValue133
 t66:=Tryz.underlying147
 a66:=Tryz.isAgg147
 z66:=Tryz.sizeOf147
 v66:=Tryz.zeroValue147
 t70:=Tryz.underlying151
 a70:=Tryz.isAgg151
 z70:=Tryz.sizeOf151
 v70:=Tryz.zeroValue151
 t76:=Tryz.underlying168
 a76:=Tryz.isAgg168
 z76:=Tryz.sizeOf168
 v76:=Tryz.zeroValue168
 t77:=Tryz.underlying169
 a77:=Tryz.isAgg169
 z77:=Tryz.sizeOf169
 v77:=Tryz.zeroValue169 }
open Go.RowKit Go.Lib Go.Sort in
theorem Tryz.slices_SortFunc {α:Type} [Inhabited α] (enc:α→Value) (h1:OneCell enc) (cf:α→α→Int) (hO:SWO (ltOf cf)) (g:Nat) (cb:Array Value) (blk off cap:Nat) (d:Array α) (w:World) (eg:∀args w,(callFunc g args).run Tryz.prog w=.ok (.enter g args) w) (hcmp:CmpLays1 Tryz.prog g cb enc cf blk off d.size w) (hH:Holds enc w blk off d) (hblk:blk<w.heap.size) (hsz:d.size<4611686018427387904) :
  Calls Tryz.prog 92 #[.slice (some ⟨blk,off,none⟩) d.size cap,.func (.func g) #[] cb] w fun e w' =>
   e=.returned (.tuple #[])∧∃d' n os,PermIn 0 d.size d d'∧SortedIn (ltOf cf) 0 d.size d'∧w'=sortWorld enc w blk off n d' os:=Any.slices_SortFunc Tryz.laysSlF6_f70 enc h1 cf hO g cb blk off cap d w eg hcmp hH hblk hsz
def Tryz.laysSlF06_f70_ren:Go.Shelf.Ren:=⟨fun | 6=>92 | 15=>114 | 14=>130 | 28=>155 | 29=>156 | 20=>170 | 21=>171 | 22=>172 | 23=>173 | 24=>174 | 25=>175 | 26=>176 | 27=>177 | 46=>192 | 47=>185 | 48=>186 | 49=>193 | 50=>194 | 57=>205 | n=>n,fun | 22=>24 | 24=>28 | 25=>33 | 3=>3 | 39=>102 | 0=>0 | 53=>131 | 55=>133 | 4=>4 | 46=>125 | 45=>124 | 50=>41 | 5=>5 | 9=>9 | 66=>147 | 70=>151 | 76=>168 | 77=>169 | n=>n,fun | n=>n⟩
theorem Tryz.laysSlF06_f70:Go.Proofs.SlLaysF0.n6 Tryz.prog Tryz.laysSlF06_f70_ren:={
 mixed:=by kernel_rfl
 f6:=⟨Tryz.f92.name,by decide,Tryz.func92.trans (congrArg some (by kernel_rfl))⟩
 f14:=⟨Tryz.f130.name,by decide,Tryz.func130.trans (congrArg some (by kernel_rfl))⟩
 f15:=Tryz.func114.trans (congrArg some (by kernel_rfl))
 f20:=⟨Tryz.f170.name,by decide,Tryz.func170.trans (congrArg some (by kernel_rfl))⟩
 f21:=⟨Tryz.f171.name,by decide,Tryz.func171.trans (congrArg some (by kernel_rfl))⟩
 f22:=⟨Tryz.f172.name,by decide,Tryz.func172.trans (congrArg some (by kernel_rfl))⟩
 f23:=⟨Tryz.f173.name,by decide,Tryz.func173.trans (congrArg some (by kernel_rfl))⟩
 f24:=⟨Tryz.f174.name,by decide,Tryz.func174.trans (congrArg some (by kernel_rfl))⟩
 f25:=⟨Tryz.f175.name,by decide,Tryz.func175.trans (congrArg some (by kernel_rfl))⟩
 f26:=⟨Tryz.f176.name,by decide,Tryz.func176.trans (congrArg some (by kernel_rfl))⟩
 f27:=⟨Tryz.f177.name,by decide,Tryz.func177.trans (congrArg some (by kernel_rfl))⟩
 f28:=Tryz.func155.trans (congrArg some (by kernel_rfl))
 f29:=Tryz.func156.trans (congrArg some (by kernel_rfl))
 f46:=⟨Tryz.f192.name,by decide,Tryz.func192.trans (congrArg some (by kernel_rfl))⟩
 f47:=Tryz.func185.trans (congrArg some (by kernel_rfl))
 f48:=Tryz.func186.trans (congrArg some (by kernel_rfl))
 f49:=⟨Tryz.f193.name,by decide,Tryz.func193.trans (congrArg some (by kernel_rfl))⟩
 f50:=⟨Tryz.f194.name,by decide,Tryz.func194.trans (congrArg some (by kernel_rfl))⟩
 f57:=⟨Tryz.f205.name,by decide,Tryz.func205.trans (congrArg some (by kernel_rfl))⟩
 t0:=Tryz.underlying0
 a0:=Tryz.isAgg0
 z0:=Tryz.sizeOf0
 v0:=Tryz.zeroValue0
 t3:=Tryz.underlying3
 a3:=Tryz.isAgg3
 z3:=Tryz.sizeOf3
 v3:=Tryz.zeroValue3
 t4:=Tryz.underlying4
 a4:=Tryz.isAgg4
 z4:=Tryz.sizeOf4
 v4:=Tryz.zeroValue4
 t5:=Tryz.underlying5
 a5:=Tryz.isAgg5
 z5:=Tryz.sizeOf5
 v5:=Tryz.zeroValue5
 t9:=Tryz.underlying9
 a9:=Tryz.isAgg9
 z9:=Tryz.sizeOf9
 v9:=Tryz.zeroValue9
 t22:=Tryz.underlying24
 a22:=Tryz.isAgg24
 z22:=Tryz.sizeOf24
 v22:=Tryz.zeroValue24
 t25:=Tryz.underlying33
 a25:=Tryz.isAgg33
 z25:=Tryz.sizeOf33
 v25:=Tryz.zeroValue33
 t39:=Tryz.underlying102
 a39:=Tryz.isAgg102
 z39:=Tryz.sizeOf102
 v39:=Tryz.zeroValue102
 t45:=Tryz.underlying124
 a45:=Tryz.isAgg124
 z45:=Tryz.sizeOf124
 v45:=Tryz.zeroValue124
 t46:=Tryz.underlying125
 a46:=Tryz.isAgg125
 z46:=Tryz.sizeOf125
 v46:=Tryz.zeroValue125
 t50:=Tryz.underlying41
 a50:=Tryz.isAgg41
 z50:=Tryz.sizeOf41
 v50:=Tryz.zeroValue41
 t53:=Tryz.underlying131
 a53:=Tryz.isAgg131
 z53:=Tryz.sizeOf131
 v53:=Tryz.zeroValue131
 t55:=Tryz.underlying133
 a55:=Tryz.isAgg133
 z55:=Tryz.sizeOf133
 v55:=Tryz.zeroValue133
 t66:=Tryz.underlying147
 a66:=Tryz.isAgg147
 z66:=Tryz.sizeOf147
 v66:=Tryz.zeroValue147
 t70:=Tryz.underlying151
 a70:=Tryz.isAgg151
 z70:=Tryz.sizeOf151
 v70:=Tryz.zeroValue151
 t76:=Tryz.underlying168
 a76:=Tryz.isAgg168
 z76:=Tryz.sizeOf168
 v76:=Tryz.zeroValue168
 t77:=Tryz.underlying169
 a77:=Tryz.isAgg169
 z77:=Tryz.sizeOf169
 v77:=Tryz.zeroValue169 }
open Go.RowKit Go.Lib Go.Sort in
theorem Tryz.slices_SortFunc_none {α:Type} [Inhabited α] (p:Option Addr) (cap:Nat) (fv:Value) (w:World) :
  Calls Tryz.prog 92 #[.slice p 0 cap,fv] w fun e w'=>e=.returned (.tuple #[])∧w'=w:=AnyF.slices_SortFunc_none Tryz.laysSlF06_f70 p cap fv w
end Go.Proofs
namespace Go.Proofs.YtphbichgpcicnaaGreatDoor
open Go.RowKit Go.Sort
set_option maxRecDepth 20000
section
variable {α:Type} [Inhabited α] {enc:α→Value}
theorem zF0 {w:World} {g:Nat} {cur:Array Value} {e:TypeId} {ss:List α} (hb:w.heap[g]? = some (.cells cur e (0,0))) (ht:cur.toList.take ss.length=ss.map enc):Holds enc w g 0 ss.toArray:=by
 intro j hj;have hj':j<ss.length:=by simpa using hj
 refine ⟨?_,by simp [World.frozen?,hb]⟩;have h1:(cur.toList.take ss.length)[j]? = (ss.map enc)[j]?:=by rw [ht]
 rw [List.getElem?_take_of_lt hj'] at h1;simp only [World.cell?,hb,Nat.zero_add];simp only [Option.isSome_none,Bool.false_eq_true,if_false];rw [<-Array.getElem?_toList,h1];simp [hj']
theorem zKT {w:World} {g n:Nat} {os:Array Obj} {cur:Array Value} {e:TypeId} {fr:Nat × Nat} (d:Array α) (hb:w.heap[g]? = some (.cells cur e fr)) :
  (grow (putRow enc (Sort.ahead w n) g 0 d) os).heap[g]? = some (.cells (putCells enc 0 d cur) e fr):=by
 have hg:g<w.heap.size:=(Array.getElem?_eq_some_iff.1 hb).1;rw [heap_grow_old _ _ (by simpa using hg)];simp [putRow,mapBlock,Sort.ahead,Array.getElem?_modify,hb,onCells]
theorem zDQ {w:World} {g n:Nat} {os:Array Obj} (d:Array α):w.grownBy (grow (putRow enc (Sort.ahead w n) g 0 d) os) (some g):=by
 refine ⟨rfl,rfl,rfl,by simp,fun k hk hne=>?_⟩;rw [heap_grow_old _ _ (by simpa using hk)];have:g≠k:=fun e=>hne (by rw [e]);simp [putRow,mapBlock,Sort.ahead,Array.getElem?_modify,this]
theorem zLY (cur:Array Value) (ts:List α) (h:ts.length≤cur.size):(putCells enc 0 ts.toArray cur).toList.take ts.length=ts.map enc:=by
 apply List.ext_getElem?;intro j;by_cases hj:j<ts.length
 ·rw [List.getElem?_take_of_lt hj,Array.getElem?_toList];simp [putCells,hj,show j<cur.size by omega]
 ·rw [List.getElem?_take_eq_none (by omega),List.getElem?_eq_none (by simp; omega)]
theorem zKw {w:World} {base g cap n:Nat} {e:TypeId} {os:Array Obj} {cur:Array Value} {ss ts:List α} (hl:ts.length=ss.length) (hbase:base≤g) (hb:w.heap[g]? = some (.cells cur e (0,0)))
  (h1:ss.length≤cap) (h2:cap≤maxLen) (h3:cur.size=cap*1) :
  (grow (putRow enc (Sort.ahead w n) g 0 ts.toArray) os).ownsRow base e 1 (.slice (some ⟨g,0,none⟩) ss.length cap) ss.length (ts.map enc) :=
 ⟨by simp [hl],.inr ⟨g,cap,_,rfl,hbase,zKT _ hb,h1,h2,by simp [putCells,h3],by rw [Nat.mul_one,<-hl]; exact zLY cur ts (by omega)⟩⟩
end
def srtI (l:List Int):List Int:=l.mergeSort fun x y=>decide (x≤y)
theorem zR4 {S:Nat→Prop} {v:Value} {l:List Int} {w:World} (h:FI S w v l) (hl:l.length≤16777216) :
  Calls Tryz.prog 79 #[v] w fun e w'=>e=.returned (.tuple #[])∧FI S w' v (srtI l)∧w.grownBy w' v.ownBlock:=by
 obtain ⟨h1,h2⟩:=h;rcases h1.2 with ⟨rfl,h0⟩ | ⟨g,cap,cur,rfl,hbase,hb,e1,e2,e3,e4⟩
 ·have hnil:l=[]:=List.length_eq_zero_iff.1 h0;subst hnil;exact (Tryz.slices_Sort_int_none none 0 w).mono fun e w' ⟨he,hw⟩=>by
   subst hw;exact ⟨he,⟨by simpa [srtI] using h1,h2⟩,World.grownBy.refl _ _⟩
 ·have hH:Holds (Value.int .i64) w g 0 l.toArray:=zF0 hb (by simpa using e4);have hgl:g<w.heap.size:=(Array.getElem?_eq_some_iff.1 hb).1;refine (Tryz.slices_Sort_int g 0 cap l w hH hgl (by omega)).mono ?_;rintro e w' ⟨rfl,n,os,rfl⟩;refine ⟨rfl,⟨?_,h2⟩,zDQ _⟩;have:=zKw (enc:=Value.int .i64) (n:=n) (os:=os) (ts:=srtI l) (ss:=l) (by simp [srtI]) hbase hb e1 e2 e3;simpa [srtI] using this
theorem zUP (p:List Nat):srtI (iL p)=iL (srtN p):=by
 have h1:(srtI (iL p)).Perm (iL p):=List.mergeSort_perm _ _;have h2:(iL (srtN p)).Perm (iL p):=(zJU p).map _;have s1:(srtI (iL p)).Pairwise (·≤·):=by
  have:=List.pairwise_mergeSort (le:=fun x y:Int=>decide (x≤y)) (fun a b c h1 h2=>by simp at *; omega) (fun a b=>by simp; omega) (iL p);exact this.imp (by simp)
 have s2:(iL (srtN p)).Pairwise (·≤·):=by
  unfold iL;rw [List.pairwise_map];exact (zLR p).imp (fun h=>by omega)
 exact List.Perm.eq_of_pairwise (fun a b _ _ h1 h2=>by omega) s1 s2 (h1.trans h2.symm)
end Go.Proofs.YtphbichgpcicnaaGreatDoor
namespace Go.Proofs.YtphbichgpcicnaaGreatDoor
open Go.RowKit Go.Sort
set_option maxRecDepth 20000
set_option maxHeartbeats 8000000
theorem zFr {S S':Nat→Prop} {u v:Value} {l l':List Int} {w:World} (h:RI S w u l) (h':RI S' w v l') (hl:l.length≤16777216) (hl':l'.length≤16777216) :
  Calls Tryz.prog 93 #[u,v] w fun e w'=>e=.returned (.int .i64 (lexC l' l))∧w=w':=by
 have hc:=zFe h' h hl' hl;go_enter Tryz.func93,Tryz.ntmps93
 go_wp2_with fail
 refine hc.mono ?_;rintro e w' ⟨rfl,rfl⟩;go_wp2_with fail
 go_ret
 exact ⟨rfl,rfl⟩
theorem zVk {α:Type} {f:α→List Int} {n:Nat} (hn:∀x,(f x).length=n):SWO (ltOf fun x y=>lexC (f y) (f x)):=by
 have e:∀x y,ltOf (fun x y=>lexC (f y) (f x)) x y=gtL (f x) (f y):=fun x y=>by
  unfold ltOf;rw [Bool.eq_iff_iff,decide_eq_true_iff];exact (zGd (by rw [hn,hn])).symm
 refine ⟨fun x=>by rw [e]; exact zCk _,fun x y z h1 h2=>?_,fun x y z h1 h2=>?_⟩
 ·rw [e] at *; exact zCK h1 h2
 ·rw [e] at *;cases h3:gtL (f x) (f z) with
  | false=>rfl
  | true =>
   exfalso;by_cases h4:f x=f y
   ·rw [h4] at h3; rw [h3] at h2; cases h2
   ·by_cases h5:f y=f z
    ·rw [h5] at h1; rw [h1] at h3; cases h3
    ·rcases zCl (by rw [hn,hn]) h4 with h6 | h6
     ·rw [h6] at h1; cases h1
     ·rcases zCl (by rw [hn,hn]) h5 with h7 | h7
      ·rw [h7] at h2; cases h2
      ·have:=zCK (zCK h7 h6) h3;rw [zCk] at this; cases this
theorem zP1 {v:Value} {Z:Zl} {w:World} {n:Nat} (hown:w.ownsRow 0 28 1 v Z.length (Z.map Prod.fst)) (hr:∀z∈Z,RI (fun b=>v.ownBlock≠some b) w z.1 z.2) (hn:∀z∈Z,z.2.length=n) (hn0:n≤16777216) (hl:Z.length≤67108864) :
  Calls Tryz.prog 92 #[v,.func (.func 93) #[] #[]] w fun e w'=>e=.returned (.tuple #[]) ∧
   ∃Z':Zl,Z'.Perm Z∧(Z'.map Prod.snd).Pairwise (fun a b=>¬lexC a b<0)∧w'.ownsRow 0 28 1 v Z.length (Z'.map Prod.fst)∧w.grownBy w' v.ownBlock:=by
 rcases hown.2 with ⟨rfl,h0⟩ | ⟨g,cap,cur,rfl,hbase,hb,e1,e2,e3,e4⟩
 ·have hz:Z=[]:=List.eq_nil_of_length_eq_zero h0;subst hz;exact (Tryz.slices_SortFunc_none (α:=Nat) none 0 _ w).mono fun e w' ⟨he,hw⟩=>by
   subst hw;exact ⟨he,[],List.Perm.refl _,List.Pairwise.nil,hown,World.grownBy.refl _ _⟩
 ·by_cases hz:Z=[]
  ·subst hz;exact (Tryz.slices_SortFunc_none (α:=Nat) (some ⟨g,0,none⟩) cap _ w).mono fun e w' ⟨he,hw⟩=>by
    subst hw;exact ⟨he,[],List.Perm.refl _,List.Pairwise.nil,hown,World.grownBy.refl _ _⟩
  ·obtain ⟨z0,hz0⟩:=List.exists_mem_of_ne_nil Z hz
   let α:={ z:Value × List Int // z∈Z }
   have:Inhabited α:=⟨⟨z0,hz0⟩⟩
   let enc:α→Value:=fun z=>z.1.1
   let cf:α→α→Int:=fun x y=>lexC y.1.2 x.1.2
   have hlen:Z.attach.length=Z.length:=List.length_attach;have hmap:Z.attach.map enc=Z.map Prod.fst:=by
    have e:Z.attach.map enc=(Z.attach.map Subtype.val).map Prod.fst:=by rw [List.map_map]; rfl
    rw [e,List.attach_map_subtype_val]
   have hH:Holds enc w g 0 Z.attach.toArray:=zF0 hb (by rw [hlen,hmap]; simpa using e4);have hgl:g<w.heap.size:=(Array.getElem?_eq_some_iff.1 hb).1;have h1:OneCell enc:=fun z=>by obtain ⟨_,_,e⟩:=(hr z.1 z.2).form; show z.1.1.oneCell'=true; rw [e]; rfl
   have hO:SWO (ltOf cf):=zVk (f:=fun z:α=>z.1.2) (n:=n) (fun z=>hn z.1 z.2);have eg:∀args w,(callFunc 93 args).run Tryz.prog w=.ok (.enter 93 args) w:=enters_of Tryz.func93 (by kernel_rfl) rfl;have hcmp:CmpReads Tryz.prog 93 #[] enc cf g 0 Z.attach.toArray.size w:=fun m os dk _ x y=>by
    have hk:∀z:α,RI (fun b=>b≠g) (sortWorld enc w g 0 m dk os) z.1.1 z.1.2:=fun z =>
     RI.keep (RI.mono (hr z.1 z.2) (fun b hb e=>hb (by rw [e]; rfl))) (fun b hb hl=>(zDQ (enc:=enc) (n:=m) (os:=os) dk).block b hl (fun e=>hb (by simpa using e)))
    have hc:=zFr (hk x) (hk y) (by rw [hn x.1 x.2]; exact hn0) (by rw [hn y.1 y.2]; exact hn0);have hc2:Calls Tryz.prog 93 (#[enc x,enc y] ++ #[]) (sortWorld enc w g 0 m dk os) fun e w'=>e=.returned (.int .i64 (cf x y))∧sortWorld enc w g 0 m dk os=w':=hc;refine hc2.mono ?_;rintro e w' ⟨he,hw⟩;exact ⟨he,0,by rw [<-hw]; rfl⟩
   have hs:=Tryz.slices_SortFunc enc h1 cf hO 93 #[] g 0 cap Z.attach.toArray w eg hcmp.lays hH hgl (by simp; omega);simp only [List.size_toArray,hlen] at hs;refine hs.mono ?_;rintro e w' ⟨rfl,d',m,os,hp,hsrt,rfl⟩;have hd:d'.size=Z.length:=by rw [hp.1]; exact hlen
   have hperm:d'.toList.Perm Z.attach:=by
    have h9:=hp.2.2;simp only [Array.toList_extract] at h9;have t1:List.extract d'.toList 0 Z.length=d'.toList:=by
     simp only [List.extract,Nat.sub_zero,List.drop_zero];exact List.take_of_length_le (by rw [<-hd]; simp)
    have t2:List.extract Z.attach 0 Z.length=Z.attach:=by
     simp only [List.extract,Nat.sub_zero,List.drop_zero];rw [<-hlen,List.take_length]
    rw [t1] at h9;exact h9.trans (by rw [t2])
   have hts:d'.toList.length=Z.attach.length:=by rw [hlen]; simpa using hd
   refine ⟨rfl,d'.toList.map Subtype.val,?_,?_,?_,?_⟩
   ·have:=hperm.map Subtype.val;rwa [List.attach_map_subtype_val] at this
   ·rw [List.map_map,List.pairwise_map,List.pairwise_iff_getElem];intro i j hi hj hij;have:=hsrt i j (Nat.zero_le _) hij (by rw [<-hd]; simpa using hj);unfold ltOf at this;have e5:=of_decide_eq_false this;have hi':i<d'.size:=by simpa using hi
    have hj':j<d'.size:=by simpa using hj
    rw [getElem!_pos d' i hi',getElem!_pos d' j hj'] at e5;simpa using e5
   ·have:=zKw (enc:=enc) (n:=m) (os:=os) (ts:=d'.toList) (ss:=Z.attach) hts hbase hb (by rw [hlen]; exact e1) e2 e3;rw [hlen] at this;have e6:(d'.toList.map Subtype.val).map Prod.fst=d'.toList.map enc:=by rw [List.map_map]; rfl
    rw [e6];exact this
   ·exact zDQ _
theorem HSx.sortRows {A:Nat→Prop} {w0 w:World} {Ps:List zAF} {v:Value} {Z:Zl} {n:Nat} (h:HSx A w0 w Ps) (i j:Nat) (hij:i≠j) (hi:Ps[i]? = some (aV 28 v (Z.map Prod.fst))) (hj:Ps[j]? = some (aRs Z)) (hnew:∀b,v.ownBlock=some b→w0.heap.size≤b)
  (hn:∀z∈Z,z.2.length=n) (hn0:n≤16777216) (hl:Z.length≤67108864) :
  Calls Tryz.prog 92 #[v,.func (.func 93) #[] #[]] w fun e w'=>e=.returned (.tuple #[]) ∧
   ∃Z':Zl,Z'.Perm Z∧(Z'.map Prod.snd).Pairwise (fun a b=>¬lexC a b<0)∧HSx A w0 w' ((Ps.set i (aV 28 v (Z'.map Prod.fst))).set j (aRs Z')):=by
 obtain ⟨F,hF,_⟩:=HSx.get h i hi;obtain ⟨G,hG,_⟩:=HSx.get h j hj;have hlz:(Z.map Prod.fst).length=Z.length:=by simp
 have hown:=hF.1;rw [hlz] at hown;refine (zP1 hown (fun z hz=>?_) hn hn0 hl).mono ?_
 ·cases hv:v.ownBlock with
  | none=>exact RI.mono (hG.1 z hz).reads (fun b _=>by simp)
  | some B=>exact RI.mono ((hG.1 z hz).reads.off (zAs hown hv)) (fun b hb e=>hb.2 (by simpa using e.symm))
 ·rintro e w' ⟨rfl,Z',hp,hs,ho,hg⟩;refine ⟨rfl,Z',hp,hs,?_⟩;have h2:=h.upd i hi (st_V 28 v (Z'.map Prod.fst)) (zBO h.bl hg hnew) hg.size fun F hF _=>⟨F,⟨by rw [show (Z'.map Prod.fst).length=Z.length by rw [List.length_map,hp.length_eq]]; exact ho,hF.2⟩,fun b hb=>.inl hb,fun b hl hb=>hg.block b hl (fun e=>hb (hF.2 b e.symm))⟩;exact h2.permS j (by rw [List.getElem?_set_ne hij]; exact hj) hp
end Go.Proofs.YtphbichgpcicnaaGreatDoor
