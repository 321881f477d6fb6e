/- DERIVED: THE SHELF's CONTRACTS AT THIS DUMP, IN PLAIN WORDS (tools/lay-plain.mjs out of 'TryShelf.lean', which tools/lay-shelf.mjs wrote): THE SAME DECLARATIONS UNDER THE SAME NAMES: 'import', 'namespace', 'open', 'def', 'theorem' AND NOTHING ELSE: no command of the shelf's: FOR A HAND-IN. Each laying: the table of numbers ('.._ren') and one theorem, a field a fact of the dump's own or the kernel's comparison; each contract: ONE APPLICATION. A row of numbers of the call's own, sorted by the library. Condition: at most 2^24 numbers. -/
import Derived.Shelf.Small.Bits
import Derived.Shelf.Sort.Plain
import Derived.Shelf.Slices.Reverse
import Derived.Ground.Names2Prog
import Derived.Shelf.Slices.SearchI
import Derived.Shelf.Slices.Cells
import Derived.Shelf.Slices.In.SortNone
import Derived.Ground.SlsfProg
import Derived.Shelf.SlSortCmp.Insertion
import Derived.Shelf.SlSortCmp.SiftDown1
import Derived.Shelf.SlSortCmp.HeapSort1
import Derived.Shelf.SlSortCmp.Insertion1
import Derived.Shelf.SlSortCmp.Median1
import Derived.Shelf.SlSortCmp.Pivot1
import Derived.Shelf.SlSortCmp.ReverseRange1
import Derived.Shelf.SlSortCmp.PartialInsertion1
import Derived.Shelf.SlSortCmp.PartitionEqual1
import Derived.Shelf.SlSortCmp.Partition1
import Derived.Shelf.SlSortCmp.Pdq1
import Derived.Shelf.SlSortCmp.Whole1
import Derived.Shelf.SlSortCmp.NoneTotal
import Derived.Test.YtipjomdldjbenaaGreatDoorProg
import Derived.Test.YtipjomdldjbenaaGreatDoorRGCart
import Derived.Sort.Grow
import Derived.Test.YtipjomdldjbenaaGreatDoorRGPart
namespace Go.Proofs
open Go.Shelf
def Tryz.lays189_ren : Go.Shelf.Ren := ⟨fun | 189 => 89 | 125 => 121 | 257 => 120 | 128 => 159 | 129 => 160 | 294 => 150 | 295 => 151 | 296 => 152 | 297 => 153 | 298 => 154 | 299 => 155 | 216 => 156 | 300 => 157 | 301 => 158 | 328 => 190 | 329 => 191 | 330 => 192 | 331 => 193 | 332 => 194 | 215 => 195 | 343 => 218 | n => n, fun | 28 => 28 | 3 => 3 | 46 => 96 | 0 => 0 | 51 => 119 | 53 => 121 | 4 => 4 | 183 => 113 | 182 => 112 | 131 => 32 | 5 => 5 | 9 => 9 | 218 => 147 | 222 => 151 | 228 => 164 | 229 => 56 | n => n, fun | n => n⟩
theorem Tryz.lays189 : Go.Proofs.Lays.n189 Tryz.prog Tryz.lays189_ren := {
 mixed := by kernel_rfl
 f125 := Tryz.func121.trans (congrArg some (by kernel_rfl))
 f128 := Tryz.func159.trans (congrArg some (by kernel_rfl))
 f129 := Tryz.func160.trans (congrArg some (by kernel_rfl))
 f189 := Tryz.func89.trans (congrArg some (by kernel_rfl))
 f215 := Tryz.func195.trans (congrArg some (by kernel_rfl))
 f216 := Tryz.func156.trans (congrArg some (by kernel_rfl))
 f257 := Tryz.func120.trans (congrArg some (by kernel_rfl))
 f294 := Tryz.func150.trans (congrArg some (by kernel_rfl))
 f295 := Tryz.func151.trans (congrArg some (by kernel_rfl))
 f296 := Tryz.func152.trans (congrArg some (by kernel_rfl))
 f297 := Tryz.func153.trans (congrArg some (by kernel_rfl))
 f298 := Tryz.func154.trans (congrArg some (by kernel_rfl))
 f299 := Tryz.func155.trans (congrArg some (by kernel_rfl))
 f300 := Tryz.func157.trans (congrArg some (by kernel_rfl))
 f301 := Tryz.func158.trans (congrArg some (by kernel_rfl))
 f328 := Tryz.func190.trans (congrArg some (by kernel_rfl))
 f329 := Tryz.func191.trans (congrArg some (by kernel_rfl))
 f330 := Tryz.func192.trans (congrArg some (by kernel_rfl))
 f331 := Tryz.func193.trans (congrArg some (by kernel_rfl))
 f332 := Tryz.func194.trans (congrArg some (by kernel_rfl))
 f343 := Tryz.func218.trans (congrArg some (by kernel_rfl))
 t0 := Tryz.underlying0
 a0 := Tryz.isAgg0
 z0 := Tryz.sizeOf0
 v0 := Tryz.zeroValue0
 t3 := Tryz.underlying3
 a3 := Tryz.isAgg3
 z3 := Tryz.sizeOf3
 v3 := Tryz.zeroValue3
 t4 := Tryz.underlying4
 a4 := Tryz.isAgg4
 z4 := Tryz.sizeOf4
 v4 := Tryz.zeroValue4
 t5 := Tryz.underlying5
 a5 := Tryz.isAgg5
 z5 := Tryz.sizeOf5
 v5 := Tryz.zeroValue5
 t9 := Tryz.underlying9
 a9 := Tryz.isAgg9
 z9 := Tryz.sizeOf9
 v9 := Tryz.zeroValue9
 t28 := Tryz.underlying28
 a28 := Tryz.isAgg28
 z28 := Tryz.sizeOf28
 v28 := Tryz.zeroValue28
 t46 := Tryz.underlying96
 a46 := Tryz.isAgg96
 z46 := Tryz.sizeOf96
 v46 := Tryz.zeroValue96
 t51 := Tryz.underlying119
 a51 := Tryz.isAgg119
 z51 := Tryz.sizeOf119
 v51 := Tryz.zeroValue119
 t53 := Tryz.underlying121
 a53 := Tryz.isAgg121
 z53 := Tryz.sizeOf121
 v53 := Tryz.zeroValue121
 t131 := Tryz.underlying32
 a131 := Tryz.isAgg32
 z131 := Tryz.sizeOf32
 v131 := Tryz.zeroValue32
 t182 := Tryz.underlying112
 a182 := Tryz.isAgg112
 z182 := Tryz.sizeOf112
 v182 := Tryz.zeroValue112
 t183 := Tryz.underlying113
 a183 := Tryz.isAgg113
 z183 := Tryz.sizeOf113
 v183 := Tryz.zeroValue113
 t218 := Tryz.underlying147
 a218 := Tryz.isAgg147
 z218 := Tryz.sizeOf147
 v218 := Tryz.zeroValue147
 t222 := Tryz.underlying151
 a222 := Tryz.isAgg151
 z222 := Tryz.sizeOf151
 v222 := Tryz.zeroValue151
 t228 := Tryz.underlying164
 a228 := Tryz.isAgg164
 z228 := Tryz.sizeOf164
 v228 := Tryz.zeroValue164
 t229 := Tryz.underlying56
 a229 := Tryz.isAgg56
 z229 := Tryz.sizeOf56
 v229 := Tryz.zeroValue56 }
open Go.Sort Go.RowKit in
theorem Tryz.slices_Sort_int (blk off cap : Nat) (zs : List Int) (w : World) (hH : Holds (Value.int .i64) w blk off zs.toArray) (hblk : blk < w.heap.size) (hsz : zs.length < 4611686018427387904) :
  Calls Tryz.prog 89 #[.slice (some ⟨blk, off, none⟩) zs.length cap] w fun e w' =>
   e = .returned (.tuple #[]) ∧ ∃ n os, w' = grow (putRow (Value.int .i64) (Sort.ahead w n) blk off (zs.mergeSort fun x y => decide (x ≤ y)).toArray) os := Any.slices_Sort_int Tryz.lays189 blk off cap zs w hH hblk hsz
open Go.RowKit Go.Sort in
theorem Tryz.slices_Sort_int_none (p : Option Addr) (cap : Nat) (w : World) :
  Calls Tryz.prog 89 #[.slice p 0 cap] w fun e w' => e = .returned (.tuple #[]) ∧ w' = w := Any.slices_Sort_int_none Tryz.lays189 p cap w
def Tryz.laysSlF6_f70_ren : Go.Shelf.Ren := ⟨fun | 6 => 90 | 15 => 121 | 14 => 122 | 28 => 159 | 29 => 160 | 20 => 161 | 21 => 162 | 22 => 163 | 23 => 164 | 24 => 165 | 25 => 166 | 26 => 167 | 27 => 168 | 46 => 196 | 47 => 191 | 48 => 192 | 49 => 197 | 50 => 198 | 57 => 219 | n => n, fun | 22 => 22 | 24 => 28 | 25 => 83 | 3 => 3 | 39 => 96 | 0 => 0 | 53 => 119 | 55 => 121 | 4 => 4 | 46 => 113 | 45 => 112 | 50 => 32 | 5 => 5 | 9 => 9 | 66 => 147 | 70 => 151 | 76 => 164 | 77 => 56 | n => n, fun | n => n⟩
theorem Tryz.laysSlF6_f70 : Go.Proofs.SlLaysF.n6 Tryz.prog Tryz.laysSlF6_f70_ren := {
 mixed := by kernel_rfl
 f6 := ⟨Tryz.f90.name, by decide, Tryz.func90.trans (congrArg some (by kernel_rfl))⟩
 f14 := ⟨Tryz.f122.name, by decide, Tryz.func122.trans (congrArg some (by kernel_rfl))⟩
 f15 := Tryz.func121.trans (congrArg some (by kernel_rfl))
 f20 := ⟨Tryz.f161.name, by decide, Tryz.func161.trans (congrArg some (by kernel_rfl))⟩
 f21 := ⟨Tryz.f162.name, by decide, Tryz.func162.trans (congrArg some (by kernel_rfl))⟩
 f22 := ⟨Tryz.f163.name, by decide, Tryz.func163.trans (congrArg some (by kernel_rfl))⟩
 f23 := ⟨Tryz.f164.name, by decide, Tryz.func164.trans (congrArg some (by kernel_rfl))⟩
 f24 := ⟨Tryz.f165.name, by decide, Tryz.func165.trans (congrArg some (by kernel_rfl))⟩
 f25 := ⟨Tryz.f166.name, by decide, Tryz.func166.trans (congrArg some (by kernel_rfl))⟩
 f26 := ⟨Tryz.f167.name, by decide, Tryz.func167.trans (congrArg some (by kernel_rfl))⟩
 f27 := ⟨Tryz.f168.name, by decide, Tryz.func168.trans (congrArg some (by kernel_rfl))⟩
 f28 := Tryz.func159.trans (congrArg some (by kernel_rfl))
 f29 := Tryz.func160.trans (congrArg some (by kernel_rfl))
 f46 := ⟨Tryz.f196.name, by decide, Tryz.func196.trans (congrArg some (by kernel_rfl))⟩
 f47 := Tryz.func191.trans (congrArg some (by kernel_rfl))
 f48 := Tryz.func192.trans (congrArg some (by kernel_rfl))
 f49 := ⟨Tryz.f197.name, by decide, Tryz.func197.trans (congrArg some (by kernel_rfl))⟩
 f50 := ⟨Tryz.f198.name, by decide, Tryz.func198.trans (congrArg some (by kernel_rfl))⟩
 f57 := ⟨Tryz.f219.name, by decide, Tryz.func219.trans (congrArg some (by kernel_rfl))⟩
 t0 := Tryz.underlying0
 a0 := Tryz.isAgg0
 z0 := Tryz.sizeOf0
 v0 := Tryz.zeroValue0
 t3 := Tryz.underlying3
 a3 := Tryz.isAgg3
 z3 := Tryz.sizeOf3
 v3 := Tryz.zeroValue3
 t4 := Tryz.underlying4
 a4 := Tryz.isAgg4
 z4 := Tryz.sizeOf4
 v4 := Tryz.zeroValue4
 t5 := Tryz.underlying5
 a5 := Tryz.isAgg5
 z5 := Tryz.sizeOf5
 v5 := Tryz.zeroValue5
 t9 := Tryz.underlying9
 a9 := Tryz.isAgg9
 z9 := Tryz.sizeOf9
 v9 := Tryz.zeroValue9
 t22 := Tryz.underlying22
 a22 := Tryz.isAgg22
 z22 := Tryz.sizeOf22
 v22 := Tryz.zeroValue22
 a24 := Tryz.isAgg28
 z24 := Tryz.sizeOf28
 t25 := Tryz.underlying83
 a25 := Tryz.isAgg83
 z25 := Tryz.sizeOf83
 v25 := Tryz.zeroValue83
 t39 := Tryz.underlying96
 a39 := Tryz.isAgg96
 z39 := Tryz.sizeOf96
 v39 := Tryz.zeroValue96
 t45 := Tryz.underlying112
 a45 := Tryz.isAgg112
 z45 := Tryz.sizeOf112
 v45 := Tryz.zeroValue112
 t46 := Tryz.underlying113
 a46 := Tryz.isAgg113
 z46 := Tryz.sizeOf113
 v46 := Tryz.zeroValue113
 t50 := Tryz.underlying32
 a50 := Tryz.isAgg32
 z50 := Tryz.sizeOf32
 v50 := Tryz.zeroValue32
 t53 := Tryz.underlying119
 a53 := Tryz.isAgg119
 z53 := Tryz.sizeOf119
 v53 := Tryz.zeroValue119
 t55 := Tryz.underlying121
 a55 := Tryz.isAgg121
 z55 := Tryz.sizeOf121
 v55 := Tryz.zeroValue121
 t66 := Tryz.underlying147
 a66 := Tryz.isAgg147
 z66 := Tryz.sizeOf147
 v66 := Tryz.zeroValue147
 t70 := Tryz.underlying151
 a70 := Tryz.isAgg151
 z70 := Tryz.sizeOf151
 v70 := Tryz.zeroValue151
 t76 := Tryz.underlying164
 a76 := Tryz.isAgg164
 z76 := Tryz.sizeOf164
 v76 := Tryz.zeroValue164
 t77 := Tryz.underlying56
 a77 := Tryz.isAgg56
 z77 := Tryz.sizeOf56
 v77 := Tryz.zeroValue56 }
open Go.RowKit Go.Lib Go.Sort in
theorem Tryz.slices_SortFunc {α : Type} [Inhabited α] (enc : α → Value) (h1 : OneCell enc) (cf : α → α → Int) (hO : SWO (ltOf cf)) (g : Nat) (cb : Array Value) (blk off cap : Nat) (d : Array α) (w : World) (eg : ∀ args w, (callFunc g args).run Tryz.prog w = .ok (.enter g args) w) (hcmp : CmpLays1 Tryz.prog g cb enc cf blk off d.size w) (hH : Holds enc w blk off d) (hblk : blk < w.heap.size) (hsz : d.size < 4611686018427387904) :
  Calls Tryz.prog 90 #[.slice (some ⟨blk, off, none⟩) d.size cap, .func (.func g) #[] cb] w fun e w' =>
   e = .returned (.tuple #[]) ∧ ∃ d' n os, PermIn 0 d.size d d' ∧ SortedIn (ltOf cf) 0 d.size d' ∧ w' = sortWorld enc w blk off n d' os := Any.slices_SortFunc Tryz.laysSlF6_f70 enc h1 cf hO g cb blk off cap d w eg hcmp hH hblk hsz
def Tryz.laysSlF06_f70_ren : Go.Shelf.Ren := ⟨fun | 6 => 90 | 15 => 121 | 14 => 122 | 28 => 159 | 29 => 160 | 20 => 161 | 21 => 162 | 22 => 163 | 23 => 164 | 24 => 165 | 25 => 166 | 26 => 167 | 27 => 168 | 46 => 196 | 47 => 191 | 48 => 192 | 49 => 197 | 50 => 198 | 57 => 219 | n => n, fun | 22 => 22 | 24 => 28 | 25 => 83 | 3 => 3 | 39 => 96 | 0 => 0 | 53 => 119 | 55 => 121 | 4 => 4 | 46 => 113 | 45 => 112 | 50 => 32 | 5 => 5 | 9 => 9 | 66 => 147 | 70 => 151 | 76 => 164 | 77 => 56 | n => n, fun | n => n⟩
theorem Tryz.laysSlF06_f70 : Go.Proofs.SlLaysF0.n6 Tryz.prog Tryz.laysSlF06_f70_ren := {
 mixed := by kernel_rfl
 f6 := ⟨Tryz.f90.name, by decide, Tryz.func90.trans (congrArg some (by kernel_rfl))⟩
 f14 := ⟨Tryz.f122.name, by decide, Tryz.func122.trans (congrArg some (by kernel_rfl))⟩
 f15 := Tryz.func121.trans (congrArg some (by kernel_rfl))
 f20 := ⟨Tryz.f161.name, by decide, Tryz.func161.trans (congrArg some (by kernel_rfl))⟩
 f21 := ⟨Tryz.f162.name, by decide, Tryz.func162.trans (congrArg some (by kernel_rfl))⟩
 f22 := ⟨Tryz.f163.name, by decide, Tryz.func163.trans (congrArg some (by kernel_rfl))⟩
 f23 := ⟨Tryz.f164.name, by decide, Tryz.func164.trans (congrArg some (by kernel_rfl))⟩
 f24 := ⟨Tryz.f165.name, by decide, Tryz.func165.trans (congrArg some (by kernel_rfl))⟩
 f25 := ⟨Tryz.f166.name, by decide, Tryz.func166.trans (congrArg some (by kernel_rfl))⟩
 f26 := ⟨Tryz.f167.name, by decide, Tryz.func167.trans (congrArg some (by kernel_rfl))⟩
 f27 := ⟨Tryz.f168.name, by decide, Tryz.func168.trans (congrArg some (by kernel_rfl))⟩
 f28 := Tryz.func159.trans (congrArg some (by kernel_rfl))
 f29 := Tryz.func160.trans (congrArg some (by kernel_rfl))
 f46 := ⟨Tryz.f196.name, by decide, Tryz.func196.trans (congrArg some (by kernel_rfl))⟩
 f47 := Tryz.func191.trans (congrArg some (by kernel_rfl))
 f48 := Tryz.func192.trans (congrArg some (by kernel_rfl))
 f49 := ⟨Tryz.f197.name, by decide, Tryz.func197.trans (congrArg some (by kernel_rfl))⟩
 f50 := ⟨Tryz.f198.name, by decide, Tryz.func198.trans (congrArg some (by kernel_rfl))⟩
 f57 := ⟨Tryz.f219.name, by decide, Tryz.func219.trans (congrArg some (by kernel_rfl))⟩
 t0 := Tryz.underlying0
 a0 := Tryz.isAgg0
 z0 := Tryz.sizeOf0
 v0 := Tryz.zeroValue0
 t3 := Tryz.underlying3
 a3 := Tryz.isAgg3
 z3 := Tryz.sizeOf3
 v3 := Tryz.zeroValue3
 t4 := Tryz.underlying4
 a4 := Tryz.isAgg4
 z4 := Tryz.sizeOf4
 v4 := Tryz.zeroValue4
 t5 := Tryz.underlying5
 a5 := Tryz.isAgg5
 z5 := Tryz.sizeOf5
 v5 := Tryz.zeroValue5
 t9 := Tryz.underlying9
 a9 := Tryz.isAgg9
 z9 := Tryz.sizeOf9
 v9 := Tryz.zeroValue9
 t22 := Tryz.underlying22
 a22 := Tryz.isAgg22
 z22 := Tryz.sizeOf22
 v22 := Tryz.zeroValue22
 t25 := Tryz.underlying83
 a25 := Tryz.isAgg83
 z25 := Tryz.sizeOf83
 v25 := Tryz.zeroValue83
 t39 := Tryz.underlying96
 a39 := Tryz.isAgg96
 z39 := Tryz.sizeOf96
 v39 := Tryz.zeroValue96
 t45 := Tryz.underlying112
 a45 := Tryz.isAgg112
 z45 := Tryz.sizeOf112
 v45 := Tryz.zeroValue112
 t46 := Tryz.underlying113
 a46 := Tryz.isAgg113
 z46 := Tryz.sizeOf113
 v46 := Tryz.zeroValue113
 t50 := Tryz.underlying32
 a50 := Tryz.isAgg32
 z50 := Tryz.sizeOf32
 v50 := Tryz.zeroValue32
 t53 := Tryz.underlying119
 a53 := Tryz.isAgg119
 z53 := Tryz.sizeOf119
 v53 := Tryz.zeroValue119
 t55 := Tryz.underlying121
 a55 := Tryz.isAgg121
 z55 := Tryz.sizeOf121
 v55 := Tryz.zeroValue121
 t66 := Tryz.underlying147
 a66 := Tryz.isAgg147
 z66 := Tryz.sizeOf147
 v66 := Tryz.zeroValue147
 t70 := Tryz.underlying151
 a70 := Tryz.isAgg151
 z70 := Tryz.sizeOf151
 v70 := Tryz.zeroValue151
 t76 := Tryz.underlying164
 a76 := Tryz.isAgg164
 z76 := Tryz.sizeOf164
 v76 := Tryz.zeroValue164
 t77 := Tryz.underlying56
 a77 := Tryz.isAgg56
 z77 := Tryz.sizeOf56
 v77 := Tryz.zeroValue56 }
open Go.RowKit Go.Lib Go.Sort in
theorem Tryz.slices_SortFunc_none {α : Type} [Inhabited α] (p : Option Addr) (cap : Nat) (fv : Value) (w : World) :
  Calls Tryz.prog 90 #[.slice p 0 cap, fv] w fun e w' => e = .returned (.tuple #[]) ∧ w' = w := AnyF.slices_SortFunc_none Tryz.laysSlF06_f70 p cap fv w
end Go.Proofs
namespace Go.Proofs.YtipjomdldjbenaaGreatDoor
open Go.RowKit Go.Sort
set_option maxRecDepth 20000
section
variable {α : Type} [Inhabited α] {enc : α → Value}
theorem holds_blk {w : World} {g : Nat} {cur : Array Value} {e : TypeId} {ss : List α} (hb : w.heap[g]? = some (.cells cur e (0, 0))) (ht : cur.toList.take ss.length = ss.map enc) : Holds enc w g 0 ss.toArray := by
 intro j hj
 have hj' : j < ss.length := by simpa using hj
 refine ⟨?_, by simp [World.frozen?, hb]⟩
 have h1 : (cur.toList.take ss.length)[j]? = (ss.map enc)[j]? := by rw [ht]
 rw [List.getElem?_take_of_lt hj'] at h1
 simp only [World.cell?, hb, Nat.zero_add]
 simp only [Option.isSome_none, Bool.false_eq_true, if_false]
 rw [← Array.getElem?_toList, h1]
 simp [hj']
theorem heap_srt {w : World} {g n : Nat} {os : Array Obj} {cur : Array Value} {e : TypeId} {fr : Nat × Nat} (d : Array α) (hb : w.heap[g]? = some (.cells cur e fr)) :
  (grow (putRow enc (Sort.ahead w n) g 0 d) os).heap[g]? = some (.cells (putCells enc 0 d cur) e fr) := by
 have hg : g < w.heap.size := (Array.getElem?_eq_some_iff.1 hb).1
 rw [heap_grow_old _ _ (by simpa using hg)]
 simp [putRow, mapBlock, Sort.ahead, Array.getElem?_modify, hb, onCells]
theorem grown_srt {w : World} {g n : Nat} {os : Array Obj} (d : Array α) : w.grownBy (grow (putRow enc (Sort.ahead w n) g 0 d) os) (some g) := by
 refine ⟨rfl, rfl, rfl, by simp, fun k hk hne => ?_⟩
 rw [heap_grow_old _ _ (by simpa using hk)]
 have : g ≠ k := fun e => hne (by rw [e])
 simp [putRow, mapBlock, Sort.ahead, Array.getElem?_modify, this]
theorem take_srt (cur : Array Value) (ts : List α) (h : ts.length ≤ cur.size) : (putCells enc 0 ts.toArray cur).toList.take ts.length = ts.map enc := by
 apply List.ext_getElem?
 intro j
 by_cases hj : j < ts.length
 ·rw [List.getElem?_take_of_lt hj, Array.getElem?_toList]
  simp [putCells, hj, show j < cur.size by omega]
 ·rw [List.getElem?_take_eq_none (by omega), List.getElem?_eq_none (by simp; omega)]
theorem owns_srt {w : World} {base g cap n : Nat} {e : TypeId} {os : Array Obj} {cur : Array Value} {ss ts : List α} (hl : ts.length = ss.length) (hbase : base ≤ g) (hb : w.heap[g]? = some (.cells cur e (0, 0)))
  (h1 : ss.length ≤ cap) (h2 : cap ≤ maxLen) (h3 : cur.size = cap * 1) :
  (grow (putRow enc (Sort.ahead w n) g 0 ts.toArray) os).ownsRow base e 1 (.slice (some ⟨g, 0, none⟩) ss.length cap) ss.length (ts.map enc) :=
 ⟨by simp [hl], .inr ⟨g, cap, _, rfl, hbase, heap_srt _ hb, h1, h2, by simp [putCells, h3], by rw [Nat.mul_one, ← hl]; exact take_srt cur ts (by omega)⟩⟩
end
def srtI (l : List Int) : List Int := l.mergeSort fun x y => decide (x ≤ y)
theorem sortInts {S : Nat → Prop} {v : Value} {l : List Int} {w : World} (h : FI S w v l) (hl : l.length ≤ 16777216) :
  Calls Tryz.prog 89 #[v] w fun e w' => e = .returned (.tuple #[]) ∧ FI S w' v (srtI l) ∧ w.grownBy w' v.ownBlock := by
 obtain ⟨h1, h2⟩ := h
 rcases h1.2 with ⟨rfl, h0⟩ | ⟨g, cap, cur, rfl, hbase, hb, e1, e2, e3, e4⟩
 ·have hnil : l = [] := List.length_eq_zero_iff.1 h0
  subst hnil
  exact (Tryz.slices_Sort_int_none none 0 w).mono fun e w' ⟨he, hw⟩ => by
   subst hw
   exact ⟨he, ⟨by simpa [srtI] using h1, h2⟩, World.grownBy.refl _ _⟩
 ·have hH : Holds (Value.int .i64) w g 0 l.toArray := holds_blk hb (by simpa using e4)
  have hgl : g < w.heap.size := (Array.getElem?_eq_some_iff.1 hb).1
  refine (Tryz.slices_Sort_int g 0 cap l w hH hgl (by omega)).mono ?_
  rintro e w' ⟨rfl, n, os, rfl⟩
  refine ⟨rfl, ⟨?_, h2⟩, grown_srt _⟩
  have := owns_srt (enc := Value.int .i64) (n := n) (os := os) (ts := srtI l) (ss := l) (by simp [srtI]) hbase hb e1 e2 e3
  simpa [srtI] using this
theorem srtI_iL (p : List Nat) : srtI (iL p) = iL (srtN p) := by
 have h1 : (srtI (iL p)).Perm (iL p) := List.mergeSort_perm _ _
 have h2 : (iL (srtN p)).Perm (iL p) := (srtN_perm p).map _
 have s1 : (srtI (iL p)).Pairwise (· ≤ ·) := by
  have := List.pairwise_mergeSort (le := fun x y : Int => decide (x ≤ y)) (fun a b c h1 h2 => by simp at *; omega) (fun a b => by simp; omega) (iL p)
  exact this.imp (by simp)
 have s2 : (iL (srtN p)).Pairwise (· ≤ ·) := by
  unfold iL
  rw [List.pairwise_map]
  exact (srtN_srt p).imp (fun h => by omega)
 exact List.Perm.eq_of_pairwise (fun a b _ _ h1 h2 => by omega) s1 s2 (h1.trans h2.symm)
end Go.Proofs.YtipjomdldjbenaaGreatDoor
