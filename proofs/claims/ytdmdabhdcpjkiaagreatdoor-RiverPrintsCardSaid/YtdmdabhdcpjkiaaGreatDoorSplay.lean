/- The library's functions that the program calls, as the shelf's contracts ask for them: the numbers of functions and types, field by field. -/
import Derived.Shelf.LaysM
import Derived.Shelf.Lays
import Derived.Shelf.Strings.Split
import Derived.Test.YtdmdabhdcpjkiaaGreatDoorProg
namespace Go.Proofs.YtdmdabhdcpjkiaaGreatDoor
open Go.Shelf
def Tryz.splitS_ren : Go.Shelf.Ren := ⟨fun | 146 => 114 | 221 => 148 | 268 => 175 | 138 => 176 | 143 => 177 | 195 => 192 | 197 => 193 | 218 => 194 | 219 => 195 | 260 => 202 | 217 => 203 | 225 => 204 | 224 => 205 | 267 => 206 | 266 => 209 | 314 => 210 | n => n, fun | 9 => 9 | 31 => 130 | 3 => 3 | 4 => 4 | 0 => 0 | 105 => 270 | 21 => 21 | 5 => 5 | 46 => 110 | 119 => 279 | 139 => 282 | 138 => 281 | 146 => 283 | 51 => 243 | n => n, fun | 1 => 0 | 3 => 2 | 4 => 3 | n => n⟩
theorem Tryz.splitS : Go.Proofs.LaysM.n146 Tryz.prog Tryz.splitS_ren := {
 mixed := by kernel_rfl
 f138 := Tryz.func176.trans (congrArg some (by kernel_rfl))
 f143 := Tryz.func177.trans (congrArg some (by kernel_rfl))
 f146 := Tryz.func114.trans (congrArg some (by kernel_rfl))
 f195 := Tryz.func192.trans (congrArg some (by kernel_rfl))
 f197 := Tryz.func193.trans (congrArg some (by kernel_rfl))
 f217 := Tryz.func203.trans (congrArg some (by kernel_rfl))
 f218 := Tryz.func194.trans (congrArg some (by kernel_rfl))
 f219 := Tryz.func195.trans (congrArg some (by kernel_rfl))
 f221 := Tryz.func148.trans (congrArg some (by kernel_rfl))
 f224 := Tryz.func205.trans (congrArg some (by kernel_rfl))
 f225 := Tryz.func204.trans (congrArg some (by kernel_rfl))
 f260 := Tryz.func202.trans (congrArg some (by kernel_rfl))
 f266 := Tryz.func209.trans (congrArg some (by kernel_rfl))
 f267 := Tryz.func206.trans (congrArg some (by kernel_rfl))
 f268 := Tryz.func175.trans (congrArg some (by kernel_rfl))
 f314 := Tryz.func210.trans (congrArg some (by kernel_rfl))
 t0 := Tryz.underlying0
 a0 := Tryz.isAgg0
 z0 := Tryz.sizeOf0
 v0 := Tryz.zeroValue0
 t3 := Tryz.underlying3
 a3 := Tryz.isAgg3
 z3 := Tryz.sizeOf3
 v3 := Tryz.zeroValue3
 t4 := Tryz.underlying4
 a4 := Tryz.isAgg4
 z4 := Tryz.sizeOf4
 v4 := Tryz.zeroValue4
 t5 := Tryz.underlying5
 a5 := Tryz.isAgg5
 z5 := Tryz.sizeOf5
 v5 := Tryz.zeroValue5
 t9 := Tryz.underlying9
 a9 := Tryz.isAgg9
 z9 := Tryz.sizeOf9
 v9 := Tryz.zeroValue9
 t21 := Tryz.underlying21
 a21 := Tryz.isAgg21
 z21 := Tryz.sizeOf21
 v21 := Tryz.zeroValue21
 t31 := Tryz.underlying130
 a31 := Tryz.isAgg130
 z31 := Tryz.sizeOf130
 v31 := Tryz.zeroValue130
 t46 := Tryz.underlying110
 a46 := Tryz.isAgg110
 z46 := Tryz.sizeOf110
 v46 := Tryz.zeroValue110
 t51 := Tryz.underlying243
 a51 := Tryz.isAgg243
 z51 := Tryz.sizeOf243
 v51 := Tryz.zeroValue243
 t105 := Tryz.underlying270
 a105 := Tryz.isAgg270
 z105 := Tryz.sizeOf270
 v105 := Tryz.zeroValue270
 t119 := Tryz.underlying279
 a119 := Tryz.isAgg279
 z119 := Tryz.sizeOf279
 t138 := Tryz.underlying281
 a138 := Tryz.isAgg281
 z138 := Tryz.sizeOf281
 v138 := Tryz.zeroValue281
 t139 := Tryz.underlying282
 a139 := Tryz.isAgg282
 z139 := Tryz.sizeOf282
 v139 := Tryz.zeroValue282
 t146 := Tryz.underlying283
 a146 := Tryz.isAgg283
 z146 := Tryz.sizeOf283
 v146 := Tryz.zeroValue283
 g1 := by kernel_rfl
 g3 := by kernel_rfl
 g4 := by kernel_rfl
 i0 := by kernel_rfl
 i3 := by kernel_rfl
 i4 := by kernel_rfl
 i5 := by kernel_rfl
 i9 := by kernel_rfl
 i21 := by kernel_rfl
 i31 := by kernel_rfl
 i46 := by kernel_rfl
 i51 := by kernel_rfl
 i105 := by kernel_rfl
 i138 := by kernel_rfl
 i139 := by kernel_rfl
 i146 := by kernel_rfl
 m1 := by kernel_rfl
 s1_3 := fun w h => Go.Proofs.cell_of_shapedOpen_int (zero := #[.int .i64 0]) (t := 3) h (of_decide_eq_true (by kernel_rfl)) (by kernel_rfl) rfl (by kernel_rfl) (by kernel_rfl) Tryz.underlying3
 m3 := by kernel_rfl
 m4 := by kernel_rfl }
end Go.Proofs.YtdmdabhdcpjkiaaGreatDoor
