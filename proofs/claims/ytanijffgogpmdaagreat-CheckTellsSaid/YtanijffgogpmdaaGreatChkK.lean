/- The kit's contracts of the library at this seat's functions (ShelfC); check.Broken: Ends; maps.DeleteFunc at a map of int64 to int, in plain words; check.Broken: Most, and all kinds; dirty.Concerned; A row of structs of one's own, made since a block: the law of append; hedgerowkeep.Longs, Texts, Rule, Cats of equal ones: true; hedgerowkeep.LargeRule, LargeCat, CopyCat; hedgerowref21.Commit. Conditions: those that each theorem names. -/
import Derived.Shelf.SlIterI.Nil
import Derived.Shelf.SortM.Plain
import Derived.Shelf.SortM.SortNone
import Derived.Shelf.SlMaps.DeleteFunc
import Derived.Shelf.SlSortCmp.WholeK
import Derived.Test.YtanijffgogpmdaaGreatChkG
import Derived.Test.YtanijffgogpmdaaGreatChkE
import Derived.Test.YtanijffgogpmdaaGreatChkH
import Derived.Test.YtanijffgogpmdaaGreatChkJ
import Derived.Deep.DeepCutAuto
import Derived.Deep.CutBlock
import Derived.Test.YtanijffgogpmdaaGreatChkA
import Derived.Test.YtanijffgogpmdaaGreatChkF
namespace Go.Hg
open Go.RowKit Go.Maps Go.Sort Go.Shelf Go.Proofs

def keysA_ren : Go.Shelf.Ren := ⟨fun | 7 => 57 | 10 => 106 | n => n, fun | 23 => 101 | 26 => 2 | 3 => 3 | 28 => 106 | 0 => 0 | 27 => 105 | 33 => 169 | 4 => 4 | n => n, fun | n => n⟩
theorem keysA : SlLaysZI.n7 Tryz.prog keysA_ren := {
  mixed := by kernel_rfl,
  f7 := ⟨Tryz.f57.name, by decide, Tryz.func57.trans (congrArg some (by kernel_rfl))⟩,
  f10 := ⟨Tryz.f106.name, by decide, Tryz.func106.trans (congrArg some (by kernel_rfl))⟩,
  t0 := Tryz.underlying0,
  a0 := Tryz.isAgg0,
  z0 := Tryz.sizeOf0,
  v0 := Tryz.zeroValue0,
  t4 := Tryz.underlying4,
  a4 := Tryz.isAgg4,
  z4 := Tryz.sizeOf4,
  v4 := Tryz.zeroValue4,
  t23 := Tryz.underlying101,
  a23 := Tryz.isAgg101,
  z23 := Tryz.sizeOf101,
  v23 := Tryz.zeroValue101,
  t26 := Tryz.underlying2,
  a26 := Tryz.isAgg2,
  z26 := Tryz.sizeOf2,
  v26 := Tryz.zeroValue2,
  t27 := Tryz.underlying105,
  a27 := Tryz.isAgg105,
  z27 := Tryz.sizeOf105,
  v27 := Tryz.zeroValue105,
  t28 := Tryz.underlying106,
  a28 := Tryz.isAgg106,
  z28 := Tryz.sizeOf106,
  v28 := Tryz.zeroValue106,
  t33 := Tryz.underlying169,
  a33 := Tryz.isAgg169,
  z33 := Tryz.sizeOf169,
  v33 := Tryz.zeroValue169 }
def sortedA_ren : Go.Shelf.Ren := ⟨fun | 6 => 56 | 8 => 104 | 9 => 105 | 11 => 148 | 13 => 150 | 12 => 149 | 23 => 182 | 24 => 183 | 14 => 173 | 15 => 174 | 16 => 175 | 17 => 176 | 18 => 177 | 19 => 178 | 20 => 179 | 21 => 180 | 22 => 181 | 25 => 205 | 26 => 206 | 27 => 207 | 28 => 208 | 29 => 209 | 30 => 210 | 31 => 225 | n => n, fun | 26 => 2 | 28 => 106 | 24 => 32 | 0 => 0 | 3 => 3 | 37 => 205 | 48 => 228 | 50 => 230 | 4 => 4 | 40 => 221 | 39 => 220 | 45 => 137 | 5 => 5 | 9 => 9 | 51 => 252 | 55 => 256 | 57 => 267 | 58 => 63 | 33 => 169 | n => n, fun | n => n⟩
theorem sortedA : SlLaysZI.n6 Tryz.prog sortedA_ren := {
  mixed := by kernel_rfl,
  f6 := ⟨Tryz.f56.name, by decide, Tryz.func56.trans (congrArg some (by kernel_rfl))⟩,
  f8 := ⟨Tryz.f104.name, by decide, Tryz.func104.trans (congrArg some (by kernel_rfl))⟩,
  f11 := ⟨Tryz.f148.name, by decide, Tryz.func148.trans (congrArg some (by kernel_rfl))⟩,
  t0 := Tryz.underlying0,
  a0 := Tryz.isAgg0,
  z0 := Tryz.sizeOf0,
  v0 := Tryz.zeroValue0,
  t24 := Tryz.underlying32,
  a24 := Tryz.isAgg32,
  z24 := Tryz.sizeOf32,
  v24 := Tryz.zeroValue32,
  t26 := Tryz.underlying2,
  a26 := Tryz.isAgg2,
  z26 := Tryz.sizeOf2,
  v26 := Tryz.zeroValue2,
  t28 := Tryz.underlying106,
  a28 := Tryz.isAgg106,
  z28 := Tryz.sizeOf106,
  v28 := Tryz.zeroValue106,
  i26 := by kernel_rfl }
def sortA_ren : Go.Shelf.Ren := ⟨fun | 5 => 105 | 8 => 150 | 7 => 149 | 19 => 182 | 20 => 183 | 10 => 173 | 11 => 174 | 12 => 175 | 13 => 176 | 14 => 177 | 15 => 178 | 16 => 179 | 17 => 180 | 18 => 181 | 30 => 205 | 31 => 206 | 32 => 207 | 33 => 208 | 34 => 209 | 35 => 210 | 40 => 225 | n => n, fun | 23 => 32 | 25 => 2 | 3 => 3 | 32 => 205 | 22 => 32 | 0 => 0 | 44 => 228 | 46 => 230 | 4 => 4 | 36 => 221 | 35 => 220 | 41 => 137 | 5 => 5 | 9 => 9 | 53 => 252 | 57 => 256 | 63 => 267 | 64 => 63 | n => n, fun | n => n⟩
theorem sortA : SlLaysM.n5 Tryz.prog sortA_ren := {
  mixed := by kernel_rfl,
  f5 := ⟨Tryz.f105.name, by decide, Tryz.func105.trans (congrArg some (by kernel_rfl))⟩,
  f7 := ⟨Tryz.f149.name, by decide, Tryz.func149.trans (congrArg some (by kernel_rfl))⟩,
  f8 := Tryz.func150.trans (congrArg some (by kernel_rfl)),
  f10 := ⟨Tryz.f173.name, by decide, Tryz.func173.trans (congrArg some (by kernel_rfl))⟩,
  f11 := ⟨Tryz.f174.name, by decide, Tryz.func174.trans (congrArg some (by kernel_rfl))⟩,
  f12 := ⟨Tryz.f175.name, by decide, Tryz.func175.trans (congrArg some (by kernel_rfl))⟩,
  f13 := ⟨Tryz.f176.name, by decide, Tryz.func176.trans (congrArg some (by kernel_rfl))⟩,
  f14 := ⟨Tryz.f177.name, by decide, Tryz.func177.trans (congrArg some (by kernel_rfl))⟩,
  f15 := ⟨Tryz.f178.name, by decide, Tryz.func178.trans (congrArg some (by kernel_rfl))⟩,
  f16 := ⟨Tryz.f179.name, by decide, Tryz.func179.trans (congrArg some (by kernel_rfl))⟩,
  f17 := ⟨Tryz.f180.name, by decide, Tryz.func180.trans (congrArg some (by kernel_rfl))⟩,
  f18 := ⟨Tryz.f181.name, by decide, Tryz.func181.trans (congrArg some (by kernel_rfl))⟩,
  f19 := Tryz.func182.trans (congrArg some (by kernel_rfl)),
  f20 := Tryz.func183.trans (congrArg some (by kernel_rfl)),
  f30 := ⟨Tryz.f205.name, by decide, Tryz.func205.trans (congrArg some (by kernel_rfl))⟩,
  f31 := Tryz.func206.trans (congrArg some (by kernel_rfl)),
  f32 := Tryz.func207.trans (congrArg some (by kernel_rfl)),
  f33 := ⟨Tryz.f208.name, by decide, Tryz.func208.trans (congrArg some (by kernel_rfl))⟩,
  f34 := ⟨Tryz.f209.name, by decide, Tryz.func209.trans (congrArg some (by kernel_rfl))⟩,
  f35 := ⟨Tryz.f210.name, by decide, Tryz.func210.trans (congrArg some (by kernel_rfl))⟩,
  f40 := ⟨Tryz.f225.name, by decide, Tryz.func225.trans (congrArg some (by kernel_rfl))⟩,
  t0 := Tryz.underlying0,
  a0 := Tryz.isAgg0,
  z0 := Tryz.sizeOf0,
  v0 := Tryz.zeroValue0,
  t3 := Tryz.underlying3,
  a3 := Tryz.isAgg3,
  z3 := Tryz.sizeOf3,
  v3 := Tryz.zeroValue3,
  t4 := Tryz.underlying4,
  a4 := Tryz.isAgg4,
  z4 := Tryz.sizeOf4,
  v4 := Tryz.zeroValue4,
  t5 := Tryz.underlying5,
  a5 := Tryz.isAgg5,
  z5 := Tryz.sizeOf5,
  v5 := Tryz.zeroValue5,
  t9 := Tryz.underlying9,
  a9 := Tryz.isAgg9,
  z9 := Tryz.sizeOf9,
  v9 := Tryz.zeroValue9,
  t22 := Tryz.underlying32,
  a22 := Tryz.isAgg32,
  z22 := Tryz.sizeOf32,
  v22 := Tryz.zeroValue32,
  t23 := Tryz.underlying32,
  a23 := Tryz.isAgg32,
  z23 := Tryz.sizeOf32,
  v23 := Tryz.zeroValue32,
  t25 := Tryz.underlying2,
  a25 := Tryz.isAgg2,
  z25 := Tryz.sizeOf2,
  v25 := Tryz.zeroValue2,
  t32 := Tryz.underlying205,
  a32 := Tryz.isAgg205,
  z32 := Tryz.sizeOf205,
  v32 := Tryz.zeroValue205,
  t35 := Tryz.underlying220,
  a35 := Tryz.isAgg220,
  z35 := Tryz.sizeOf220,
  v35 := Tryz.zeroValue220,
  t36 := Tryz.underlying221,
  a36 := Tryz.isAgg221,
  z36 := Tryz.sizeOf221,
  v36 := Tryz.zeroValue221,
  t41 := Tryz.underlying137,
  a41 := Tryz.isAgg137,
  z41 := Tryz.sizeOf137,
  v41 := Tryz.zeroValue137,
  t44 := Tryz.underlying228,
  a44 := Tryz.isAgg228,
  z44 := Tryz.sizeOf228,
  v44 := Tryz.zeroValue228,
  t46 := Tryz.underlying230,
  a46 := Tryz.isAgg230,
  z46 := Tryz.sizeOf230,
  v46 := Tryz.zeroValue230,
  t53 := Tryz.underlying252,
  a53 := Tryz.isAgg252,
  z53 := Tryz.sizeOf252,
  v53 := Tryz.zeroValue252,
  t57 := Tryz.underlying256,
  a57 := Tryz.isAgg256,
  z57 := Tryz.sizeOf256,
  v57 := Tryz.zeroValue256,
  t63 := Tryz.underlying267,
  a63 := Tryz.isAgg267,
  z63 := Tryz.sizeOf267,
  v63 := Tryz.zeroValue267,
  t64 := Tryz.underlying63,
  a64 := Tryz.isAgg63,
  z64 := Tryz.sizeOf63,
  v64 := Tryz.zeroValue63 }
def keysN_ren : Go.Shelf.Ren := ⟨fun | 7 => 90 | 10 => 136 | n => n, fun | 23 => 151 | 26 => 3 | 3 => 3 | 28 => 154 | 0 => 0 | 27 => 153 | 33 => 193 | 4 => 4 | n => n, fun | n => n⟩
theorem keysN : SlLaysZI.n7 Tryz.prog keysN_ren := {
  mixed := by kernel_rfl,
  f7 := ⟨Tryz.f90.name, by decide, Tryz.func90.trans (congrArg some (by kernel_rfl))⟩,
  f10 := ⟨Tryz.f136.name, by decide, Tryz.func136.trans (congrArg some (by kernel_rfl))⟩,
  t0 := Tryz.underlying0,
  a0 := Tryz.isAgg0,
  z0 := Tryz.sizeOf0,
  v0 := Tryz.zeroValue0,
  t4 := Tryz.underlying4,
  a4 := Tryz.isAgg4,
  z4 := Tryz.sizeOf4,
  v4 := Tryz.zeroValue4,
  t23 := Tryz.underlying151,
  a23 := Tryz.isAgg151,
  z23 := Tryz.sizeOf151,
  v23 := Tryz.zeroValue151,
  t26 := Tryz.underlying3,
  a26 := Tryz.isAgg3,
  z26 := Tryz.sizeOf3,
  v26 := Tryz.zeroValue3,
  t27 := Tryz.underlying153,
  a27 := Tryz.isAgg153,
  z27 := Tryz.sizeOf153,
  v27 := Tryz.zeroValue153,
  t28 := Tryz.underlying154,
  a28 := Tryz.isAgg154,
  z28 := Tryz.sizeOf154,
  v28 := Tryz.zeroValue154,
  t33 := Tryz.underlying193,
  a33 := Tryz.isAgg193,
  z33 := Tryz.sizeOf193,
  v33 := Tryz.zeroValue193 }
def sortedN_ren : Go.Shelf.Ren := ⟨fun | 6 => 89 | 8 => 134 | 9 => 135 | 11 => 170 | 13 => 150 | 12 => 171 | 23 => 182 | 24 => 183 | 14 => 196 | 15 => 197 | 16 => 198 | 17 => 199 | 18 => 200 | 19 => 201 | 20 => 202 | 21 => 203 | 22 => 204 | 25 => 222 | 26 => 206 | 27 => 207 | 28 => 223 | 29 => 224 | 30 => 168 | 31 => 230 | n => n, fun | 26 => 3 | 28 => 154 | 24 => 75 | 0 => 0 | 3 => 3 | 37 => 205 | 48 => 228 | 50 => 230 | 4 => 4 | 40 => 221 | 39 => 220 | 45 => 137 | 5 => 5 | 9 => 9 | 51 => 252 | 55 => 256 | 57 => 267 | 58 => 63 | 33 => 193 | n => n, fun | n => n⟩
theorem sortedN : SlLaysZI.n6 Tryz.prog sortedN_ren := {
  mixed := by kernel_rfl,
  f6 := ⟨Tryz.f89.name, by decide, Tryz.func89.trans (congrArg some (by kernel_rfl))⟩,
  f8 := ⟨Tryz.f134.name, by decide, Tryz.func134.trans (congrArg some (by kernel_rfl))⟩,
  f11 := ⟨Tryz.f170.name, by decide, Tryz.func170.trans (congrArg some (by kernel_rfl))⟩,
  t0 := Tryz.underlying0,
  a0 := Tryz.isAgg0,
  z0 := Tryz.sizeOf0,
  v0 := Tryz.zeroValue0,
  t24 := Tryz.underlying75,
  a24 := Tryz.isAgg75,
  z24 := Tryz.sizeOf75,
  v24 := Tryz.zeroValue75,
  t26 := Tryz.underlying3,
  a26 := Tryz.isAgg3,
  z26 := Tryz.sizeOf3,
  v26 := Tryz.zeroValue3,
  t28 := Tryz.underlying154,
  a28 := Tryz.isAgg154,
  z28 := Tryz.sizeOf154,
  v28 := Tryz.zeroValue154,
  i26 := by kernel_rfl }
def sortN_ren : Go.Shelf.Ren := ⟨fun | 5 => 135 | 8 => 150 | 7 => 171 | 19 => 182 | 20 => 183 | 10 => 196 | 11 => 197 | 12 => 198 | 13 => 199 | 14 => 200 | 15 => 201 | 16 => 202 | 17 => 203 | 18 => 204 | 30 => 222 | 31 => 206 | 32 => 207 | 33 => 223 | 34 => 224 | 35 => 168 | 40 => 230 | n => n, fun | 23 => 75 | 25 => 3 | 3 => 3 | 32 => 205 | 22 => 75 | 0 => 0 | 44 => 228 | 46 => 230 | 4 => 4 | 36 => 221 | 35 => 220 | 41 => 137 | 5 => 5 | 9 => 9 | 53 => 252 | 57 => 256 | 63 => 267 | 64 => 63 | n => n, fun | n => n⟩
theorem sortN : SlLaysM.n5 Tryz.prog sortN_ren := {
  mixed := by kernel_rfl,
  f5 := ⟨Tryz.f135.name, by decide, Tryz.func135.trans (congrArg some (by kernel_rfl))⟩,
  f7 := ⟨Tryz.f171.name, by decide, Tryz.func171.trans (congrArg some (by kernel_rfl))⟩,
  f8 := Tryz.func150.trans (congrArg some (by kernel_rfl)),
  f10 := ⟨Tryz.f196.name, by decide, Tryz.func196.trans (congrArg some (by kernel_rfl))⟩,
  f11 := ⟨Tryz.f197.name, by decide, Tryz.func197.trans (congrArg some (by kernel_rfl))⟩,
  f12 := ⟨Tryz.f198.name, by decide, Tryz.func198.trans (congrArg some (by kernel_rfl))⟩,
  f13 := ⟨Tryz.f199.name, by decide, Tryz.func199.trans (congrArg some (by kernel_rfl))⟩,
  f14 := ⟨Tryz.f200.name, by decide, Tryz.func200.trans (congrArg some (by kernel_rfl))⟩,
  f15 := ⟨Tryz.f201.name, by decide, Tryz.func201.trans (congrArg some (by kernel_rfl))⟩,
  f16 := ⟨Tryz.f202.name, by decide, Tryz.func202.trans (congrArg some (by kernel_rfl))⟩,
  f17 := ⟨Tryz.f203.name, by decide, Tryz.func203.trans (congrArg some (by kernel_rfl))⟩,
  f18 := ⟨Tryz.f204.name, by decide, Tryz.func204.trans (congrArg some (by kernel_rfl))⟩,
  f19 := Tryz.func182.trans (congrArg some (by kernel_rfl)),
  f20 := Tryz.func183.trans (congrArg some (by kernel_rfl)),
  f30 := ⟨Tryz.f222.name, by decide, Tryz.func222.trans (congrArg some (by kernel_rfl))⟩,
  f31 := Tryz.func206.trans (congrArg some (by kernel_rfl)),
  f32 := Tryz.func207.trans (congrArg some (by kernel_rfl)),
  f33 := ⟨Tryz.f223.name, by decide, Tryz.func223.trans (congrArg some (by kernel_rfl))⟩,
  f34 := ⟨Tryz.f224.name, by decide, Tryz.func224.trans (congrArg some (by kernel_rfl))⟩,
  f35 := ⟨Tryz.f168.name, by decide, Tryz.func168.trans (congrArg some (by kernel_rfl))⟩,
  f40 := ⟨Tryz.f230.name, by decide, Tryz.func230.trans (congrArg some (by kernel_rfl))⟩,
  t0 := Tryz.underlying0,
  a0 := Tryz.isAgg0,
  z0 := Tryz.sizeOf0,
  v0 := Tryz.zeroValue0,
  t3 := Tryz.underlying3,
  a3 := Tryz.isAgg3,
  z3 := Tryz.sizeOf3,
  v3 := Tryz.zeroValue3,
  t4 := Tryz.underlying4,
  a4 := Tryz.isAgg4,
  z4 := Tryz.sizeOf4,
  v4 := Tryz.zeroValue4,
  t5 := Tryz.underlying5,
  a5 := Tryz.isAgg5,
  z5 := Tryz.sizeOf5,
  v5 := Tryz.zeroValue5,
  t9 := Tryz.underlying9,
  a9 := Tryz.isAgg9,
  z9 := Tryz.sizeOf9,
  v9 := Tryz.zeroValue9,
  t22 := Tryz.underlying75,
  a22 := Tryz.isAgg75,
  z22 := Tryz.sizeOf75,
  v22 := Tryz.zeroValue75,
  t23 := Tryz.underlying75,
  a23 := Tryz.isAgg75,
  z23 := Tryz.sizeOf75,
  v23 := Tryz.zeroValue75,
  t25 := Tryz.underlying3,
  a25 := Tryz.isAgg3,
  z25 := Tryz.sizeOf3,
  v25 := Tryz.zeroValue3,
  t32 := Tryz.underlying205,
  a32 := Tryz.isAgg205,
  z32 := Tryz.sizeOf205,
  v32 := Tryz.zeroValue205,
  t35 := Tryz.underlying220,
  a35 := Tryz.isAgg220,
  z35 := Tryz.sizeOf220,
  v35 := Tryz.zeroValue220,
  t36 := Tryz.underlying221,
  a36 := Tryz.isAgg221,
  z36 := Tryz.sizeOf221,
  v36 := Tryz.zeroValue221,
  t41 := Tryz.underlying137,
  a41 := Tryz.isAgg137,
  z41 := Tryz.sizeOf137,
  v41 := Tryz.zeroValue137,
  t44 := Tryz.underlying228,
  a44 := Tryz.isAgg228,
  z44 := Tryz.sizeOf228,
  v44 := Tryz.zeroValue228,
  t46 := Tryz.underlying230,
  a46 := Tryz.isAgg230,
  z46 := Tryz.sizeOf230,
  v46 := Tryz.zeroValue230,
  t53 := Tryz.underlying252,
  a53 := Tryz.isAgg252,
  z53 := Tryz.sizeOf252,
  v53 := Tryz.zeroValue252,
  t57 := Tryz.underlying256,
  a57 := Tryz.isAgg256,
  z57 := Tryz.sizeOf256,
  v57 := Tryz.zeroValue256,
  t63 := Tryz.underlying267,
  a63 := Tryz.isAgg267,
  z63 := Tryz.sizeOf267,
  v63 := Tryz.zeroValue267,
  t64 := Tryz.underlying63,
  a64 := Tryz.isAgg63,
  z64 := Tryz.sizeOf63,
  v64 := Tryz.zeroValue63 }
def delA_ren : Go.Shelf.Ren := ⟨fun | 5 => 54 | n => n, fun | 23 => 101 | 26 => 2 | 24 => 3 | 27 => 103 | 0 => 0 | 4 => 4 | n => n, fun | n => n⟩
theorem delA : SlLaysDf.n5 Tryz.prog delA_ren := {
  mixed := by kernel_rfl,
  f5 := ⟨Tryz.f54.name, by decide, Tryz.func54.trans (congrArg some (by kernel_rfl))⟩,
  t0 := Tryz.underlying0,
  a0 := Tryz.isAgg0,
  z0 := Tryz.sizeOf0,
  v0 := Tryz.zeroValue0,
  t4 := Tryz.underlying4,
  a4 := Tryz.isAgg4,
  z4 := Tryz.sizeOf4,
  v4 := Tryz.zeroValue4,
  t23 := Tryz.underlying101,
  a23 := Tryz.isAgg101,
  z23 := Tryz.sizeOf101,
  v23 := Tryz.zeroValue101,
  a24 := Tryz.isAgg3,
  z24 := Tryz.sizeOf3,
  a26 := Tryz.isAgg2,
  z26 := Tryz.sizeOf2,
  t27 := Tryz.underlying103,
  a27 := Tryz.isAgg103,
  z27 := Tryz.sizeOf103,
  v27 := Tryz.zeroValue103 }
def sortFS_ren : Go.Shelf.Ren := ⟨fun | 6 => 166 | 15 => 150 | 14 => 195 | 28 => 182 | 29 => 183 | 20 => 214 | 21 => 215 | 22 => 216 | 23 => 217 | 24 => 218 | 25 => 219 | 26 => 220 | 27 => 221 | 46 => 227 | 47 => 206 | 48 => 207 | 49 => 228 | 50 => 229 | 57 => 232 | n => n, fun | 22 => 59 | 24 => 136 | 25 => 191 | 3 => 3 | 39 => 205 | 0 => 0 | 53 => 228 | 55 => 230 | 4 => 4 | 46 => 221 | 45 => 220 | 50 => 137 | 5 => 5 | 9 => 9 | 66 => 252 | 70 => 256 | 76 => 267 | 77 => 63 | n => n, fun | n => n⟩
theorem sortFS : SlLaysF0.n6 Tryz.prog sortFS_ren := {
  mixed := by kernel_rfl,
  f6 := ⟨Tryz.f166.name, by decide, Tryz.func166.trans (congrArg some (by kernel_rfl))⟩,
  f14 := ⟨Tryz.f195.name, by decide, Tryz.func195.trans (congrArg some (by kernel_rfl))⟩,
  f15 := Tryz.func150.trans (congrArg some (by kernel_rfl)),
  f20 := ⟨Tryz.f214.name, by decide, Tryz.func214.trans (congrArg some (by kernel_rfl))⟩,
  f21 := ⟨Tryz.f215.name, by decide, Tryz.func215.trans (congrArg some (by kernel_rfl))⟩,
  f22 := ⟨Tryz.f216.name, by decide, Tryz.func216.trans (congrArg some (by kernel_rfl))⟩,
  f23 := ⟨Tryz.f217.name, by decide, Tryz.func217.trans (congrArg some (by kernel_rfl))⟩,
  f24 := ⟨Tryz.f218.name, by decide, Tryz.func218.trans (congrArg some (by kernel_rfl))⟩,
  f25 := ⟨Tryz.f219.name, by decide, Tryz.func219.trans (congrArg some (by kernel_rfl))⟩,
  f26 := ⟨Tryz.f220.name, by decide, Tryz.func220.trans (congrArg some (by kernel_rfl))⟩,
  f27 := ⟨Tryz.f221.name, by decide, Tryz.func221.trans (congrArg some (by kernel_rfl))⟩,
  f28 := Tryz.func182.trans (congrArg some (by kernel_rfl)),
  f29 := Tryz.func183.trans (congrArg some (by kernel_rfl)),
  f46 := ⟨Tryz.f227.name, by decide, Tryz.func227.trans (congrArg some (by kernel_rfl))⟩,
  f47 := Tryz.func206.trans (congrArg some (by kernel_rfl)),
  f48 := Tryz.func207.trans (congrArg some (by kernel_rfl)),
  f49 := ⟨Tryz.f228.name, by decide, Tryz.func228.trans (congrArg some (by kernel_rfl))⟩,
  f50 := ⟨Tryz.f229.name, by decide, Tryz.func229.trans (congrArg some (by kernel_rfl))⟩,
  f57 := ⟨Tryz.f232.name, by decide, Tryz.func232.trans (congrArg some (by kernel_rfl))⟩,
  t0 := Tryz.underlying0,
  a0 := Tryz.isAgg0,
  z0 := Tryz.sizeOf0,
  v0 := Tryz.zeroValue0,
  t3 := Tryz.underlying3,
  a3 := Tryz.isAgg3,
  z3 := Tryz.sizeOf3,
  v3 := Tryz.zeroValue3,
  t4 := Tryz.underlying4,
  a4 := Tryz.isAgg4,
  z4 := Tryz.sizeOf4,
  v4 := Tryz.zeroValue4,
  t5 := Tryz.underlying5,
  a5 := Tryz.isAgg5,
  z5 := Tryz.sizeOf5,
  v5 := Tryz.zeroValue5,
  t9 := Tryz.underlying9,
  a9 := Tryz.isAgg9,
  z9 := Tryz.sizeOf9,
  v9 := Tryz.zeroValue9,
  t22 := Tryz.underlying59,
  a22 := Tryz.isAgg59,
  z22 := Tryz.sizeOf59,
  v22 := Tryz.zeroValue59,
  t25 := Tryz.underlying191,
  a25 := Tryz.isAgg191,
  z25 := Tryz.sizeOf191,
  v25 := Tryz.zeroValue191,
  t39 := Tryz.underlying205,
  a39 := Tryz.isAgg205,
  z39 := Tryz.sizeOf205,
  v39 := Tryz.zeroValue205,
  t45 := Tryz.underlying220,
  a45 := Tryz.isAgg220,
  z45 := Tryz.sizeOf220,
  v45 := Tryz.zeroValue220,
  t46 := Tryz.underlying221,
  a46 := Tryz.isAgg221,
  z46 := Tryz.sizeOf221,
  v46 := Tryz.zeroValue221,
  t50 := Tryz.underlying137,
  a50 := Tryz.isAgg137,
  z50 := Tryz.sizeOf137,
  v50 := Tryz.zeroValue137,
  t53 := Tryz.underlying228,
  a53 := Tryz.isAgg228,
  z53 := Tryz.sizeOf228,
  v53 := Tryz.zeroValue228,
  t55 := Tryz.underlying230,
  a55 := Tryz.isAgg230,
  z55 := Tryz.sizeOf230,
  v55 := Tryz.zeroValue230,
  t66 := Tryz.underlying252,
  a66 := Tryz.isAgg252,
  z66 := Tryz.sizeOf252,
  v66 := Tryz.zeroValue252,
  t70 := Tryz.underlying256,
  a70 := Tryz.isAgg256,
  z70 := Tryz.sizeOf256,
  v70 := Tryz.zeroValue256,
  t76 := Tryz.underlying267,
  a76 := Tryz.isAgg267,
  z76 := Tryz.sizeOf267,
  v76 := Tryz.zeroValue267,
  t77 := Tryz.underlying63,
  a77 := Tryz.isAgg63,
  z77 := Tryz.sizeOf63,
  v77 := Tryz.zeroValue63 }

theorem sortsA (m : Nat) : AnyZI.SortsIn Tryz.prog sortedA_ren Fence.wide m :=
  ⟨fun blk off cap ss W hH hblk hsz => callsIn_wide.2 (AnyM.slices_Sort_int sortA blk off cap ss W hH hblk hsz), fun p cap W => callsIn_wide.2 (AnyM.slices_Sort_int_none sortA p cap W)⟩
theorem mapsKeys (b : Nat) (w : World) : Calls Tryz.prog 57 #[.map (some b)] w fun e w' => e = .returned (.func (.func 106) #[] #[.pointer (some ⟨w.heap.size, 0, none⟩)]) ∧ w' = w.alloc (.cells #[.map (some b)] 101) :=
  callsIn_wide.1 (AnyZI.keys_in keysA Fence.wide 5 trivial rfl (some b) w)
theorem ownsRow_ids {w : World} {base : Nat} {v : Value} {ss : List Int} {n : Nat} (hn : n = ss.length) (h : w.ownsRow base 2 1 v n (ss.map encZ)) : IdsR (fun x => base ≤ x) w v ss := by
  subst hn
  have key : ∃ ob, OwnS w 2 1 v ss.length (ss.map (Value.int .i64 ·)) ob ∧ ∀ g, ob = some g → base ≤ g := by
    rcases h.2 with ⟨rfl, h0⟩ | ⟨g, cap, cur, rfl, hb, hg, h1, h2, h3, h4⟩
    · exact ⟨none, ⟨h.1, .inl ⟨none, rfl, h0, rfl, by simp⟩⟩, by simp⟩
    · exact ⟨some g, ⟨h.1, .inr ⟨g, cap, cur, rfl, rfl, hg, h1, h2, h3, h4⟩⟩, fun x hx => by cases hx; exact hb⟩
  obtain ⟨ob, h1, h2⟩ := key
  have h3 : OwnL w 2 1 (fun n r => r = [Value.int .i64 n]) v ss ob := ⟨ss.map (fun n => [.int .i64 n]), by simp, fun k x r hx hr => by
    rw [List.getElem?_map, hx] at hr
    simp only [Option.map_some, Option.some.injEq] at hr
    subst hr
    exact ⟨rfl, rfl⟩, by
    have e : (ss.map fun n => [Value.int .i64 n]).flatten = ss.map (.int .i64 ·) := by
      clear h1 h2 h
      induction ss with
      | nil => rfl
      | cons a t ih => simp [ih]
    rw [e]; exact h1⟩
  exact h3.toSl h2
set_option maxRecDepth 100000 in
set_option maxHeartbeats 2000000 in
theorem slicesSorted (b n : Nat) (f : Int → Option Value) (w : World) (h : MapI w b f n) (hn : n ≤ 4096) (hw : ∀ x, f x ≠ none → (Lit.int .i64 x).wf = true) :
    Calls Tryz.prog 56 #[.func (.func 106) #[] #[.pointer (some ⟨w.heap.size, 0, none⟩)]] (w.alloc (.cells #[.map (some b)] 101)) fun e w' => ∃ v L, e = .returned v ∧ RSet L (fun y => f y ≠ none) ∧ IdsR (fun x => w.heap.size ≤ x) w' v L ∧ Grow w w' := by
  have hmx : n ≤ maxLen := by unfold maxLen; omega
  obtain ⟨D0, hown, hsz, hk⟩ := h.owns (P := Tryz.prog) (k := 2) Tryz.underlying2 hmx hw
  have hseq : SeqGives Fence.wide 2 Tryz.prog 106 #[.pointer (some ⟨w.heap.size, 0, none⟩)] encZ (fun ss => ss.Perm (intKeys D0)) (Maps.size D0) (w.alloc (.cells #[.map (some b)] 101)) :=
    AnyZI.keys_gives (ρ := keysA_ren) { keysA with } Fence.wide _ trivial rfl (by omega) w.heap.size b n D0 _ (by simp) (by simp) (hown.alloc _)
  have cS := AnyZI.sorted_in sortedA Fence.wide 5 trivial trivial trivial trivial rfl (by omega) (sortsA _) (enters_of Tryz.func105 (by kernel_rfl) rfl) 106 #[.pointer (some ⟨w.heap.size, 0, none⟩)] trivial (enters_of Tryz.func106 (by kernel_rfl) rfl) _ _ (Nat.le_trans hsz hmx) (by omega) _ hseq
  refine (callsIn_wide.1 cS).mono ?_
  rintro e w' ⟨v, ss, rfl, hS, hrow, -, hb⟩
  obtain ⟨h1, h2⟩ := hk ss hS
  refine ⟨v, _, rfl, rset_sorted h1 h2, (ownsRow_ids (by simp) hrow).sub (fun x hx => by simp at hx; omega) (fun _ _ _ h => h), ?_⟩
  exact ((Grow.rfl' w).allocd _).step hb

theorem sortsN (m : Nat) : AnyZI.SortsIn Tryz.prog sortedN_ren Fence.wide m :=
  ⟨fun blk off cap ss W hH hblk hsz => callsIn_wide.2 (AnyM.slices_Sort_int sortN blk off cap ss W hH hblk hsz), fun p cap W => callsIn_wide.2 (AnyM.slices_Sort_int_none sortN p cap W)⟩
theorem mapsKeysN (b : Nat) (w : World) : Calls Tryz.prog 90 #[.map (some b)] w fun e w' => e = .returned (.func (.func 136) #[] #[.pointer (some ⟨w.heap.size, 0, none⟩)]) ∧ w' = w.alloc (.cells #[.map (some b)] 151) :=
  callsIn_wide.1 (AnyZI.keys_in keysN Fence.wide 5 trivial rfl (some b) w)
theorem ownsRow_idsN {w : World} {base : Nat} {v : Value} {ss : List Int} {n : Nat} (hn : n = ss.length) (h : w.ownsRow base 3 1 v n (ss.map encZ)) : IdsR (fun x => base ≤ x) w v ss := by
  subst hn
  have key : ∃ ob, OwnS w 3 1 v ss.length (ss.map (Value.int .i64 ·)) ob ∧ ∀ g, ob = some g → base ≤ g := by
    rcases h.2 with ⟨rfl, h0⟩ | ⟨g, cap, cur, rfl, hb, hg, h1, h2, h3, h4⟩
    · exact ⟨none, ⟨h.1, .inl ⟨none, rfl, h0, rfl, by simp⟩⟩, by simp⟩
    · exact ⟨some g, ⟨h.1, .inr ⟨g, cap, cur, rfl, rfl, hg, h1, h2, h3, h4⟩⟩, fun x hx => by cases hx; exact hb⟩
  obtain ⟨ob, h1, h2⟩ := key
  have h3 : OwnL w 3 1 (fun n r => r = [Value.int .i64 n]) v ss ob := ⟨ss.map (fun n => [.int .i64 n]), by simp, fun k x r hx hr => by
    rw [List.getElem?_map, hx] at hr
    simp only [Option.map_some, Option.some.injEq] at hr
    subst hr
    exact ⟨rfl, rfl⟩, by
    have e : (ss.map fun n => [Value.int .i64 n]).flatten = ss.map (.int .i64 ·) := by
      clear h1 h2 h
      induction ss with
      | nil => rfl
      | cons a t ih => simp [ih]
    rw [e]; exact h1⟩
  exact h3.toSl h2
set_option maxRecDepth 100000 in
set_option maxHeartbeats 2000000 in
theorem slicesSortedN (b n : Nat) (f : Int → Option Value) (w : World) (h : MapI w b f n) (hn : n ≤ 4096) (hw : ∀ x, f x ≠ none → (Lit.int .i64 x).wf = true) :
    Calls Tryz.prog 89 #[.func (.func 136) #[] #[.pointer (some ⟨w.heap.size, 0, none⟩)]] (w.alloc (.cells #[.map (some b)] 151)) fun e w' => ∃ v L, e = .returned v ∧ RSet L (fun y => f y ≠ none) ∧ IdsR (fun x => w.heap.size ≤ x) w' v L ∧ Grow w w' := by
  have hmx : n ≤ maxLen := by unfold maxLen; omega
  obtain ⟨D0, hown, hsz, hk⟩ := h.owns (P := Tryz.prog) (k := 3) Tryz.underlying3 hmx hw
  have hseq : SeqGives Fence.wide 2 Tryz.prog 136 #[.pointer (some ⟨w.heap.size, 0, none⟩)] encZ (fun ss => ss.Perm (intKeys D0)) (Maps.size D0) (w.alloc (.cells #[.map (some b)] 151)) :=
    AnyZI.keys_gives (ρ := keysN_ren) { keysN with } Fence.wide _ trivial rfl (by omega) w.heap.size b n D0 _ (by simp) (by simp) (hown.alloc _)
  have cS := AnyZI.sorted_in sortedN Fence.wide 5 trivial trivial trivial trivial rfl (by omega) (sortsN _) (enters_of Tryz.func135 (by kernel_rfl) rfl) 136 #[.pointer (some ⟨w.heap.size, 0, none⟩)] trivial (enters_of Tryz.func136 (by kernel_rfl) rfl) _ _ (Nat.le_trans hsz hmx) (by omega) _ hseq
  refine (callsIn_wide.1 cS).mono ?_
  rintro e w' ⟨v, ss, rfl, hS, hrow, -, hb⟩
  obtain ⟨h1, h2⟩ := hk ss hS
  refine ⟨v, _, rfl, rset_sorted h1 h2, (ownsRow_idsN (by simp) hrow).sub (fun x hx => by simp at hx; omega) (fun _ _ _ h => h), ?_⟩
  exact ((Grow.rfl' w).allocd _).step hb
end Go.Hg

namespace Go.Hg
open Go.RowKit Go.Proofs

theorem nameOk_ne {s : ByteArray} (h : NameOk s) : ByteArray.empty ≠ s := by
  rintro rfl
  revert h
  decide
theorem formR_ends {r : PRule} (h : formR r = true) (k3 : r.kind = 3) : NameOk r.from_ ∧ NameOk r.to_ := by
  unfold formR at h
  rw [Bool.and_eq_true, if_neg (by omega), if_pos k3] at h
  simp only [Bool.and_eq_true, decide_eq_true_eq] at h
  exact ⟨h.2.1, h.2.2.1⟩
theorem isT_getD {N : List PNode} {id : Int} {t : ByteArray} (h : NameOk t) : decide ((typeN N id).getD ByteArray.empty = t) = isT N id t := by
  unfold isT
  cases typeN N id with
  | none => simp [nameOk_ne h]
  | some u => simp

set_option maxRecDepth 100000 in
set_option maxHeartbeats 4000000 in
theorem brokenEnds (gv : Value) (N : List PNode) (E : List PEdge) (r : PRule) (w : World) (hg : GAt gv N E w) (hgn : GNode gv N w) (hb : E.length ≤ 1099511627776) (hf : formR r = true) (hk : r.kind = 3) :
    Calls Tryz.prog 16 #[gv, r.args] w (BrokPost N E r w) := by
  have HF := Lib.hid hf; have HK := Lib.hid hk; have HGA := Lib.hid hg; have HBD := Lib.hid hb; have HGN := Lib.hid hgn
  have HW := Lib.hid (show ∀ o1, Grow w (w.alloc o1) from fun o1 => (Grow.rfl' w).allocd o1)
  have HNM := Lib.hid (formR_ends hf hk)
  clear hf hk hg hb hgn
  go_enter Tryz.func16, Tryz.ntmps16
  go_wp2_with fail
  refine (ruleForm r _).mono ?_
  rintro e w2 ⟨rfl, g2⟩
  have HG2 := Lib.hid ((HW.out _).step g2)
  have HRB := Lib.hid (ruleBoxNew w r w2 g2)
  obtain ⟨hrl, c1, c2, c3, c4, c5, c6, c7, c0⟩ := HRB.out.cells
  rw [HF.out]
  rw [HK.out] at c1
  clear g2
  go_wp2_with fail
  refine (HGA.out _ HG2.out).2.mono ?_
  rintro e w3 ⟨v3, rfl, hn3, hg3⟩
  obtain ⟨ab, cb, rfl, hbl, hbc, hB⟩ := SlR.open hn3
  unfold maxLen at hbc
  have HB := Lib.hid hB
  have HR3 := Lib.hid (HRB.out.grow hg3); have HG3 := Lib.hid (HG2.out.step hg3)
  have HI0 := Lib.hid (IdsW.nil w3.heap.size w3)
  clear hn3 hg3 hB hrl c1 c2 c3 c4 c5 c6 c7 c0
  go_wp2
  go_loopg [10, 68] E.length (fun g lv i wr => ∃ j : Nat, j ≤ E.length ∧ g = E.length - j ∧ i = .int .i64 j ∧ IdsW w3.heap.size wr lv (((E.take j).filter (wrongR N r)).map (·.id)) ∧ Grow w3 wr)
  case atStart => exact ⟨0, by omega, by omega, rfl, HI0.out, Grow.rfl' w3⟩
  case round =>
    obtain ⟨j, hj, rfl, rfl, hi, hz⟩ := hrel
    obtain ⟨oa, co, rfl, _, _⟩ := hi.isSlice
    have HI := Lib.hid hi; have HZ := Lib.hid hz
    clear hi
    by_cases hjl : j < E.length
    · obtain ⟨ba, oa', ra, rfl, hSa, hba, hRa, hca⟩ := HB.out j E[j] (List.getElem?_eq_getElem hjl)
      obtain ⟨pva, hba', a0, a1, a2, a3, a4, hpa⟩ := hRa.at hba hz hca
      clear hca hRa hSa hba hz
      have HT := Lib.hid (show E.take (j + 1) = E.take j ++ [E[j]] from List.take_succ_eq_append_getElem hjl)
      have HLE := Lib.hid (show (((E.take j).filter (wrongR N r)).map (·.id)).length ≤ E.length by
        rw [List.length_map]
        exact Nat.le_trans (List.length_filter_le _ _) (by rw [List.length_take]; omega))
      generalize E[j] = x at *
      obtain ⟨_, _, rfl⟩ := hpa.isSlice
      have HWR := Lib.hid (show ∀ o1, Grow wr (wr.alloc o1) from fun o1 => (Grow.rfl' wr).allocd o1)
      have HNB := Lib.hid (show ∀ o1 w', Grow (wr.alloc o1) w' → w'.heap[wr.heap.size]? = some o1 from fun o1 w' hg => by rw [hg.heapEq (by simp)]; exact heap_alloc_new wr _)
      clear hpa
      obtain ⟨ta, hta⟩ : ∃ t, (typeN N x.from_).getD ByteArray.empty = t := ⟨_, rfl⟩
      obtain ⟨tb, htb⟩ : ∃ t, (typeN N x.to_).getD ByteArray.empty = t := ⟨_, rfl⟩
      obtain ⟨bt, hbt⟩ : ∃ b, decide (x.typ = r.typ) = b := ⟨_, rfl⟩
      obtain ⟨bf, hbf⟩ : ∃ b, decide (ta = r.from_) = b := ⟨_, rfl⟩
      obtain ⟨bo, hbo⟩ : ∃ b, decide (tb = r.to_) = b := ⟨_, rfl⟩
      have HV := Lib.hid (show wrongR N r x = (bt && !(bf && bo)) by unfold wrongR; rw [← isT_getD HNM.out.1, ← isT_getD HNM.out.2, hta, htb, hbt, hbf, hbo])
      have HTA := Lib.hid hta; have HTB := Lib.hid htb
      clear hta htb
      generalize hfl : ((E.take j).filter (wrongR N r)).map (·.id) = fl at *
      have HFF := Lib.hid hfl
      clear hfl
      go_wp2_with fail
      refine (HGN.out _ ((HG3.out.step HZ.out).step (HWR.out _)) x.from_).mono ?_
      rintro e w4 ⟨⟨i4, oa4, n4, c4', b4, rfl⟩, hw4⟩
      rw [HTA.out]
      have hnb := HNB.out _ w4 hw4
      have hnl := blk_lt hnb
      have n3 : w4.cell? ⟨wr.heap.size, 3, none⟩ = some (.int .i64 x.to_) := by rw [blk_cell hnb]; rfl
      have HNB4 := Lib.hid hnb
      have HW4 := Lib.hid ((HWR.out _).step hw4)
      have HN4 := Lib.hid (show ∀ o1 w', Grow (w4.alloc o1) w' → w'.heap[w4.heap.size]? = some o1 from fun o1 w' hg => by rw [hg.heapEq (by simp)]; exact heap_alloc_new w4 _)
      have HA4 := Lib.hid (show ∀ o1, Grow w4 (w4.alloc o1) from fun o1 => (Grow.rfl' w4).allocd o1)
      clear hnb hw4 a0 a1 a2 a3 a4 hba'
      go_wp2_with fail
      refine (HGN.out _ (((HG3.out.step HZ.out).step HW4.out).step (HA4.out _)) x.to_).mono ?_
      rintro e w5 ⟨⟨i5, oa5, n5, c5', b5, rfl⟩, hw5⟩
      rw [HTB.out]
      have hz5 : Grow wr w5 := (HW4.out.step (HA4.out _)).step hw5
      have hnb := HN4.out _ w5 hw5
      have m1 : w5.cell? ⟨w4.heap.size, 1, none⟩ = some (.string ta) := by rw [blk_cell hnb]; rfl
      have hml := blk_lt hnb
      have hnb0 := (((HA4.out _).step hw5).heapEq (blk_lt HNB4.out)).trans HNB4.out
      have n1 : w5.cell? ⟨wr.heap.size, 1, none⟩ = some (.string x.typ) := by rw [blk_cell hnb0]; rfl
      have n0 : w5.cell? ⟨wr.heap.size, 0, none⟩ = some (.int .i64 x.id) := by rw [blk_cell hnb0]; rfl
      have hnl5 := blk_lt hnb0
      have HZ5 := Lib.hid (HZ.out.step hz5)
      have HI5 := Lib.hid (HI.out.grow hz5)
      obtain ⟨hrl, c1, c2, c3, c4, c5, c6, c7, c0⟩ := ((HR3.out.grow HZ.out).grow hz5).cells
      clear c1 c3 c6 c7 c0 hnb hnb0 hw5 hz5 n3 hnl
      have HE1 := Lib.hid (show ∀ o1, Grow w3 (w5.alloc o1) ∧ IdsW w3.heap.size (w5.alloc o1) (.slice oa fl.length co) fl from fun o1 => ⟨HZ5.out.allocd o1, HI5.out.grow ((Grow.rfl' w5).allocd o1)⟩)
      have HE2 := Lib.hid (show ∀ o1 o2, Grow w3 ((w5.alloc o1).alloc o2) ∧ IdsW w3.heap.size ((w5.alloc o1).alloc o2) (.slice oa fl.length co) fl from fun o1 o2 => ⟨(HZ5.out.allocd o1).allocd o2, HI5.out.grow (((Grow.rfl' w5).allocd o1).allocd o2)⟩)
      have hzs := HZ5.out.size
      by_cases h2 : wrongR N r x = true
      · have HD := Lib.hid (show ((E.take (j + 1)).filter (wrongR N r)).map (·.id) = fl ++ [x.id] by
          rw [HT.out, List.filter_append, ← HFF.out]
          simp [h2])
        have h3 := HV.out.symm.trans h2
        clear h2
        cases bt
        · cases h3
        · cases bf
          · clear h3
            go_wp2_with (at_builtin; go_must (refine wpList_append_I rfl (.tmp 105) (.tmp 108) 32 rfl Tryz.underlying32 w3.heap.size _ fl rfl (HE2.out _ _).2 x.id _ rfl (rd1 _ _ _ (by simp)) (by simp; omega) (by have := HLE.out; have := HBD.out; omega) ?_))
            intro v5 w6 k1 k2 k3
            have H5 := Lib.hid k1; have HG5 := Lib.hid ((HE2.out _ _).1.since k2 (Nat.le_refl _))
            clear k1 k2 k3
            go_wp2
            go_roundg (E.length - (j + 1))
            case measure => omega
            case rel => exact ⟨j + 1, by omega, rfl, by go_num, by rw [HD.out]; exact H5.out, HG5.out⟩
          · cases bo
            · clear h3
              go_wp2_with (at_builtin; go_must (refine wpList_append_I rfl (.tmp 105) (.tmp 108) 32 rfl Tryz.underlying32 w3.heap.size _ fl rfl (HE2.out _ _).2 x.id _ rfl (rd1 _ _ _ (by simp)) (by simp; omega) (by have := HLE.out; have := HBD.out; omega) ?_))
              intro v5 w6 k1 k2 k3
              have H5 := Lib.hid k1; have HG5 := Lib.hid ((HE2.out _ _).1.since k2 (Nat.le_refl _))
              clear k1 k2 k3
              go_wp2
              go_roundg (E.length - (j + 1))
              case measure => omega
              case rel => exact ⟨j + 1, by omega, rfl, by go_num, by rw [HD.out]; exact H5.out, HG5.out⟩
            · cases h3
      · have HD := Lib.hid (show ((E.take (j + 1)).filter (wrongR N r)).map (·.id) = fl by
          rw [HT.out, List.filter_append, ← HFF.out]
          simp [h2])
        have h3 : (bt && !(bf && bo)) = false := by rw [← HV.out]; simpa using h2
        clear h2
        cases bt
        · clear h3
          go_wp2
          go_roundg (E.length - (j + 1))
          case measure => omega
          case rel => exact ⟨j + 1, by omega, rfl, by go_num, by rw [HD.out]; exact (HE1.out _).2, (HE1.out _).1⟩
        · cases bf
          · cases h3
          · cases bo
            · cases h3
            · clear h3
              go_wp2
              go_roundg (E.length - (j + 1))
              case measure => omega
              case rel => exact ⟨j + 1, by omega, rfl, by go_num, by rw [HD.out]; exact (HE1.out _).2, (HE1.out _).1⟩
    · have hkk : E.take j = E := List.take_of_length_le (by omega)
      rw [hkk] at HI
      simp only [hkk]
      have HR := Lib.hid (BrokPost.of (N := N) (E := E) (r := r) ⟨fun h => absurd h (by rw [HF.out]; simp), fun _ => by unfold BrkR; rw [if_neg (by have := HK.out; omega), if_neg (by have := HK.out; omega), if_pos HK.out]⟩ HI.out.toR HG3.out HZ.out)
      clear hkk
      go_wp2
      go_ret
      exact HR.out
end Go.Hg

namespace Go.Hg
open Go.RowKit Go.Proofs MapKept Go.Maps Go.WideElems

/-- what a filter leaves -/
def ffil (f : Int → Option Value) (p : Int → Bool) : Int → Option Value := fun x => match f x with | some (.int .i64 c) => if p c then none else some (.int .i64 c) | _ => none
def litP (p : Int → Bool) : Lit → DataW Unit → Bool := fun _ d => match d with | .lit (.int _ c) => p c | _ => false
theorem view_filter {D : DataW Unit} {f : Int → Option Value} (p : Int → Bool) {es0 : List (Lit × DataW Unit)} (hD : D = .map es0) (hap : es0.Pairwise (fun p q => p.1 ≠ q.1)) (_hk : ∀ p ∈ es0, WideAt.IsKeyLit p.1) (h : HoldsI D f)
    (hf : ∀ x v, f x = some v → ∃ c, v = .int .i64 c) (x : Int) (hx : inI64 x) : viewI (Lib.deleteFuncD (litP p) D) x = ffil f p x := by
  subst hD
  have hkx : WideAt.IsKeyLit (.int .i64 x) := by first | trivial | (unfold WideAt.IsKeyLit; trivial)
  unfold Lib.deleteFuncD
  simp only
  unfold ffil
  have no_of : (∀ q ∈ es0, q.1 = .int .i64 x → litP p q.1 q.2 = true) → viewI (.map (es0.filter fun q => !litP p q.1 q.2)) x = none := by
    intro hq
    unfold viewI
    rw [if_neg]
    intro hh
    obtain ⟨q, hq1, hq2⟩ := List.any_eq_true.1 hh
    obtain ⟨hq3, hq4⟩ := List.mem_filter.1 hq1
    rw [hq q hq3 (WideAt.sameKey_eq hq2)] at hq4
    cases hq4
  cases hfx : f x with
  | none =>
    simp only
    refine no_of fun q hq e => ?_
    have h1 := h.2 x hfx hx
    have h2 : Maps.has (DataW.map es0) (.int .i64 x) = true := List.any_eq_true.2 ⟨q, hq, by rw [e]; exact WideAt.sameKey_self hkx⟩
    rw [h1] at h2
    cases h2
  | some v =>
    obtain ⟨c, rfl⟩ := hf x v hfx
    obtain ⟨h1, h2⟩ := h.1 x c hfx
    obtain ⟨q, hq1, hq2⟩ := List.any_eq_true.1 h1
    have hqk : q.1 = .int .i64 x := WideAt.sameKey_eq hq2
    have hqv : q.2 = .lit (.int .i64 c) := by
      have := WideAt.atKey_mem (d := q.2) .nil hkx hap (by rw [← hqk]; exact hq1)
      rw [← this]
      exact h2 _
    simp only
    by_cases hp : p c = true
    · rw [if_pos hp]
      refine no_of fun q' hq' e => ?_
      have hv : q'.2 = .lit (.int .i64 c) := by
        have := WideAt.atKey_mem (d := q'.2) .nil hkx hap (by rw [← e]; exact hq')
        rw [← this]
        exact h2 _
      rw [hv]
      exact hp
    · rw [if_neg hp]
      have hmem : (Lit.int .i64 x, (.lit (.int .i64 c) : DataW Unit)) ∈ es0.filter fun q => !litP p q.1 q.2 := by
        refine List.mem_filter.2 ⟨?_, ?_⟩
        · have : q = (Lit.int .i64 x, (.lit (.int .i64 c) : DataW Unit)) := Prod.ext hqk hqv
          rw [← this]
          exact hq1
        · show (!p c) = true
          simpa using hp
      unfold viewI
      rw [if_pos (show Maps.has (DataW.map (es0.filter fun q => !litP p q.1 q.2)) (.int .i64 x) = true from List.any_eq_true.2 ⟨_, hmem, WideAt.sameKey_self hkx⟩), WideAt.atKey_mem .nil hkx (hap.filter _) hmem]
theorem mapsDelete (b n : Nat) (f : Int → Option Value) (p : Int → Bool) (g : Nat) (cb : Array Value) (w : World) (h : MapI w b f n) (hn : n ≤ maxLen) (hc : Counts f) (eg : ∀ args w, (callFunc g args).run Tryz.prog w = .ok (.enter g args) w)
    (hdel : ∀ (W : World) (k c : Int), Mod (fun q => q = b) w W → Calls Tryz.prog g (#[.int .i64 k, .int .i64 c] ++ cb) W fun e w' => e = .returned (.bool (p c)) ∧ Grow W w') :
    Calls Tryz.prog 54 #[.map (some b), .func (.func g) #[] cb] w fun e w' => e = .returned (.tuple #[]) ∧ MapI w' b (ffil f p) n ∧ Mod (fun q => q = b) w w' := by
  obtain ⟨D, hown, hH⟩ := h.ownsV (P := Tryz.prog) (k := 2) (e := 3) Tryz.underlying2 Tryz.underlying3 hn hc
  obtain ⟨es0, hD, hap, hkeys⟩ := hown.entries (int_keyed Tryz.underlying2)
  have hcon := AnyDf.maps_DeleteFunc delA (int_keyed Tryz.underlying2) (plainElem Tryz.prog 3) (litP p) g cb b n D w eg hown (fun W key val kl yd yp hg hk hv => by
    obtain ⟨k, rfl, rfl, hk2⟩ := keyOf_int_inv Tryz.underlying2 hk
    obtain ⟨c, rfl, hc1, -⟩ := plainElem_int_inv Tryz.underlying3 hv
    cases hc1
    exact (hdel W k c (mod_grown hg)).mono fun e w' ⟨he, hg2⟩ => ⟨he, hg2.os, hg2.tape, hg2.output, hg2.size, fun i hi _ => hg2.block i hi⟩)
  refine hcon.mono ?_
  rintro e w' ⟨rfl, h1, h2⟩
  have hff : ∀ x v, ffil f p x = some v → f x = some v ∧ ∃ c, v = .int .i64 c := by
    intro x v hv
    unfold ffil at hv
    split at hv
    · rename_i c hfx
      split at hv
      · cases hv
      · cases hv
        exact ⟨hfx, c, rfl⟩
    · cases hv
  exact ⟨rfl, ownsMap_toI h1 Tryz.underlying2 Tryz.underlying3 (fun x v hv => ⟨(hc x v (hff x v hv).1).1, (hff x v hv).2⟩)
    (fun x hx => view_filter p hD hap hkeys hH (fun x v hv => (hc x v hv).2.imp fun c hc => hc.1) x hx), mod_grown h2⟩

theorem entBrok : ∀ args w, (callFunc 55 args).run Tryz.prog w = .ok (.enter 55 args) w := fun args w => enterF Tryz.func55 (by kernel_rfl) rfl args w
theorem brokenCut (k c : Int) (rb : Nat) (r : PRule) (w : World) (hr : RuleBox w rb r) :
    Calls Tryz.prog 55 #[.int .i64 k, .int .i64 c, .pointer (some ⟨rb, 0, none⟩)] w fun e w' => e = .returned (.bool (decide (c ≤ r.n))) ∧ Grow w w' := by
  obtain ⟨hrl, c1, c2, c3, c4, c5, c6, c7, c0⟩ := hr.cells
  clear hr
  go_enter Tryz.func55, Tryz.ntmps55
  go_wp2
  go_ret
  exact ⟨rfl, Grow.rfl' _⟩
theorem cntK_ffil (M : List Int) (p : Int → Bool) (x : Int) : ffil (cntK M) p x ≠ none ↔ M.count x ≠ 0 ∧ p (M.count x) = false := by
  unfold ffil cntK
  by_cases h : M.count x = 0
  · simp [h]
  · simp [h]

set_option maxRecDepth 100000 in
set_option maxHeartbeats 4000000 in
theorem brokenMost (gv : Value) (N : List PNode) (E : List PEdge) (r : PRule) (w : World) (hg : GAt gv N E w) (hb : E.length ≤ 4096) (h64 : ∀ e ∈ E, (Lit.int .i64 e.from_).wf = true) (hf : formR r = true) (hk : r.kind = 4) :
    Calls Tryz.prog 16 #[gv, r.args] w (BrokPost N E r w) := by
  have HF := Lib.hid hf; have HK := Lib.hid hk; have HGA := Lib.hid hg; have HBD := Lib.hid hb; have H64 := Lib.hid h64
  have HW := Lib.hid (show ∀ o1, Grow w (w.alloc o1) from fun o1 => (Grow.rfl' w).allocd o1)
  have hmm := @run_makeMap Tryz.prog
  have entBrok := entBrok
  clear hf hk hg hb h64
  go_enter Tryz.func16, Tryz.ntmps16
  go_wp2_with fail
  refine (ruleForm r _).mono ?_
  rintro e w2 ⟨rfl, g2⟩
  have HG2 := Lib.hid ((HW.out _).step g2)
  have HRB := Lib.hid (ruleBoxNew w r w2 g2)
  obtain ⟨hrl, c1, c2, c3, c4, c5, c6, c7, c0⟩ := HRB.out.cells
  rw [HF.out]
  rw [HK.out] at c1
  have HM0 := Lib.hid (show MapK (fun k : Int => .int .i64 k) (w2.alloc (.map #[] 0)) w2.heap.size (cntK ([] : List Int)) 0 from MapK.made w2)
  have HA2 := Lib.hid (show ∀ o1, Grow w2 (w2.alloc o1) from fun o1 => (Grow.rfl' w2).allocd o1)
  clear g2
  go_wp2_with fail
  clear hmm
  refine (HGA.out _ (HG2.out.step (HA2.out _))).2.mono ?_
  rintro e w3 ⟨v3, rfl, hn3, hg3⟩
  obtain ⟨ab, cb, rfl, hbl, hbc, hB⟩ := SlR.open hn3
  unfold maxLen at hbc
  have HE3 := Lib.hid hn3
  have hM3 := HM0.out.grow hg3
  have HM3 := Lib.hid hM3
  have hml3 := hM3.lt
  have h23 : w2.heap.size < w3.heap.size := hml3
  have HR3 := Lib.hid (HRB.out.grow ((HA2.out _).step hg3)); have HG3 := Lib.hid (HG2.out.step ((HA2.out _).step hg3))
  have HG23 := Lib.hid ((HA2.out _).step hg3)
  clear hn3 hg3 hB hM3 hrl c1 c2 c3 c4 c5 c6 c7 c0
  go_wp2
  go_loopg [116] E.length (fun g i wr => ∃ k : Nat, k ≤ E.length ∧ g = E.length - k ∧ i = .int .i64 k ∧ MapK (fun k : Int => .int .i64 k) wr w2.heap.size (cntK (fromsR r (E.take k))) k ∧ Mod (fun q => q = w2.heap.size) w3 wr)
  case atStart => exact ⟨0, by omega, by omega, rfl, HM3.out, Mod.rfl' _ w3⟩
  case round =>
    obtain ⟨k, hk, rfl, rfl, hm, hgr⟩ := hrel
    have HM := Lib.hid hm; have HGR := Lib.hid hgr
    have hml := hm.lt
    have hEr : EdgesR (fun b => (w2.alloc (.map #[] 0)).heap.size ≤ b) wr (.slice ab E.length cb) E := SlR.keep HE3.out (fun b hS hb => hgr.block b hb (by simp at hS; omega)) hgr.size (fun _ _ _ ⟨pv, hr, hp⟩ => ⟨pv, hr, hp.mod hgr (fun b hS => by simp at hS; omega)⟩)
    obtain ⟨_, _, hv, -, -, hA⟩ := SlR.open hEr
    simp only [Value.slice.injEq, true_and] at hv
    obtain ⟨rfl, rfl⟩ := hv
    have hrlt := blk_lt HRB.out
    have hrb := ruleMod HR3.out hgr (show ¬ w.heap.size = w2.heap.size by omega)
    have HRr := Lib.hid hrb
    clear hm hEr
    by_cases hkl : k < E.length
    · obtain ⟨ba, oa, ra, rfl, hSa, hba, hRa, hca⟩ := hA k E[k] (List.getElem?_eq_getElem hkl)
      obtain ⟨pva, hba', a0, a1, a2, a3, a4, hpa⟩ := hRa.at hba (Grow.rfl' wr) hca
      clear hca hRa hSa hba hA
      have HT := Lib.hid (show E.take (k + 1) = E.take k ++ [E[k]] from List.take_succ_eq_append_getElem hkl)
      generalize E[k] = x at *
      obtain ⟨_, _, rfl⟩ := hpa.isSlice
      obtain ⟨hrl, c1, c2, c3, c4, c5, c6, c7, c0⟩ := hrb.cells
      clear hpa hrb c1 c3 c4 c5 c6 c7 c0
      have HWR := Lib.hid (show ∀ o1, Grow wr (wr.alloc o1) from fun o1 => (Grow.rfl' wr).allocd o1)
      have HGN := Lib.hid (show ∀ o1, Mod (fun q => q = w2.heap.size) w3 (wr.alloc o1) from fun o1 => HGR.out.allocd o1)
      have HFS := Lib.hid (fromsR_snoc r (E.take k) x)
      clear hgr
      obtain ⟨bt, hbt⟩ : ∃ b, decide (x.typ = r.typ) = b := ⟨_, rfl⟩
      have HBT := Lib.hid hbt
      cases bt
      · go_wp2
        go_roundg (E.length - (k + 1))
        case measure => omega
        case rel =>
          refine ⟨k + 1, by omega, rfl, by go_num, ?_, HGN.out _⟩
          rw [HT.out, HFS.out, HBT.out, if_neg (by simp)]
          exact (HM.out.grow (HWR.out _)).mono (by omega)
      · have HCV := Lib.hid (cntK_getD (fromsR r (E.take k)) x.from_)
        have HST := Lib.hid (cntK_step1 (fromsR r (E.take k)) x.from_)
        have hcl : ((fromsR r (E.take k)).count x.from_ : Int) ≤ k := by
          have h1 := List.count_le_length (a := x.from_) (l := fromsR r (E.take k))
          have h2 := fromsR_len r (E.take k)
          rw [List.length_take] at h2
          omega
        have hwr : IntKind.i64.wrap (((fromsR r (E.take k)).count x.from_ : Int) + 1) = ((fromsR r (E.take k)).count x.from_ : Int) + 1 := by rw [IntKind.wrap_i64]; omega
        generalize (fromsR r (E.take k)).count x.from_ = c at *
        go_wp2_with (first
          | (at_lookup; go_must (refine wpList_lookK _ rfl (.tmp 125) (.tmp 127) 101 rfl 2 3 Tryz.underlying101 (keyK_int Tryz.underlying2) (.int .i64 0) (zeroIntV _) _ _ _ rfl (HM.out.grow (HWR.out _)) x.from_ rfl _ HCV.out ?_))
          | (at_mapUpdate; go_must (refine wpList_updK _ rfl (.tmp 125) (.tmp 127) (.tmp 129) 101 rfl 2 3 Tryz.underlying101 (keyK_int Tryz.underlying2) _ _ _ rfl (HM.out.grow (HWR.out _)) x.from_ rfl (.int .i64 ((c : Int) + 1)) (by first | rfl | (simp [hwr]; done) | go_num) ?_); intro w5 g1 _ g3 _; go_frame))
        rw [HST.out] at g1
        go_roundg (E.length - (k + 1))
        case measure => omega
        case rel =>
          refine ⟨k + 1, by omega, rfl, by go_num, ?_, (HGN.out _).step g3⟩
          rw [HT.out, HFS.out, HBT.out, if_pos rfl]
          exact g1
    · have hkk : E.take k = E := List.take_of_length_le (by omega)
      rw [hkk] at HM
      have HG := Lib.hid (show Grow w wr from HG3.out.modd hgr (fun q hq => by rw [hq]; omega))
      have hfl := fromsR_len r E
      have HCN := Lib.hid (cntK_wf (M := fromsR r E) (fun x hx => by
        unfold fromsR at hx
        obtain ⟨e, he, rfl⟩ := List.mem_map.1 hx
        exact H64.out e (List.mem_filter.1 he).1) (by have := HBD.out; omega))
      have HDEL := Lib.hid (show ∀ (W : World) (k c : Int), Mod (fun q => q = w2.heap.size) wr W → Calls Tryz.prog 55 (#[.int .i64 k, .int .i64 c] ++ #[.pointer (some ⟨w.heap.size, 0, none⟩)]) W fun e w' => e = .returned (.bool (decide (c ≤ r.n))) ∧ Grow W w' from
        fun W k c hm => brokenCut k c w.heap.size r W (ruleMod HRr.out hm (show ¬ w.heap.size = w2.heap.size by omega)))
      have HSZ := Lib.hid (show w.heap.size ≤ w2.heap.size by omega)
      clear hkk hA hgr hrb
      go_wp2_with fail
      refine (mapsDelete w2.heap.size k (cntK (fromsR r E)) (fun c => decide (c ≤ r.n)) 55 #[.pointer (some ⟨w.heap.size, 0, none⟩)] wr HM.out (by have := HBD.out; unfold maxLen; omega) HCN.out entBrok HDEL.out).mono ?_
      rintro e w6 ⟨rfl, h6, g6⟩
      have H6 := Lib.hid h6; have HG6 := Lib.hid (HG.out.modd g6 (fun q hq => by rw [hq]; exact HSZ.out))
      clear h6 g6
      go_wp2_with fail
      refine (mapsKeys w2.heap.size w6).mono ?_
      rintro e w7 ⟨rfl, rfl⟩
      go_wp2_with fail
      refine (slicesSorted w2.heap.size k _ w6 H6.out (by have := HBD.out; omega) (fun x hx => ?_)).mono ?_
      · have h := ((cntK_ffil _ _ x).1 hx).1
        have hxm : x ∈ fromsR r E := List.count_pos_iff.1 (by omega)
        unfold fromsR at hxm
        obtain ⟨e, he, rfl⟩ := List.mem_map.1 hxm
        exact H64.out e (List.mem_filter.1 he).1
      rintro e w8 ⟨v8, L, rfl, hL, hv8, hg8⟩
      have HR := Lib.hid (BrokPost.of (N := N) (E := E) (r := r) ⟨fun h => absurd h (by rw [HF.out]; simp), fun _ => by
        have hk4 := HK.out
        have hn0 := formR_most HF.out (by omega) (by omega) (by omega)
        unfold BrkR
        rw [if_neg (by omega), if_neg (by omega), if_neg (by omega)]
        refine hL.congr fun x => ?_
        rw [cntK_ffil, count_froms]
        simp only [decide_eq_false_iff_not]
        omega⟩ hv8 HG6.out hg8)
      clear hL hv8 hg8
      go_wp2
      go_ret
      exact HR.out
theorem checkBroken (gv : Value) (N : List PNode) (E : List PEdge) (r : PRule) (w : World) (hg : GAt gv N E w) (hgn : GNode gv N w) (hn : N.length ≤ 4096) (hb : E.length ≤ 4096) (h64 : ∀ e ∈ E, (Lit.int .i64 e.from_).wf = true) :
    Calls Tryz.prog 16 #[gv, r.args] w (BrokPost N E r w) := by
  cases hf : formR r with
  | false => exact brokenNo gv N E r w hf
  | true =>
    rcases formR_kind hf with hk | hk | hk | hk
    · exact brokenUniq gv N E r w hg (by omega) hf hk
    · exact brokenExists gv N E r w hg (by omega) hf hk
    · exact brokenEnds gv N E r w hg hgn (by omega) hf hk
    · exact brokenMost gv N E r w hg hb h64 hf hk
end Go.Hg

namespace Go.Hg
open Go.RowKit Go.Proofs

/-- the Ids of which spots tell -/
def toldR (sp : List PSpot) (l : List PRule) : List Int := (l.filter fun r => decide (r.state = 2) && touchR sp r).map (·.id)
theorem toldR_snoc (sp : List PSpot) (l : List PRule) (r : PRule) : toldR sp (l ++ [r]) = if (decide (r.state = 2) && touchR sp r) = true then toldR sp l ++ [r.id] else toldR sp l := by
  unfold toldR
  rw [List.filter_append]
  by_cases h : (decide (r.state = 2) && touchR sp r) = true
  · rw [if_pos h]; simp only [List.filter_cons, if_pos h, List.filter_nil, List.map_append, List.map_cons, List.map_nil]
  · rw [if_neg h]; simp only [List.filter_cons, if_neg h, List.filter_nil, List.append_nil]
theorem toldR_len (sp : List PSpot) (l : List PRule) : (toldR sp l).length ≤ l.length := by
  unfold toldR
  rw [List.length_map]
  exact List.length_filter_le _ _
abbrev spotBox (k : Int) (t n : ByteArray) : Obj := .cells #[.int .i64 k, .string t, .string n] 136 (0, 0)
abbrev ruleObj (r : PRule) : Obj := .cells #[.int .i64 r.id, .int .i64 r.kind, .string r.typ, .string r.name, .string r.from_, .string r.to_, .int .i64 r.n, .int .i64 r.state] 24 (0, 0)

theorem two4 (W : World) (o1 o2 : Obj) : ((W.alloc o1).alloc o2).drew.heap[W.heap.size]? = some o1 ∧ ((W.alloc o1).alloc o2).drew.heap[W.heap.size + 1]? = some o2 ∧ Grow W ((W.alloc o1).alloc o2).drew := by
  have h2 := heap_alloc_new (W.alloc o1) o2
  rw [World.size_alloc] at h2
  exact ⟨(((Grow.rfl' (W.alloc o1)).allocd o2).heapEq (by simp)).trans (heap_alloc_new W o1), h2, (((Grow.rfl' W).allocd o1).allocd o2).drewd⟩

set_option maxRecDepth 100000 in
set_option maxHeartbeats 8000000 in
theorem dirtyConcerned (S S2 : Nat → Prop) (nv ev rv iv nx lv : Value) (l : List PRule) (sp : List PSpot) (w : World) (hl : SlR S w 8 RRule rv l) (hs : SpotsR S2 w lv sp) (hb : l.length ≤ 4096) (hwf : ∀ r ∈ l, (Lit.int .i64 r.id).wf = true)
    (hv : (∃ a n c, nv = .slice a n c) ∧ (∃ a n c, ev = .slice a n c) ∧ (∃ a n c, iv = .slice a n c) ∧ ∃ n, nx = .int .i64 n) :
    Calls Tryz.prog 39 #[.agg #[nv, ev, rv, iv, nx], lv] w fun e w' => ∃ v L, e = .returned v ∧ RSet L (· ∈ toldR sp l) ∧ IdsR (fun b => w.heap.size ≤ b) w' v L ∧ Grow w w' := by
  obtain ⟨⟨an, nn, cn, rfl⟩, ⟨ae, ne, ce, rfl⟩, ⟨ai, ni, ci, rfl⟩, ⟨xn, rfl⟩⟩ := hv
  have HS := Lib.hid hs; have HBD := Lib.hid hb; have HWF := Lib.hid hwf
  obtain ⟨al, cl, rfl, hll, hlc, hL⟩ := SlR.open hl
  obtain ⟨_, _, rfl, _⟩ := SlR.open hs
  unfold maxLen at hlc
  have HL := Lib.hid hL
  have HG := Lib.hid (show ∀ o1 o2, Grow w ((w.alloc o1).alloc o2) from fun o1 o2 => ((Grow.rfl' w).allocd o1).allocd o2)
  have HM0 := Lib.hid (show ∀ o1, MapK (fun k : Int => .int .i64 k) ((w.alloc o1).alloc (.map #[] 0)) (w.heap.size + 1) (cntK ([] : List Int)) 0 from fun o1 => by
    have h := MapK.made (kv := fun k : Int => .int .i64 k) (w.alloc o1)
    rw [World.size_alloc] at h
    exact h)
  clear hs hl hb hL hwf
  have hmm := @run_makeMap Tryz.prog
  go_enter Tryz.func39, Tryz.ntmps39
  go_wp2
  clear hmm
  obtain ⟨W1, hW1⟩ : ∃ W1, (w.alloc (.cells #[.slice an nn cn, .slice ae ne ce, .slice al l.length cl, .slice ai ni ci, .int .i64 xn] 52)).alloc (.map #[] 0) = W1 := ⟨_, rfl⟩
  have HG1 := Lib.hid (show Grow w W1 from hW1 ▸ HG.out _ _)
  have HM1 := Lib.hid (show MapK (fun k : Int => .int .i64 k) W1 (w.heap.size + 1) (cntK ([] : List Int)) 0 from hW1 ▸ HM0.out _)
  have hsz1 : w.heap.size + 1 < W1.heap.size := HM1.out.lt
  rw [hW1]
  clear hW1 HM0 HG
  go_loopg [15] l.length (fun g kv wr => ∃ k : Nat, k ≤ l.length ∧ g = l.length - k ∧ kv = .int .i64 k ∧ MapK (fun k : Int => .int .i64 k) wr (w.heap.size + 1) (cntK (toldR sp (l.take k))) k ∧ Mod (fun q => q = w.heap.size + 1) W1 wr)
  case atStart => exact ⟨0, by omega, by omega, rfl, HM1.out, Mod.rfl' _ W1⟩
  case round =>
    obtain ⟨k, hk, rfl, rfl, hm, hg⟩ := hrel
    have HM := Lib.hid hm; have HGR := Lib.hid hg
    have HGW := Lib.hid (show Grow w wr from HG1.out.modd hg (fun q hq => by rw [hq]; omega))
    have hml := hm.lt
    clear hm hg
    by_cases hkl : k < l.length
    · obtain ⟨ba, oa', ra, rfl, hSa, hba, hRa, hca⟩ := HL.out k l[k] (List.getElem?_eq_getElem hkl)
      have HX := Lib.hid (show ∀ w', Grow w w' → _ from fun w' g => ruleAt hRa hba g hca)
      have HT := Lib.hid (show l.take (k + 1) = l.take k ++ [l[k]] from List.take_succ_eq_append_getElem hkl)
      clear hca hRa hSa hba
      generalize l[k] = r at *
      have HTS := Lib.hid (toldR_snoc sp (l.take k) r)
      have HTL := Lib.hid (show (toldR sp (l.take k)).length ≤ k from Nat.le_trans (toldR_len _ _) (by rw [List.length_take]; omega))
      obtain ⟨hal, c0, c1, c2, c3, c4, c5, c6, c7⟩ := HX.out wr HGW.out
      obtain ⟨bs, hbs⟩ : ∃ b, (r.state == 2) = b := ⟨_, rfl⟩
      have HBS := Lib.hid (show decide (r.state = 2) = bs by rw [← hbs, int_beq])
      obtain ⟨bt, hbt⟩ : ∃ b, touchR sp r = b := ⟨_, rfl⟩
      have HBT := Lib.hid hbt
      have HW := Lib.hid (show ∀ o1, Grow wr (wr.alloc o1) from fun o1 => (Grow.rfl' wr).allocd o1)
      have HRB := Lib.hid (fun w' => ruleBoxNew wr r w')
      have HSTAY := Lib.hid (show ∀ w4, Grow wr w4 → MapK (fun k : Int => .int .i64 k) w4 (w.heap.size + 1) (cntK (toldR sp (l.take k))) (k + 1) ∧ Mod (fun q => q = w.heap.size + 1) W1 w4 from fun w4 h => ⟨(HM.out.grow h).mono (by omega), HGR.out.step (Mod.of_grow h)⟩)
      clear hbt
      cases bs
      · have hbn : (r.state != 2) = true := by unfold bne; rw [hbs]; rfl
        go_wp2_with fail
        go_roundg (l.length - (k + 1))
        case measure => omega
        case rel => exact ⟨k + 1, by omega, rfl, by go_num, by rw [HT.out, HTS.out, HBS.out, if_neg (by simp)]; exact (HSTAY.out _ (HW.out _)).1, (HSTAY.out _ (HW.out _)).2⟩
      · have hbn : (r.state != 2) = false := by unfold bne; rw [hbs]; rfl
        go_upto_region 7 with fail
        obtain ⟨w4, hw4⟩ : ∃ w4, wr.alloc (.cells #[.int .i64 r.id, .int .i64 r.kind, .string r.typ, .string r.name, .string r.from_, .string r.to_, .int .i64 r.n, .int .i64 r.state] 24) = w4 := ⟨_, rfl⟩
        have HG4 := Lib.hid (show Grow wr w4 from hw4 ▸ HW.out _)
        have HR4 := Lib.hid (show ∀ w', Grow w4 w' → RuleBox w' wr.heap.size r from fun w' g => HRB.out w' (hw4 ▸ g))
        rw [hw4]
        clear hw4 c0 c1 c2 c3 c4 c5 c6 c7 hal
        obtain ⟨hrl, c1, c2, c3, c4, c5, c6, c7, c0⟩ := (HR4.out w4 (Grow.rfl' _)).cells
        go_cut [9, 10] (fun s t wx => ∃ B9 B10 : Nat, s = .pointer (some ⟨B9, 0, none⟩) ∧ t = .pointer (some ⟨B10, 0, none⟩) ∧ wx.heap[B9]? = some (spotBox 1 r.typ r.name) ∧ wx.heap[B10]? = some (spotBox 1 r.typ ByteArray.empty) ∧ Grow w4 wx)
        case first =>
          go_region
          · go_wp2_with fail
            go_meet
            exact ⟨w4.heap.size, w4.heap.size + 1, rfl, rfl, (two4 w4 _ _).1, (two4 w4 _ _).2.1, (two4 w4 _ _).2.2⟩
          · go_wp2_with fail
            go_meet
            exact ⟨w4.heap.size + 1, w4.heap.size, rfl, rfl, (two4 w4 _ _).2.1, (two4 w4 _ _).1, (two4 w4 _ _).2.2⟩
        case rest =>
          obtain ⟨B9, B10, rfl, rfl, h9, h10, hg6⟩ := hcut
          obtain ⟨w6, rfl⟩ : ∃ w6, w6 = wc := ⟨_, rfl⟩
          have H9 := Lib.hid h9; have H10 := Lib.hid h10; have HG6 := Lib.hid hg6
          have hbl9 := blk_lt h9
          have y0 : w6.cell? ⟨B9, 0, none⟩ = some (.int .i64 1) := (blk_cell h9 _).trans rfl
          have y1 : w6.cell? ⟨B9, 1, none⟩ = some (.string r.typ) := (blk_cell h9 _).trans rfl
          have y2 : w6.cell? ⟨B9, 2, none⟩ = some (.string r.name) := (blk_cell h9 _).trans rfl
          have HR6 := Lib.hid (HR4.out w6 hg6)
          clear h9 h10 hg6 hrl c1 c2 c3 c4 c5 c6 c7 c0
          obtain ⟨hrl, c1, c2, c3, c4, c5, c6, c7, c0⟩ := HR6.out.cells
          clear c3 c4 c5 c6 c7 c0
          go_upto_block 2 with fail
          go_cut [8] (fun s wx => s = .bool bt ∧ Grow w6 wx)
          case first =>
            have HG6o := HG6
            replace HG6 := Lib.hid (Grow.rfl' w6)
            by_cases h1 : r.kind = 1
            · have k1 : (r.kind == 1) = true := by rw [int_beq]; exact decide_eq_true h1
              have HT1 := Lib.hid (show decide (PSpot.mk 1 r.typ r.name ∈ sp) = bt by rw [← HBT.out]; unfold touchR; rw [if_pos h1])
              clear h1
              go_wp2_with fail
              refine (dirtyAmongB (HS.out.grow (HGW.out.step (HG4.out.step (HG6o.out.step HG6.out)))) HT1.out).mono ?_
              rintro e w7 ⟨rfl, g7⟩
              have HG7 := Lib.hid (HG6.out.step g7)
              clear g7
              go_wp2_with fail
              go_meet
              exact ⟨rfl, HG7.out⟩
            by_cases h2 : r.kind = 2
            · have k1 : (r.kind == 1) = false := by rw [int_beq]; exact decide_eq_false h1
              have k2 : (r.kind == 2) = true := by rw [int_beq]; exact decide_eq_true h2
              obtain ⟨ba1, hba1⟩ : ∃ b, decide (PSpot.mk 1 r.typ r.name ∈ sp) = b := ⟨_, rfl⟩
              obtain ⟨ba2, hba2⟩ : ∃ b, decide (PSpot.mk 1 r.typ ByteArray.empty ∈ sp) = b := ⟨_, rfl⟩
              have HA1 := Lib.hid hba1; have HA2 := Lib.hid hba2
              have HT1 := Lib.hid (show (ba1 || ba2) = bt by rw [← HBT.out]; unfold touchR; rw [if_neg h1, if_pos h2, hba1, hba2])
              clear h1 h2 hba1 hba2
              go_wp2_with fail
              refine (dirtyAmongB (HS.out.grow (HGW.out.step (HG4.out.step (HG6o.out.step HG6.out)))) HA1.out).mono ?_
              rintro e w7 ⟨rfl, g7⟩
              have HG7 := Lib.hid (HG6.out.step g7)
              have h10 := (g7.heapEq (blk_lt H10.out)).trans H10.out
              have hbl := blk_lt h10
              have z0 : w7.cell? ⟨B10, 0, none⟩ = some (.int .i64 1) := (blk_cell h10 _).trans rfl
              have z1 : w7.cell? ⟨B10, 1, none⟩ = some (.string r.typ) := (blk_cell h10 _).trans rfl
              have z2 : w7.cell? ⟨B10, 2, none⟩ = some (.string ByteArray.empty) := (blk_cell h10 _).trans rfl
              clear g7 h10
              cases ba1
              · go_wp2_with fail
                refine (dirtyAmongB (HS.out.grow (HGW.out.step (HG4.out.step (HG6o.out.step HG7.out)))) HA2.out).mono ?_
                rintro e w8 ⟨rfl, g8⟩
                have HG8 := Lib.hid (HG7.out.step g8)
                clear g8
                go_wp2_with fail
                go_meet
                exact ⟨by rw [← HT1.out]; rfl, HG8.out⟩
              · go_wp2_with fail
                go_meet
                exact ⟨by rw [← HT1.out]; rfl, HG7.out⟩
            by_cases h3 : r.kind = 3
            · have k1 : (r.kind == 1) = false := by rw [int_beq]; exact decide_eq_false h1
              have k2 : (r.kind == 2) = false := by rw [int_beq]; exact decide_eq_false h2
              have k3 : (r.kind == 3) = true := by rw [int_beq]; exact decide_eq_true h3
              have HT1 := Lib.hid (show decide (PSpot.mk 2 r.typ ByteArray.empty ∈ sp) = bt by rw [← HBT.out]; unfold touchR; rw [if_neg h1, if_neg h2, if_pos (.inl h3)])
              clear h1 h2 h3
              go_wp2_with fail
              refine (dirtyAmongB (HS.out.grow (HGW.out.step (HG4.out.step (HG6o.out.step HG6.out)))) HT1.out).mono ?_
              rintro e w7 ⟨rfl, g7⟩
              have HG7 := Lib.hid (HG6.out.step g7)
              clear g7
              go_wp2_with fail
              go_meet
              exact ⟨rfl, HG7.out⟩
            by_cases h4 : r.kind = 4
            · have k1 : (r.kind == 1) = false := by rw [int_beq]; exact decide_eq_false h1
              have k2 : (r.kind == 2) = false := by rw [int_beq]; exact decide_eq_false h2
              have k3 : (r.kind == 3) = false := by rw [int_beq]; exact decide_eq_false h3
              have k4 : (r.kind == 4) = true := by rw [int_beq]; exact decide_eq_true h4
              have HT1 := Lib.hid (show decide (PSpot.mk 2 r.typ ByteArray.empty ∈ sp) = bt by rw [← HBT.out]; unfold touchR; rw [if_neg h1, if_neg h2, if_pos (.inr h4)])
              clear h1 h2 h3 h4
              go_wp2_with fail
              refine (dirtyAmongB (HS.out.grow (HGW.out.step (HG4.out.step (HG6o.out.step HG6.out)))) HT1.out).mono ?_
              rintro e w7 ⟨rfl, g7⟩
              have HG7 := Lib.hid (HG6.out.step g7)
              clear g7
              go_wp2_with fail
              go_meet
              exact ⟨rfl, HG7.out⟩
            · have k1 : (r.kind == 1) = false := by rw [int_beq]; exact decide_eq_false h1
              have k2 : (r.kind == 2) = false := by rw [int_beq]; exact decide_eq_false h2
              have k3 : (r.kind == 3) = false := by rw [int_beq]; exact decide_eq_false h3
              have k4 : (r.kind == 4) = false := by rw [int_beq]; exact decide_eq_false h4
              have HT1 := Lib.hid (show false = bt by rw [← HBT.out]; unfold touchR; rw [if_neg h1, if_neg h2, if_neg (by omega)])
              clear h1 h2 h3 h4
              go_wp2_with fail
              go_meet
              exact ⟨by rw [← HT1.out], HG6.out⟩
          case rest =>
            obtain ⟨rfl, hg7⟩ := hcut
            obtain ⟨w7, rfl⟩ : ∃ w7, w7 = wc := ⟨_, rfl⟩
            have HG7 := Lib.hid (HG4.out.step (HG6.out.step hg7))
            have HR7 := Lib.hid (HR6.out.grow hg7)
            clear hg7 hrl c1 c2 y0 y1 y2 hbl9
            cases bt
            · go_wp2_with fail
              go_roundg (l.length - (k + 1))
              case measure => omega
              case rel => exact ⟨k + 1, by omega, rfl, by go_num, by rw [HT.out, HTS.out, HBS.out, HBT.out, if_neg (by simp)]; exact (HSTAY.out _ HG7.out).1, (HSTAY.out _ HG7.out).2⟩
            · obtain ⟨hrl, c1, c2, c3, c4, c5, c6, c7, c0⟩ := HR7.out.cells
              have HM7 := Lib.hid (HM.out.grow HG7.out)
              have hml7 := HM7.out.lt
              have HCV := Lib.hid (cntK_getD (toldR sp (l.take k)) r.id)
              have HST := Lib.hid (cntK_step1 (toldR sp (l.take k)) r.id)
              have hcl : ((toldR sp (l.take k)).count r.id : Int) ≤ k := by
                have h1 := List.count_le_length (a := r.id) (l := toldR sp (l.take k))
                have h2 := HTL.out
                omega
              have hwr : IntKind.i64.wrap (((toldR sp (l.take k)).count r.id : Int) + 1) = ((toldR sp (l.take k)).count r.id : Int) + 1 := by rw [IntKind.wrap_i64]; omega
              generalize (toldR sp (l.take k)).count r.id = c at *
              clear c1 c2 c3 c4 c5 c6 c7
              go_wp2_with (first
                | (at_lookup; go_must (refine wpList_lookK _ rfl (.tmp 56) (.tmp 58) 151 rfl 3 3 Tryz.underlying151 (keyK_int Tryz.underlying3) (.int .i64 0) (zeroIntV _) _ _ _ rfl HM7.out r.id rfl _ HCV.out ?_))
                | (at_mapUpdate; go_must (refine wpList_updK _ rfl (.tmp 56) (.tmp 58) (.tmp 60) 151 rfl 3 3 Tryz.underlying151 (keyK_int Tryz.underlying3) _ _ _ rfl HM7.out r.id rfl (.int .i64 ((c : Int) + 1)) (by first | rfl | (simp [hwr]; done) | go_num) ?_); intro w8 g1 _ g3 _; go_frame))
              rw [HST.out] at g1
              go_roundg (l.length - (k + 1))
              case measure => omega
              case rel =>
                refine ⟨k + 1, by omega, rfl, by go_num, ?_, (HSTAY.out _ HG7.out).2.step g3⟩
                rw [HT.out, HTS.out, HBS.out, HBT.out, if_pos (by simp)]
                exact g1
    · have hkk : l.take k = l := List.take_of_length_le (by omega)
      rw [hkk] at HM
      clear hkk
      go_wp2_with fail
      refine (mapsKeysN (w.heap.size + 1) wr).mono ?_
      rintro e w7 ⟨rfl, rfl⟩
      go_wp2_with fail
      refine (slicesSortedN (w.heap.size + 1) k _ wr HM.out (by have := HBD.out; omega) (fun x hx => ?_)).mono ?_
      · have hxm : x ∈ toldR sp l := by
          by_cases h : x ∈ toldR sp l
          · exact h
          · exfalso
            apply hx
            unfold cntK
            rw [if_pos (List.count_eq_zero.2 h)]
        unfold toldR at hxm
        obtain ⟨e, he, rfl⟩ := List.mem_map.1 hxm
        exact HWF.out e (List.mem_filter.1 he).1
      rintro e w8 ⟨v8, L, rfl, hL, hv8, hg8⟩
      have HR := Lib.hid (show RSet L (· ∈ toldR sp l) from hL.congr fun y => by
        unfold cntK
        by_cases h : List.count y (toldR sp l) = 0
        · rw [if_pos h]
          simp only [ne_eq, not_true_eq_false, false_iff]
          exact List.count_eq_zero.1 h
        · rw [if_neg h]
          simp only [ne_eq, reduceCtorEq, not_false_eq_true, true_iff]
          exact List.count_pos_iff.1 (by omega))
      have HV8 := Lib.hid (SlR.sub hv8 (fun b (hb : wr.heap.size ≤ b) => Nat.le_trans HGW.out.size hb) (fun _ _ _ h => h))
      have HG8 := Lib.hid (HGW.out.step hg8)
      clear hL hv8 hg8
      go_wp2
      go_ret
      exact ⟨_, L, rfl, HR.out, HV8.out, HG8.out⟩
end Go.Hg

namespace Go.Hg
open Go.RowKit Go.Proofs

/-- a type's row of the table -/
structure RowT (P : Program) (e : TypeId) (sz bytes : Nat) : Prop where
  info : ∃ i z, P.info? e = some i ∧ i.zero = some z ∧ i.size = sz ∧ i.bytes = bytes ∧ z.cells.size = sz
  pos : 0 < sz
theorem RowT.of {P : Program} {e : TypeId} {z : Value} {sz bytes : Nat} (h : (P.info? e).map (fun i => (i.zero, i.size, i.bytes)) = some (some z, sz, bytes)) (hz : z.cells.size = sz) (hs : 0 < sz) : RowT P e sz bytes := by
  obtain ⟨i, h1, h2, h3, h4⟩ := info_parts h
  exact ⟨⟨i, z, h1, h2, h3, h4, hz⟩, hs⟩
/-- a row of one's own, made since block n -/
def OwnN {α : Type} (e : TypeId) (sz : Nat) (R : α → List Value → Prop) (n : Nat) (w : World) (v : Value) (l : List α) : Prop := ∃ ob, OwnL w e sz R v l ob ∧ ∀ q, ob = some q → n ≤ q
section
variable {α : Type} {e : TypeId} {sz : Nat} {R : α → List Value → Prop} {n : Nat} {w w' : World} {v : Value} {l : List α}
theorem OwnN.nil (n : Nat) (w : World) : OwnN e sz R n w (.slice none 0 0) [] := ⟨none, OwnL.nil w e sz R, by simp⟩
theorem OwnN.grow (h : OwnN e sz R n w v l) (g : Grow w w') : OwnN e sz R n w' v l := by
  obtain ⟨ob, h1, h2⟩ := h
  exact ⟨ob, h1.keep (fun q hq => g.heapEq (h1.lt q hq)) (fun _ _ _ h => h), h2⟩
theorem OwnN.mod {F : Nat → Prop} (h : OwnN e sz R n w v l) (g : Mod F w w') (hF : ∀ k, n ≤ k → ¬ F k) : OwnN e sz R n w' v l := by
  obtain ⟨ob, h1, h2⟩ := h
  exact ⟨ob, h1.keep (fun q hq => g.block q (h1.lt q hq) (hF q (h2 q hq))) (fun _ _ _ h => h), h2⟩
theorem OwnN.base {m : Nat} (h : OwnN e sz R n w v l) (hm : m ≤ n) : OwnN e sz R m w v l := by
  obtain ⟨ob, h1, h2⟩ := h
  exact ⟨ob, h1, fun q hq => Nat.le_trans hm (h2 q hq)⟩
theorem OwnN.isSlice (h : OwnN e sz R n w v l) : ∃ oa cap, v = .slice oa l.length cap ∧ l.length ≤ cap ∧ cap ≤ maxLen := by
  obtain ⟨ob, ⟨rows, _, _, h1⟩, _⟩ := h
  exact OwnS.isSlice h1
theorem OwnN.toR (h : OwnN e sz R n w v l) : SlR (fun b => n ≤ b) w sz R v l := by
  obtain ⟨ob, h1, h2⟩ := h
  exact h1.toSl h2
theorem OwnN.imp {R' : α → List Value → Prop} (h : OwnN e sz R n w v l) (hR : ∀ x r, x ∈ l → R x r → R' x r) : OwnN e sz R' n w v l := by
  obtain ⟨ob, h1, h2⟩ := h
  exact ⟨ob, h1.keep (fun _ _ => rfl) hR, h2⟩
end
theorem rdK (W : World) (cs : Array Value) (E : TypeId) (sz : Nat) (hs : cs.size = sz) {nb : Nat} (h : W.heap.size = nb) : Rd (W.alloc (.cells cs E)) sz (.slice (some ⟨nb, 0, none⟩) 1 1) 1 cs.toList := by
  subst h
  exact Rd.lit W cs E sz 1 (by omega)
theorem wpList_append_R {P : Program} {α : Type} {R : α → List Value → Prop} {w : World} {ops : Array Oper} {rest : List Oper} {o : Oper} {a : Act} {Q : Exit → Act → World → Prop} (hgd : o.guard = none) (s x : Operand) (t : TypeId)
    (ho : o.op = .call { callee := .builtin .append, args := #[s, x], argTypes := #[t, t] }) {e : TypeId} {sz bytes : Nat} (T : RowT P e sz bytes) (ht : P.underlying t = some (.slice e)) (n : Nat) (v : Value) (l : List α) (hs : a.eval s = v) (h : OwnN e sz R n w v l)
    (y : α) (r : List Value) (hr : R y r) (hrl : r.length = sz) (h1 : ∀ u ∈ r, u.oneCell' = true) (nb : Nat) (hx : a.eval x = .slice (some ⟨nb, 0, none⟩) 1 1) (hrd : Rd w sz (.slice (some ⟨nb, 0, none⟩) 1 1) 1 r) (hn : n ≤ w.heap.size) (hl : l.length + 1 ≤ maxLen) (hby : (l.length + 1) * bytes ≤ 140737488355328)
    (hK : ∀ v' w', OwnN e sz R n w' v' (l ++ [y]) → Since n w w' → w.heap.size ≤ w'.heap.size → wpList P ops Q rest (a.put o.dst v') w') : wpList P ops Q (o :: rest) a w := by
  obtain ⟨⟨iP, z, hiP, hzP0, hzP1, hzP2, hzz⟩, hpos⟩ := T
  obtain ⟨ob, hL, h2⟩ := h
  obtain ⟨rows, hlen, hrow, hS⟩ := hL
  refine wpList_append_S w hgd s x t ho e iP z sz bytes ht hiP hzP0 hzP1 hzP2 hzz hpos v l.length _ ob hs hS _ hx 1 _ hrd h1 hl hby ?_
  intro v' w' ob' k1 k2 k3 _
  refine hK v' w' ⟨ob', ?_, ?_⟩ (k2.mono fun q hq => h2 q hq) k2.size
  · refine ⟨rows ++ [r], by simp [hlen], fun k x1 r1 hx1 hr1 => ?_, ?_⟩
    · by_cases hk : k < l.length
      · rw [List.getElem?_append_left hk] at hx1
        rw [List.getElem?_append_left (by omega)] at hr1
        exact hrow k x1 r1 hx1 hr1
      · have hk2 : k = l.length := by
          have := (List.getElem?_eq_some_iff.1 hx1).1
          simp at this
          omega
        subst hk2
        rw [List.getElem?_append_right (by omega)] at hx1
        rw [← hlen, List.getElem?_append_right (by omega)] at hr1
        simp at hx1 hr1
        subst hx1; subst hr1
        exact ⟨hr, hrl⟩
    · rw [List.length_append, List.flatten_append]
      simpa using k1
  · intro q hq
    rcases k3 with k3 | ⟨g, k3, hg⟩
    · exact h2 q (k3 ▸ hq)
    · rw [k3] at hq; cases hq; omega
end Go.Hg

namespace Go.Hg
open Go.RowKit Go.Proofs

set_option maxRecDepth 100000 in
set_option maxHeartbeats 1000000 in
theorem keepLongsEq (Sa Sb : Nat → Prop) (va vb : Value) (l : List Int) (w : World) (ha : IdsR Sa w va l) (hb : IdsR Sb w vb l) :
    Calls Tryz.prog 15 #[va, vb] w fun e w' => e = .returned (.bool true) ∧ Grow w w' := by
  obtain ⟨aa, ca, rfl, hal, hac, hA⟩ := SlR.open ha
  obtain ⟨ab, cb, rfl, hbl, hbc, hB⟩ := SlR.open hb
  clear ha hb
  unfold maxLen at hac hbc
  have HA := Lib.hid hA; have HB := Lib.hid hB; clear hA hB
  go_enter Tryz.func15, Tryz.ntmps15
  go_wp2
  go_loopg [5] l.length (fun g i wr => ∃ k : Nat, k ≤ l.length ∧ g = l.length - k ∧ i = .int .i64 k ∧ Grow w wr)
  case atStart => exact ⟨0, by omega, by omega, rfl, Grow.rfl' w⟩
  case round =>
    obtain ⟨k, hk, rfl, rfl, hgr⟩ := hrel
    have HGR := Lib.hid hgr
    by_cases hkl : k < l.length
    · obtain ⟨ba, oa, ra, rfl, hSa, hba, hRa, hca⟩ := HA.out k l[k] (List.getElem?_eq_getElem hkl)
      obtain ⟨bb, ob, rb, rfl, hSb, hbb, hRb, hcb⟩ := HB.out k l[k] (List.getElem?_eq_getElem hkl)
      have ha2 : ba < wr.heap.size := Nat.lt_of_lt_of_le hba hgr.size
      have hb2 : bb < wr.heap.size := Nat.lt_of_lt_of_le hbb hgr.size
      have hca0 := (hgr.cell (p := ⟨ba, oa + k * 1 + 0, none⟩) hba).trans (hca 0 (.int .i64 l[k]) (by rw [show ra = [.int .i64 l[k]] from hRa]; rfl))
      have hcb0 := (hgr.cell (p := ⟨bb, ob + k * 1 + 0, none⟩) hbb).trans (hcb 0 (.int .i64 l[k]) (by rw [show rb = [.int .i64 l[k]] from hRb]; rfl))
      rw [Nat.mul_one, Nat.add_zero] at hca0 hcb0
      clear hca hcb hRa hRb hSa hSb hba hbb hgr
      generalize l[k] = x at *
      go_wp2_with fail
      refine wp_region_grow (by kernel_rfl) (by kernel_rfl) ?_
      repeat (go_big_quiet_step (fail))
      refine wpQuiet_nil ?_
      intro w2 hw2
      go_wp2_with fail
      go_roundg (l.length - (k + 1))
      case measure => omega
      case rel => exact ⟨k + 1, by omega, rfl, by go_num, HGR.out.step hw2⟩
    · clear hgr
      go_wp2
      go_ret
      exact ⟨rfl, HGR.out⟩

set_option maxRecDepth 100000 in
set_option maxHeartbeats 1000000 in
theorem keepTextsEq (Sa Sb : Nat → Prop) (va vb : Value) (l : List ByteArray) (w : World) (ha : StrsR Sa w va l) (hb : StrsR Sb w vb l) :
    Calls Tryz.prog 79 #[va, vb] w fun e w' => e = .returned (.bool true) ∧ Grow w w' := by
  obtain ⟨aa, ca, rfl, hal, hac, hA⟩ := SlR.open ha
  obtain ⟨ab, cb, rfl, hbl, hbc, hB⟩ := SlR.open hb
  clear ha hb
  unfold maxLen at hac hbc
  have HA := Lib.hid hA; have HB := Lib.hid hB; clear hA hB
  go_enter Tryz.func79, Tryz.ntmps79
  go_wp2
  go_loopg [5] l.length (fun g i wr => ∃ k : Nat, k ≤ l.length ∧ g = l.length - k ∧ i = .int .i64 k ∧ Grow w wr)
  case atStart => exact ⟨0, by omega, by omega, rfl, Grow.rfl' w⟩
  case round =>
    obtain ⟨k, hk, rfl, rfl, hgr⟩ := hrel
    have HGR := Lib.hid hgr
    by_cases hkl : k < l.length
    · obtain ⟨ba, oa, ra, rfl, hSa, hba, hRa, hca⟩ := HA.out k l[k] (List.getElem?_eq_getElem hkl)
      obtain ⟨bb, ob, rb, rfl, hSb, hbb, hRb, hcb⟩ := HB.out k l[k] (List.getElem?_eq_getElem hkl)
      have ha2 : ba < wr.heap.size := Nat.lt_of_lt_of_le hba hgr.size
      have hb2 : bb < wr.heap.size := Nat.lt_of_lt_of_le hbb hgr.size
      have hca0 := (hgr.cell (p := ⟨ba, oa + k * 1 + 0, none⟩) hba).trans (hca 0 (.string l[k]) (by rw [show ra = [.string l[k]] from hRa]; rfl))
      have hcb0 := (hgr.cell (p := ⟨bb, ob + k * 1 + 0, none⟩) hbb).trans (hcb 0 (.string l[k]) (by rw [show rb = [.string l[k]] from hRb]; rfl))
      rw [Nat.mul_one, Nat.add_zero] at hca0 hcb0
      clear hca hcb hRa hRb hSa hSb hba hbb hgr
      generalize l[k] = x at *
      go_wp2_with fail
      refine wp_region_grow (by kernel_rfl) (by kernel_rfl) ?_
      repeat (go_big_quiet_step (fail))
      refine wpQuiet_nil ?_
      intro w2 hw2
      go_wp2_with fail
      go_roundg (l.length - (k + 1))
      case measure => omega
      case rel => exact ⟨k + 1, by omega, rfl, by go_num, HGR.out.step hw2⟩
    · clear hgr
      go_wp2
      go_ret
      exact ⟨rfl, HGR.out⟩

set_option maxRecDepth 100000 in
set_option maxHeartbeats 1000000 in
theorem keepRuleEq (x : PRule) (w : World) : Calls Tryz.prog 80 #[x.args, x.args] w fun e w' => e = .returned (.bool true) ∧ Grow w w' := by
  have HW := Lib.hid (show ∀ o1 o2, Grow w ((w.alloc o1).alloc o2) from fun o1 o2 => ((Grow.rfl' w).allocd o1).allocd o2)
  go_enter Tryz.func80, Tryz.ntmps80
  go_wp2
  go_ret
  exact ⟨rfl, HW.out _ _⟩
theorem ruleCells {w wr : World} {x : PRule} {r : List Value} {b o : Nat} (h : RRule x r) (hb : b < w.heap.size) (g : Grow w wr) (hc : ∀ (j : Nat) c, r[j]? = some c → w.cell? ⟨b, o + j, none⟩ = some c) :
    b < wr.heap.size ∧ wr.cell? ⟨b, o, none⟩ = some (.int .i64 x.id) ∧ wr.cell? ⟨b, o + 1, none⟩ = some (.int .i64 x.kind) ∧ wr.cell? ⟨b, o + 2, none⟩ = some (.string x.typ) ∧ wr.cell? ⟨b, o + 3, none⟩ = some (.string x.name) ∧ wr.cell? ⟨b, o + 4, none⟩ = some (.string x.from_) ∧ wr.cell? ⟨b, o + 5, none⟩ = some (.string x.to_) ∧ wr.cell? ⟨b, o + 6, none⟩ = some (.int .i64 x.n) ∧ wr.cell? ⟨b, o + 7, none⟩ = some (.int .i64 x.state) := by
  unfold RRule at h
  subst h
  have e : ∀ o', wr.cell? ⟨b, o', none⟩ = w.cell? ⟨b, o', none⟩ := fun o' => World.cell?_of_block (w := w) (g.heapEq hb)
  have hs := g.size
  refine ⟨by omega, ?_, ?_, ?_, ?_, ?_, ?_, ?_, ?_⟩ <;> rw [e]
  · exact hc 0 _ rfl
  · exact hc 1 _ rfl
  · exact hc 2 _ rfl
  · exact hc 3 _ rfl
  · exact hc 4 _ rfl
  · exact hc 5 _ rfl
  · exact hc 6 _ rfl
  · exact hc 7 _ rfl
theorem indexCells {w wr : World} {x : PIndex} {r : List Value} {b o : Nat} (h : RIndex x r) (hb : b < w.heap.size) (g : Grow w wr) (hc : ∀ (j : Nat) c, r[j]? = some c → w.cell? ⟨b, o + j, none⟩ = some c) :
    b < wr.heap.size ∧ wr.cell? ⟨b, o, none⟩ = some (.string x.typ) ∧ wr.cell? ⟨b, o + 1, none⟩ = some (.string x.name) := by
  unfold RIndex at h
  subst h
  have e : ∀ o', wr.cell? ⟨b, o', none⟩ = w.cell? ⟨b, o', none⟩ := fun o' => World.cell?_of_block (w := w) (g.heapEq hb)
  have hs := g.size
  refine ⟨by omega, ?_, ?_⟩ <;> rw [e]
  · exact hc 0 _ rfl
  · exact hc 1 _ rfl
theorem boxes2 (w : World) (nv ev rv iv nv' ev' rv' iv' : Value) (n n' : Int) (T : TypeId) : (∀ w', Grow ((w.alloc (.cells #[nv, ev, rv, iv, .int .i64 n] T)).alloc (.cells #[nv', ev', rv', iv', .int .i64 n'] T)) w' → w'.heap[w.heap.size]? = some (.cells #[nv, ev, rv, iv, .int .i64 n] T (0, 0))) ∧
    (∀ w', Grow ((w.alloc (.cells #[nv, ev, rv, iv, .int .i64 n] T)).alloc (.cells #[nv', ev', rv', iv', .int .i64 n'] T)) w' → w'.heap[w.heap.size + 1]? = some (.cells #[nv', ev', rv', iv', .int .i64 n'] T (0, 0))) := by
  refine ⟨fun w' hg => ?_, fun w' hg => ?_⟩
  · rw [hg.heapEq (by simp; omega), heap_alloc_old (o := _) (h := by simp)]
    exact heap_alloc_new w _
  · rw [hg.heapEq (by simp)]
    have := heap_alloc_new (w.alloc (.cells #[nv, ev, rv, iv, .int .i64 n] T)) (.cells #[nv', ev', rv', iv', .int .i64 n'] T)
    rw [World.size_alloc] at this
    exact this

set_option maxRecDepth 100000 in
set_option maxHeartbeats 4000000 in
theorem keepCatsEq (Sa Sb : Nat → Prop) (nv ev rv iv nv' ev' rv' iv' : Value) (c : PCat) (w : World) (ha : CatR Sa w nv ev rv iv c) (hb : CatR Sb w nv' ev' rv' iv' c) :
    Calls Tryz.prog 34 #[c.arg nv ev rv iv, c.arg nv' ev' rv' iv'] w fun e w' => e = .returned (.bool true) ∧ Grow w w' := by
  have HCA := Lib.hid ha; have HCB := Lib.hid hb
  obtain ⟨na, nc, ea, ec, ra, rc, ia, ic, rfl, rfl, rfl, rfl⟩ := ha.slices
  obtain ⟨na', nc', ea', ec', ra', rc', ia', ic', rfl, rfl, rfl, rfl⟩ := hb.slices
  obtain ⟨_, _, hv, hrl, hrc, hRA⟩ := SlR.open ha.2.2.1
  simp only [Value.slice.injEq, true_and] at hv
  obtain ⟨rfl, rfl⟩ := hv
  obtain ⟨_, _, hv, hrl', hrc', hRB⟩ := SlR.open hb.2.2.1
  simp only [Value.slice.injEq, true_and] at hv
  obtain ⟨rfl, rfl⟩ := hv
  obtain ⟨_, _, hv, hil, hic, hIA⟩ := SlR.open ha.2.2.2
  simp only [Value.slice.injEq, true_and] at hv
  obtain ⟨rfl, rfl⟩ := hv
  obtain ⟨_, _, hv, hil', hic', hIB⟩ := SlR.open hb.2.2.2
  simp only [Value.slice.injEq, true_and] at hv
  obtain ⟨rfl, rfl⟩ := hv
  unfold maxLen at hrc hrc' hic hic'
  have HRA := Lib.hid hRA; have HRB := Lib.hid hRB; have HIA := Lib.hid hIA; have HIB := Lib.hid hIB
  have HW := Lib.hid (show ∀ o1 o2, Grow w ((w.alloc o1).alloc o2) from fun o1 o2 => ((Grow.rfl' w).allocd o1).allocd o2)
  have HBX := Lib.hid (boxes2 w (.slice na c.nodes.length nc) (.slice ea c.edges.length ec) (.slice ra c.rules.length rc) (.slice ia c.indexes.length ic) (.slice na' c.nodes.length nc') (.slice ea' c.edges.length ec') (.slice ra' c.rules.length rc') (.slice ia' c.indexes.length ic') c.nextRule c.nextRule 52)
  clear ha hb hRA hRB hIA hIB
  go_enter Tryz.func34, Tryz.ntmps34
  go_wp2_with fail
  refine (keepTextsEq Sa Sb _ _ c.nodes _ (HCA.out.1.growS (HW.out _ _)) (HCB.out.1.growS (HW.out _ _))).mono ?_
  rintro e w2 ⟨rfl, hg⟩
  have HG2 := Lib.hid ((HW.out _ _).step hg); have HA2 := Lib.hid hg
  have hx := HBX.out.1 _ hg; have hy := HBX.out.2 _ hg
  have hxl := blk_lt hx; have hyl := blk_lt hy
  have x1 : w2.cell? ⟨w.heap.size, 1, none⟩ = some (.slice ea c.edges.length ec) := by rw [blk_cell hx]; rfl
  have y1 : w2.cell? ⟨w.heap.size + 1, 1, none⟩ = some (.slice ea' c.edges.length ec') := by rw [blk_cell hy]; rfl
  clear hg hx hy
  go_wp2_with fail
  refine (keepTextsEq Sa Sb _ _ c.edges _ (HCA.out.2.1.growS HG2.out) (HCB.out.2.1.growS HG2.out)).mono ?_
  rintro e w3 ⟨rfl, hg⟩
  have HG3 := Lib.hid (HG2.out.step hg); have HA3 := Lib.hid (HA2.out.step hg)
  have HX := Lib.hid (show ∀ w', Grow w3 w' → w.heap.size < w'.heap.size ∧ w.heap.size + 1 < w'.heap.size ∧ w'.cell? ⟨w.heap.size, 2, none⟩ = some (.slice ra c.rules.length rc) ∧ w'.cell? ⟨w.heap.size + 1, 2, none⟩ = some (.slice ra' c.rules.length rc') ∧ w'.cell? ⟨w.heap.size, 3, none⟩ = some (.slice ia c.indexes.length ic) ∧ w'.cell? ⟨w.heap.size + 1, 3, none⟩ = some (.slice ia' c.indexes.length ic') ∧ w'.cell? ⟨w.heap.size, 4, none⟩ = some (.int .i64 c.nextRule) ∧ w'.cell? ⟨w.heap.size + 1, 4, none⟩ = some (.int .i64 c.nextRule) from fun w' hg' => by
    have hx := HBX.out.1 _ (HA3.out.step hg'); have hy := HBX.out.2 _ (HA3.out.step hg')
    exact ⟨blk_lt hx, blk_lt hy, by rw [blk_cell hx]; rfl, by rw [blk_cell hy]; rfl, by rw [blk_cell hx]; rfl, by rw [blk_cell hy]; rfl, by rw [blk_cell hx]; rfl, by rw [blk_cell hy]; rfl⟩)
  obtain ⟨hxl3, hyl3, x2, y2, x3, y3, x4, y4⟩ := HX.out _ (Grow.rfl' w3)
  clear hg x1 y1 hxl hyl
  go_wp2
  clear hxl3 hyl3 x2 y2 x3 y3 x4 y4
  go_loopg [5] c.rules.length (fun g i wr => ∃ k : Nat, k ≤ c.rules.length ∧ g = c.rules.length - k ∧ i = .int .i64 k ∧ Grow w3 wr)
  case atStart => exact ⟨0, by omega, by omega, rfl, Grow.rfl' _⟩
  case round =>
    obtain ⟨k, hk, rfl, rfl, hgr⟩ := hrel
    have HGR := Lib.hid hgr
    have hgw := HG3.out.step hgr
    obtain ⟨hxl3, hyl3, x2, y2, x3, y3, x4, y4⟩ := HX.out _ hgr
    by_cases hkl : k < c.rules.length
    · obtain ⟨ba, oa, r1, rfl, hSa, hba, hRa, hca⟩ := HRA.out k c.rules[k] (List.getElem?_eq_getElem hkl)
      obtain ⟨bb, ob, r2, rfl, hSb, hbb, hRb, hcb⟩ := HRB.out k c.rules[k] (List.getElem?_eq_getElem hkl)
      obtain ⟨ha0, a0, a1, a2, a3, a4, a5, a6, a7⟩ := ruleCells hRa hba hgw hca
      obtain ⟨hb0, b0, b1, b2, b3, b4, b5, b6, b7⟩ := ruleCells hRb hbb hgw hcb
      clear hca hcb hRa hRb hSa hSb hba hbb hgr hgw x3 y3 x4 y4
      generalize c.rules[k] = x at *
      go_wp2_with fail
      refine wp_region_grow (by kernel_rfl) (by kernel_rfl) ?_
      repeat (go_big_quiet_step (exact calls_gr (keepRuleEq x _)))
      refine wpQuiet_nil ?_
      intro w4 hw4
      go_wp2_with fail
      go_roundg (c.rules.length - (k + 1))
      case measure => omega
      case rel => exact ⟨k + 1, by omega, rfl, by go_num, HGR.out.step hw4⟩
    · clear hgr hgw
      go_wp2
      clear hxl3 hyl3 x2 y2 x3 y3 x4 y4
      go_loopg [6] c.indexes.length (fun g i wz => ∃ j : Nat, j ≤ c.indexes.length ∧ g = c.indexes.length - j ∧ i = .int .i64 j ∧ Grow w3 wz)
      case atStart => exact ⟨0, by omega, by omega, rfl, HGR.out⟩
      case round =>
        obtain ⟨j, hj, rfl, rfl, hgr⟩ := hrel
        have HGRJ := Lib.hid hgr
        have hgw := HG3.out.step hgr
        obtain ⟨hxl3, hyl3, x2, y2, x3, y3, x4, y4⟩ := HX.out _ hgr
        by_cases hjl : j < c.indexes.length
        · obtain ⟨ba, oa, r1, rfl, hSa, hba, hRa, hca⟩ := HIA.out j c.indexes[j] (List.getElem?_eq_getElem hjl)
          obtain ⟨bb, ob, r2, rfl, hSb, hbb, hRb, hcb⟩ := HIB.out j c.indexes[j] (List.getElem?_eq_getElem hjl)
          obtain ⟨ha0, a0, a1⟩ := indexCells hRa hba hgw hca
          obtain ⟨hb0, b0, b1⟩ := indexCells hRb hbb hgw hcb
          clear hca hcb hRa hRb hSa hSb hba hbb hgr hgw x2 y2 x4 y4
          generalize c.indexes[j] = x at *
          go_wp2_with fail
          refine wp_region_grow (by kernel_rfl) (by kernel_rfl) ?_
          repeat (go_big_quiet_step (fail))
          refine wpQuiet_nil ?_
          intro w4 hw4
          go_wp2_with fail
          go_roundg (c.indexes.length - (j + 1))
          case measure => omega
          case rel => exact ⟨j + 1, by omega, rfl, by go_num, HGRJ.out.step hw4⟩
        · clear hgr hgw
          go_wp2
          go_ret
          exact ⟨rfl, HG3.out.step HGRJ.out⟩
end Go.Hg

namespace Go.Hg
open Go.RowKit Go.Proofs

set_option maxRecDepth 100000 in
set_option maxHeartbeats 1000000 in
theorem keepLargeRule (x : PRule) (w : World) : Calls Tryz.prog 13 #[x.args] w fun e w' => ∃ b, e = .returned (.bool b) ∧ Grow w w' := by
  have HW := Lib.hid (show ∀ o1, Grow w (w.alloc o1) from fun o1 => (Grow.rfl' w).allocd o1)
  cases q1 : decide ((1000 : Int) < (x.typ.size : Int))
  rotate_left
  · go_enter Tryz.func13, Tryz.ntmps13
    go_wp2
    go_ret
    exact ⟨_, rfl, HW.out _⟩
  cases q2 : decide ((1000 : Int) < (x.name.size : Int))
  rotate_left
  · go_enter Tryz.func13, Tryz.ntmps13
    go_wp2
    go_ret
    exact ⟨_, rfl, HW.out _⟩
  cases q3 : decide ((1000 : Int) < (x.from_.size : Int))
  rotate_left
  · go_enter Tryz.func13, Tryz.ntmps13
    go_wp2
    go_ret
    exact ⟨_, rfl, HW.out _⟩
  · go_enter Tryz.func13, Tryz.ntmps13
    go_wp2
    go_ret
    exact ⟨_, rfl, HW.out _⟩

set_option maxRecDepth 100000 in
set_option maxHeartbeats 4000000 in
theorem keepLargeCat (S : Nat → Prop) (nv ev rv iv : Value) (c : PCat) (w : World) (hc : CatR S w nv ev rv iv c) :
    Calls Tryz.prog 26 #[c.arg nv ev rv iv] w fun e w' => ∃ b, e = .returned (.bool b) ∧ (b = false → c.nodes.length ≤ 100 ∧ c.edges.length ≤ 100 ∧ c.rules.length ≤ 100 ∧ c.indexes.length ≤ 100) ∧ Grow w w' := by
  obtain ⟨na, nc, ea, ec, ra, rc, ia, ic, rfl, rfl, rfl, rfl⟩ := hc.slices
  obtain ⟨_, _, hv, hnl, hnc, hN⟩ := SlR.open hc.1
  simp only [Value.slice.injEq, true_and] at hv
  obtain ⟨rfl, rfl⟩ := hv
  obtain ⟨_, _, hv, hel, hec, hE⟩ := SlR.open hc.2.1
  simp only [Value.slice.injEq, true_and] at hv
  obtain ⟨rfl, rfl⟩ := hv
  obtain ⟨_, _, hv, hrl, hrc, hR⟩ := SlR.open hc.2.2.1
  simp only [Value.slice.injEq, true_and] at hv
  obtain ⟨rfl, rfl⟩ := hv
  obtain ⟨_, _, hv, hil, hic, hI⟩ := SlR.open hc.2.2.2
  simp only [Value.slice.injEq, true_and] at hv
  obtain ⟨rfl, rfl⟩ := hv
  unfold maxLen at hnc hec hrc hic
  have HN := Lib.hid hN; have HE := Lib.hid hE; have HR := Lib.hid hR; have HI := Lib.hid hI
  have HW := Lib.hid (show ∀ o1, Grow w (w.alloc o1) from fun o1 => (Grow.rfl' w).allocd o1)
  have HNB := Lib.hid (heap_alloc_new w (.cells #[.slice na c.nodes.length nc, .slice ea c.edges.length ec, .slice ra c.rules.length rc, .slice ia c.indexes.length ic, .int .i64 c.nextRule] 52))
  have HX := Lib.hid (show ∀ w', Grow (w.alloc (.cells #[.slice na c.nodes.length nc, .slice ea c.edges.length ec, .slice ra c.rules.length rc, .slice ia c.indexes.length ic, .int .i64 c.nextRule] 52)) w' → w.heap.size < w'.heap.size ∧ w'.cell? ⟨w.heap.size, 0, none⟩ = some (.slice na c.nodes.length nc) ∧ w'.cell? ⟨w.heap.size, 1, none⟩ = some (.slice ea c.edges.length ec) ∧ w'.cell? ⟨w.heap.size, 2, none⟩ = some (.slice ra c.rules.length rc) ∧ w'.cell? ⟨w.heap.size, 3, none⟩ = some (.slice ia c.indexes.length ic) from fun w' hg => by
    have hx := (hg.heapEq (by simp)).trans HNB.out
    exact ⟨blk_lt hx, by rw [blk_cell hx]; rfl, by rw [blk_cell hx]; rfl, by rw [blk_cell hx]; rfl, by rw [blk_cell hx]; rfl⟩)
  clear hc hN hE hR hI
  cases q0 : decide ((100 : Int) < (c.nodes.length : Int))
  rotate_left
  · go_enter Tryz.func26, Tryz.ntmps26
    go_wp2
    go_ret
    exact ⟨true, rfl, by simp, HW.out _⟩
  cases q1 : decide ((100 : Int) < (c.edges.length : Int))
  rotate_left
  · go_enter Tryz.func26, Tryz.ntmps26
    go_wp2
    go_ret
    exact ⟨true, rfl, by simp, HW.out _⟩
  cases q2 : decide ((100 : Int) < (c.rules.length : Int))
  rotate_left
  · go_enter Tryz.func26, Tryz.ntmps26
    go_wp2
    go_ret
    exact ⟨true, rfl, by simp, HW.out _⟩
  cases q3 : decide ((100 : Int) < (c.indexes.length : Int))
  rotate_left
  · go_enter Tryz.func26, Tryz.ntmps26
    go_wp2
    go_ret
    exact ⟨true, rfl, by simp, HW.out _⟩
  go_enter Tryz.func26, Tryz.ntmps26
  go_wp2
  have HQ := Lib.hid (show c.nodes.length ≤ 100 ∧ c.edges.length ≤ 100 ∧ c.rules.length ≤ 100 ∧ c.indexes.length ≤ 100 by
    have h0 := of_decide_eq_false q0; have h1 := of_decide_eq_false q1; have h2 := of_decide_eq_false q2; have h3 := of_decide_eq_false q3
    omega)
  clear q0 q1 q2 q3
  go_loopg [3] c.nodes.length (fun g i wz => ∃ k : Nat, k ≤ c.nodes.length ∧ g = c.nodes.length - k ∧ i = .int .i64 k ∧ Grow (w.alloc (.cells #[.slice na c.nodes.length nc, .slice ea c.edges.length ec, .slice ra c.rules.length rc, .slice ia c.indexes.length ic, .int .i64 c.nextRule] 52)) wz)
  case atStart => exact ⟨0, by omega, by omega, rfl, Grow.rfl' _⟩
  case round =>
    obtain ⟨k, hk, rfl, rfl, hgr⟩ := hrel
    have HGRa := Lib.hid hgr
    have hgw := (HW.out _).step hgr
    obtain ⟨hxl, x0, x1, x2, x3⟩ := HX.out _ hgr
    by_cases hkl : k < c.nodes.length
    · obtain ⟨ba, oa, r1, rfl, hSa, hba, hRa, hca⟩ := HN.out k c.nodes[k] (List.getElem?_eq_getElem hkl)
      have ha2 : ba < wr.heap.size := Nat.lt_of_lt_of_le hba hgw.size
      have hca0 := (hgw.cell (p := ⟨ba, oa + k * 1 + 0, none⟩) hba).trans (hca 0 (.string c.nodes[k]) (by rw [show r1 = [.string c.nodes[k]] from hRa]; rfl))
      rw [Nat.mul_one, Nat.add_zero] at hca0
      clear hca hRa hSa hba hgr hgw
      generalize c.nodes[k] = x at *
      cases q : decide ((1000 : Int) < (x.size : Int))
      · go_wp2_with fail
        go_roundg (c.nodes.length - (k + 1))
        case measure => omega
        case rel => exact ⟨k + 1, by omega, rfl, by go_num, HGRa.out⟩
      · go_wp2
        go_ret
        exact ⟨true, rfl, by simp, (HW.out _).step HGRa.out⟩
    · clear hgr hgw
      go_wp2
      clear hxl x0 x1 x2 x3
      go_loopg [4] c.edges.length (fun g i wz => ∃ k : Nat, k ≤ c.edges.length ∧ g = c.edges.length - k ∧ i = .int .i64 k ∧ Grow (w.alloc (.cells #[.slice na c.nodes.length nc, .slice ea c.edges.length ec, .slice ra c.rules.length rc, .slice ia c.indexes.length ic, .int .i64 c.nextRule] 52)) wz)
      case atStart => exact ⟨0, by omega, by omega, rfl, HGRa.out⟩
      case round =>
        obtain ⟨k, hk, rfl, rfl, hgr⟩ := hrel
        have HGRb := Lib.hid hgr
        have hgw := (HW.out _).step hgr
        obtain ⟨hxl, x0, x1, x2, x3⟩ := HX.out _ hgr
        by_cases hkl : k < c.edges.length
        · obtain ⟨ba, oa, r1, rfl, hSa, hba, hRa, hca⟩ := HE.out k c.edges[k] (List.getElem?_eq_getElem hkl)
          have ha2 : ba < wr.heap.size := Nat.lt_of_lt_of_le hba hgw.size
          have hca0 := (hgw.cell (p := ⟨ba, oa + k * 1 + 0, none⟩) hba).trans (hca 0 (.string c.edges[k]) (by rw [show r1 = [.string c.edges[k]] from hRa]; rfl))
          rw [Nat.mul_one, Nat.add_zero] at hca0
          clear hca hRa hSa hba hgr hgw
          generalize c.edges[k] = x at *
          cases q : decide ((1000 : Int) < (x.size : Int))
          · go_wp2_with fail
            go_roundg (c.edges.length - (k + 1))
            case measure => omega
            case rel => exact ⟨k + 1, by omega, rfl, by go_num, HGRb.out⟩
          · go_wp2
            go_ret
            exact ⟨true, rfl, by simp, (HW.out _).step HGRb.out⟩
        · clear hgr hgw
          go_wp2
          clear hxl x0 x1 x2 x3
          go_loopg [5] c.rules.length (fun g i wz => ∃ k : Nat, k ≤ c.rules.length ∧ g = c.rules.length - k ∧ i = .int .i64 k ∧ Grow (w.alloc (.cells #[.slice na c.nodes.length nc, .slice ea c.edges.length ec, .slice ra c.rules.length rc, .slice ia c.indexes.length ic, .int .i64 c.nextRule] 52)) wz)
          case atStart => exact ⟨0, by omega, by omega, rfl, HGRb.out⟩
          case round =>
            obtain ⟨k, hk, rfl, rfl, hgr⟩ := hrel
            have HGRc := Lib.hid hgr
            have hgw := (HW.out _).step hgr
            obtain ⟨hxl, x0, x1, x2, x3⟩ := HX.out _ hgr
            by_cases hkl : k < c.rules.length
            · obtain ⟨ba, oa, r1, rfl, hSa, hba, hRa, hca⟩ := HR.out k c.rules[k] (List.getElem?_eq_getElem hkl)
              obtain ⟨ha0, a0, a1, a2, a3, a4, a5, a6, a7⟩ := ruleCells hRa hba hgw hca
              clear hca hRa hSa hba hgr hgw
              generalize c.rules[k] = x at *
              go_wp2_with fail
              refine (keepLargeRule x _).mono ?_
              rintro e w4 ⟨b, rfl, hg4⟩
              have HG4 := Lib.hid (HGRc.out.step hg4)
              clear hg4
              cases b
              · go_wp2_with fail
                go_roundg (c.rules.length - (k + 1))
                case measure => omega
                case rel => exact ⟨k + 1, by omega, rfl, by go_num, HG4.out⟩
              · go_wp2
                go_ret
                exact ⟨true, rfl, by simp, (HW.out _).step HG4.out⟩
            · clear hgr hgw
              go_wp2
              clear hxl x0 x1 x2 x3
              go_loopg [6] c.indexes.length (fun g i wz => ∃ k : Nat, k ≤ c.indexes.length ∧ g = c.indexes.length - k ∧ i = .int .i64 k ∧ Grow (w.alloc (.cells #[.slice na c.nodes.length nc, .slice ea c.edges.length ec, .slice ra c.rules.length rc, .slice ia c.indexes.length ic, .int .i64 c.nextRule] 52)) wz)
              case atStart => exact ⟨0, by omega, by omega, rfl, HGRc.out⟩
              case round =>
                obtain ⟨k, hk, rfl, rfl, hgr⟩ := hrel
                have HGRd := Lib.hid hgr
                have hgw := (HW.out _).step hgr
                obtain ⟨hxl, x0, x1, x2, x3⟩ := HX.out _ hgr
                by_cases hkl : k < c.indexes.length
                · obtain ⟨ba, oa, r1, rfl, hSa, hba, hRa, hca⟩ := HI.out k c.indexes[k] (List.getElem?_eq_getElem hkl)
                  obtain ⟨ha0, a0, a1⟩ := indexCells hRa hba hgw hca
                  clear hca hRa hSa hba hgr hgw
                  generalize c.indexes[k] = x at *
                  cases q1 : decide ((1000 : Int) < (x.typ.size : Int))
                  · cases q2 : decide ((1000 : Int) < (x.name.size : Int))
                    · go_wp2_with fail
                      go_roundg (c.indexes.length - (k + 1))
                      case measure => omega
                      case rel => exact ⟨k + 1, by omega, rfl, by go_num, HGRd.out⟩
                    · go_wp2
                      go_ret
                      exact ⟨true, rfl, by simp, (HW.out _).step HGRd.out⟩
                  · go_wp2
                    go_ret
                    exact ⟨true, rfl, by simp, (HW.out _).step HGRd.out⟩
                · clear hgr hgw
                  go_wp2
                  go_ret
                  exact ⟨false, rfl, fun _ => HQ.out, (HW.out _).step HGRd.out⟩

/-- a slice whose elements are rows of one size, to be appended -/
theorem SlR.rows {α : Type} {S : Nat → Prop} {w : World} {sz : Nat} {R : α → List Value → Prop} {v : Value} {l : List α} (h : SlR S w sz R v l) (hz : ∀ x r, R x r → r.length = sz) (h1 : ∀ x r, R x r → ∀ u ∈ r, u.oneCell' = true) :
    ∃ rows : List (List Value), rows.length = l.length ∧ (∀ (k : Nat) x r, l[k]? = some x → rows[k]? = some r → R x r ∧ r.length = sz) ∧ (∀ u ∈ rows.flatten, u.oneCell' = true) ∧ ∀ w', Grow w w' → Rd w' sz v l.length rows.flatten := by
  obtain ⟨a, cap, rows, rfl, hl, hc, hr, hR, h⟩ := h
  have hRR : ∀ (k : Nat) x r, l[k]? = some x → rows[k]? = some r → R x r ∧ r.length = sz := fun k x r hx hk => ⟨hR k x r hx hk, hz _ _ (hR k x r hx hk)⟩
  have hrz : ∀ r ∈ rows, r.length = sz := fun r hr' => by
    obtain ⟨k, hk⟩ := List.getElem?_of_mem hr'
    have hkl : k < l.length := by have := (List.getElem?_eq_some_iff.1 hk).1; omega
    exact (hRR k _ r (List.getElem?_eq_getElem hkl) hk).2
  refine ⟨rows, hr, hRR, fun u hu => ?_, fun w' hg => ⟨by rw [flatten_len _ sz hrz, hr], a, cap, rfl, ?_⟩⟩
  · obtain ⟨r, hr', hur⟩ := List.mem_flatten.1 hu
    obtain ⟨k, hk⟩ := List.getElem?_of_mem hr'
    have hkl : k < l.length := by have := (List.getElem?_eq_some_iff.1 hk).1; omega
    exact h1 _ _ (hR k _ r (List.getElem?_eq_getElem hkl) hk) u hur
  · by_cases h0 : l.length = 0
    · exact .inl h0
    · obtain ⟨b, off, rfl, -, hb, hcell⟩ := h (by omega)
      refine .inr ⟨_, rfl, fun j u hu => ?_⟩
      have hsz : 0 < sz := by
        rcases Nat.eq_zero_or_pos sz with hz0 | hz0
        · subst hz0
          have : rows.flatten.length = 0 := by rw [flatten_len _ 0 hrz]; omega
          have := (List.getElem?_eq_some_iff.1 hu).1
          omega
        · exact hz0
      have hjl : j < rows.length * sz := by have := (List.getElem?_eq_some_iff.1 hu).1; rwa [flatten_len _ sz hrz] at this
      have hk : j / sz < rows.length := Nat.div_lt_of_lt_mul (by rw [Nat.mul_comm]; exact hjl)
      have hm : j % sz < sz := Nat.mod_lt _ hsz
      have hrow : rows[j / sz]? = some rows[j / sz] := List.getElem?_eq_getElem hk
      have hlen := hrz _ (List.getElem_mem hk)
      have hel : rows[j / sz][j % sz]? = some (rows[j / sz][j % sz]'(by omega)) := List.getElem?_eq_getElem _
      have hf := flatten_at rows sz (j / sz) (j % sz) _ _ hrz hrow hel
      have hdm : j / sz * sz + j % sz = j := by rw [Nat.mul_comm]; exact Nat.div_add_mod j sz
      rw [hdm, hu] at hf
      have hc' := hcell (j / sz) _ (j % sz) _ hrow hel
      rw [Addr.add_lit, hg.cell (p := ⟨b, off + j, none⟩) hb, ← hdm, ← Nat.add_assoc, hc']
      exact hf.symm
theorem rows_own {α : Type} {w : World} {E : TypeId} {sz : Nat} {R : α → List Value → Prop} {v : Value} {l : List α} {rows : List (List Value)} {ob : Option Nat} (h1 : rows.length = l.length) (h2 : ∀ (k : Nat) x r, l[k]? = some x → rows[k]? = some r → R x r ∧ r.length = sz)
    (h : OwnS w E sz v l.length rows.flatten ob) : OwnL w E sz R v l ob := ⟨rows, h1, h2, h⟩
theorem infoStr : (Tryz.prog.info? 9).map (fun i => (i.zero, i.size, i.bytes)) = some (some (.string ByteArray.empty), 1, 16) := by kernel_rfl
theorem infoRule : (Tryz.prog.info? 24).map (fun i => (i.zero, i.size, i.bytes)) = some (some (.agg #[.int .i64 0, .int .i64 0, .string ByteArray.empty, .string ByteArray.empty, .string ByteArray.empty, .string ByteArray.empty, .int .i64 0, .int .i64 0]), 8, 96) := by kernel_rfl
theorem infoIndex : (Tryz.prog.info? 134).map (fun i => (i.zero, i.size, i.bytes)) = some (some (.agg #[.string ByteArray.empty, .string ByteArray.empty]), 2, 32) := by kernel_rfl
theorem oneStr : ∀ x r, RStr x r → ∀ u ∈ r, u.oneCell' = true := by
  rintro x r rfl u hu
  simp only [List.mem_cons, List.not_mem_nil, or_false] at hu
  subst hu; rfl
theorem oneRule : ∀ x r, RRule x r → ∀ u ∈ r, u.oneCell' = true := by
  rintro x r rfl u hu
  simp only [List.mem_cons, List.not_mem_nil, or_false] at hu
  rcases hu with rfl | rfl | rfl | rfl | rfl | rfl | rfl | rfl <;> rfl
theorem oneIndex : ∀ x r, RIndex x r → ∀ u ∈ r, u.oneCell' = true := by
  rintro x r rfl u hu
  simp only [List.mem_cons, List.not_mem_nil, or_false] at hu
  rcases hu with rfl | rfl <;> rfl
end Go.Hg

namespace Go.Hg
open Go.RowKit Go.Proofs

theorem rowRule : RowT Tryz.prog 24 8 96 := RowT.of infoRule rfl (by omega)
abbrev PRule.cells (x : PRule) : List Value := [.int .i64 x.id, .int .i64 x.kind, .string x.typ, .string x.name, .string x.from_, .string x.to_, .int .i64 x.n, .int .i64 x.state]
theorem ruleCells1 (x : PRule) : ∀ u ∈ x.cells, u.oneCell' = true := by
  intro u hu
  simp only [PRule.cells, List.mem_cons, List.not_mem_nil, or_false] at hu
  rcases hu with rfl | rfl | rfl | rfl | rfl | rfl | rfl | rfl <;> rfl

set_option maxRecDepth 100000 in
set_option maxHeartbeats 4000000 in
theorem ref21Commit (S S' S2 : Nat → Prop) (B : Nat) (G : PGraph) (nv ev rv iv nx lv : Value) (l : List PRule) (sp : List PSpot) (w : World) (hg : GraphOk 55 S w B G) (hl : SlR S' w 8 RRule rv l) (hs : SpotsR S2 w lv sp) (hb : G.nodes.length ≤ 1099511627776) (hb2 : G.edges.length ≤ 1099511627776) (hb3 : l.length ≤ 1099511627776)
    (hv : (∃ a n c, nv = .slice a n c) ∧ (∃ a n c, ev = .slice a n c) ∧ (∃ a n c, iv = .slice a n c) ∧ ∃ n, nx = .int .i64 n) :
    Calls Tryz.prog 31 #[.agg #[nv, ev, rv, iv, nx], .pointer (some ⟨B, 0, none⟩), lv] w fun e w' => e = .returned (.tuple #[.int .i64 ((firstR G.nodes G.edges (l.filter (touchR sp))).getD 0), .int .i64 (errR (firstR G.nodes G.edges (l.filter (touchR sp))))]) ∧ Grow w w' := by
  have HV := Lib.hid hv
  obtain ⟨⟨an, nn, cn, rfl⟩, ⟨ae, ne, ce, rfl⟩, ⟨ai, ni, ci, rfl⟩, ⟨xn, rfl⟩⟩ := hv
  have HGR := Lib.hid hg; have HS := Lib.hid hs; have HB1 := Lib.hid hb; have HB2 := Lib.hid hb2; have HB3 := Lib.hid hb3
  obtain ⟨al, cl, rfl, hll, hlc, hL⟩ := SlR.open hl
  obtain ⟨_, _, rfl, _⟩ := SlR.open hs
  unfold maxLen at hlc
  have HL := Lib.hid hL
  have HNB := Lib.hid (show ∀ o1 w', Grow (w.alloc o1) w' → w'.heap[w.heap.size]? = some o1 from fun o1 w' hg => by rw [hg.heapEq (by simp)]; exact heap_alloc_new w _)
  have HW := Lib.hid (show ∀ o1, Grow w (w.alloc o1) from fun o1 => (Grow.rfl' w).allocd o1)
  clear hg hs hl hb hb2 hb3 hL
  go_enter Tryz.func31, Tryz.ntmps31
  go_wp2
  obtain ⟨W1, hW1⟩ : ∃ W1, w.alloc (.cells #[.slice an nn cn, .slice ae ne ce, .slice al l.length cl, .slice ai ni ci, .int .i64 xn] 52) = W1 := ⟨_, rfl⟩
  have HBX := Lib.hid (show ∀ w', Grow W1 w' → w'.heap[w.heap.size]? = some (.cells #[.slice an nn cn, .slice ae ne ce, .slice al l.length cl, .slice ai ni ci, .int .i64 xn] 52 (0, 0)) from fun w' g => HNB.out _ w' (hW1 ▸ g))
  have HG1 := Lib.hid (show Grow w W1 from hW1 ▸ HW.out _)
  have HI0 := Lib.hid (OwnN.nil (e := 24) (sz := 8) (R := RRule) W1.heap.size W1)
  have hsz1 : w.heap.size < W1.heap.size := blk_lt (HBX.out W1 (Grow.rfl' _))
  rw [hW1]
  clear hW1
  go_loopg [8, 9] l.length (fun g sv kv wr => ∃ k : Nat, k ≤ l.length ∧ g = l.length - k ∧ kv = .int .i64 k ∧ OwnN 24 8 RRule W1.heap.size wr sv ((l.take k).filter (touchR sp)) ∧ Grow W1 wr)
  case atStart => exact ⟨0, by omega, by omega, rfl, HI0.out, Grow.rfl' W1⟩
  case round =>
    obtain ⟨k, hk, rfl, rfl, hi, hg⟩ := hrel
    obtain ⟨oa, co, rfl, _, _⟩ := hi.isSlice
    have HI := Lib.hid hi; have HG := Lib.hid hg
    have hbx := HBX.out wr hg
    have hbl := blk_lt hbx
    have s2 : wr.cell? ⟨w.heap.size, 2, none⟩ = some (.slice al l.length cl) := (blk_cell hbx _).trans rfl
    by_cases hkl : k < l.length
    · obtain ⟨ba, oa', ra, rfl, hSa, hba, hRa, hca⟩ := HL.out k l[k] (List.getElem?_eq_getElem hkl)
      have HX := Lib.hid (show ∀ w', Grow w w' → _ from fun w' g => ruleAt hRa hba g hca)
      have HT := Lib.hid (show l.take (k + 1) = l.take k ++ [l[k]] from List.take_succ_eq_append_getElem hkl)
      have HLE := Lib.hid (show ((l.take k).filter (touchR sp)).length ≤ l.length from Nat.le_trans (List.length_filter_le _ _) (by rw [List.length_take]; omega))
      clear hca hRa hSa hba hi hg hbx
      generalize l[k] = r at *
      obtain ⟨hal, c0, c1, c2, c3, c4, c5, c6, c7⟩ := HX.out wr (HG1.out.step HG.out)
      obtain ⟨bt, hbt⟩ : ∃ b, touchR sp r = b := ⟨_, rfl⟩
      have HBT := Lib.hid hbt
      generalize hfl : (l.take k).filter (touchR sp) = fl at *
      have HD := Lib.hid (show (l.take (k + 1)).filter (touchR sp) = if bt = true then fl ++ [r] else fl by
        rw [HT.out, List.filter_append, ← hfl, ← hbt]
        cases h : touchR sp r <;> simp [h])
      clear hfl hbt
      go_wp2_with fail
      refine (ref20Touches S2 _ sp r wr (HS.out.grow (HG1.out.step HG.out))).mono ?_
      rintro e w3 ⟨rfl, g3⟩
      rw [HBT.out]
      have HG3 := Lib.hid (HG.out.step g3)
      have HI3 := Lib.hid (HI.out.grow g3)
      clear g3 c0 c1 c2 c3 c4 c5 c6 c7 hal s2 hbl
      cases bt
      · go_wp2_with fail
        go_roundg (l.length - (k + 1))
        case measure => omega
        case rel => exact ⟨k + 1, by omega, rfl, by go_num, by rw [HD.out, if_neg (by simp)]; exact HI3.out, HG3.out⟩
      · have hbx := HBX.out w3 HG3.out
        have hbl := blk_lt hbx
        have s2 : w3.cell? ⟨w.heap.size, 2, none⟩ = some (.slice (some ⟨ba, oa', none⟩) l.length cl) := (blk_cell hbx _).trans rfl
        obtain ⟨hal, c0, c1, c2, c3, c4, c5, c6, c7⟩ := HX.out w3 (HG1.out.step HG3.out)
        have HE := Lib.hid (show ∀ o1, Grow W1 (w3.alloc o1) ∧ OwnN 24 8 RRule W1.heap.size (w3.alloc o1) (.slice oa fl.length co) fl from fun o1 => ⟨HG3.out.allocd o1, HI3.out.grow ((Grow.rfl' w3).allocd o1)⟩)
        have hzs := HG3.out.size
        clear hbx
        go_wp2_with (at_builtin; go_must (refine wpList_append_R rfl (.tmp 24) (.tmp 30) 49 rfl rowRule Tryz.underlying49 W1.heap.size _ fl rfl (HE.out _).2 r r.cells rfl rfl (ruleCells1 r) _ rfl (rdK _ _ _ 8 rfl (by simp)) (by simp; omega) (by have := HLE.out; have := HB3.out; unfold maxLen; omega) (by have := HLE.out; have := HB3.out; omega) ?_))
        intro v5 w5 k1 k2 k3
        have H5 := Lib.hid k1; have HG5 := Lib.hid ((HE.out _).1.since k2 (Nat.le_refl _))
        clear k1 k2 k3
        go_wp2
        go_roundg (l.length - (k + 1))
        case measure => omega
        case rel => exact ⟨k + 1, by omega, rfl, by go_num, by rw [HD.out, if_pos (by simp)]; exact H5.out, HG5.out⟩
    · have hkk : l.take k = l := List.take_of_length_le (by omega)
      rw [hkk] at HI
      simp only [hkk]
      have sf2 := blk_free hbx 2
      have HST := Lib.hid (show ∀ u, (wr.setCell ⟨w.heap.size, 2, none⟩ u).heap[w.heap.size]? = some (.cells #[.slice an nn cn, .slice ae ne ce, u, .slice ai ni ci, .int .i64 xn] 52 (0, 0)) from fun u => by
        have h := heap_setCell_same wr w.heap.size 2 _ 52 u hbx
        simpa using h)
      have HGS := Lib.hid (show ∀ u, Grow w (wr.setCell ⟨w.heap.size, 2, none⟩ u) ∧ Mod (fun q => q = w.heap.size) wr (wr.setCell ⟨w.heap.size, 2, none⟩ u) from fun u => ⟨(HG1.out.step HG.out).setd (p := ⟨w.heap.size, 2, none⟩) (Nat.le_refl _) u, (Mod.rfl' (fun q => q = w.heap.size) wr).setd (p := ⟨w.heap.size, 2, none⟩) (.inl rfl) u⟩)
      generalize hfl : l.filter (touchR sp) = fl at *
      have HFL := Lib.hid hfl
      clear hkk hi hg hbx hfl
      go_upto_region 8 with fail
      obtain ⟨w4, hw4⟩ : ∃ w4, wr.setCell ⟨w.heap.size, 2, none⟩ (.slice oa fl.length co) = w4 := ⟨_, rfl⟩
      have hbx := HST.out (.slice oa fl.length co)
      have hgs := HGS.out (.slice oa fl.length co)
      rw [hw4] at hbx hgs
      rw [hw4]
      have hbl4 := blk_lt hbx
      have d0 : w4.cell? ⟨w.heap.size, 0, none⟩ = some (.slice an nn cn) := (blk_cell hbx _).trans rfl
      have d1 : w4.cell? ⟨w.heap.size, 1, none⟩ = some (.slice ae ne ce) := (blk_cell hbx _).trans rfl
      have d2 : w4.cell? ⟨w.heap.size, 2, none⟩ = some (.slice oa fl.length co) := (blk_cell hbx _).trans rfl
      have d3 : w4.cell? ⟨w.heap.size, 3, none⟩ = some (.slice ai ni ci) := (blk_cell hbx _).trans rfl
      have d4 : w4.cell? ⟨w.heap.size, 4, none⟩ = some (.int .i64 xn) := (blk_cell hbx _).trans rfl
      have HG4 := Lib.hid hgs.1
      have HI4 := Lib.hid (HI.out.mod hgs.2 (fun q hq => by omega)).toR
      clear hbx hgs hw4 s2 hbl sf2
      go_wp2_with fail
      refine (ref21Whole S _ B G _ _ _ _ _ fl w4 (HGR.out.grow HG4.out) HI4.out HB1.out HB2.out HV.out).mono ?_
      rintro e w5 ⟨rfl, g5⟩
      have HG5 := Lib.hid (HG4.out.step g5)
      clear g5
      go_wp2
      go_ret2
      exact ⟨by rw [HFL.out]; rfl, HG5.out⟩
end Go.Hg
