/-
  slices.SortFunc at the states of balls: the library's own contract laid at this program (printed by the kit's lay-plain.mjs).
-/
import Derived.Shelf.SlSortCmp.WholeK
import Derived.Test.YtenpiinkbfancaaProg
namespace Go.Proofs.Ytenpiinkbfancaa.Pa
open Go.Shelf
def sortSt_ren : Go.Shelf.Ren := ⟨fun | 6 => 142 | 15 => 170 | 14 => 169 | 28 => 195 | 29 => 196 | 20 => 187 | 21 => 188 | 22 => 189 | 23 => 190 | 24 => 191 | 25 => 192 | 26 => 193 | 27 => 194 | 46 => 204 | 47 => 205 | 48 => 206 | 49 => 207 | 50 => 208 | 57 => 211 | n => n, fun | 22 => 97 | 24 => 105 | 25 => 274 | 3 => 3 | 39 => 125 | 0 => 0 | 53 => 308 | 55 => 310 | 4 => 4 | 46 => 301 | 45 => 300 | 50 => 305 | 5 => 5 | 9 => 9 | 66 => 314 | 70 => 268 | 76 => 321 | 77 => 269 | n => n, fun | n => n⟩
theorem sortSt : Go.Proofs.SlLaysF0.n6 Try.prog sortSt_ren := {
  mixed := by kernel_rfl
  f6 := ⟨Try.f142.name, by decide, Try.func142.trans (congrArg some (by kernel_rfl))⟩
  f14 := ⟨Try.f169.name, by decide, Try.func169.trans (congrArg some (by kernel_rfl))⟩
  f15 := Try.func170.trans (congrArg some (by kernel_rfl))
  f20 := ⟨Try.f187.name, by decide, Try.func187.trans (congrArg some (by kernel_rfl))⟩
  f21 := ⟨Try.f188.name, by decide, Try.func188.trans (congrArg some (by kernel_rfl))⟩
  f22 := ⟨Try.f189.name, by decide, Try.func189.trans (congrArg some (by kernel_rfl))⟩
  f23 := ⟨Try.f190.name, by decide, Try.func190.trans (congrArg some (by kernel_rfl))⟩
  f24 := ⟨Try.f191.name, by decide, Try.func191.trans (congrArg some (by kernel_rfl))⟩
  f25 := ⟨Try.f192.name, by decide, Try.func192.trans (congrArg some (by kernel_rfl))⟩
  f26 := ⟨Try.f193.name, by decide, Try.func193.trans (congrArg some (by kernel_rfl))⟩
  f27 := ⟨Try.f194.name, by decide, Try.func194.trans (congrArg some (by kernel_rfl))⟩
  f28 := Try.func195.trans (congrArg some (by kernel_rfl))
  f29 := Try.func196.trans (congrArg some (by kernel_rfl))
  f46 := ⟨Try.f204.name, by decide, Try.func204.trans (congrArg some (by kernel_rfl))⟩
  f47 := Try.func205.trans (congrArg some (by kernel_rfl))
  f48 := Try.func206.trans (congrArg some (by kernel_rfl))
  f49 := ⟨Try.f207.name, by decide, Try.func207.trans (congrArg some (by kernel_rfl))⟩
  f50 := ⟨Try.f208.name, by decide, Try.func208.trans (congrArg some (by kernel_rfl))⟩
  f57 := ⟨Try.f211.name, by decide, Try.func211.trans (congrArg some (by kernel_rfl))⟩
  t0 := Try.underlying0
  a0 := Try.isAgg0
  z0 := Try.sizeOf0
  v0 := Try.zeroValue0
  t3 := Try.underlying3
  a3 := Try.isAgg3
  z3 := Try.sizeOf3
  v3 := Try.zeroValue3
  t4 := Try.underlying4
  a4 := Try.isAgg4
  z4 := Try.sizeOf4
  v4 := Try.zeroValue4
  t5 := Try.underlying5
  a5 := Try.isAgg5
  z5 := Try.sizeOf5
  v5 := Try.zeroValue5
  t9 := Try.underlying9
  a9 := Try.isAgg9
  z9 := Try.sizeOf9
  v9 := Try.zeroValue9
  t22 := Try.underlying97
  a22 := Try.isAgg97
  z22 := Try.sizeOf97
  v22 := Try.zeroValue97
  t25 := Try.underlying274
  a25 := Try.isAgg274
  z25 := Try.sizeOf274
  v25 := Try.zeroValue274
  t39 := Try.underlying125
  a39 := Try.isAgg125
  z39 := Try.sizeOf125
  v39 := Try.zeroValue125
  t45 := Try.underlying300
  a45 := Try.isAgg300
  z45 := Try.sizeOf300
  v45 := Try.zeroValue300
  t46 := Try.underlying301
  a46 := Try.isAgg301
  z46 := Try.sizeOf301
  v46 := Try.zeroValue301
  t50 := Try.underlying305
  a50 := Try.isAgg305
  z50 := Try.sizeOf305
  v50 := Try.zeroValue305
  t53 := Try.underlying308
  a53 := Try.isAgg308
  z53 := Try.sizeOf308
  v53 := Try.zeroValue308
  t55 := Try.underlying310
  a55 := Try.isAgg310
  z55 := Try.sizeOf310
  v55 := Try.zeroValue310
  t66 := Try.underlying314
  a66 := Try.isAgg314
  z66 := Try.sizeOf314
  v66 := Try.zeroValue314
  t70 := Try.underlying268
  a70 := Try.isAgg268
  z70 := Try.sizeOf268
  v70 := Try.zeroValue268
  t76 := Try.underlying321
  a76 := Try.isAgg321
  z76 := Try.sizeOf321
  v76 := Try.zeroValue321
  t77 := Try.underlying269
  a77 := Try.isAgg269
  z77 := Try.sizeOf269
  v77 := Try.zeroValue269 }
end Go.Proofs.Ytenpiinkbfancaa.Pa
