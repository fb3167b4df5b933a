/- Contracts of library functions, laid at this translation by the kit's shelf (plain words): each says what one function of the library returns. Their conditions stand in their statements. -/
import Derived.Ground.SlgnProg
import Derived.Ground.SlsfProg
import Derived.Ground.SlgmProg
import Derived.Test.YtjklhacffdhgaaaProg
import Derived.Shelf.SlLaysF
import Derived.Ground.SlsfProg
import Derived.Shelf.SortM.Plain
import Derived.Shelf.SortM.SortNone
namespace Go.Proofs
open Go.Shelf
def Try.laysSlM5_f111_ren : Go.Shelf.Ren := ⟨fun | 5 => 111 | 8 => 169 | 7 => 168 | 19 => 201 | 20 => 202 | 10 => 192 | 11 => 193 | 12 => 194 | 13 => 195 | 14 => 196 | 15 => 197 | 16 => 198 | 17 => 199 | 18 => 200 | 30 => 210 | 31 => 211 | 32 => 212 | 33 => 213 | 34 => 214 | 35 => 167 | 40 => 217 | n => n, fun | 23 => 34 | 25 => 2 | 3 => 3 | 32 => 230 | 22 => 34 | 0 => 0 | 44 => 261 | 46 => 212 | 4 => 4 | 36 => 253 | 35 => 252 | 41 => 258 | 5 => 5 | 9 => 9 | 53 => 264 | 57 => 268 | 63 => 271 | 64 => 272 | n => n, fun | n => n⟩
theorem Try.laysSlM5_f111 : Go.Proofs.SlLaysM.n5 Try.prog Try.laysSlM5_f111_ren := {
  mixed := by kernel_rfl
  f5 := ⟨Try.f111.name, by decide, Try.func111.trans (congrArg some (by kernel_rfl))⟩
  f7 := ⟨Try.f168.name, by decide, Try.func168.trans (congrArg some (by kernel_rfl))⟩
  f8 := Try.func169.trans (congrArg some (by kernel_rfl))
  f10 := ⟨Try.f192.name, by decide, Try.func192.trans (congrArg some (by kernel_rfl))⟩
  f11 := ⟨Try.f193.name, by decide, Try.func193.trans (congrArg some (by kernel_rfl))⟩
  f12 := ⟨Try.f194.name, by decide, Try.func194.trans (congrArg some (by kernel_rfl))⟩
  f13 := ⟨Try.f195.name, by decide, Try.func195.trans (congrArg some (by kernel_rfl))⟩
  f14 := ⟨Try.f196.name, by decide, Try.func196.trans (congrArg some (by kernel_rfl))⟩
  f15 := ⟨Try.f197.name, by decide, Try.func197.trans (congrArg some (by kernel_rfl))⟩
  f16 := ⟨Try.f198.name, by decide, Try.func198.trans (congrArg some (by kernel_rfl))⟩
  f17 := ⟨Try.f199.name, by decide, Try.func199.trans (congrArg some (by kernel_rfl))⟩
  f18 := ⟨Try.f200.name, by decide, Try.func200.trans (congrArg some (by kernel_rfl))⟩
  f19 := Try.func201.trans (congrArg some (by kernel_rfl))
  f20 := Try.func202.trans (congrArg some (by kernel_rfl))
  f30 := ⟨Try.f210.name, by decide, Try.func210.trans (congrArg some (by kernel_rfl))⟩
  f31 := Try.func211.trans (congrArg some (by kernel_rfl))
  f32 := Try.func212.trans (congrArg some (by kernel_rfl))
  f33 := ⟨Try.f213.name, by decide, Try.func213.trans (congrArg some (by kernel_rfl))⟩
  f34 := ⟨Try.f214.name, by decide, Try.func214.trans (congrArg some (by kernel_rfl))⟩
  f35 := ⟨Try.f167.name, by decide, Try.func167.trans (congrArg some (by kernel_rfl))⟩
  f40 := ⟨Try.f217.name, by decide, Try.func217.trans (congrArg some (by kernel_rfl))⟩
  t0 := Try.underlying0
  a0 := Try.isAgg0
  z0 := Try.sizeOf0
  v0 := Try.zeroValue0
  t3 := Try.underlying3
  a3 := Try.isAgg3
  z3 := Try.sizeOf3
  v3 := Try.zeroValue3
  t4 := Try.underlying4
  a4 := Try.isAgg4
  z4 := Try.sizeOf4
  v4 := Try.zeroValue4
  t5 := Try.underlying5
  a5 := Try.isAgg5
  z5 := Try.sizeOf5
  v5 := Try.zeroValue5
  t9 := Try.underlying9
  a9 := Try.isAgg9
  z9 := Try.sizeOf9
  v9 := Try.zeroValue9
  t22 := Try.underlying34
  a22 := Try.isAgg34
  z22 := Try.sizeOf34
  v22 := Try.zeroValue34
  t23 := Try.underlying34
  a23 := Try.isAgg34
  z23 := Try.sizeOf34
  v23 := Try.zeroValue34
  t25 := Try.underlying2
  a25 := Try.isAgg2
  z25 := Try.sizeOf2
  v25 := Try.zeroValue2
  t32 := Try.underlying230
  a32 := Try.isAgg230
  z32 := Try.sizeOf230
  v32 := Try.zeroValue230
  t35 := Try.underlying252
  a35 := Try.isAgg252
  z35 := Try.sizeOf252
  v35 := Try.zeroValue252
  t36 := Try.underlying253
  a36 := Try.isAgg253
  z36 := Try.sizeOf253
  v36 := Try.zeroValue253
  t41 := Try.underlying258
  a41 := Try.isAgg258
  z41 := Try.sizeOf258
  v41 := Try.zeroValue258
  t44 := Try.underlying261
  a44 := Try.isAgg261
  z44 := Try.sizeOf261
  v44 := Try.zeroValue261
  t46 := Try.underlying212
  a46 := Try.isAgg212
  z46 := Try.sizeOf212
  v46 := Try.zeroValue212
  t53 := Try.underlying264
  a53 := Try.isAgg264
  z53 := Try.sizeOf264
  v53 := Try.zeroValue264
  t57 := Try.underlying268
  a57 := Try.isAgg268
  z57 := Try.sizeOf268
  v57 := Try.zeroValue268
  t63 := Try.underlying271
  a63 := Try.isAgg271
  z63 := Try.sizeOf271
  v63 := Try.zeroValue271
  t64 := Try.underlying272
  a64 := Try.isAgg272
  z64 := Try.sizeOf272
  v64 := Try.zeroValue272 }
open Go.Sort Go.RowKit in
theorem Try.slices_Sort_int (blk off cap : Nat) (zs : List Int) (w : World) (hH : Holds (Value.int .i64) w blk off zs.toArray) (hblk : blk < w.heap.size) (hsz : zs.length < 4611686018427387904) :
    Calls Try.prog 111 #[.slice (some ⟨blk, off, none⟩) zs.length cap] w fun e w' =>
      e = .returned (.tuple #[]) ∧ ∃ n os, w' = grow (putRow (Value.int .i64) (Sort.ahead w n) blk off (zs.mergeSort fun x y => decide (x ≤ y)).toArray) os := AnyM.slices_Sort_int Try.laysSlM5_f111 blk off cap zs w hH hblk hsz
open Go.RowKit Go.Sort in
/-- .. and plain. (LAID AT THE INSTANCE 'slices.Sort[[]int64,int64]': no walk: one application.) -/
theorem Try.slices_Sort_int_none (p : Option Addr) (cap : Nat) (w : World) :
    Calls Try.prog 111 #[.slice p 0 cap] w fun e w' => e = .returned (.tuple #[]) ∧ w' = w := AnyM.slices_Sort_int_none Try.laysSlM5_f111 p cap w
def Try.laysF20_ren : Go.Shelf.Ren := ⟨fun | 20 => 190 | n => n, fun | 24 => 2 | 22 => 34 | 3 => 3 | 25 => 170 | 4 => 4 | 0 => 0 | n => n, fun | n => n⟩
theorem Try.laysF20 : Go.Proofs.SlLaysF.n20 Try.prog Try.laysF20_ren := {
  mixed := by kernel_rfl
  f20 := ⟨Try.f190.name, by decide, Try.func190.trans (congrArg some (by kernel_rfl))⟩
  t0 := Try.underlying0
  a0 := Try.isAgg0
  z0 := Try.sizeOf0
  v0 := Try.zeroValue0
  t3 := Try.underlying3
  a3 := Try.isAgg3
  z3 := Try.sizeOf3
  v3 := Try.zeroValue3
  t4 := Try.underlying4
  a4 := Try.isAgg4
  z4 := Try.sizeOf4
  v4 := Try.zeroValue4
  t22 := Try.underlying34
  a22 := Try.isAgg34
  z22 := Try.sizeOf34
  v22 := Try.zeroValue34
  a24 := Try.isAgg2
  z24 := Try.sizeOf2
  t25 := Try.underlying170
  a25 := Try.isAgg170
  z25 := Try.sizeOf170
  v25 := Try.zeroValue170 }
end Go.Proofs
