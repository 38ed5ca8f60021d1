/- Part 17 of a proof of a statement about the given program: an abstract machine over the model, proved sound, and contracts of the functions that the statement reaches; the last part proves the statement, for every input, with no condition. -/
import Derived.Shelf.Spec.TrailingZeros
import Derived.Shelf.Bits.Mul64
import Derived.Shelf.Small.Bits
import Derived.Shelf.SlGeneric
import Derived.Ground.NamesProg
import Derived.Test.YtcfelhfcjdofoaaGreatDoorX14
set_option linter.unusedSimpArgs false
set_option linter.unusedVariables false
namespace Go.Proofs
open Go.Shelf
def Tryz.layTz_ren:Go.Shelf.Ren:=⟨fun | 29=>288 | n=>n,fun | 22=>337 | 3=>3 | 4=>4 | 25=>160 | 54=>381 | 0=>0 | 5=>5 | n=>n,fun | 1=>0 | n=>n⟩
theorem Tryz.layTz:Go.Proofs.Lays7.n29 Tryz.prog Tryz.layTz_ren:={
 mixed:=by kernel_rfl
 f29:=Tryz.func288.trans (congrArg some (by kernel_rfl))
 t0:=Tryz.underlying0
 a0:=Tryz.isAgg0
 z0:=Tryz.sizeOf0
 v0:=Tryz.zeroValue0
 i0:=by kernel_rfl
 t3:=Tryz.underlying3
 a3:=Tryz.isAgg3
 z3:=Tryz.sizeOf3
 v3:=Tryz.zeroValue3
 i3:=by kernel_rfl
 t4:=Tryz.underlying4
 a4:=Tryz.isAgg4
 z4:=Tryz.sizeOf4
 v4:=Tryz.zeroValue4
 i4:=by kernel_rfl
 t5:=Tryz.underlying5
 a5:=Tryz.isAgg5
 z5:=Tryz.sizeOf5
 v5:=Tryz.zeroValue5
 i5:=by kernel_rfl
 t22:=Tryz.underlying337
 a22:=Tryz.isAgg337
 z22:=Tryz.sizeOf337
 v22:=Tryz.zeroValue337
 i22:=by kernel_rfl
 t25:=Tryz.underlying160
 a25:=Tryz.isAgg160
 z25:=Tryz.sizeOf160
 v25:=Tryz.zeroValue160
 i25:=by kernel_rfl
 t54:=Tryz.underlying381
 a54:=Tryz.isAgg381
 z54:=Tryz.sizeOf381
 g1:=by kernel_rfl}
def Tryz.layMul_ren:Go.Shelf.Ren:=⟨fun | 264=>299 | n=>n,fun | 53=>337 | 46=>160 | n=>n,fun | n=>n⟩
theorem Tryz.layMul:Go.Proofs.Lays.n264 Tryz.prog Tryz.layMul_ren:={
 mixed:=by kernel_rfl
 f264:=Tryz.func299.trans (congrArg some (by kernel_rfl))
 t46:=Tryz.underlying160
 a46:=Tryz.isAgg160
 z46:=Tryz.sizeOf160
 v46:=Tryz.zeroValue160
 t53:=Tryz.underlying337
 a53:=Tryz.isAgg337
 z53:=Tryz.sizeOf337
 v53:=Tryz.zeroValue337}
def Tryz.layLz_ren:Go.Shelf.Ren:=⟨fun | 134=>287 | 129=>284 | n=>n,fun | 53=>337 | 3=>3 | 4=>4 | 46=>160 | 5=>5 | 9=>9 | n=>n,fun | n=>n⟩
theorem Tryz.layLz:Go.Proofs.Lays.n134 Tryz.prog Tryz.layLz_ren:={
 mixed:=by kernel_rfl
 f129:=Tryz.func284.trans (congrArg some (by kernel_rfl))
 f134:=Tryz.func287.trans (congrArg some (by kernel_rfl))
 t3:=Tryz.underlying3
 a3:=Tryz.isAgg3
 z3:=Tryz.sizeOf3
 v3:=Tryz.zeroValue3
 t4:=Tryz.underlying4
 a4:=Tryz.isAgg4
 z4:=Tryz.sizeOf4
 v4:=Tryz.zeroValue4
 t5:=Tryz.underlying5
 a5:=Tryz.isAgg5
 z5:=Tryz.sizeOf5
 v5:=Tryz.zeroValue5
 t9:=Tryz.underlying9
 a9:=Tryz.isAgg9
 z9:=Tryz.sizeOf9
 v9:=Tryz.zeroValue9
 t46:=Tryz.underlying160
 a46:=Tryz.isAgg160
 z46:=Tryz.sizeOf160
 v46:=Tryz.zeroValue160
 t53:=Tryz.underlying337
 a53:=Tryz.isAgg337
 z53:=Tryz.sizeOf337
 v53:=Tryz.zeroValue337}
end Go.Proofs
