/- utf8.DecodeRune, laid at this program by hand (the shelf has it over any numbering; its laying command does not know it). -/
import Derived.Test.YtnihneffgbhjjaaDoorShelf
import Derived.Shelf.Spec.DecodeRune
set_option linter.unusedSimpArgs false
set_option linter.unusedVariables false
set_option linter.unnecessarySimpa false
namespace Go.Proofs.YtnihneffgbhjjaaDoor
open Go.RowKit Go.Shelf

def ren7 : Go.Shelf.Ren := ⟨fun | 32 => 21 | 49 => 28 | n => n, fun | 0 => 0 | 3 => 3 | 4 => 4 | 5 => 5 | 21 => 21 | 25 => 71 | 30 => 22 | 33 => 49 | 66 => 70 | 68 => 73 | 69 => 74 | n => n, fun | 2 => 0 | 3 => 1 | n => n⟩
theorem lays7_32 : Go.Proofs.Lays7.n32 Tryd.prog ren7 := {
  mixed := by kernel_rfl
  f32 := Tryd.func21.trans (congrArg some (by kernel_rfl))
  f49 := Tryd.func28.trans (congrArg some (by kernel_rfl))
  t0 := Tryd.underlying0
  a0 := Tryd.isAgg0
  z0 := Tryd.sizeOf0
  v0 := Tryd.zeroValue0
  i0 := by kernel_rfl
  t3 := Tryd.underlying3
  a3 := Tryd.isAgg3
  z3 := Tryd.sizeOf3
  v3 := Tryd.zeroValue3
  i3 := by kernel_rfl
  t4 := Tryd.underlying4
  a4 := Tryd.isAgg4
  z4 := Tryd.sizeOf4
  v4 := Tryd.zeroValue4
  i4 := by kernel_rfl
  t5 := Tryd.underlying5
  a5 := Tryd.isAgg5
  z5 := Tryd.sizeOf5
  v5 := Tryd.zeroValue5
  i5 := by kernel_rfl
  t21 := Tryd.underlying21
  a21 := Tryd.isAgg21
  z21 := Tryd.sizeOf21
  v21 := Tryd.zeroValue21
  i21 := by kernel_rfl
  t25 := Tryd.underlying71
  a25 := Tryd.isAgg71
  z25 := Tryd.sizeOf71
  v25 := Tryd.zeroValue71
  i25 := by kernel_rfl
  t30 := Tryd.underlying22
  a30 := Tryd.isAgg22
  z30 := Tryd.sizeOf22
  v30 := Tryd.zeroValue22
  i30 := by kernel_rfl
  t33 := Tryd.underlying49
  a33 := Tryd.isAgg49
  z33 := Tryd.sizeOf49
  v33 := Tryd.zeroValue49
  i33 := by kernel_rfl
  t66 := Tryd.underlying70
  a66 := Tryd.isAgg70
  z66 := Tryd.sizeOf70
  t68 := Tryd.underlying73
  a68 := Tryd.isAgg73
  z68 := Tryd.sizeOf73
  v68 := Tryd.zeroValue73
  i68 := by kernel_rfl
  t69 := Tryd.underlying74
  a69 := Tryd.isAgg74
  z69 := Tryd.sizeOf74
  v69 := Tryd.zeroValue74
  i69 := by kernel_rfl
  g2 := by kernel_rfl
  g3 := by kernel_rfl }
theorem decodeRune_any (s : ByteArray) (b off cap : Nat) (w : World) (hT : Lib.Utf8Tabs 0 1 w)
    (hp : ∀ j, j < s.size → w.cell? ⟨b, off + j, none⟩ = some (.int .u8 (s.get! j).toNat)) :
    Calls Tryd.prog 21 #[.slice (some ⟨b, off, none⟩) s.size cap] w fun e w' => e = .returned (.tuple #[.int .i32 (Lib.decodeGo s).1, .int .i64 (Lib.decodeGo s).2]) ∧ Below w.heap.size w w' :=
  Any7.utf8_DecodeRune lays7_32 s b off cap w hT hp

end Go.Proofs.YtnihneffgbhjjaaDoor
