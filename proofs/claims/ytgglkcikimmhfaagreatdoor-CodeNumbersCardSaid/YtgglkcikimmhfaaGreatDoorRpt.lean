/-
  strings.Repeat, by the library's contract, at this dump. Condition: what comes of it is within one allocation.
-/
import Derived.Test.YtgglkcikimmhfaaGreatDoorShg
import Derived.Test.YtgglkcikimmhfaaGreatDoorCodE
namespace Go.Proofs.YtgglkcikimmhfaaGreatDoor
open Go.RowKit Go.Maps Go.Proofs

theorem builderX : Builder.Extra Tryz.prog Tryz.lays105_ren where
  sizeBuilder := by kernel_rfl
  liesBuilder := by kernel_rfl
  t5 := Tryz.lays105.t5
  a5 := Tryz.lays105.a5
  z5 := Tryz.lays105.z5
  v5 := Tryz.lays105.v5
  infoByte := by kernel_rfl
  cellsByte := by kernel_rfl
  sizeByte := by kernel_rfl
  neB5 := by decide
/-- So many letters of one kind. -/
def manyL (x : UInt8) (n : Nat) : ByteArray := ⟨(List.replicate n x).toArray⟩
theorem manyL_size (x : UInt8) (n : Nat) : (manyL x n).size = n := by
  show (List.replicate n x).toArray.size = n
  simp
theorem manyL_list (x : UInt8) (n : Nat) : (manyL x n).data.toList = List.replicate n x := by simp [manyL]
theorem repeat_any (x : UInt8) (n : Nat) (w : World) (hn : n ≤ 100000) : Calls Tryz.prog 6 #[.string ⟨#[x]⟩, .int .i64 n] w (fun e w' => e = .returned (.string (manyL x n)) ∧ Turned (fun _ => False) w w') :=
  (Any.strings_Repeat Tryz.lays105 builderX ⟨#[x]⟩ n w (by omega) (by show 1 * n ≤ _; omega)).mono fun e w' ⟨he, hw⟩ => ⟨by
    rw [he]
    congr 2
    show (⟨(Lib.repeatL (List.replicate 1 x) n).toArray⟩ : ByteArray) = _
    rw [Lib.repeatL_replicate, Nat.mul_one]
    rfl, Turned.of_below hw _⟩
end Go.Proofs.YtgglkcikimmhfaaGreatDoor
