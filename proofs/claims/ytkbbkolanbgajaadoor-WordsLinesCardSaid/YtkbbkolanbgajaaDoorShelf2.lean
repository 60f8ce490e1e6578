/- The contracts of a Builder's two writers at this translation: the shelf's, at the renaming of strings.Join, which calls them. -/
import Derived.Test.YtkbbkolanbgajaaDoorShelf
namespace Go.Proofs
open Go.Shelf Go.RowKit
def Tryd.lays167b_ren : Go.Shelf.Ren := ⟨fun | 167 => 47 | n => Tryd.lays156_ren.f n, Tryd.lays156_ren.t, Tryd.lays156_ren.g⟩
set_option maxRecDepth 100000 in
theorem Tryd.lays167b : Go.Proofs.Lays.n167 Tryd.prog Tryd.lays167b_ren := { Tryd.lays156 with f167 := Tryd.func47.trans (congrArg some (by kernel_rfl)), t5 := Tryd.Builder_Extra_156.t5, a5 := Tryd.Builder_Extra_156.a5, z5 := Tryd.Builder_Extra_156.z5, v5 := Tryd.Builder_Extra_156.v5 }
set_option maxRecDepth 100000 in
theorem Tryd.Builder_Extra_167b : Builder.Extra Tryd.prog Tryd.lays167b_ren := { Tryd.Builder_Extra_156 with }
theorem Tryd.lays166b : Go.Proofs.Lays.n166 Tryd.prog Tryd.lays156_ren := { Tryd.lays156 with }
theorem Tryd.Builder_WriteByte (B b : Nat) (bs : List Value) (c : Int) (w : World) (h : Lib.IsBuilder 65 5 B b bs w) (hlen : bs.length + 1 ≤ 140737488355328) (hBw : B ≤ w.heap.size) :
    Calls Tryd.prog 47 #[.pointer (some ⟨b, 0, none⟩), .int .u8 c] w fun e w' => e = .returned .nilIface ∧ (Lib.BuilderAt 65 5 B b (.pointer (some ⟨b, 0, none⟩)) (bs ++ [.int .u8 c]) w' ∧ Below B w w') := Any.Builder_WriteByte Tryd.lays167b Tryd.Builder_Extra_167b B b bs c w h hlen hBw
theorem Tryd.Builder_WriteString (B b : Nat) (bs : List Value) (s : ByteArray) (w : World) (h : Lib.IsBuilder 65 5 B b bs w) (hlen : bs.length + s.size ≤ 140737488355328) (hBw : B ≤ w.heap.size) :
    Calls Tryd.prog 48 #[.pointer (some ⟨b, 0, none⟩), .string s] w fun e w' => e = .returned (.tuple #[.int .i64 s.size, .nilIface]) ∧ (Lib.BuilderAt 65 5 B b (.pointer (some ⟨b, 0, none⟩)) (bs ++ Lib.strCells s) w' ∧ Below B w w') := Any.Builder_WriteString Tryd.lays166b Tryd.Builder_Extra_156 B b bs s w h hlen hBw
end Go.Proofs
