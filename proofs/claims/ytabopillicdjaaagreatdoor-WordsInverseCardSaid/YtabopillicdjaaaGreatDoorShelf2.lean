/- The contracts of a Builder's two writers at this translation: the shelf's, at the renaming of strings.Join, which calls them. -/
import Derived.Test.YtabopillicdjaaaGreatDoorShelf
namespace Go.Proofs
open Go.Shelf Go.RowKit
def Tryz.lays167b_ren : Go.Shelf.Ren := ⟨fun | 167 => 30 | n => Tryz.lays156_ren.f n, Tryz.lays156_ren.t, Tryz.lays156_ren.g⟩
set_option maxRecDepth 100000 in
theorem Tryz.lays167b : Go.Proofs.Lays.n167 Tryz.prog Tryz.lays167b_ren := { Tryz.lays156 with f167 := Tryz.func30.trans (congrArg some (by kernel_rfl)), t5 := Tryz.Builder_Extra_156.t5, a5 := Tryz.Builder_Extra_156.a5, z5 := Tryz.Builder_Extra_156.z5, v5 := Tryz.Builder_Extra_156.v5 }
set_option maxRecDepth 100000 in
theorem Tryz.Builder_Extra_167b : Builder.Extra Tryz.prog Tryz.lays167b_ren := { Tryz.Builder_Extra_156 with }
theorem Tryz.lays166b : Go.Proofs.Lays.n166 Tryz.prog Tryz.lays156_ren := { Tryz.lays156 with }
theorem Tryz.Builder_WriteByte (B b : Nat) (bs : List Value) (c : Int) (w : World) (h : Lib.IsBuilder 66 5 B b bs w) (hlen : bs.length + 1 ≤ 140737488355328) (hBw : B ≤ w.heap.size) :
    Calls Tryz.prog 30 #[.pointer (some ⟨b, 0, none⟩), .int .u8 c] w fun e w' => e = .returned .nilIface ∧ (Lib.BuilderAt 66 5 B b (.pointer (some ⟨b, 0, none⟩)) (bs ++ [.int .u8 c]) w' ∧ Below B w w') := Any.Builder_WriteByte Tryz.lays167b Tryz.Builder_Extra_167b B b bs c w h hlen hBw
theorem Tryz.Builder_WriteString (B b : Nat) (bs : List Value) (s : ByteArray) (w : World) (h : Lib.IsBuilder 66 5 B b bs w) (hlen : bs.length + s.size ≤ 140737488355328) (hBw : B ≤ w.heap.size) :
    Calls Tryz.prog 31 #[.pointer (some ⟨b, 0, none⟩), .string s] w fun e w' => e = .returned (.tuple #[.int .i64 s.size, .nilIface]) ∧ (Lib.BuilderAt 66 5 B b (.pointer (some ⟨b, 0, none⟩)) (bs ++ Lib.strCells s) w' ∧ Below B w w') := Any.Builder_WriteString Tryz.lays166b Tryz.Builder_Extra_156 B b bs s w h hlen hBw
end Go.Proofs
