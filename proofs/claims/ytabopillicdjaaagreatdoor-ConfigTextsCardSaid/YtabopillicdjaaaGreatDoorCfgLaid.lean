/- Chapter 2: the facts on the globals from the list of ConfigTexts. -/
import Derived.Test.YtabopillicdjaaaGreatDoorWLaid
import Derived.Test.YtabopillicdjaaaGreatDoorWGn
namespace Go.Proofs.YtabopillicdjaaaGreatDoor
open Go.RowKit Go.ChangeShapes

def laidCfg : List (String × DataW Unit) := [("math/bits.deBruijn32tab", Rows.laid_math_bits_deBruijn32tab), ("math/bits.deBruijn64tab", Rows.laid_math_bits_deBruijn64tab), ("internal/strconv.uint64pow10", Rows.laid_internal_strconv_uint64pow10), ("unicode/utf8.acceptRanges", Rows.laid_unicode_utf8_acceptRanges), ("strconv.ErrRange", Rows.laid_strconv_ErrRange), ("strconv.ErrSyntax", Rows.laid_strconv_ErrSyntax), ("unicode/utf8.first", Rows.laid_unicode_utf8_first)]
theorem gn_laid {W : World} (hL : laidMetH Tryz.prog laidCfg W) (hsh : W.ShapedOpen Tryz.prog) : Gn W := by
  rw [MakeChecks.laidMetH_plain _ _ _ (by kernel_rfl)] at hL
  have h5 := hL.tail.tail.tail.tail
  refine ⟨?_, ?_⟩
  · obtain ⟨a, s, h, _⟩ := laid_sentinel h5 (show Tryz.prog.globalNamed "strconv.ErrRange" = some 3 by kernel_rfl) (show (Tryz.prog.globals[3]?).map (·.type) = some 69 by kernel_rfl) Tryz.underlying69 row_err Tryz.underlying164 Tryz.underlying166 rfl rfl Tryz.underlying9 (by kernel_rfl) (by kernel_rfl)
    exact ⟨_, _, h⟩
  · exact Go.Proofs.cell_of_shapedOpen_int (zero := #[.int .i64 0]) (t := 3) hsh (of_decide_eq_true (by kernel_rfl)) (by kernel_rfl) rfl (by kernel_rfl) (by kernel_rfl) Tryz.underlying3
end Go.Proofs.YtabopillicdjaaaGreatDoor
