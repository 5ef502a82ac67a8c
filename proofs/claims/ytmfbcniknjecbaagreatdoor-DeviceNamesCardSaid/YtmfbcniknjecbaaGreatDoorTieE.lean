/- The tie of the seat and of the row. Conditions: none. -/
import Derived.Test.YtmfbcniknjecbaaGreatDoorTieA
import Derived.Test.YtmfbcniknjecbaaGreatDoorTieB
import Derived.Test.YtmfbcniknjecbaaGreatDoorTieC
import Derived.Test.YtmfbcniknjecbaaGreatDoorTieD
import Derived.Test.YtmfbcniknjecbaaGreatDoorTieP
namespace Go.Proofs.YtmfbcniknjecbaaGreatDoor
open Go
set_option maxRecDepth 100000
theorem tie : Tryz.prog.laidByTextLater [("unicode/utf8.acceptRanges", Rows.laid_unicode_utf8_acceptRanges), ("strconv.ErrSyntax", Rows.laid_strconv_ErrSyntax), ("strconv.ErrRange", Rows.laid_strconv_ErrRange), ("internal/strconv.uint64pow10", Rows.laid_internal_strconv_uint64pow10), ("math/bits.deBruijn32tab", Rows.laid_math_bits_deBruijn32tab), ("math/bits.deBruijn64tab", Rows.laid_math_bits_deBruijn64tab)] [.data, .sentinel, .sentinel, .data, .data, .data] true :=
  Program.laidByTextLater_by_one (laid := seatLaid) 400 8 65 tieHw tieHw2 tieHroot tieHk tieHg tieHn tieHrun
theorem deviceNames_row_tie : Rows.deviceNamesRow.laidByTextAt .later Tryz.pinned [.pinned, .data, .sentinel, .sentinel, .data, .data, .data] true :=
  OpenClaim.laidByTextAt_pinned rfl rfl tie rfl rfl rfl rfl (fun y hy _e => by
    simp only [Rows.deviceNamesRow, List.zip_cons_cons, List.zip_nil_right, List.mem_cons, List.mem_nil_iff, or_false] at hy
    rcases hy with rfl | rfl | rfl | rfl | rfl | rfl | rfl
    · exact ⟨pin_laid_unicode_utf8_first, by kernel_rfl⟩
    · cases _e
    · cases _e
    · cases _e
    · cases _e
    · cases _e
    · cases _e) fits1
end Go.Proofs.YtmfbcniknjecbaaGreatDoor
