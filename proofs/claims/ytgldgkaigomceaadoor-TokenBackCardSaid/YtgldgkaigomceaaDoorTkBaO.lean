/-
  What TokenBack's row lists.
-/
import Derived.Test.YtgldgkaigomceaaDoorHandS
namespace Go.Proofs.YtgldgkaigomceaaDoor
abbrev laidBa : List (String × DataW Unit) := [("unicode/utf8.acceptRanges", Rows.laid_unicode_utf8_acceptRanges), ("unicode/utf8.first", Rows.laid_unicode_utf8_first)]
end Go.Proofs.YtgldgkaigomceaaDoor
