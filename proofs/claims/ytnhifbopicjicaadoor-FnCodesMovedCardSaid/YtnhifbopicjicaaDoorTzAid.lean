/- What the library's worked text on TrailingZeros has of plain facts. No condition. -/
import Derived.Shelf.Spec.TrailingZeros
import Derived.Lib.TrailingZeros
