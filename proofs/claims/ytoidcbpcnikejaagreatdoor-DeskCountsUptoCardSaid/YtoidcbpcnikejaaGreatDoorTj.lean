/- Short words: a fact is hidden, and taken out again. -/
import Derived.Below
import Derived.Lib.Hide
set_option linter.unusedVariables false
set_option linter.unusedSimpArgs false
namespace Go
theorem J {p : Prop} (h : p) : RowKit.Hid p := h
theorem RowKit.Hid.u {p : Prop} (h : RowKit.Hid p) : p := h
end Go
