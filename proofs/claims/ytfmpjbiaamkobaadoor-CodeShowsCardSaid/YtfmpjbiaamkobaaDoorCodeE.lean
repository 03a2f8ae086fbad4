/-
  Layer 20: the document's answer: one operation looked at.
-/
import Derived.Test.YtfmpjbiaamkobaaDoorCodeD
namespace Go.Proofs.YtfmpjbiaamkobaaDoor
open Go Go.RowKit
set_option linter.all false


end Go.Proofs.YtfmpjbiaamkobaaDoor
