/-
  l5All of the reference: a number is taken from a frame.
-/
import Derived.Test.YtpaepdlkjblfgaaDoorFrSpec5
import Derived.Test.YtpaepdlkjblfgaaDoorFrSpec4
namespace Go.Proofs.YtpaepdlkjblfgaaDoor
open Go.RowKit

end Go.Proofs.YtpaepdlkjblfgaaDoor
