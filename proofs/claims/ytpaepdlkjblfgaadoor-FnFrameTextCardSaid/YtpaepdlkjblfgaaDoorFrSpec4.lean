/-
  l5Change of the reference: a digit is taken from a rod.
-/
import Derived.Test.YtpaepdlkjblfgaaDoorFrSpec3
namespace Go.Proofs.YtpaepdlkjblfgaaDoor
open Go.RowKit

end Go.Proofs.YtpaepdlkjblfgaaDoor
