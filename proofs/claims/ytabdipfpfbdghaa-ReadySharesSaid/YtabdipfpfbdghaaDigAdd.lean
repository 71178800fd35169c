/- wherryref01: Add. -/
import Derived.Test.YtabdipfpfbdghaaDigInt
namespace Go.Proofs.Ytabdipfpfbdghaa
open Go.RowKit
end Go.Proofs.Ytabdipfpfbdghaa
