/- wherryref01: Clamp. -/
import Derived.Test.YtabdipfpfbdghaaNum
namespace Go.Proofs.Ytabdipfpfbdghaa
open Go.RowKit
end Go.Proofs.Ytabdipfpfbdghaa
