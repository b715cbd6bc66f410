/- A part of the proof. -/
import Derived.Test.YtdflkegnmmkkoaaGreatDoorWMLb
set_option linter.unusedVariables false
set_option maxRecDepth 100000
set_option maxHeartbeats 32000000
namespace Go.Proofs.YtdflkegnmmkkoaaGreatDoor
open Go.RowKit
attribute [simp] resA zM retA AV.cuts AV.cut AObj.cut trim wkR wkT wkL wkN wkNR wkNL wkM wkMR wkML zAi zAU zV zAr zA2 zO rowA zY zP zX zW zN LCp LCl refL
end Go.Proofs.YtdflkegnmmkkoaaGreatDoor
