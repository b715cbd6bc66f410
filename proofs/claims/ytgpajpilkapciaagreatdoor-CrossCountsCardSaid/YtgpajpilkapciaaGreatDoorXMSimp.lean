/- A part of the proof. -/
import Derived.Test.YtgpajpilkapciaaGreatDoorXMLb
set_option linter.unusedVariables false
set_option maxRecDepth 100000
set_option maxHeartbeats 32000000
namespace Go.Proofs.YtgpajpilkapciaaGreatDoor
open Go.RowKit
attribute [simp] resA zX retA AV.cuts AV.cut AObj.cut trim wkR wkT wkL wkN wkNR wkNL wkM wkMR wkML zBV zBB zBn zB2 rowA LCp LCl refL
end Go.Proofs.YtgpajpilkapciaaGreatDoor
