/- A part of the proof. -/
import Derived.Test.YtdflkegnmmkkoaaGreatDoorXMLb
set_option linter.unusedVariables false
set_option maxRecDepth 100000
set_option maxHeartbeats 32000000
namespace Go.Proofs.YtdflkegnmmkkoaaGreatDoor
open Go.RowKit
attribute [simp] resA zW retA AV.cuts AV.cut AObj.cut trim wkR wkT wkL wkN wkNR wkNL wkM wkMR wkML zAv zAd zY zA6 zBJ zU rowA zb zV za zZ zT LCp LCl refL
end Go.Proofs.YtdflkegnmmkkoaaGreatDoor
