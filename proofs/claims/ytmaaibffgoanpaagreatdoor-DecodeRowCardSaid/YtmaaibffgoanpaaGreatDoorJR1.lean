/- For the seat: texts joined: RexP2. -/
import Derived.Test.YtmaaibffgoanpaaGreatDoorJB
/- cartoucheref02.Expand at numbers of twelve bits. -/
namespace Go.Proofs.YtmaaibffgoanpaaGreatDoor.rex
open Go.Sx
set_option maxRecDepth 100000
theorem e16 : ((List.range' 2048 128).all expAt) = true := by kernel_rfl
set_option maxRecDepth 100000 in
theorem e17 : ((List.range' 2176 128).all expAt) = true := by kernel_rfl
set_option maxRecDepth 100000 in
theorem e18 : ((List.range' 2304 128).all expAt) = true := by kernel_rfl
set_option maxRecDepth 100000 in
theorem e19 : ((List.range' 2432 128).all expAt) = true := by kernel_rfl
set_option maxRecDepth 100000 in
theorem e20 : ((List.range' 2560 128).all expAt) = true := by kernel_rfl
set_option maxRecDepth 100000 in
theorem e21 : ((List.range' 2688 128).all expAt) = true := by kernel_rfl
set_option maxRecDepth 100000 in
theorem e22 : ((List.range' 2816 128).all expAt) = true := by kernel_rfl
set_option maxRecDepth 100000 in
theorem e23 : ((List.range' 2944 128).all expAt) = true := by kernel_rfl
end Go.Proofs.YtmaaibffgoanpaaGreatDoor.rex
