/- For the seat: cartoucheref02's Valid and Expand at each number of twelve bits. -/
import Derived.Test.YtaiecnepchndkaaDoorWidDef
import Derived.Test.YtaiecnepchndkaaDoorSxEqx
namespace Go.Proofs.YtaiecnepchndkaaDoor
open Go.Sx Go.ChangeShapes Go.WideShapes Go.RowKit Go.Joins Go.Deep

namespace rex
def pat : List SVal := [.int .i64 (.var 0)]
def litC (k : Nat) : Cas := ⟨[.op2 .eq (.var 0) (.num (.ofNat k))], [(0, false, .num (.ofNat k))], []⟩
def kn : Kn := ((ex.kn.tell (.le 0 4095) true).tell (.le 0 (-1)) false).tell (.lit 0 63) false
noncomputable def expAt (k : Nat) : Bool := pxBoth sg (eqTree cx noS 3000 64 pat (.int .u32 ex.expT) (litC k)) kn
def all' : Cas := ⟨[], [], []⟩
set_option maxRecDepth 100000 in
theorem vals : pxBoth sg (eqTree cx noS 3000 63 pat (.bool ex.valT) all') kn = true := by kernel_rfl
end rex
end Go.Proofs.YtaiecnepchndkaaDoor
