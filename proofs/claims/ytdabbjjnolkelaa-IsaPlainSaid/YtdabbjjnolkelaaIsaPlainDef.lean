/- IsaPlain: the cases of the input. -/
import Derived.Test.YtdabbjjnolkelaaIns
namespace Go.Proofs.Ytdabbjjnolkelaa.isaPlain
open Go.ChangeShapes Go.WideShapes Go.ChangeAt Go.RowKit Go.Sx

def v (i : Nat) : Tm := .var i
def lt (a : Tm) (k : Int) : Tm := .op2 .lt a (.num k)
def gt (a : Tm) (k : Int) : Tm := .op2 .lt (.num k) a
def ge (k : Int) (a : Tm) : Tm := .op2 .le (.num k) a
def le (a : Tm) (k : Int) : Tm := .op2 .le a (.num k)
def no (a : Tm) : Tm := .op1 .not a

noncomputable def at' (o c n i : Tm) (l : List Tm) : Bool := isTrue (callT cx awakeS (run cx awakeS 400) 6 [argT o c n i] [] (l.foldr mkAnd (.bit true)))
noncomputable def goes (k : Nat) : Bool := at' (.num (Int.ofNat k)) (v 1) (v 3) (v 5) []
noncomputable def regs (k : Int) : Bool := (List.range' 0 16).all fun n => at' (.num k) (v 1) (.num (Int.ofNat n)) (v 5) []
noncomputable def its (c : Nat) : Bool := (List.range' 1 15).all fun m => at' (.num 42) (.num (Int.ofNat c)) (v 3) (.num (Int.ofNat m)) []

end Go.Proofs.Ytdabbjjnolkelaa.isaPlain
