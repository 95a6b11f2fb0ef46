/- IsaBare: the cases of the input. -/
import Derived.Test.YtdabbjjnolkelaaBare
namespace Go.Proofs.Ytdabbjjnolkelaa.isaBare
open Go.ChangeShapes Go.WideShapes Go.ChangeAt Go.RowKit Go.Sx

def v (i : Nat) : Tm := .var i
def lt (a : Tm) (k : Int) : Tm := .op2 .lt a (.num k)
def gt (a : Tm) (k : Int) : Tm := .op2 .lt (.num k) a
def no (a : Tm) : Tm := .op1 .not a

noncomputable def at' (o c n i : Tm) (l : List Tm) : Bool := pxTree sg (callT cx bareS (run cx bareS 400) 5 [argT o c n i] [] (l.foldr mkAnd (.bit true))) kn0
noncomputable def goes (k : Nat) : Bool := at' (.num (Int.ofNat k)) (v 1) (v 3) (v 5) []
noncomputable def its (c : Nat) : Bool := (List.range' 1 15).all fun m => at' (.num 42) (.num (Int.ofNat c)) (v 3) (.num (Int.ofNat m)) []

end Go.Proofs.Ytdabbjjnolkelaa.isaBare
