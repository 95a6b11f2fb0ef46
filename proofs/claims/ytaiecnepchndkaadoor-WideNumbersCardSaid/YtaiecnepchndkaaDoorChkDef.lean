/- For the seat: 'Check' of both packages: the cases of the input. -/
import Derived.Test.YtaiecnepchndkaaDoorOps
namespace Go.Proofs.YtaiecnepchndkaaDoor
open Go.Sx

def argT (o c n i : Tm) : SVal :=
  .agg (.cons (.int .i64 o) (.cons (.int .i64 c) (.cons (.int .i64 (.var 2)) (.cons (.int .i64 n) (.cons (.int .i64 (.var 4)) (.cons (.int .i64 i) (.cons (.int .i64 (.var 6)) (.cons (.int .i64 (.var 7)) (.cons (.bool (.var 8)) .nil)))))))))
def argL (o c n i : Tm) : Tm :=
  .cons o (.cons c (.cons (.var 2) (.cons n (.cons (.var 4) (.cons i (.cons (.var 6) (.cons (.var 7) (.cons (.var 8) .nil))))))))

def kn0 : Kn := ⟨[], [], [], [], [0, 1, 2, 3, 4, 5, 6, 7]⟩

namespace chk
def v (i : Nat) : Tm := .var i
def lt (a : Tm) (k : Int) : Tm := .op2 .lt a (.num k)
def gt (a : Tm) (k : Int) : Tm := .op2 .lt (.num k) a
def no (a : Tm) : Tm := .op1 .not a

/-- The error's number at some inputs is the sign's. -/
noncomputable def at' (f : Nat) (o c n i : Tm) (l : List Tm) (e : Kn) : Bool := pxInt sg .i64 (.app 901 (argL o c n i)) (callT cx popS (run cx popS 400) f [argT o c n i] [] (l.foldr mkAnd (.bit true))) e
noncomputable def goes (f k : Nat) : Bool := at' f (.num (Int.ofNat k)) (v 1) (v 3) (v 5) [] kn0
noncomputable def its (f c : Nat) : Bool := (List.range' 1 15).all fun m => at' f (.num 42) (.num (Int.ofNat c)) (v 3) (.num (Int.ofNat m)) [] kn0
noncomputable def low (f : Nat) : Bool := at' f (v 0) (v 1) (v 3) (v 5) [lt (v 0) 1] (kn0.tell (.le 0 0) true)
noncomputable def high (f : Nat) : Bool := at' f (v 0) (v 1) (v 3) (v 5) [no (lt (v 0) 1), gt (v 0) 45] (kn0.tell (.le 0 45) false)
noncomputable def itA (f : Nat) : Bool := at' f (.num 42) (v 1) (v 3) (v 5) [lt (v 1) 0] (kn0.tell (.le 1 (-1)) true)
noncomputable def itB (f : Nat) : Bool := at' f (.num 42) (v 1) (v 3) (v 5) [no (lt (v 1) 0), gt (v 1) 14] (kn0.tell (.le 1 14) false)
noncomputable def itC (f : Nat) : Bool := at' f (.num 42) (v 1) (v 3) (v 5) [no (lt (v 1) 0), no (gt (v 1) 14), lt (v 5) 1] (kn0.tell (.le 5 0) true)
noncomputable def itD (f : Nat) : Bool := at' f (.num 42) (v 1) (v 3) (v 5) [no (lt (v 1) 0), no (gt (v 1) 14), no (lt (v 5) 1), gt (v 5) 15] (kn0.tell (.le 5 15) false)
end chk
end Go.Proofs.YtaiecnepchndkaaDoor
