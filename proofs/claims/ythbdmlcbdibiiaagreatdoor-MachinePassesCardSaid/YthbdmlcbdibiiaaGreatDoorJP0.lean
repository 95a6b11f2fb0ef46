/- For the seat: texts joined: PasDef. -/
import Derived.Test.YthbdmlcbdibiiaaGreatDoorJL3x0
/- MachinePasses: what is known of Exec where the condition is false; the cases. -/
namespace Go.Proofs.YthbdmlcbdibiiaaGreatDoor
open Go.RowKit Go.Mem Go.Sx

namespace pas
/-- Does a condition hold? -/
def holdLit (k : Nat) (n z c v : Bool) : Bool := match k with
  | 0 => z
  | 1 => !z
  | 2 => c
  | 3 => !c
  | 4 => n
  | 5 => !n
  | 6 => v
  | 7 => !v
  | 8 => c && !z
  | 9 => !(c && !z)
  | 10 => n == v
  | 11 => !(n == v)
  | 12 => !z && n == v
  | 13 => !(!z && n == v)
  | _ => true
def regsT : List Tm := (List.range' 10 16).map fun i => .op1 (.conv .u32) (mex.v i)
def insT : List Tm := (List.range 9).map mex.v
/-- The arguments' terms: the instruction, 2, no code, the core's registers, flags, IT state, memory. -/
def argT (k : Nat) (n z c v : Bool) : List Tm := insT ++ [.num 2, .text []] ++ regsT ++ [.bit n, .bit z, .bit c, .bit v, .num (16 * k + 8), mex.v 31]
def ansT (n z c v : Bool) : List Tm := (List.range' 10 15).map (fun i => Tm.op1 (.conv .u32) (mex.v i)) ++ [mk2 (.add .u32) (.op1 (.conv .u32) (mex.v 25)) (.num 2), .bit n, .bit z, .bit c, .bit v, .num 0]
/-- Exec at an instruction that is passed. -/
def pasS (k : Nat) : Go.Sx.Spec := fun args h pc => match args with
  | [.agg i, s, .str c, .agg m] => match decide ((lstS i).length = 9 ∧ (lstS m).length = 22), matchA h (xsPat 1) (lstS i ++ ([s] ++ ([.str c] ++ lstS m))), decideT pc (mex.okF (mex.v 0)) with
    | true, some ts, some true => match ts.getD 27 .nil, ts.getD 28 .nil, ts.getD 29 .nil, ts.getD 30 .nil with
      | .bit n, .bit z, .bit c, .bit v => match decide (ts = argT k n z c v) && !holdLit k n z c v with
        | true => .leaf ⟨.tup (.cons (coreV (ansT n z c v) h.length) (.cons (.int .i64 (.num 0)) .nil)), h ++ [some (absNew 2 (.app 700 (.cons (mex.v 31) .nil)))], pc⟩
        | false => .fail "arguments"
      | _, _, _, _ => .fail "arguments"
    | _, _, _ => .fail "arguments"
  | _ => .fail "arguments"
def tab (k : Nat) : List (Nat × Go.Sx.Spec) := [(10, orS (pasS k) xls.exec), (11, orS (pasS k) xls.exec), (16, newS 2), (27, sameSpec), (18, specR chkPat chkR), (9, xls.awakeS)]
def S (k : Nat) : Specs := fun f => findTab f (tab k)
def small : Tm := mex.le (.op1 .llen (mex.v 31)) (mex.num 100)
def args (c : Tm) : List SVal := [mex.ins (mex.v 0), mex.core, .int .i64 c]
noncomputable def goes (k : Nat) (l : List Tm) : Bool := isTT (callT (mex.cxm false) (S k) (run (mex.cxm false) (S k) 3000) 7 (args (.num k)) mex.heap0 (l.foldr mkAnd (.bit true)))
noncomputable def goes0 (l : List Tm) : Bool := isTT (callT (mex.cxm false) (S 0) (run (mex.cxm false) (S 0) 3000) 7 (args (mex.v 32)) mex.heap0 (l.foldr mkAnd (.bit true)))
end pas

end Go.Proofs.YthbdmlcbdibiiaaGreatDoor
