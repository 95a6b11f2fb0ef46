/- DeskNone's walk: a desk that is none, whatever the core. -/
import Derived.Test.YtkfilbcmllfgdaaGreatDoorGArgC
import Derived.Test.YtkfilbcmllfgdaaGreatDoorGOnes
namespace Go.Proofs.YtkfilbcmllfgdaaGreatDoor
open Go.RowKit Go.Sx

namespace dkn
/-- The core: numbers are variables 0 to 15 and 20, truths 16 to 19, the memory is whatever. -/
def coreS : SVal := .agg (SVal.ofList ((List.range 16).map (fun i => SVal.int .u32 (.var i)) ++ [.bool (.var 16), .bool (.var 17), .bool (.var 18), .bool (.var 19), .int .i64 (.var 20), .val 0]))
set_option maxRecDepth 100000 in
theorem goes : gx.goes one.S 3 [coreS] = true := by kernel_rfl

def env (R : List Int) (n z c v : Bool) (it : Int) (m : Value) : Env := ⟨fun i => match i with
  | 16 => .bool n | 17 => .bool z | 18 => .bool c | 19 => .bool v | 20 => .int it | i => .int (R.getD i 0), fun _ _ => .int 0, fun _ => m, Abs.no⟩

set_option maxRecDepth 100000 in
theorem core_conc (R : List Int) (hR : R.length = 16) (n z c v : Bool) (it : Int) (m : Value) : coreS.conc (env R n z c v it m) ι0 = .agg (R.map (Value.int .u32) ++ [.bool n, .bool z, .bool c, .bool v, .int .i64 it, m]).toArray := by
  match R, hR with
  | [_, _, _, _, _, _, _, _, _, _, _, _, _, _, _, _], _ => rfl

set_option maxRecDepth 100000 in
theorem desk_any (R : List Int) (hR : R.length = 16) (n z c v : Bool) (it : Int) (m : Value) {w : World} (hw : gx.Laid w) :
    Calls Tryz.prog 3 #[.agg (R.map (Value.int .u32) ++ [.bool n, .bool z, .bool c, .bool v, .int .i64 it, m]).toArray] w fun e w' => e = .returned (.bool true) ∧ Below w.heap.size w w' :=
  gx.goes_ok (env R n z c v it m) (one.S_ok _) one.S_body goes (fun _ h => h) (by intro u hu; simp only [List.mem_cons, List.not_mem_nil, or_false] at hu; subst hu; rfl) (by simp only [List.map_cons, List.map_nil, core_conc R hR]) hw
end dkn
end Go.Proofs.YtkfilbcmllfgdaaGreatDoor
