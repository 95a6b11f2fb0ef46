/- For the seat: texts joined: PasP0, PasP1, PasP2. -/
import Derived.Test.YthbdmlcbdibiiaaGreatDoorJP0
import Derived.Test.YthbdmlcbdibiiaaGreatDoorJL3x0
/- MachinePasses: some of its cases, by the kernel. -/
namespace Go.Proofs.YthbdmlcbdibiiaaGreatDoor
namespace pas
set_option maxRecDepth 100000 in
theorem ok0 : goes 0 [small, mex.okF (mex.v 0)] = true := by kernel_rfl
set_option maxRecDepth 100000 in
theorem ok1 : goes 1 [small, mex.okF (mex.v 0)] = true := by kernel_rfl
set_option maxRecDepth 100000 in
theorem ok2 : goes 2 [small, mex.okF (mex.v 0)] = true := by kernel_rfl
set_option maxRecDepth 100000 in
theorem ok3 : goes 3 [small, mex.okF (mex.v 0)] = true := by kernel_rfl
set_option maxRecDepth 100000 in
theorem ok4 : goes 4 [small, mex.okF (mex.v 0)] = true := by kernel_rfl
set_option maxRecDepth 100000 in
theorem ok5 : goes 5 [small, mex.okF (mex.v 0)] = true := by kernel_rfl
set_option maxRecDepth 100000 in
theorem ok6 : goes 6 [small, mex.okF (mex.v 0)] = true := by kernel_rfl
set_option maxRecDepth 100000 in
theorem ok7 : goes 7 [small, mex.okF (mex.v 0)] = true := by kernel_rfl
set_option maxRecDepth 100000 in
theorem ok8 : goes 8 [small, mex.okF (mex.v 0)] = true := by kernel_rfl
end pas
end Go.Proofs.YthbdmlcbdibiiaaGreatDoor
/- MachinePasses: some of its cases, by the kernel. -/
namespace Go.Proofs.YthbdmlcbdibiiaaGreatDoor
namespace pas
set_option maxRecDepth 100000 in
theorem ok9 : goes 9 [small, mex.okF (mex.v 0)] = true := by kernel_rfl
set_option maxRecDepth 100000 in
theorem ok10 : goes 10 [small, mex.okF (mex.v 0)] = true := by kernel_rfl
set_option maxRecDepth 100000 in
theorem ok11 : goes 11 [small, mex.okF (mex.v 0)] = true := by kernel_rfl
set_option maxRecDepth 100000 in
theorem ok12 : goes 12 [small, mex.okF (mex.v 0)] = true := by kernel_rfl
set_option maxRecDepth 100000 in
theorem ok13 : goes 13 [small, mex.okF (mex.v 0)] = true := by kernel_rfl
set_option maxRecDepth 100000 in
theorem bad0 : goes 0 [small, mex.no (mex.okF (mex.v 0))] = true := by kernel_rfl
set_option maxRecDepth 100000 in
theorem bad1 : goes 1 [small, mex.no (mex.okF (mex.v 0))] = true := by kernel_rfl
set_option maxRecDepth 100000 in
theorem bad2 : goes 2 [small, mex.no (mex.okF (mex.v 0))] = true := by kernel_rfl
set_option maxRecDepth 100000 in
theorem bad3 : goes 3 [small, mex.no (mex.okF (mex.v 0))] = true := by kernel_rfl
set_option maxRecDepth 100000 in
theorem bad4 : goes 4 [small, mex.no (mex.okF (mex.v 0))] = true := by kernel_rfl
end pas
end Go.Proofs.YthbdmlcbdibiiaaGreatDoor
/- MachinePasses: some of its cases, by the kernel. -/
namespace Go.Proofs.YthbdmlcbdibiiaaGreatDoor
namespace pas
set_option maxRecDepth 100000 in
theorem bad5 : goes 5 [small, mex.no (mex.okF (mex.v 0))] = true := by kernel_rfl
set_option maxRecDepth 100000 in
theorem bad6 : goes 6 [small, mex.no (mex.okF (mex.v 0))] = true := by kernel_rfl
set_option maxRecDepth 100000 in
theorem bad7 : goes 7 [small, mex.no (mex.okF (mex.v 0))] = true := by kernel_rfl
set_option maxRecDepth 100000 in
theorem bad8 : goes 8 [small, mex.no (mex.okF (mex.v 0))] = true := by kernel_rfl
set_option maxRecDepth 100000 in
theorem bad9 : goes 9 [small, mex.no (mex.okF (mex.v 0))] = true := by kernel_rfl
set_option maxRecDepth 100000 in
theorem bad10 : goes 10 [small, mex.no (mex.okF (mex.v 0))] = true := by kernel_rfl
set_option maxRecDepth 100000 in
theorem bad11 : goes 11 [small, mex.no (mex.okF (mex.v 0))] = true := by kernel_rfl
set_option maxRecDepth 100000 in
theorem bad12 : goes 12 [small, mex.no (mex.okF (mex.v 0))] = true := by kernel_rfl
set_option maxRecDepth 100000 in
theorem bad13 : goes 13 [small, mex.no (mex.okF (mex.v 0))] = true := by kernel_rfl
set_option maxRecDepth 100000 in
theorem large : Go.Sx.isTT (Go.Sx.callT (mex.cxm false) mxl.S (Go.Sx.run (mex.cxm false) mxl.S 3000) 7 (args (mex.v 32)) mex.heap0 (([mex.no small] : List Go.Sx.Tm).foldr Go.Sx.mkAnd (.bit true))) = true := by kernel_rfl
set_option maxRecDepth 100000 in
theorem neg : Go.Sx.isTT (Go.Sx.callT (mex.cxm false) mxl.S (Go.Sx.run (mex.cxm false) mxl.S 3000) 7 (args (mex.v 32)) mex.heap0 (([small, mex.lt (mex.v 32) (mex.num 0)] : List Go.Sx.Tm).foldr Go.Sx.mkAnd (.bit true))) = true := by kernel_rfl
set_option maxRecDepth 100000 in
theorem beyond : Go.Sx.isTT (Go.Sx.callT (mex.cxm false) mxl.S (Go.Sx.run (mex.cxm false) mxl.S 3000) 7 (args (mex.v 32)) mex.heap0 (([small, mex.no (mex.lt (mex.v 32) (mex.num 0)), mex.lt (mex.num 13) (mex.v 32)] : List Go.Sx.Tm).foldr Go.Sx.mkAnd (.bit true))) = true := by kernel_rfl
end pas
end Go.Proofs.YthbdmlcbdibiiaaGreatDoor
