/- For the seat: what reading a line answers to the three lines of the examples. -/
import Derived.Test.YtkfilbcmllfgdaaGreatDoorGBase
namespace Go.Proofs.YtkfilbcmllfgdaaGreatDoor
open Go.Sx Go.RowKit

namespace one
def m0 : List SVal × SVal := ([.str (.text [109, 111, 118, 115, 32, 114, 48, 44, 32, 35, 53])], .tup (.cons (.agg (.cons (.str (.text [])) (.cons (.int .i64 (.num 1)) (.cons (.int .i64 (.num 10)) (.cons (.int .i64 (.num 0)) (.cons (.int .i64 (.num 0)) (.cons (.int .i64 (.num 0)) (.cons (.int .i64 (.num 0)) (.cons (.int .i64 (.num 0)) (.cons (.int .i64 (.num 1)) (.cons (.int .i64 (.num 0)) (.cons (.bool (.bit true)) (.cons (.int .i64 (.num 14)) (.cons (.str (.text [])) (.cons (.bool (.bit false)) (.cons (.int .i64 (.num 0)) (.cons (.int .i64 (.num 1)) (.cons (.int .i64 (.num 5)) (.cons (.str (.text [])) (.cons .nilslice .nil)))))))))))))))))))) (.cons (.int .i64 (.num 0)) .nil)))
def m1 : List SVal × SVal := ([.str (.text [98, 107, 112, 116, 32, 35, 48])], .tup (.cons (.agg (.cons (.str (.text [])) (.cons (.int .i64 (.num 1)) (.cons (.int .i64 (.num 44)) (.cons (.int .i64 (.num 0)) (.cons (.int .i64 (.num 0)) (.cons (.int .i64 (.num 0)) (.cons (.int .i64 (.num 0)) (.cons (.int .i64 (.num 0)) (.cons (.int .i64 (.num 1)) (.cons (.int .i64 (.num 0)) (.cons (.bool (.bit false)) (.cons (.int .i64 (.num 14)) (.cons (.str (.text [])) (.cons (.bool (.bit false)) (.cons (.int .i64 (.num 0)) (.cons (.int .i64 (.num 1)) (.cons (.int .i64 (.num 0)) (.cons (.str (.text [])) (.cons .nilslice .nil)))))))))))))))))))) (.cons (.int .i64 (.num 0)) .nil)))
def m2 : List SVal × SVal := ([.str (.text [120, 121, 122])], .tup (.cons (.agg (.cons (.str (.text [])) (.cons (.int .i64 (.num 0)) (.cons (.int .i64 (.num 0)) (.cons (.int .i64 (.num 0)) (.cons (.int .i64 (.num 0)) (.cons (.int .i64 (.num 0)) (.cons (.int .i64 (.num 0)) (.cons (.int .i64 (.num 0)) (.cons (.int .i64 (.num 0)) (.cons (.int .i64 (.num 0)) (.cons (.bool (.bit false)) (.cons (.int .i64 (.num 0)) (.cons (.str (.text [])) (.cons (.bool (.bit false)) (.cons (.int .i64 (.num 0)) (.cons (.int .i64 (.num 0)) (.cons (.int .i64 (.num 0)) (.cons (.str (.text [])) (.cons .nilslice .nil)))))))))))))))))))) (.cons (.int .i64 (.num 4)) .nil)))
def l : List (List SVal × SVal) := [m0, m1, m2]
end one
end Go.Proofs.YtkfilbcmllfgdaaGreatDoor
