/-
  The orders of the regions that draw, one for each (found by program; checked where they are used).
-/
import Derived.Test.YtgofpppogoabaaaReg
namespace Go.Proofs.Ytgofpppogoabaaa
def o_emendatelaw02_AnchorMove_3 : Sched := .one 0 (.hoist 1 (.hoist 2 (.hoist 3 (.hoist 5 (.hoist 6 (.one 4 (.one 7 (.hoist 8 (.hoist 9 (.hoist 10 (.done)))))))))))
def o_emendatelaw02_AnchorKeepsNeighbors_3 : Sched := .hoist 0 (.hoist 1 (.hoist 2 (.hoist 3 (.hoist 4 (.hoist 5 (.hoist 6 (.hoist 7 (.hoist 8 (.hoist 9 (.hoist 10 (.hoist 11 (.hoist 12 (.hoist 13 (.hoist 14 (.hoist 15 (.done))))))))))))))))
def o_emendatelaw02_AnchorKeepsNeighbors_7 : Sched := .hoist 0 (.hoist 1 (.hoist 2 (.hoist 3 (.hoist 4 (.hoist 5 (.hoist 6 (.hoist 7 (.hoist 8 (.hoist 9 (.hoist 10 (.hoist 11 (.hoist 12 (.hoist 13 (.hoist 14 (.hoist 15 (.done))))))))))))))))
def o_emendatelaw02_AnchorKeepsNeighbors_9 : Sched := .hoist 0 (.hoist 1 (.hoist 2 (.hoist 3 (.hoist 4 (.hoist 5 (.hoist 6 (.hoist 7 (.hoist 8 (.hoist 9 (.hoist 10 (.hoist 11 (.hoist 12 (.hoist 13 (.hoist 14 (.hoist 15 (.hoist 16 (.hoist 17 (.hoist 18 (.done)))))))))))))))))))
def o_emendatelaw02_AnchorOrder_3 : Sched := .one 0 (.hoist 1 (.hoist 2 (.hoist 3 (.hoist 6 (.hoist 7 (.one 4 (.hoist 5 (.one 8 (.hoist 9 (.hoist 10 (.hoist 11 (.hoist 12 (.done)))))))))))))
def o_emendatelaw02_AnchorUndo_3 : Sched := .hoist 0 (.hoist 1 (.hoist 2 (.hoist 3 (.hoist 5 (.one 4 (.hoist 6 (.done)))))))
def o_emendatelaw02_AnchorUndo_8 : Sched := .one 0 (.hoist 1 (.hoist 2 (.hoist 3 (.hoist 4 (.hoist 5 (.hoist 6 (.hoist 7 (.hoist 8 (.hoist 9 (.hoist 10 (.hoist 11 (.hoist 12 (.hoist 13 (.done))))))))))))))
def o_emendatelaw02_awake_2 : Sched := .hoist 3 (.hoist 4 (.two 0 (.two 1 (.two 2 (.one 5 (.one 6 (.hoist 7 (.done)))) 5 (.one 2 (.one 6 (.hoist 7 (.done))))) 5 (.one 1 (.one 2 (.one 6 (.hoist 7 (.done)))))) 5 (.one 0 (.one 1 (.one 2 (.one 6 (.hoist 7 (.done))))))))
def o_emendatelaw02_awake_3 : Sched := .hoist 1 (.one 0 (.one 2 (.one 3 (.hoist 4 (.hoist 5 (.hoist 7 (.one 6 (.one 8 (.one 9 (.hoist 10 (.hoist 11 (.hoist 12 (.hoist 14 (.one 13 (.one 15 (.one 16 (.hoist 17 (.hoist 18 (.hoist 19 (.hoist 21 (.one 20 (.one 22 (.one 23 (.hoist 24 (.hoist 25 (.hoist 26 (.hoist 28 (.one 27 (.one 29 (.one 30 (.hoist 31 (.hoist 32 (.hoist 33 (.hoist 35 (.one 34 (.one 36 (.one 37 (.hoist 38 (.hoist 39 (.hoist 40 (.hoist 41 (.hoist 42 (.hoist 43 (.hoist 44 (.hoist 45 (.hoist 46 (.hoist 47 (.hoist 48 (.one 49 (.hoist 50 (.hoist 51 (.hoist 52 (.hoist 53 (.hoist 54 (.hoist 55 (.one 56 (.hoist 57 (.hoist 58 (.hoist 59 (.done))))))))))))))))))))))))))))))))))))))))))))))))))))))))))))
def o_anchor_MoveAll_8 : Sched := .hoist 0 (.hoist 1 (.hoist 2 (.hoist 3 (.hoist 4 (.hoist 5 (.hoist 6 (.one 7 (.hoist 8 (.one 9 (.done))))))))))
end Go.Proofs.Ytgofpppogoabaaa
