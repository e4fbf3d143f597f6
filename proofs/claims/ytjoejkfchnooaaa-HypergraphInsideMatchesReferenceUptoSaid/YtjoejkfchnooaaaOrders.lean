/-
  The orders of the regions that draw, one for each (found by program; checked where they are used).
-/
import Derived.Test.YtjoejkfchnooaaaFast
namespace Go.Proofs.Ytjoejkfchnooaaa
def o_emendatelaw27_HypergraphValidMatchesReference_3 : Sched := .hoist 0 (.hoist 1 (.hoist 2 (.hoist 3 (.hoist 4 (.hoist 5 (.hoist 7 (.one 6 (.one 8 (.hoist 9 (.hoist 10 (.hoist 11 (.done))))))))))))
def o_emendatelaw27_HypergraphDerivableIsLeastFixpoint_3 : Sched := .hoist 0 (.one 1 (.hoist 2 (.hoist 3 (.hoist 4 (.hoist 6 (.one 5 (.one 7 (.one 8 (.hoist 9 (.hoist 10 (.done)))))))))))
def o_emendatelaw27_HypergraphOrderIsTopological_20 : Sched := .hoist 0 (.hoist 1 (.hoist 2 (.hoist 3 (.hoist 4 (.hoist 5 (.hoist 6 (.hoist 7 (.hoist 8 (.hoist 9 (.hoist 10 (.hoist 11 (.hoist 12 (.hoist 13 (.hoist 14 (.hoist 15 (.hoist 16 (.hoist 17 (.hoist 18 (.hoist 19 (.hoist 20 (.hoist 21 (.done))))))))))))))))))))))
def o_emendatelaw27_HypergraphInsideOrder_17 : Sched := .hoist 0 (.hoist 1 (.hoist 2 (.hoist 3 (.hoist 4 (.hoist 5 (.hoist 6 (.hoist 7 (.hoist 8 (.done)))))))))
def o_emendatelaw27_HypergraphInsideLinear_18 : Sched := .hoist 0 (.hoist 1 (.hoist 2 (.hoist 3 (.hoist 4 (.hoist 5 (.hoist 6 (.hoist 7 (.hoist 8 (.hoist 9 (.hoist 10 (.hoist 11 (.hoist 12 (.hoist 13 (.hoist 14 (.hoist 15 (.hoist 16 (.hoist 17 (.hoist 18 (.hoist 19 (.hoist 20 (.hoist 21 (.hoist 22 (.hoist 23 (.hoist 24 (.hoist 25 (.hoist 26 (.hoist 27 (.hoist 28 (.hoist 29 (.done))))))))))))))))))))))))))))))
def o_emendateref27_Valid_12 : Sched := .hoist 0 (.hoist 1 (.hoist 2 (.hoist 3 (.hoist 4 (.hoist 5 (.hoist 6 (.hoist 7 (.hoist 8 (.hoist 9 (.hoist 10 (.hoist 11 (.hoist 12 (.hoist 13 (.hoist 14 (.hoist 15 (.done))))))))))))))))
def o_emendateref27_SameBools_6 : Sched := .hoist 0 (.hoist 1 (.hoist 2 (.hoist 3 (.hoist 4 (.hoist 5 (.hoist 6 (.hoist 7 (.hoist 8 (.done)))))))))
def o_hypergraph_Order_6 : Sched := .hoist 0 (.hoist 1 (.hoist 2 (.hoist 3 (.hoist 4 (.hoist 5 (.hoist 6 (.hoist 7 (.hoist 8 (.hoist 9 (.one 10 (.done)))))))))))
def o_hypergraph_Order_10 : Sched := .hoist 0 (.hoist 1 (.hoist 2 (.hoist 3 (.hoist 4 (.hoist 5 (.hoist 6 (.hoist 7 (.one 8 (.one 9 (.hoist 10 (.one 11 (.done))))))))))))
def o_emendateref27_SameInts_6 : Sched := .hoist 0 (.hoist 1 (.hoist 2 (.hoist 3 (.hoist 4 (.hoist 5 (.hoist 6 (.hoist 7 (.hoist 8 (.done)))))))))
def o_hypergraph_Inside_int_19 : Sched := .hoist 0 (.hoist 1 (.hoist 2 (.hoist 3 (.hoist 4 (.hoist 5 (.hoist 6 (.hoist 7 (.hoist 8 (.one 9 (.hoist 10 (.done)))))))))))
def o_emendateref27_Naturals_14 : Sched := .hoist 0 (.hoist 1 (.hoist 2 (.hoist 3 (.hoist 4 (.hoist 5 (.hoist 6 (.hoist 7 (.hoist 8 (.hoist 9 (.hoist 10 (.done)))))))))))
def o_hypergraph_Inside_string_19 : Sched := .hoist 0 (.hoist 1 (.hoist 2 (.hoist 3 (.hoist 4 (.hoist 5 (.hoist 6 (.hoist 7 (.hoist 8 (.one 9 (.hoist 10 (.done)))))))))))
def o_emendateref27_Words_14 : Sched := .hoist 0 (.hoist 1 (.hoist 2 (.hoist 3 (.hoist 4 (.hoist 5 (.hoist 6 (.hoist 7 (.hoist 8 (.hoist 9 (.hoist 10 (.done)))))))))))
def o_hypergraph_Inside_bool_19 : Sched := .hoist 0 (.hoist 1 (.hoist 2 (.hoist 3 (.hoist 4 (.hoist 5 (.hoist 6 (.hoist 7 (.hoist 8 (.one 9 (.hoist 10 (.done)))))))))))
def o_hypergraph_edges_5 : Sched := .hoist 0 (.hoist 1 (.hoist 2 (.hoist 3 (.hoist 4 (.hoist 5 (.hoist 6 (.hoist 7 (.hoist 8 (.one 9 (.one 10 (.hoist 11 (.one 12 (.done)))))))))))))
def o_emendateref27_Cut_2 : Sched := .hoist 0 (.hoist 1 (.hoist 2 (.hoist 3 (.hoist 4 (.hoist 5 (.hoist 6 (.hoist 7 (.hoist 8 (.done)))))))))
end Go.Proofs.Ytjoejkfchnooaaa
