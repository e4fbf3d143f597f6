/-
  The runs of lexspec.Compile(words()): what is given, what comes back.
-/
import Derived.Test.YtlgpacpebjechaaGreatDoorBL
namespace Go.Proofs.YtlgpacpebjechaaGreatDoor
namespace Ev
/- emendate/emendatetop.words -/
noncomputable def wordsA : List AV := []
noncomputable def wordsL : List LR := []
noncomputable def wordsV : AV := .agg [cS 1 0 4 0, cF, cI 0, cI 0]
noncomputable def wordsN : List LR := [(5, [.str [105, 102], cI 3, .str [105, 102], .str [105, 102], .str [], .str [119, 111, 114, 100], cI 1, .str [91, 97, 45, 122, 93, 43], .str [120], .str [], .str [110, 117, 109], cI 1, .str [91, 48, 45, 57, 93, 43, 40, 92, 46, 91, 48, 45, 57, 93, 43, 41, 63], .str [48], .str [], .str [98, 108, 97, 110, 107], cI 2, .str [32, 43], .str [32], .str []])]
noncomputable def wordsS : List Pa := [qP 2]
/- emendate/byteset.Classes -/
noncomputable def cls0A : List AV := [cS 1 0 16 0]
noncomputable def cls0L : List LR := [(4, [cU 0, cU 2199023255552, cU 0, cU 0, cU 0, cU 576460743713488896, cU 0, cU 0, cU 287948901175001088, cU 0, cU 0, cU 0, cU 4294967296, cU 0, cU 0, cU 0, cU 0, cU 274877906944, cU 0, cU 0, cU 0, cU 576460743713488896, cU 0, cU 0, cU 0, cU 576460743713488896, cU 0, cU 0, cU 287948901175001088, cU 0, cU 0, cU 0, cU 70368744177664, cU 0, cU 0, cU 0, cU 287948901175001088, cU 0, cU 0, cU 0, cU 70368744177664, cU 0, cU 0, cU 0, cU 287948901175001088, cU 0, cU 0, cU 0, cU 287948901175001088, cU 0, cU 0, cU 0, cU 287948901175001088, cU 0, cU 0, cU 0, cU 4294967296, cU 0, cU 0, cU 0, cU 4294967296, cU 0, cU 0, cU 0])]
noncomputable def cls0V : AV := cS 2 0 256 0
noncomputable def cls0N : List LR := [(1, [cI 0, cI 0, cI 0, cI 0, cI 0, cI 0, cI 0, cI 0, cI 0, cI 0, cI 0, cI 0, cI 0, cI 0, cI 0, cI 0, cI 0, cI 0, cI 0, cI 0, cI 0, cI 0, cI 0, cI 0, cI 0, cI 0, cI 0, cI 0, cI 0, cI 0, cI 0, cI 0, cI 1, cI 0, cI 0, cI 0, cI 0, cI 0, cI 0, cI 0, cI 0, cI 0, cI 0, cI 0, cI 0, cI 0, cI 2, cI 0, cI 3, cI 3, cI 3, cI 3, cI 3, cI 3, cI 3, cI 3, cI 3, cI 3, cI 0, cI 0, cI 0, cI 0, cI 0, cI 0, cI 0, cI 0, cI 0, cI 0, cI 0, cI 0, cI 0, cI 0, cI 0, cI 0, cI 0, cI 0, cI 0, cI 0, cI 0, cI 0, cI 0, cI 0, cI 0, cI 0, cI 0, cI 0, cI 0, cI 0, cI 0, cI 0, cI 0, cI 0, cI 0, cI 0, cI 0, cI 0, cI 0, cI 4, cI 4, cI 4, cI 4, cI 4, cI 5, cI 4, cI 4, cI 6, cI 4, cI 4, cI 4, cI 4, cI 4, cI 4, cI 4, cI 4, cI 4, cI 4, cI 4, cI 4, cI 4, cI 4, cI 4, cI 4, cI 4, cI 0, cI 0, cI 0, cI 0, cI 0, cI 0, cI 0, cI 0, cI 0, cI 0, cI 0, cI 0, cI 0, cI 0, cI 0, cI 0, cI 0, cI 0, cI 0, cI 0, cI 0, cI 0, cI 0, cI 0, cI 0, cI 0, cI 0, cI 0, cI 0, cI 0, cI 0, cI 0, cI 0, cI 0, cI 0, cI 0, cI 0, cI 0, cI 0, cI 0, cI 0, cI 0, cI 0, cI 0, cI 0, cI 0, cI 0, cI 0, cI 0, cI 0, cI 0, cI 0, cI 0, cI 0, cI 0, cI 0, cI 0, cI 0, cI 0, cI 0, cI 0, cI 0, cI 0, cI 0, cI 0, cI 0, cI 0, cI 0, cI 0, cI 0, cI 0, cI 0, cI 0, cI 0, cI 0, cI 0, cI 0, cI 0, cI 0, cI 0, cI 0, cI 0, cI 0, cI 0, cI 0, cI 0, cI 0, cI 0, cI 0, cI 0, cI 0, cI 0, cI 0, cI 0, cI 0, cI 0, cI 0, cI 0, cI 0, cI 0, cI 0, cI 0, cI 0, cI 0, cI 0, cI 0, cI 0, cI 0, cI 0, cI 0, cI 0, cI 0, cI 0, cI 0, cI 0, cI 0, cI 0, cI 0, cI 0, cI 0, cI 0, cI 0, cI 0, cI 0, cI 0, cI 0, cI 0, cI 0, cI 0, cI 0, cI 0, cI 0, cI 0])]
noncomputable def cls0S : List Pa := [qP 2]
/- emendate/dfa.Determinize -/
noncomputable def det0A : List AV := [.agg [cI 12, cI 0, cS 1 0 16 0, cS 2 0 12 0]]
noncomputable def det0L : List LR := [(7, [cI 0, cI 1, cF, cU 0, cU 2199023255552, cU 0, cU 0, cI 0, cI 3, cF, cU 0, cU 576460743713488896, cU 0, cU 0, cI 0, cI 5, cF, cU 287948901175001088, cU 0, cU 0, cU 0, cI 0, cI 10, cF, cU 4294967296, cU 0, cU 0, cU 0, cI 1, cI 2, cF, cU 0, cU 274877906944, cU 0, cU 0, cI 3, cI 4, cF, cU 0, cU 576460743713488896, cU 0, cU 0, cI 4, cI 4, cF, cU 0, cU 576460743713488896, cU 0, cU 0, cI 5, cI 6, cF, cU 287948901175001088, cU 0, cU 0, cU 0, cI 5, cI 7, cF, cU 70368744177664, cU 0, cU 0, cU 0, cI 6, cI 6, cF, cU 287948901175001088, cU 0, cU 0, cU 0, cI 6, cI 7, cF, cU 70368744177664, cU 0, cU 0, cU 0, cI 7, cI 8, cF, cU 287948901175001088, cU 0, cU 0, cU 0, cI 8, cI 9, cF, cU 287948901175001088, cU 0, cU 0, cU 0, cI 9, cI 9, cF, cU 287948901175001088, cU 0, cU 0, cU 0, cI 10, cI 11, cF, cU 4294967296, cU 0, cU 0, cU 0, cI 11, cI 11, cF, cU 4294967296, cU 0, cU 0, cU 0]),
  (1, [cN 0, cN 0, cI 0, cI 1, cI 1, cI 2, cI 2, cN 0, cI 2, cI 2, cI 3, cI 3])]
noncomputable def det0V : AV := .tup [.agg [cS 3 0 256 0, cS 16 0 12 0, cS 17 0 12 0], cI 0]
noncomputable def det0N : List LR := [(1, [cI 0, cI 0, cI 0, cI 0, cI 0, cI 0, cI 0, cI 0, cI 0, cI 0, cI 0, cI 0, cI 0, cI 0, cI 0, cI 0, cI 0, cI 0, cI 0, cI 0, cI 0, cI 0, cI 0, cI 0, cI 0, cI 0, cI 0, cI 0, cI 0, cI 0, cI 0, cI 0, cI 1, cI 0, cI 0, cI 0, cI 0, cI 0, cI 0, cI 0, cI 0, cI 0, cI 0, cI 0, cI 0, cI 0, cI 2, cI 0, cI 3, cI 3, cI 3, cI 3, cI 3, cI 3, cI 3, cI 3, cI 3, cI 3, cI 0, cI 0, cI 0, cI 0, cI 0, cI 0, cI 0, cI 0, cI 0, cI 0, cI 0, cI 0, cI 0, cI 0, cI 0, cI 0, cI 0, cI 0, cI 0, cI 0, cI 0, cI 0, cI 0, cI 0, cI 0, cI 0, cI 0, cI 0, cI 0, cI 0, cI 0, cI 0, cI 0, cI 0, cI 0, cI 0, cI 0, cI 0, cI 0, cI 4, cI 4, cI 4, cI 4, cI 4, cI 5, cI 4, cI 4, cI 6, cI 4, cI 4, cI 4, cI 4, cI 4, cI 4, cI 4, cI 4, cI 4, cI 4, cI 4, cI 4, cI 4, cI 4, cI 4, cI 4, cI 4, cI 0, cI 0, cI 0, cI 0, cI 0, cI 0, cI 0, cI 0, cI 0, cI 0, cI 0, cI 0, cI 0, cI 0, cI 0, cI 0, cI 0, cI 0, cI 0, cI 0, cI 0, cI 0, cI 0, cI 0, cI 0, cI 0, cI 0, cI 0, cI 0, cI 0, cI 0, cI 0, cI 0, cI 0, cI 0, cI 0, cI 0, cI 0, cI 0, cI 0, cI 0, cI 0, cI 0, cI 0, cI 0, cI 0, cI 0, cI 0, cI 0, cI 0, cI 0, cI 0, cI 0, cI 0, cI 0, cI 0, cI 0, cI 0, cI 0, cI 0, cI 0, cI 0, cI 0, cI 0, cI 0, cI 0, cI 0, cI 0, cI 0, cI 0, cI 0, cI 0, cI 0, cI 0, cI 0, cI 0, cI 0, cI 0, cI 0, cI 0, cI 0, cI 0, cI 0, cI 0, cI 0, cI 0, cI 0, cI 0, cI 0, cI 0, cI 0, cI 0, cI 0, cI 0, cI 0, cI 0, cI 0, cI 0, cI 0, cI 0, cI 0, cI 0, cI 0, cI 0, cI 0, cI 0, cI 0, cI 0, cI 0, cI 0, cI 0, cI 0, cI 0, cI 0, cI 0, cI 0, cI 0, cI 0, cI 0, cI 0, cI 0, cI 0, cI 0, cI 0, cI 0, cI 0, cI 0, cI 0, cI 0, cI 0, cI 0, cI 0, cI 0]),
  (1, [cN 0, cI 1, cN 0, cI 2, cI 3, cI 3, cI 4]),
  (1, [cN 0, cI 5, cN 0, cN 0, cN 0, cN 0, cN 0]),
  (1, [cN 0, cN 0, cI 6, cI 7, cN 0, cN 0, cN 0]),
  (1, [cN 0, cN 0, cN 0, cN 0, cI 8, cI 8, cI 8]),
  (1, [cN 0, cN 0, cN 0, cN 0, cI 8, cI 9, cI 8]),
  (1, [cN 0, cI 5, cN 0, cN 0, cN 0, cN 0, cN 0]),
  (1, [cN 0, cN 0, cN 0, cI 10, cN 0, cN 0, cN 0]),
  (1, [cN 0, cN 0, cI 6, cI 7, cN 0, cN 0, cN 0]),
  (1, [cN 0, cN 0, cN 0, cN 0, cI 8, cI 8, cI 8]),
  (1, [cN 0, cN 0, cN 0, cN 0, cI 8, cI 8, cI 8]),
  (1, [cN 0, cN 0, cN 0, cI 11, cN 0, cN 0, cN 0]),
  (1, [cN 0, cN 0, cN 0, cI 11, cN 0, cN 0, cN 0]),
  (1, [cS 4 0 7 0, cS 5 0 7 0, cS 6 0 7 0, cS 7 0 7 0, cS 8 0 7 0, cS 9 0 7 0, cS 10 0 7 0, cS 11 0 7 0, cS 12 0 7 0, cS 13 0 7 0, cS 14 0 7 0, cS 15 0 7 0]),
  (1, [cN 0, cI 3, cI 2, cI 1, cI 1, cI 3, cN 0, cI 2, cI 1, cI 0, cI 2, cI 2])]
noncomputable def det0S : List Pa := [qP 70, qP 115, qP 633, qP 996, qP 1394, qP 1805, qP 2389, qP 2748, qP 3111, qP 3501, qP 3908, qP 4455, qP 4818, qP 5173, qP 5176]
noncomputable def det0M84 : List ME := [(cls0A, cls0L, [qP 69], cls0V, cls0N)]
/- emendate/dfa.Minimize -/
noncomputable def min0A : List AV := [.agg [cS 1 0 256 0, cS 14 0 12 0, cS 15 0 12 0]]
noncomputable def min0L : List LR := [(1, [cI 0, cI 0, cI 0, cI 0, cI 0, cI 0, cI 0, cI 0, cI 0, cI 0, cI 0, cI 0, cI 0, cI 0, cI 0, cI 0, cI 0, cI 0, cI 0, cI 0, cI 0, cI 0, cI 0, cI 0, cI 0, cI 0, cI 0, cI 0, cI 0, cI 0, cI 0, cI 0, cI 1, cI 0, cI 0, cI 0, cI 0, cI 0, cI 0, cI 0, cI 0, cI 0, cI 0, cI 0, cI 0, cI 0, cI 2, cI 0, cI 3, cI 3, cI 3, cI 3, cI 3, cI 3, cI 3, cI 3, cI 3, cI 3, cI 0, cI 0, cI 0, cI 0, cI 0, cI 0, cI 0, cI 0, cI 0, cI 0, cI 0, cI 0, cI 0, cI 0, cI 0, cI 0, cI 0, cI 0, cI 0, cI 0, cI 0, cI 0, cI 0, cI 0, cI 0, cI 0, cI 0, cI 0, cI 0, cI 0, cI 0, cI 0, cI 0, cI 0, cI 0, cI 0, cI 0, cI 0, cI 0, cI 4, cI 4, cI 4, cI 4, cI 4, cI 5, cI 4, cI 4, cI 6, cI 4, cI 4, cI 4, cI 4, cI 4, cI 4, cI 4, cI 4, cI 4, cI 4, cI 4, cI 4, cI 4, cI 4, cI 4, cI 4, cI 4, cI 0, cI 0, cI 0, cI 0, cI 0, cI 0, cI 0, cI 0, cI 0, cI 0, cI 0, cI 0, cI 0, cI 0, cI 0, cI 0, cI 0, cI 0, cI 0, cI 0, cI 0, cI 0, cI 0, cI 0, cI 0, cI 0, cI 0, cI 0, cI 0, cI 0, cI 0, cI 0, cI 0, cI 0, cI 0, cI 0, cI 0, cI 0, cI 0, cI 0, cI 0, cI 0, cI 0, cI 0, cI 0, cI 0, cI 0, cI 0, cI 0, cI 0, cI 0, cI 0, cI 0, cI 0, cI 0, cI 0, cI 0, cI 0, cI 0, cI 0, cI 0, cI 0, cI 0, cI 0, cI 0, cI 0, cI 0, cI 0, cI 0, cI 0, cI 0, cI 0, cI 0, cI 0, cI 0, cI 0, cI 0, cI 0, cI 0, cI 0, cI 0, cI 0, cI 0, cI 0, cI 0, cI 0, cI 0, cI 0, cI 0, cI 0, cI 0, cI 0, cI 0, cI 0, cI 0, cI 0, cI 0, cI 0, cI 0, cI 0, cI 0, cI 0, cI 0, cI 0, cI 0, cI 0, cI 0, cI 0, cI 0, cI 0, cI 0, cI 0, cI 0, cI 0, cI 0, cI 0, cI 0, cI 0, cI 0, cI 0, cI 0, cI 0, cI 0, cI 0, cI 0, cI 0, cI 0, cI 0, cI 0, cI 0, cI 0, cI 0, cI 0]),
  (1, [cN 0, cI 1, cN 0, cI 2, cI 3, cI 3, cI 4]),
  (1, [cN 0, cI 5, cN 0, cN 0, cN 0, cN 0, cN 0]),
  (1, [cN 0, cN 0, cI 6, cI 7, cN 0, cN 0, cN 0]),
  (1, [cN 0, cN 0, cN 0, cN 0, cI 8, cI 8, cI 8]),
  (1, [cN 0, cN 0, cN 0, cN 0, cI 8, cI 9, cI 8]),
  (1, [cN 0, cI 5, cN 0, cN 0, cN 0, cN 0, cN 0]),
  (1, [cN 0, cN 0, cN 0, cI 10, cN 0, cN 0, cN 0]),
  (1, [cN 0, cN 0, cI 6, cI 7, cN 0, cN 0, cN 0]),
  (1, [cN 0, cN 0, cN 0, cN 0, cI 8, cI 8, cI 8]),
  (1, [cN 0, cN 0, cN 0, cN 0, cI 8, cI 8, cI 8]),
  (1, [cN 0, cN 0, cN 0, cI 11, cN 0, cN 0, cN 0]),
  (1, [cN 0, cN 0, cN 0, cI 11, cN 0, cN 0, cN 0]),
  (1, [cS 2 0 7 0, cS 3 0 7 0, cS 4 0 7 0, cS 5 0 7 0, cS 6 0 7 0, cS 7 0 7 0, cS 8 0 7 0, cS 9 0 7 0, cS 10 0 7 0, cS 11 0 7 0, cS 12 0 7 0, cS 13 0 7 0]),
  (1, [cN 0, cI 3, cI 2, cI 1, cI 1, cI 3, cN 0, cI 2, cI 1, cI 0, cI 2, cI 2])]
noncomputable def min0V : AV := .agg [cS 16 0 256 0, cS 25 0 8 0, cS 26 0 8 0]
noncomputable def min0N : List LR := [(1, [cI 0, cI 0, cI 0, cI 0, cI 0, cI 0, cI 0, cI 0, cI 0, cI 0, cI 0, cI 0, cI 0, cI 0, cI 0, cI 0, cI 0, cI 0, cI 0, cI 0, cI 0, cI 0, cI 0, cI 0, cI 0, cI 0, cI 0, cI 0, cI 0, cI 0, cI 0, cI 0, cI 1, cI 0, cI 0, cI 0, cI 0, cI 0, cI 0, cI 0, cI 0, cI 0, cI 0, cI 0, cI 0, cI 0, cI 2, cI 0, cI 3, cI 3, cI 3, cI 3, cI 3, cI 3, cI 3, cI 3, cI 3, cI 3, cI 0, cI 0, cI 0, cI 0, cI 0, cI 0, cI 0, cI 0, cI 0, cI 0, cI 0, cI 0, cI 0, cI 0, cI 0, cI 0, cI 0, cI 0, cI 0, cI 0, cI 0, cI 0, cI 0, cI 0, cI 0, cI 0, cI 0, cI 0, cI 0, cI 0, cI 0, cI 0, cI 0, cI 0, cI 0, cI 0, cI 0, cI 0, cI 0, cI 4, cI 4, cI 4, cI 4, cI 4, cI 5, cI 4, cI 4, cI 6, cI 4, cI 4, cI 4, cI 4, cI 4, cI 4, cI 4, cI 4, cI 4, cI 4, cI 4, cI 4, cI 4, cI 4, cI 4, cI 4, cI 4, cI 0, cI 0, cI 0, cI 0, cI 0, cI 0, cI 0, cI 0, cI 0, cI 0, cI 0, cI 0, cI 0, cI 0, cI 0, cI 0, cI 0, cI 0, cI 0, cI 0, cI 0, cI 0, cI 0, cI 0, cI 0, cI 0, cI 0, cI 0, cI 0, cI 0, cI 0, cI 0, cI 0, cI 0, cI 0, cI 0, cI 0, cI 0, cI 0, cI 0, cI 0, cI 0, cI 0, cI 0, cI 0, cI 0, cI 0, cI 0, cI 0, cI 0, cI 0, cI 0, cI 0, cI 0, cI 0, cI 0, cI 0, cI 0, cI 0, cI 0, cI 0, cI 0, cI 0, cI 0, cI 0, cI 0, cI 0, cI 0, cI 0, cI 0, cI 0, cI 0, cI 0, cI 0, cI 0, cI 0, cI 0, cI 0, cI 0, cI 0, cI 0, cI 0, cI 0, cI 0, cI 0, cI 0, cI 0, cI 0, cI 0, cI 0, cI 0, cI 0, cI 0, cI 0, cI 0, cI 0, cI 0, cI 0, cI 0, cI 0, cI 0, cI 0, cI 0, cI 0, cI 0, cI 0, cI 0, cI 0, cI 0, cI 0, cI 0, cI 0, cI 0, cI 0, cI 0, cI 0, cI 0, cI 0, cI 0, cI 0, cI 0, cI 0, cI 0, cI 0, cI 0, cI 0, cI 0, cI 0, cI 0, cI 0, cI 0, cI 0, cI 0]),
  (1, [cN 0, cI 1, cN 0, cI 2, cI 3, cI 3, cI 4]),
  (1, [cN 0, cI 1, cN 0, cN 0, cN 0, cN 0, cN 0]),
  (1, [cN 0, cN 0, cI 5, cI 2, cN 0, cN 0, cN 0]),
  (1, [cN 0, cN 0, cN 0, cN 0, cI 3, cI 3, cI 3]),
  (1, [cN 0, cN 0, cN 0, cN 0, cI 3, cI 6, cI 3]),
  (1, [cN 0, cN 0, cN 0, cI 7, cN 0, cN 0, cN 0]),
  (1, [cN 0, cN 0, cN 0, cN 0, cI 3, cI 3, cI 3]),
  (1, [cN 0, cN 0, cN 0, cI 7, cN 0, cN 0, cN 0]),
  (1, [cS 17 0 7 0, cS 18 0 7 0, cS 19 0 7 0, cS 20 0 7 0, cS 21 0 7 0, cS 22 0 7 0, cS 23 0 7 0, cS 24 0 7 0]),
  (1, [cN 0, cI 3, cI 2, cI 1, cI 1, cN 0, cI 0, cI 2])]
noncomputable def min0S : List Pa := [qP 848, qP 7011, qP 7031, qP 7043, qP 7057, qP 7069, qP 7083, qP 7097, qP 7109, qP 7118, qP 7120]
/- emendate/byteset.Classes -/
noncomputable def cls1A : List AV := [cS 1 0 2 0]
noncomputable def cls1L : List LR := [(4, [cU 0, cU 2199023255552, cU 0, cU 0, cU 0, cU 274877906944, cU 0, cU 0])]
noncomputable def cls1V : AV := cS 2 0 256 0
noncomputable def cls1N : List LR := [(1, [cI 0, cI 0, cI 0, cI 0, cI 0, cI 0, cI 0, cI 0, cI 0, cI 0, cI 0, cI 0, cI 0, cI 0, cI 0, cI 0, cI 0, cI 0, cI 0, cI 0, cI 0, cI 0, cI 0, cI 0, cI 0, cI 0, cI 0, cI 0, cI 0, cI 0, cI 0, cI 0, cI 0, cI 0, cI 0, cI 0, cI 0, cI 0, cI 0, cI 0, cI 0, cI 0, cI 0, cI 0, cI 0, cI 0, cI 0, cI 0, cI 0, cI 0, cI 0, cI 0, cI 0, cI 0, cI 0, cI 0, cI 0, cI 0, cI 0, cI 0, cI 0, cI 0, cI 0, cI 0, cI 0, cI 0, cI 0, cI 0, cI 0, cI 0, cI 0, cI 0, cI 0, cI 0, cI 0, cI 0, cI 0, cI 0, cI 0, cI 0, cI 0, cI 0, cI 0, cI 0, cI 0, cI 0, cI 0, cI 0, cI 0, cI 0, cI 0, cI 0, cI 0, cI 0, cI 0, cI 0, cI 0, cI 0, cI 0, cI 0, cI 0, cI 0, cI 1, cI 0, cI 0, cI 2, cI 0, cI 0, cI 0, cI 0, cI 0, cI 0, cI 0, cI 0, cI 0, cI 0, cI 0, cI 0, cI 0, cI 0, cI 0, cI 0, cI 0, cI 0, cI 0, cI 0, cI 0, cI 0, cI 0, cI 0, cI 0, cI 0, cI 0, cI 0, cI 0, cI 0, cI 0, cI 0, cI 0, cI 0, cI 0, cI 0, cI 0, cI 0, cI 0, cI 0, cI 0, cI 0, cI 0, cI 0, cI 0, cI 0, cI 0, cI 0, cI 0, cI 0, cI 0, cI 0, cI 0, cI 0, cI 0, cI 0, cI 0, cI 0, cI 0, cI 0, cI 0, cI 0, cI 0, cI 0, cI 0, cI 0, cI 0, cI 0, cI 0, cI 0, cI 0, cI 0, cI 0, cI 0, cI 0, cI 0, cI 0, cI 0, cI 0, cI 0, cI 0, cI 0, cI 0, cI 0, cI 0, cI 0, cI 0, cI 0, cI 0, cI 0, cI 0, cI 0, cI 0, cI 0, cI 0, cI 0, cI 0, cI 0, cI 0, cI 0, cI 0, cI 0, cI 0, cI 0, cI 0, cI 0, cI 0, cI 0, cI 0, cI 0, cI 0, cI 0, cI 0, cI 0, cI 0, cI 0, cI 0, cI 0, cI 0, cI 0, cI 0, cI 0, cI 0, cI 0, cI 0, cI 0, cI 0, cI 0, cI 0, cI 0, cI 0, cI 0, cI 0, cI 0, cI 0, cI 0, cI 0, cI 0, cI 0, cI 0, cI 0, cI 0, cI 0, cI 0, cI 0, cI 0, cI 0, cI 0, cI 0, cI 0])]
noncomputable def cls1S : List Pa := [qP 2]
/- emendate/dfa.Determinize -/
noncomputable def det1A : List AV := [.agg [cI 3, cI 0, cS 1 0 2 0, cS 2 0 3 0]]
noncomputable def det1L : List LR := [(7, [cI 0, cI 1, cF, cU 0, cU 2199023255552, cU 0, cU 0, cI 1, cI 2, cF, cU 0, cU 274877906944, cU 0, cU 0]),
  (1, [cN 0, cN 0, cI 0])]
noncomputable def det1V : AV := .tup [.agg [cS 3 0 256 0, cS 7 0 3 0, cS 8 0 3 0], cI 0]
noncomputable def det1N : List LR := [(1, [cI 0, cI 0, cI 0, cI 0, cI 0, cI 0, cI 0, cI 0, cI 0, cI 0, cI 0, cI 0, cI 0, cI 0, cI 0, cI 0, cI 0, cI 0, cI 0, cI 0, cI 0, cI 0, cI 0, cI 0, cI 0, cI 0, cI 0, cI 0, cI 0, cI 0, cI 0, cI 0, cI 0, cI 0, cI 0, cI 0, cI 0, cI 0, cI 0, cI 0, cI 0, cI 0, cI 0, cI 0, cI 0, cI 0, cI 0, cI 0, cI 0, cI 0, cI 0, cI 0, cI 0, cI 0, cI 0, cI 0, cI 0, cI 0, cI 0, cI 0, cI 0, cI 0, cI 0, cI 0, cI 0, cI 0, cI 0, cI 0, cI 0, cI 0, cI 0, cI 0, cI 0, cI 0, cI 0, cI 0, cI 0, cI 0, cI 0, cI 0, cI 0, cI 0, cI 0, cI 0, cI 0, cI 0, cI 0, cI 0, cI 0, cI 0, cI 0, cI 0, cI 0, cI 0, cI 0, cI 0, cI 0, cI 0, cI 0, cI 0, cI 0, cI 0, cI 1, cI 0, cI 0, cI 2, cI 0, cI 0, cI 0, cI 0, cI 0, cI 0, cI 0, cI 0, cI 0, cI 0, cI 0, cI 0, cI 0, cI 0, cI 0, cI 0, cI 0, cI 0, cI 0, cI 0, cI 0, cI 0, cI 0, cI 0, cI 0, cI 0, cI 0, cI 0, cI 0, cI 0, cI 0, cI 0, cI 0, cI 0, cI 0, cI 0, cI 0, cI 0, cI 0, cI 0, cI 0, cI 0, cI 0, cI 0, cI 0, cI 0, cI 0, cI 0, cI 0, cI 0, cI 0, cI 0, cI 0, cI 0, cI 0, cI 0, cI 0, cI 0, cI 0, cI 0, cI 0, cI 0, cI 0, cI 0, cI 0, cI 0, cI 0, cI 0, cI 0, cI 0, cI 0, cI 0, cI 0, cI 0, cI 0, cI 0, cI 0, cI 0, cI 0, cI 0, cI 0, cI 0, cI 0, cI 0, cI 0, cI 0, cI 0, cI 0, cI 0, cI 0, cI 0, cI 0, cI 0, cI 0, cI 0, cI 0, cI 0, cI 0, cI 0, cI 0, cI 0, cI 0, cI 0, cI 0, cI 0, cI 0, cI 0, cI 0, cI 0, cI 0, cI 0, cI 0, cI 0, cI 0, cI 0, cI 0, cI 0, cI 0, cI 0, cI 0, cI 0, cI 0, cI 0, cI 0, cI 0, cI 0, cI 0, cI 0, cI 0, cI 0, cI 0, cI 0, cI 0, cI 0, cI 0, cI 0, cI 0, cI 0, cI 0, cI 0, cI 0, cI 0, cI 0, cI 0, cI 0, cI 0, cI 0, cI 0, cI 0, cI 0]),
  (1, [cN 0, cN 0, cI 1]),
  (1, [cN 0, cI 2, cN 0]),
  (1, [cN 0, cN 0, cN 0]),
  (1, [cS 4 0 3 0, cS 5 0 3 0, cS 6 0 3 0]),
  (1, [cN 0, cN 0, cI 0])]
noncomputable def det1S : List Pa := [qP 14, qP 37, qP 114, qP 191, qP 247, qP 250]
noncomputable def det1M84 : List ME := [(cls1A, cls1L, [qP 13], cls1V, cls1N)]
/- emendate/dfa.Minimize -/
noncomputable def min1A : List AV := [.agg [cS 1 0 256 0, cS 5 0 3 0, cS 6 0 3 0]]
noncomputable def min1L : List LR := [(1, [cI 0, cI 0, cI 0, cI 0, cI 0, cI 0, cI 0, cI 0, cI 0, cI 0, cI 0, cI 0, cI 0, cI 0, cI 0, cI 0, cI 0, cI 0, cI 0, cI 0, cI 0, cI 0, cI 0, cI 0, cI 0, cI 0, cI 0, cI 0, cI 0, cI 0, cI 0, cI 0, cI 0, cI 0, cI 0, cI 0, cI 0, cI 0, cI 0, cI 0, cI 0, cI 0, cI 0, cI 0, cI 0, cI 0, cI 0, cI 0, cI 0, cI 0, cI 0, cI 0, cI 0, cI 0, cI 0, cI 0, cI 0, cI 0, cI 0, cI 0, cI 0, cI 0, cI 0, cI 0, cI 0, cI 0, cI 0, cI 0, cI 0, cI 0, cI 0, cI 0, cI 0, cI 0, cI 0, cI 0, cI 0, cI 0, cI 0, cI 0, cI 0, cI 0, cI 0, cI 0, cI 0, cI 0, cI 0, cI 0, cI 0, cI 0, cI 0, cI 0, cI 0, cI 0, cI 0, cI 0, cI 0, cI 0, cI 0, cI 0, cI 0, cI 0, cI 1, cI 0, cI 0, cI 2, cI 0, cI 0, cI 0, cI 0, cI 0, cI 0, cI 0, cI 0, cI 0, cI 0, cI 0, cI 0, cI 0, cI 0, cI 0, cI 0, cI 0, cI 0, cI 0, cI 0, cI 0, cI 0, cI 0, cI 0, cI 0, cI 0, cI 0, cI 0, cI 0, cI 0, cI 0, cI 0, cI 0, cI 0, cI 0, cI 0, cI 0, cI 0, cI 0, cI 0, cI 0, cI 0, cI 0, cI 0, cI 0, cI 0, cI 0, cI 0, cI 0, cI 0, cI 0, cI 0, cI 0, cI 0, cI 0, cI 0, cI 0, cI 0, cI 0, cI 0, cI 0, cI 0, cI 0, cI 0, cI 0, cI 0, cI 0, cI 0, cI 0, cI 0, cI 0, cI 0, cI 0, cI 0, cI 0, cI 0, cI 0, cI 0, cI 0, cI 0, cI 0, cI 0, cI 0, cI 0, cI 0, cI 0, cI 0, cI 0, cI 0, cI 0, cI 0, cI 0, cI 0, cI 0, cI 0, cI 0, cI 0, cI 0, cI 0, cI 0, cI 0, cI 0, cI 0, cI 0, cI 0, cI 0, cI 0, cI 0, cI 0, cI 0, cI 0, cI 0, cI 0, cI 0, cI 0, cI 0, cI 0, cI 0, cI 0, cI 0, cI 0, cI 0, cI 0, cI 0, cI 0, cI 0, cI 0, cI 0, cI 0, cI 0, cI 0, cI 0, cI 0, cI 0, cI 0, cI 0, cI 0, cI 0, cI 0, cI 0, cI 0, cI 0, cI 0, cI 0, cI 0, cI 0, cI 0, cI 0, cI 0, cI 0]),
  (1, [cN 0, cN 0, cI 1]),
  (1, [cN 0, cI 2, cN 0]),
  (1, [cN 0, cN 0, cN 0]),
  (1, [cS 2 0 3 0, cS 3 0 3 0, cS 4 0 3 0]),
  (1, [cN 0, cN 0, cI 0])]
noncomputable def min1V : AV := .agg [cS 7 0 256 0, cS 11 0 3 0, cS 12 0 3 0]
noncomputable def min1N : List LR := [(1, [cI 0, cI 0, cI 0, cI 0, cI 0, cI 0, cI 0, cI 0, cI 0, cI 0, cI 0, cI 0, cI 0, cI 0, cI 0, cI 0, cI 0, cI 0, cI 0, cI 0, cI 0, cI 0, cI 0, cI 0, cI 0, cI 0, cI 0, cI 0, cI 0, cI 0, cI 0, cI 0, cI 0, cI 0, cI 0, cI 0, cI 0, cI 0, cI 0, cI 0, cI 0, cI 0, cI 0, cI 0, cI 0, cI 0, cI 0, cI 0, cI 0, cI 0, cI 0, cI 0, cI 0, cI 0, cI 0, cI 0, cI 0, cI 0, cI 0, cI 0, cI 0, cI 0, cI 0, cI 0, cI 0, cI 0, cI 0, cI 0, cI 0, cI 0, cI 0, cI 0, cI 0, cI 0, cI 0, cI 0, cI 0, cI 0, cI 0, cI 0, cI 0, cI 0, cI 0, cI 0, cI 0, cI 0, cI 0, cI 0, cI 0, cI 0, cI 0, cI 0, cI 0, cI 0, cI 0, cI 0, cI 0, cI 0, cI 0, cI 0, cI 0, cI 0, cI 1, cI 0, cI 0, cI 2, cI 0, cI 0, cI 0, cI 0, cI 0, cI 0, cI 0, cI 0, cI 0, cI 0, cI 0, cI 0, cI 0, cI 0, cI 0, cI 0, cI 0, cI 0, cI 0, cI 0, cI 0, cI 0, cI 0, cI 0, cI 0, cI 0, cI 0, cI 0, cI 0, cI 0, cI 0, cI 0, cI 0, cI 0, cI 0, cI 0, cI 0, cI 0, cI 0, cI 0, cI 0, cI 0, cI 0, cI 0, cI 0, cI 0, cI 0, cI 0, cI 0, cI 0, cI 0, cI 0, cI 0, cI 0, cI 0, cI 0, cI 0, cI 0, cI 0, cI 0, cI 0, cI 0, cI 0, cI 0, cI 0, cI 0, cI 0, cI 0, cI 0, cI 0, cI 0, cI 0, cI 0, cI 0, cI 0, cI 0, cI 0, cI 0, cI 0, cI 0, cI 0, cI 0, cI 0, cI 0, cI 0, cI 0, cI 0, cI 0, cI 0, cI 0, cI 0, cI 0, cI 0, cI 0, cI 0, cI 0, cI 0, cI 0, cI 0, cI 0, cI 0, cI 0, cI 0, cI 0, cI 0, cI 0, cI 0, cI 0, cI 0, cI 0, cI 0, cI 0, cI 0, cI 0, cI 0, cI 0, cI 0, cI 0, cI 0, cI 0, cI 0, cI 0, cI 0, cI 0, cI 0, cI 0, cI 0, cI 0, cI 0, cI 0, cI 0, cI 0, cI 0, cI 0, cI 0, cI 0, cI 0, cI 0, cI 0, cI 0, cI 0, cI 0, cI 0, cI 0, cI 0, cI 0, cI 0, cI 0, cI 0, cI 0]),
  (1, [cN 0, cN 0, cI 1]),
  (1, [cN 0, cI 2, cN 0]),
  (1, [cN 0, cN 0, cN 0]),
  (1, [cS 8 0 3 0, cS 9 0 3 0, cS 10 0 3 0]),
  (1, [cN 0, cN 0, cI 0])]
noncomputable def min1S : List Pa := [qP 117, qP 2432, qP 2442, qP 2452, qP 2457, qP 2459]
/- emendate/lexspec.Compile -/
noncomputable def compileA : List AV := [.agg [cS 1 0 4 0, cF, cI 0, cI 0]]
noncomputable def compileL : List LR := [(5, [.str [105, 102], cI 3, .str [105, 102], .str [105, 102], .str [], .str [119, 111, 114, 100], cI 1, .str [91, 97, 45, 122, 93, 43], .str [120], .str [], .str [110, 117, 109], cI 1, .str [91, 48, 45, 57, 93, 43, 40, 92, 46, 91, 48, 45, 57, 93, 43, 41, 63], .str [48], .str [], .str [98, 108, 97, 110, 107], cI 2, .str [32, 43], .str [32], .str []])]
noncomputable def compileV : AV := .tup [.agg [cS 2 0 256 0, cS 11 0 8 0, cS 12 0 8 0], cI 0]
noncomputable def compileN : List LR := [(1, [cI 0, cI 0, cI 0, cI 0, cI 0, cI 0, cI 0, cI 0, cI 0, cI 0, cI 0, cI 0, cI 0, cI 0, cI 0, cI 0, cI 0, cI 0, cI 0, cI 0, cI 0, cI 0, cI 0, cI 0, cI 0, cI 0, cI 0, cI 0, cI 0, cI 0, cI 0, cI 0, cI 1, cI 0, cI 0, cI 0, cI 0, cI 0, cI 0, cI 0, cI 0, cI 0, cI 0, cI 0, cI 0, cI 0, cI 2, cI 0, cI 3, cI 3, cI 3, cI 3, cI 3, cI 3, cI 3, cI 3, cI 3, cI 3, cI 0, cI 0, cI 0, cI 0, cI 0, cI 0, cI 0, cI 0, cI 0, cI 0, cI 0, cI 0, cI 0, cI 0, cI 0, cI 0, cI 0, cI 0, cI 0, cI 0, cI 0, cI 0, cI 0, cI 0, cI 0, cI 0, cI 0, cI 0, cI 0, cI 0, cI 0, cI 0, cI 0, cI 0, cI 0, cI 0, cI 0, cI 0, cI 0, cI 4, cI 4, cI 4, cI 4, cI 4, cI 5, cI 4, cI 4, cI 6, cI 4, cI 4, cI 4, cI 4, cI 4, cI 4, cI 4, cI 4, cI 4, cI 4, cI 4, cI 4, cI 4, cI 4, cI 4, cI 4, cI 4, cI 0, cI 0, cI 0, cI 0, cI 0, cI 0, cI 0, cI 0, cI 0, cI 0, cI 0, cI 0, cI 0, cI 0, cI 0, cI 0, cI 0, cI 0, cI 0, cI 0, cI 0, cI 0, cI 0, cI 0, cI 0, cI 0, cI 0, cI 0, cI 0, cI 0, cI 0, cI 0, cI 0, cI 0, cI 0, cI 0, cI 0, cI 0, cI 0, cI 0, cI 0, cI 0, cI 0, cI 0, cI 0, cI 0, cI 0, cI 0, cI 0, cI 0, cI 0, cI 0, cI 0, cI 0, cI 0, cI 0, cI 0, cI 0, cI 0, cI 0, cI 0, cI 0, cI 0, cI 0, cI 0, cI 0, cI 0, cI 0, cI 0, cI 0, cI 0, cI 0, cI 0, cI 0, cI 0, cI 0, cI 0, cI 0, cI 0, cI 0, cI 0, cI 0, cI 0, cI 0, cI 0, cI 0, cI 0, cI 0, cI 0, cI 0, cI 0, cI 0, cI 0, cI 0, cI 0, cI 0, cI 0, cI 0, cI 0, cI 0, cI 0, cI 0, cI 0, cI 0, cI 0, cI 0, cI 0, cI 0, cI 0, cI 0, cI 0, cI 0, cI 0, cI 0, cI 0, cI 0, cI 0, cI 0, cI 0, cI 0, cI 0, cI 0, cI 0, cI 0, cI 0, cI 0, cI 0, cI 0, cI 0, cI 0, cI 0, cI 0, cI 0]),
  (1, [cN 0, cI 1, cN 0, cI 2, cI 3, cI 3, cI 4]),
  (1, [cN 0, cI 1, cN 0, cN 0, cN 0, cN 0, cN 0]),
  (1, [cN 0, cN 0, cI 5, cI 2, cN 0, cN 0, cN 0]),
  (1, [cN 0, cN 0, cN 0, cN 0, cI 3, cI 3, cI 3]),
  (1, [cN 0, cN 0, cN 0, cN 0, cI 3, cI 6, cI 3]),
  (1, [cN 0, cN 0, cN 0, cI 7, cN 0, cN 0, cN 0]),
  (1, [cN 0, cN 0, cN 0, cN 0, cI 3, cI 3, cI 3]),
  (1, [cN 0, cN 0, cN 0, cI 7, cN 0, cN 0, cN 0]),
  (1, [cS 3 0 7 0, cS 4 0 7 0, cS 5 0 7 0, cS 6 0 7 0, cS 7 0 7 0, cS 8 0 7 0, cS 9 0 7 0, cS 10 0 7 0]),
  (1, [cN 0, cI 3, cI 2, cI 1, cI 1, cN 0, cI 0, cI 2])]
noncomputable def compileS : List Pa := [qP 950, qP 951, qP 952, qP 953, qP 954, qP 955, qP 956, qP 957, qP 958, qP 959, qP 960]
noncomputable def compileM65 : List ME := [(det0A, det0L, [qP 932, qP 876], det0V, det0N), (det1A, det1L, [qP 1037, qP 1028], det1V, det1N), (det1A, det1L, [qP 1132, qP 1123], det1V, det1N)]
noncomputable def compileM66 : List ME := [(min0A, min0L, [qP 934, qP 935, qP 936, qP 937, qP 938, qP 939, qP 940, qP 941, qP 942, qP 943, qP 944, qP 945, qP 946, qP 947, qP 948], min0V, min0N), (min1A, min1L, [qP 1040, qP 1041, qP 1042, qP 1043, qP 1044, qP 1045], min1V, min1N), (min1A, min1L, [qP 1135, qP 1136, qP 1137, qP 1138, qP 1139, qP 1140], min1V, min1N)]
/- emendate/emendatetop.awake25 -/
noncomputable def awakeA : List AV := []
noncomputable def awakeL : List LR := []
noncomputable def awakeV : AV := cT
noncomputable def awakeN : List LR := []
noncomputable def awakeS : List Pa := []
noncomputable def awakeM7 : List ME := [(compileA, compileL, [qP 2], compileV, compileN)]
end Ev
end Go.Proofs.YtlgpacpebjechaaGreatDoor
