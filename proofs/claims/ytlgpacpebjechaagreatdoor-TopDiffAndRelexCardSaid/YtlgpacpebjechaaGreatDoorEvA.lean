/-
  The functions that are called with closed arguments, as combinators (printed by program; held against the program in the next text).
-/
import Derived.Test.YtlgpacpebjechaaGreatDoorBA
namespace Go.Proofs.YtlgpacpebjechaaGreatDoor
namespace Ev
def p0 : Pa := .z
def p1 : Pa := .l .z
def p2 : Pa := .r .z
def p3 : Pa := .l (.l .z)
def p4 : Pa := .r (.l .z)
def p5 : Pa := .l (.r .z)
def p6 : Pa := .r (.r .z)
def p7 : Pa := .l (.l (.l .z))
def p8 : Pa := .r (.l (.l .z))
def p9 : Pa := .l (.r (.l .z))
def p10 : Pa := .r (.r (.l .z))
def p11 : Pa := .l (.l (.r .z))
def p12 : Pa := .r (.l (.r .z))
def p13 : Pa := .l (.r (.r .z))
def p14 : Pa := .r (.r (.r .z))
def p15 : Pa := .l (.l (.l (.l .z)))
def p16 : Pa := .r (.l (.l (.l .z)))
def p17 : Pa := .l (.r (.l (.l .z)))
def p18 : Pa := .r (.r (.l (.l .z)))
def p19 : Pa := .l (.l (.r (.l .z)))
def p20 : Pa := .r (.l (.r (.l .z)))
def p21 : Pa := .l (.r (.r (.l .z)))
def p22 : Pa := .r (.r (.r (.l .z)))
def p23 : Pa := .l (.l (.l (.r .z)))
def p24 : Pa := .r (.l (.l (.r .z)))
def p25 : Pa := .l (.r (.l (.r .z)))
def p26 : Pa := .r (.r (.l (.r .z)))
def p27 : Pa := .l (.l (.r (.r .z)))
def p28 : Pa := .r (.l (.r (.r .z)))
def p29 : Pa := .l (.r (.r (.r .z)))
def p30 : Pa := .r (.r (.r (.r .z)))
def p31 : Pa := .l (.l (.l (.l (.l .z))))
def p32 : Pa := .r (.l (.l (.l (.l .z))))
def p33 : Pa := .l (.r (.l (.l (.l .z))))
def p34 : Pa := .r (.r (.l (.l (.l .z))))
def p35 : Pa := .l (.l (.r (.l (.l .z))))
def p36 : Pa := .r (.l (.r (.l (.l .z))))
def p37 : Pa := .l (.r (.r (.l (.l .z))))
def p38 : Pa := .r (.r (.r (.l (.l .z))))
def p39 : Pa := .l (.l (.l (.r (.l .z))))
def p40 : Pa := .r (.l (.l (.r (.l .z))))
def p41 : Pa := .l (.r (.l (.r (.l .z))))
def p42 : Pa := .r (.r (.l (.r (.l .z))))
def p43 : Pa := .l (.l (.r (.r (.l .z))))
def p44 : Pa := .r (.l (.r (.r (.l .z))))
def p45 : Pa := .l (.r (.r (.r (.l .z))))
def p46 : Pa := .r (.r (.r (.r (.l .z))))
def p47 : Pa := .l (.l (.l (.l (.r .z))))
def p48 : Pa := .r (.l (.l (.l (.r .z))))
def p49 : Pa := .l (.r (.l (.l (.r .z))))
def p50 : Pa := .r (.r (.l (.l (.r .z))))
def p51 : Pa := .l (.l (.r (.l (.r .z))))
def p52 : Pa := .r (.l (.r (.l (.r .z))))
def p53 : Pa := .l (.r (.r (.l (.r .z))))
def p54 : Pa := .r (.r (.r (.l (.r .z))))
def p55 : Pa := .l (.l (.l (.r (.r .z))))
def p56 : Pa := .r (.l (.l (.r (.r .z))))
def p57 : Pa := .l (.r (.l (.r (.r .z))))
def p58 : Pa := .r (.r (.l (.r (.r .z))))
def p59 : Pa := .l (.l (.r (.r (.r .z))))
def p60 : Pa := .r (.l (.r (.r (.r .z))))
def p61 : Pa := .l (.r (.r (.r (.r .z))))
def p62 : Pa := .r (.r (.r (.r (.r .z))))
def p63 : Pa := .l (.l (.l (.l (.l (.l .z)))))
def p64 : Pa := .r (.l (.l (.l (.l (.l .z)))))
def p65 : Pa := .l (.r (.l (.l (.l (.l .z)))))
def p66 : Pa := .r (.r (.l (.l (.l (.l .z)))))
def p67 : Pa := .l (.l (.r (.l (.l (.l .z)))))
def p68 : Pa := .r (.l (.r (.l (.l (.l .z)))))
def p69 : Pa := .l (.r (.r (.l (.l (.l .z)))))
def p70 : Pa := .r (.r (.r (.l (.l (.l .z)))))
def p71 : Pa := .l (.l (.l (.r (.l (.l .z)))))
def p72 : Pa := .r (.l (.l (.r (.l (.l .z)))))
def p73 : Pa := .l (.r (.l (.r (.l (.l .z)))))
def p74 : Pa := .r (.r (.l (.r (.l (.l .z)))))
def p75 : Pa := .l (.l (.r (.r (.l (.l .z)))))
def p76 : Pa := .r (.l (.r (.r (.l (.l .z)))))
def p77 : Pa := .l (.r (.r (.r (.l (.l .z)))))
def p78 : Pa := .r (.r (.r (.r (.l (.l .z)))))
def p79 : Pa := .l (.l (.l (.l (.r (.l .z)))))
def p80 : Pa := .r (.l (.l (.l (.r (.l .z)))))
def p81 : Pa := .l (.r (.l (.l (.r (.l .z)))))
def p82 : Pa := .r (.r (.l (.l (.r (.l .z)))))
def p83 : Pa := .l (.l (.r (.l (.r (.l .z)))))
def p84 : Pa := .r (.l (.r (.l (.r (.l .z)))))
def p85 : Pa := .l (.r (.r (.l (.r (.l .z)))))
def p86 : Pa := .r (.r (.r (.l (.r (.l .z)))))
def p87 : Pa := .l (.l (.l (.r (.r (.l .z)))))
def p88 : Pa := .r (.l (.l (.r (.r (.l .z)))))
def p89 : Pa := .l (.r (.l (.r (.r (.l .z)))))
def p90 : Pa := .r (.r (.l (.r (.r (.l .z)))))
def p91 : Pa := .l (.l (.r (.r (.r (.l .z)))))
def p92 : Pa := .r (.l (.r (.r (.r (.l .z)))))
def p93 : Pa := .l (.r (.r (.r (.r (.l .z)))))
def p94 : Pa := .r (.r (.r (.r (.r (.l .z)))))
def p95 : Pa := .l (.l (.l (.l (.l (.r .z)))))
def p96 : Pa := .r (.l (.l (.l (.l (.r .z)))))
def p97 : Pa := .l (.r (.l (.l (.l (.r .z)))))
def p98 : Pa := .r (.r (.l (.l (.l (.r .z)))))
def p99 : Pa := .l (.l (.r (.l (.l (.r .z)))))
def p100 : Pa := .r (.l (.r (.l (.l (.r .z)))))
def p101 : Pa := .l (.r (.r (.l (.l (.r .z)))))
def p102 : Pa := .r (.r (.r (.l (.l (.r .z)))))
def p103 : Pa := .l (.l (.l (.r (.l (.r .z)))))
def p104 : Pa := .r (.l (.l (.r (.l (.r .z)))))
def p105 : Pa := .l (.r (.l (.r (.l (.r .z)))))
def p106 : Pa := .r (.r (.l (.r (.l (.r .z)))))
def p107 : Pa := .l (.l (.r (.r (.l (.r .z)))))
def p108 : Pa := .r (.l (.r (.r (.l (.r .z)))))
def p109 : Pa := .l (.r (.r (.r (.l (.r .z)))))
def p110 : Pa := .r (.r (.r (.r (.l (.r .z)))))
def p111 : Pa := .l (.l (.l (.l (.r (.r .z)))))
def p112 : Pa := .r (.l (.l (.l (.r (.r .z)))))
def p113 : Pa := .l (.r (.l (.l (.r (.r .z)))))
def p114 : Pa := .r (.r (.l (.l (.r (.r .z)))))
def p115 : Pa := .l (.l (.r (.l (.r (.r .z)))))
def p116 : Pa := .r (.l (.r (.l (.r (.r .z)))))
def p117 : Pa := .l (.r (.r (.l (.r (.r .z)))))
def p118 : Pa := .r (.r (.r (.l (.r (.r .z)))))
def p119 : Pa := .l (.l (.l (.r (.r (.r .z)))))
def p120 : Pa := .r (.l (.l (.r (.r (.r .z)))))
def p121 : Pa := .l (.r (.l (.r (.r (.r .z)))))
def p122 : Pa := .r (.r (.l (.r (.r (.r .z)))))
def p123 : Pa := .l (.l (.r (.r (.r (.r .z)))))
def p124 : Pa := .r (.l (.r (.r (.r (.r .z)))))
def p125 : Pa := .l (.r (.r (.r (.r (.r .z)))))
def p126 : Pa := .r (.r (.r (.r (.r (.r .z)))))
def p127 : Pa := .l (.l (.l (.l (.l (.l (.l .z))))))
def p128 : Pa := .r (.l (.l (.l (.l (.l (.l .z))))))
def p129 : Pa := .l (.r (.l (.l (.l (.l (.l .z))))))
def p130 : Pa := .r (.r (.l (.l (.l (.l (.l .z))))))
def p131 : Pa := .l (.l (.r (.l (.l (.l (.l .z))))))
def p132 : Pa := .r (.l (.r (.l (.l (.l (.l .z))))))
def p133 : Pa := .l (.r (.r (.l (.l (.l (.l .z))))))
def p134 : Pa := .r (.r (.r (.l (.l (.l (.l .z))))))
def p135 : Pa := .l (.l (.l (.r (.l (.l (.l .z))))))
def p136 : Pa := .r (.l (.l (.r (.l (.l (.l .z))))))
def p137 : Pa := .l (.r (.l (.r (.l (.l (.l .z))))))
def p138 : Pa := .r (.r (.l (.r (.l (.l (.l .z))))))
def p139 : Pa := .l (.l (.r (.r (.l (.l (.l .z))))))
def p140 : Pa := .r (.l (.r (.r (.l (.l (.l .z))))))
def p141 : Pa := .l (.r (.r (.r (.l (.l (.l .z))))))
noncomputable def t0 : AO := fun e => EN.get p0 e
noncomputable def t1 : AO := fun e => EN.get p1 e
noncomputable def t2 : AO := fun e => EN.get p2 e
noncomputable def t3 : AO := fun e => EN.get p3 e
noncomputable def t4 : AO := fun e => EN.get p4 e
noncomputable def t5 : AO := fun e => EN.get p5 e
noncomputable def t6 : AO := fun e => EN.get p6 e
noncomputable def t7 : AO := fun e => EN.get p7 e
noncomputable def t8 : AO := fun e => EN.get p8 e
noncomputable def t9 : AO := fun e => EN.get p9 e
noncomputable def t10 : AO := fun e => EN.get p10 e
noncomputable def t11 : AO := fun e => EN.get p11 e
noncomputable def t12 : AO := fun e => EN.get p12 e
noncomputable def t13 : AO := fun e => EN.get p13 e
noncomputable def t14 : AO := fun e => EN.get p14 e
noncomputable def t15 : AO := fun e => EN.get p15 e
noncomputable def t16 : AO := fun e => EN.get p16 e
noncomputable def t17 : AO := fun e => EN.get p17 e
noncomputable def t18 : AO := fun e => EN.get p18 e
noncomputable def t19 : AO := fun e => EN.get p19 e
noncomputable def t20 : AO := fun e => EN.get p20 e
noncomputable def t21 : AO := fun e => EN.get p21 e
noncomputable def t22 : AO := fun e => EN.get p22 e
noncomputable def t23 : AO := fun e => EN.get p23 e
noncomputable def t24 : AO := fun e => EN.get p24 e
noncomputable def t25 : AO := fun e => EN.get p25 e
noncomputable def t26 : AO := fun e => EN.get p26 e
noncomputable def t27 : AO := fun e => EN.get p27 e
noncomputable def t28 : AO := fun e => EN.get p28 e
noncomputable def t29 : AO := fun e => EN.get p29 e
noncomputable def t30 : AO := fun e => EN.get p30 e
noncomputable def t31 : AO := fun e => EN.get p31 e
noncomputable def t32 : AO := fun e => EN.get p32 e
noncomputable def t33 : AO := fun e => EN.get p33 e
noncomputable def t34 : AO := fun e => EN.get p34 e
noncomputable def t35 : AO := fun e => EN.get p35 e
noncomputable def t36 : AO := fun e => EN.get p36 e
noncomputable def t37 : AO := fun e => EN.get p37 e
noncomputable def t38 : AO := fun e => EN.get p38 e
noncomputable def t39 : AO := fun e => EN.get p39 e
noncomputable def t40 : AO := fun e => EN.get p40 e
noncomputable def t41 : AO := fun e => EN.get p41 e
noncomputable def t42 : AO := fun e => EN.get p42 e
noncomputable def t43 : AO := fun e => EN.get p43 e
noncomputable def t44 : AO := fun e => EN.get p44 e
noncomputable def t45 : AO := fun e => EN.get p45 e
noncomputable def t46 : AO := fun e => EN.get p46 e
noncomputable def t47 : AO := fun e => EN.get p47 e
noncomputable def t48 : AO := fun e => EN.get p48 e
noncomputable def t49 : AO := fun e => EN.get p49 e
noncomputable def t50 : AO := fun e => EN.get p50 e
noncomputable def t51 : AO := fun e => EN.get p51 e
noncomputable def t52 : AO := fun e => EN.get p52 e
noncomputable def t53 : AO := fun e => EN.get p53 e
noncomputable def t54 : AO := fun e => EN.get p54 e
noncomputable def t55 : AO := fun e => EN.get p55 e
noncomputable def t56 : AO := fun e => EN.get p56 e
noncomputable def t57 : AO := fun e => EN.get p57 e
noncomputable def t58 : AO := fun e => EN.get p58 e
noncomputable def t59 : AO := fun e => EN.get p59 e
noncomputable def t60 : AO := fun e => EN.get p60 e
noncomputable def t61 : AO := fun e => EN.get p61 e
noncomputable def t62 : AO := fun e => EN.get p62 e
noncomputable def t63 : AO := fun e => EN.get p63 e
noncomputable def t64 : AO := fun e => EN.get p64 e
noncomputable def t65 : AO := fun e => EN.get p65 e
noncomputable def t66 : AO := fun e => EN.get p66 e
noncomputable def t67 : AO := fun e => EN.get p67 e
noncomputable def t68 : AO := fun e => EN.get p68 e
noncomputable def t69 : AO := fun e => EN.get p69 e
noncomputable def t70 : AO := fun e => EN.get p70 e
noncomputable def t71 : AO := fun e => EN.get p71 e
noncomputable def t72 : AO := fun e => EN.get p72 e
noncomputable def t73 : AO := fun e => EN.get p73 e
noncomputable def t74 : AO := fun e => EN.get p74 e
noncomputable def t75 : AO := fun e => EN.get p75 e
noncomputable def t76 : AO := fun e => EN.get p76 e
noncomputable def t77 : AO := fun e => EN.get p77 e
noncomputable def t78 : AO := fun e => EN.get p78 e
noncomputable def t79 : AO := fun e => EN.get p79 e
noncomputable def t80 : AO := fun e => EN.get p80 e
noncomputable def t81 : AO := fun e => EN.get p81 e
noncomputable def t82 : AO := fun e => EN.get p82 e
noncomputable def t83 : AO := fun e => EN.get p83 e
noncomputable def t84 : AO := fun e => EN.get p84 e
noncomputable def t85 : AO := fun e => EN.get p85 e
noncomputable def t86 : AO := fun e => EN.get p86 e
noncomputable def t87 : AO := fun e => EN.get p87 e
noncomputable def t88 : AO := fun e => EN.get p88 e
noncomputable def t89 : AO := fun e => EN.get p89 e
noncomputable def t90 : AO := fun e => EN.get p90 e
noncomputable def t91 : AO := fun e => EN.get p91 e
noncomputable def t92 : AO := fun e => EN.get p92 e
noncomputable def t93 : AO := fun e => EN.get p93 e
noncomputable def t94 : AO := fun e => EN.get p94 e
noncomputable def t95 : AO := fun e => EN.get p95 e
noncomputable def t96 : AO := fun e => EN.get p96 e
noncomputable def t97 : AO := fun e => EN.get p97 e
noncomputable def t98 : AO := fun e => EN.get p98 e
noncomputable def t99 : AO := fun e => EN.get p99 e
noncomputable def t100 : AO := fun e => EN.get p100 e
noncomputable def t101 : AO := fun e => EN.get p101 e
noncomputable def t102 : AO := fun e => EN.get p102 e
noncomputable def t103 : AO := fun e => EN.get p103 e
noncomputable def t104 : AO := fun e => EN.get p104 e
noncomputable def t105 : AO := fun e => EN.get p105 e
noncomputable def t106 : AO := fun e => EN.get p106 e
noncomputable def t107 : AO := fun e => EN.get p107 e
noncomputable def t108 : AO := fun e => EN.get p108 e
noncomputable def t109 : AO := fun e => EN.get p109 e
noncomputable def t110 : AO := fun e => EN.get p110 e
noncomputable def t111 : AO := fun e => EN.get p111 e
noncomputable def t112 : AO := fun e => EN.get p112 e
noncomputable def t113 : AO := fun e => EN.get p113 e
noncomputable def t114 : AO := fun e => EN.get p114 e
noncomputable def t115 : AO := fun e => EN.get p115 e
noncomputable def t116 : AO := fun e => EN.get p116 e
noncomputable def t117 : AO := fun e => EN.get p117 e
noncomputable def t118 : AO := fun e => EN.get p118 e
noncomputable def t119 : AO := fun e => EN.get p119 e
noncomputable def t120 : AO := fun e => EN.get p120 e
noncomputable def t121 : AO := fun e => EN.get p121 e
noncomputable def t122 : AO := fun e => EN.get p122 e
noncomputable def t123 : AO := fun e => EN.get p123 e
noncomputable def t124 : AO := fun e => EN.get p124 e
noncomputable def t125 : AO := fun e => EN.get p125 e
noncomputable def t126 : AO := fun e => EN.get p126 e
noncomputable def t127 : AO := fun e => EN.get p127 e
noncomputable def t128 : AO := fun e => EN.get p128 e
noncomputable def t129 : AO := fun e => EN.get p129 e
noncomputable def t130 : AO := fun e => EN.get p130 e
noncomputable def t131 : AO := fun e => EN.get p131 e
noncomputable def t132 : AO := fun e => EN.get p132 e
noncomputable def t133 : AO := fun e => EN.get p133 e
noncomputable def t134 : AO := fun e => EN.get p134 e
noncomputable def t135 : AO := fun e => EN.get p135 e
noncomputable def t136 : AO := fun e => EN.get p136 e
noncomputable def t137 : AO := fun e => EN.get p137 e
noncomputable def t138 : AO := fun e => EN.get p138 e
noncomputable def t139 : AO := fun e => EN.get p139 e
noncomputable def t140 : AO := fun e => EN.get p140 e
noncomputable def t141 : AO := fun e => EN.get p141 e
def ci (n : Nat) : AO := fun _ => .int .i64 (.ofNat n)
/- emendate/emendatetop.awake25 -/
noncomputable def a5 : AF := ⟨65, [.tmp p0],
(sSeq (I p0 (oMov (c (.bool false))) <|
 sEnd)
(sSeq (I p6 (oCallF 6 []) <|
 I p7 (oCallF 7 [t6]) <|
 I p5 (oMov t7) <|
 I p8 (oExtract t5 0) <|
 I p9 (oExtract t5 1) <|
 I p1 (oAlloc (.row 0 3 (.node (some .nils) (.node (some .nils) .nil .nil) (.node (some .nils) .nil .nil)))) <|
 I0 (oStore 3 t1 t8) <|
 I p2 (oMov t9) <|
 sEnd)
(sSeq (I p10 (oLoadn 3 t1) <|
 I p11 (oCallF 8 [t10, (c (.str [105, 102, 32, 49, 46, 120]))]) <|
 I p3 (oMov t11) <|
 sEnd)
(sSeq (I p12 (oBslice 1 1 [(.str [])] [(0, 1, (c (.str [97])))]) <|
 I p13 (oBslice 1 1 [(.str [])] [(0, 1, (c (.str [115])))]) <|
 I p14 (oBslice 1 2 [(.int .i64 (.ofNat 0)), (.int .i64 (.ofNat 0))] [(0, 1, (ci 0)), (1, 1, (c (.int .i64 (.negSucc 0))))]) <|
 I p15 (oBuild [(.int .i64 (.ofNat 0)), .nils, (.int .i64 (.ofNat 0))] [(0, 1, (ci 0)), (1, 1, t14)]) <|
 I p16 (oBuild [(.int .i64 (.ofNat 0)), .nils, (.int .i64 (.ofNat 0))] [(0, 1, (ci 0))]) <|
 I p17 (oBslice 3 2 [(.int .i64 (.ofNat 0)), .nils, (.int .i64 (.ofNat 0)), (.int .i64 (.ofNat 0)), .nils, (.int .i64 (.ofNat 0))] [(0, 3, t15), (3, 3, t16)]) <|
 I p18 (oBuild [.nils, .nils, (.int .i64 (.ofNat 0)), .nils] [(0, 1, t12), (1, 1, t13), (3, 1, t17)]) <|
 I p4 (oAlloc (.row 0 4 (.node (some .nils) (.node (some .nils) (.node (some .nils) .nil .nil) .nil) (.node (some (.int .i64 (.ofNat 0))) .nil .nil)))) <|
 I0 (oStore 4 t4 t18) <|
 sEnd)
(sSeq (I p19 (oMov t2) <|
 I p20 (oEq t19 (ci 0)) <|
 I p21 (oMov t20) <|
 G p21 true p22 (oMov t3) <|
 G p21 true p23 (oLenSl t22) <|
 G p21 true p24 (oEq t23 (ci 5)) <|
 I p25 (oPick t21 t24 (c (.bool false))) <|
 I p26 (oMov t25) <|
 G p26 true p27 (oMov t3) <|
 G p26 true p28 (oIndexS 4 t27 (ci 0)) <|
 G p26 true p29 (oFieldAddr t28 0) <|
 G p26 true p30 (oLoad1 t29) <|
 G p26 true p31 (oEq t30 (ci 0)) <|
 I p32 (oPick t26 t31 (c (.bool false))) <|
 I p33 (oMov t32) <|
 G p33 true p34 (oMov t3) <|
 G p33 true p35 (oIndexS 4 t34 (ci 2)) <|
 G p33 true p36 (oFieldAddr t35 2) <|
 G p33 true p37 (oLoad1 t36) <|
 G p33 true p38 (oEq t37 (c (.str [49]))) <|
 I p39 (oPick t33 t38 (c (.bool false))) <|
 I p40 (oMov t39) <|
 G p40 true p41 (oMov t3) <|
 G p40 true p42 (oIndexS 4 t41 (ci 3)) <|
 G p40 true p43 (oFieldAddr t42 0) <|
 G p40 true p44 (oLoad1 t43) <|
 G p40 true p45 (oEq t44 (c (.int .i64 (.negSucc 0)))) <|
 I p46 (oPick t40 t45 (c (.bool false))) <|
 I p47 (oMov t46) <|
 G p47 true p48 (oMov t3) <|
 G p47 true p49 (oIndexS 4 t48 (ci 4)) <|
 G p47 true p50 (oFieldAddr t49 0) <|
 G p47 true p51 (oLoad1 t50) <|
 G p47 true p52 (oEq t51 (ci 1)) <|
 I p53 (oPick t47 t52 (c (.bool false))) <|
 I p54 (oMov t53) <|
 G p54 true p55 (oLoadn 4 t4) <|
 G p54 true p56 (oBslice 1 2 [(.int .i64 (.ofNat 0)), (.int .i64 (.ofNat 0))] [(0, 1, (ci 0)), (1, 1, (ci 0))]) <|
 G p54 true p57 (oCallF 15 [t55, t56]) <|
 I p58 (oPick t54 t57 (c (.bool false))) <|
 I p59 (oMov t58) <|
 G p59 true p60 (oLoadn 4 t4) <|
 G p59 true p61 (oBslice 1 1 [(.int .i64 (.ofNat 0))] [(0, 1, (ci 1))]) <|
 G p59 true p62 (oCallF 15 [t60, t61]) <|
 G p59 true p63 (oNot t62) <|
 I p64 (oPick t59 t63 (c (.bool false))) <|
 I p0 (oMov t64) <|
 sEnd)
sRet)))))⟩
def s5 : List (Nat × Sched) := []
/- emendate/emendatetop.words -/
noncomputable def a6 : AF := ⟨7, [.celln p0 4],
(sSeq (I p0 (oAlloc (.row 0 4 (.node (some .nils) (.node (some (.bool false)) (.node (some (.int .i64 (.ofNat 0))) .nil .nil) .nil) (.node (some (.int .i64 (.ofNat 0))) .nil .nil)))) <|
 sEnd)
(sSeq (I p1 (oBuild [(.str []), (.int .i64 (.ofNat 0)), (.str []), (.str []), (.str [])] [(0, 1, (c (.str [105, 102]))), (1, 1, (ci 3)), (2, 1, (c (.str [105, 102]))), (3, 1, (c (.str [105, 102])))]) <|
 I p2 (oBuild [(.str []), (.int .i64 (.ofNat 0)), (.str []), (.str []), (.str [])] [(0, 1, (c (.str [119, 111, 114, 100]))), (1, 1, (ci 1)), (2, 1, (c (.str [91, 97, 45, 122, 93, 43]))), (3, 1, (c (.str [120])))]) <|
 I p3 (oBuild [(.str []), (.int .i64 (.ofNat 0)), (.str []), (.str []), (.str [])] [(0, 1, (c (.str [110, 117, 109]))), (1, 1, (ci 1)), (2, 1, (c (.str [91, 48, 45, 57, 93, 43, 40, 92, 46, 91, 48, 45, 57, 93, 43, 41, 63]))), (3, 1, (c (.str [48])))]) <|
 I p4 (oBuild [(.str []), (.int .i64 (.ofNat 0)), (.str []), (.str []), (.str [])] [(0, 1, (c (.str [98, 108, 97, 110, 107]))), (1, 1, (ci 2)), (2, 1, (c (.str [32, 43]))), (3, 1, (c (.str [32])))]) <|
 I p5 (oBslice 5 4 [(.str []), (.int .i64 (.ofNat 0)), (.str []), (.str []), (.str []), (.str []), (.int .i64 (.ofNat 0)), (.str []), (.str []), (.str []), (.str []), (.int .i64 (.ofNat 0)), (.str []), (.str []), (.str []), (.str []), (.int .i64 (.ofNat 0)), (.str []), (.str []), (.str [])] [(0, 5, t1), (5, 5, t2), (10, 5, t3), (15, 5, t4)]) <|
 I p6 (oBuild [.nils, (.bool false), (.int .i64 (.ofNat 0)), (.int .i64 (.ofNat 0))] [(0, 1, t5)]) <|
 I0 (oStore 4 t0 t6) <|
 sEnd)
sRet))⟩
def s6 : List (Nat × Sched) := []
/- emendate/lexspec.Compile -/
noncomputable def a7 : AF := ⟨15, [.celln p2 3, .tmp p3],
(sSeq (I p1 (oBox t0) <|
 I p2 (oAlloc (.row 0 3 (.node (some .nils) (.node (some .nils) .nil .nil) (.node (some .nils) .nil .nil)))) <|
 I p3 (oMov (ci 0)) <|
 sEnd)
(sSeq (I p8 (oLoadn 4 t1) <|
 I p9 (oCallF 16 [t8]) <|
 I p7 (oMov t9) <|
 I p10 (oExtract t7 0) <|
 I p11 (oExtract t7 1) <|
 I p12 (oExtract t7 2) <|
 I p4 (oAlloc (.row 0 3 (.node (some .nils) (.node (some .nils) .nil .nil) (.node (some .nils) .nil .nil)))) <|
 I0 (oStore 3 t4 t10) <|
 I p5 (oMov t11) <|
 I p6 (oMov t12) <|
 sEnd)
(sSeq (I p13 (oLoadn 3 t4) <|
 I p14 (oMov t6) <|
 I0 (oStore 3 t2 t13) <|
 I p3 (oMov t14) <|
 sEnd)
sRet)))⟩
def s7 : List (Nat × Sched) := []
/- emendate/lexer.Lex -/
noncomputable def a8 : AF := ⟨26, [.tmp p4],
(sSeq (I p2 (oBox t0) <|
 I p4 (oMov (c .nils)) <|
 sEnd)
(sSeq (I p5 (oMov (c .nils)) <|
 sEnd)
(sSeq (sSeq (I p6 (oMov (ci 0)) <|
 sEnd)
(sBlock 0 (sLoop (sSeq (sSeq (I p8 (oMov t6) <|
 I p9 (oMov t1) <|
 I p10 (oLenStr t9) <|
 I p11 (oLss t8 t10) <|
 sEnd)
(sCond t11 sEnd (sExit 0)))
(sBlock 1 (sSeq (I p12 (oLoadn 3 t2) <|
 I p13 (oMov t1) <|
 I p14 (oMov t6) <|
 I p15 (oCallF 17 [t12, t13, t14]) <|
 I p7 (oAlloc (.row 0 4 (.node (some (.int .i64 (.ofNat 0))) (.node (some (.int .i64 (.ofNat 0))) (.node (some (.int .i64 (.ofNat 0))) .nil .nil) .nil) (.node (some (.str [])) .nil .nil)))) <|
 I0 (oStore 4 t7 t15) <|
 sEnd)
(sSeq (I p16 (oMov t5) <|
 I p17 (oLoadn 4 t7) <|
 I p18 (oBslice 4 1 [(.int .i64 (.ofNat 0)), (.int .i64 (.ofNat 0)), (.str []), (.int .i64 (.ofNat 0))] [(0, 4, t17)]) <|
 I p19 (oAppend0 4 t16 t18) <|
 I p5 (oMov t19) <|
 sEnd)
(I p20 (oMov t6) <|
 I p21 (oFieldAddr t7 2) <|
 I p22 (oLoad1 t21) <|
 I p23 (oLenStr t22) <|
 I p24 (oAdd t20 t23) <|
 I p6 (oMov t24) <|
 sEnd))))))))
(sSeq (I p25 (oMov t5) <|
 I p4 (oMov t25) <|
 sEnd)
sRet))))⟩
def s8 : List (Nat × Sched) := []
/- emendate/regex.Parse -/
noncomputable def a9 : AF := ⟨26, [.celln p2 6, .cell1 p3, .cell1 p4],
(sSeq (I p2 (oAlloc (.row 0 6 (.node (some (.int .i64 (.ofNat 0))) (.node (some (.int .u64 (.ofNat 0))) (.node (some (.int .u64 (.ofNat 0))) .nil .nil) (.node (some .nils) .nil .nil)) (.node (some (.int .u64 (.ofNat 0))) (.node (some (.int .u64 (.ofNat 0))) .nil .nil) .nil)))) <|
 I p3 (oAlloc (.row 0 1 (.node (some (.int .i64 (.ofNat 0))) .nil .nil))) <|
 I p4 (oAlloc (.row 0 1 (.node (some (.int .i64 (.ofNat 0))) .nil .nil))) <|
 sEnd)
(sSeq (I p6 (oMkfn 18 [] [t2, t3, t4]) <|
 I0 (oDefer t6) <|
 sEnd)
(sSeq (I p7 (oMov t0) <|
 I p8 (oBuild [(.str []), (.int .i64 (.ofNat 0))] [(0, 1, t7)]) <|
 I p9 (oBox t8) <|
 I p5 (oMov t9) <|
 sEnd)
(sSeq (I p10 (oMov t5) <|
 I p11 (oCallF 19 [t10]) <|
 I0 (oStore 6 t2 t11) <|
 sEnd)
(sSeq (sSeq (I p12 (oMov t5) <|
 I p13 (oNil t12) <|
 I p14 (oFieldAddr t13 1) <|
 I p15 (oLoad1 t14) <|
 I p16 (oMov t0) <|
 I p17 (oLenStr t16) <|
 I p18 (oLss t15 t17) <|
 sEnd)
(sCond t18 (I p19 (oMov t5) <|
 I p20 (oCallF 20 [t19]) <|
 sEnd) sEnd))
(sSeq (sSeq (I p21 (oLoadn 6 t2) <|
 I p22 (oCallF 21 [t21]) <|
 I p23 (oNot t22) <|
 sEnd)
(sCond t23 (sSeq (I p24 (oBuild [(.int .i64 (.ofNat 0)), (.int .u64 (.ofNat 0)), (.int .u64 (.ofNat 0)), (.int .u64 (.ofNat 0)), (.int .u64 (.ofNat 0)), .nils] []) <|
 I0 (oStore 6 t2 t24) <|
 I0 (oStore 1 t3 (ci 0)) <|
 I0 (oStore 1 t4 (ci 11)) <|
 sEnd)
sRet) sEnd))
(sSeq (I p25 (oLoadn 6 t2) <|
 I0 (oStore 6 t2 t25) <|
 I0 (oStore 1 t3 (ci 0)) <|
 I0 (oStore 1 t4 (ci 0)) <|
 sEnd)
sRet)))))))⟩
def s9 : List (Nat × Sched) := []
/- emendate/recognizer.Recognize -/
noncomputable def a15 : AF := ⟨9, [.tmp p4],
(sSeq (I p2 (oBox t0) <|
 I p4 (oMov (c (.bool false))) <|
 sEnd)
(sSeq (I p5 (oLoadn 4 t2) <|
 I p6 (oMov t1) <|
 I p7 (oCallF 31 [t5, t6]) <|
 I p8 (oCallF 32 [t7]) <|
 I p4 (oMov t8) <|
 sEnd)
sRet))⟩
def s15 : List (Nat × Sched) := []
/- emendate/lexspec.compile -/
noncomputable def a16 : AF := ⟨120, [.celln p2 3, .tmp p3, .tmp p4],
(sSeq (I p1 (oBox t0) <|
 I p2 (oAlloc (.row 0 3 (.node (some .nils) (.node (some .nils) .nil .nil) (.node (some .nils) .nil .nil)))) <|
 I p3 (oMov (ci 0)) <|
 I p4 (oMov (ci 0)) <|
 sEnd)
(sSeq (sSeq (I p16 (oFieldAddr t1 0) <|
 I p17 (oLoad1 t16) <|
 I p18 (oLenSl t17) <|
 I p19 (oLss t18 (ci 1)) <|
 I p20 (oMov t19) <|
 G p20 false p21 (oFieldAddr t1 0) <|
 G p20 false p22 (oLoad1 t21) <|
 G p20 false p23 (oLenSl t22) <|
 G p20 false p24 (oGtr t23 (ci 40)) <|
 I p25 (oPick t20 (c (.bool true)) t24) <|
 sEnd)
(sCond t25 (sSeq (I p26 (oBuild [.nils, .nils, .nils] []) <|
 I0 (oStore 3 t2 t26) <|
 I p3 (oMov (ci 0)) <|
 I p4 (oMov (ci 11)) <|
 sEnd)
sRet) sEnd))
(sSeq (I p5 (oMov (c .nils)) <|
 sEnd)
(sSeq (sSeq (I p27 (oFieldAddr t1 0) <|
 I p28 (oLoad1 t27) <|
 I p29 (oLenSl t28) <|
 I p30 (oMov (ci 0)) <|
 sEnd)
(sBlock 0 (sLoop (sSeq (I p31 (oLss t30 t29) <|
 sEnd)
(sSeq (sCond t31 sEnd (sExit 0))
(sSeq (sBlock 1 (sSeq (I p32 (oMov t30) <|
 I p33 (oIndexS 5 t28 t30) <|
 I p34 (oLoadn 5 t33) <|
 I p7 (oAlloc (.row 0 5 (.node (some (.str [])) (.node (some (.int .i64 (.ofNat 0))) (.node (some (.str [])) .nil .nil) .nil) (.node (some (.str [])) (.node (some (.str [])) .nil .nil) .nil)))) <|
 I p6 (oMov t32) <|
 I0 (oStore 5 t7 t34) <|
 sEnd)
(sSeq (sSeq (I p35 (oFieldAddr t1 0) <|
 I p36 (oLoad1 t35) <|
 I p37 (oMov t6) <|
 I p38 (oCallF 33 [t36, t37]) <|
 I p8 (oMov t38) <|
 sEnd)
(sSeq (I p39 (oMov t8) <|
 I p40 (oNe t39 (ci 0)) <|
 sEnd)
(sCond t40 (sSeq (I p41 (oBuild [.nils, .nils, .nils] []) <|
 I p42 (oMov t6) <|
 I p43 (oMov t8) <|
 I0 (oStore 3 t2 t41) <|
 I p3 (oMov t42) <|
 I p4 (oMov t43) <|
 sEnd)
sRet) sEnd)))
(sSeq (I p45 (oFieldAddr t7 2) <|
 I p46 (oLoad1 t45) <|
 I p47 (oCallF 9 [t46]) <|
 I p44 (oMov t47) <|
 I p48 (oExtract t44 0) <|
 I p49 (oExtract t44 1) <|
 I p50 (oExtract t44 2) <|
 I p9 (oAlloc (.row 0 6 (.node (some (.int .i64 (.ofNat 0))) (.node (some (.int .u64 (.ofNat 0))) (.node (some (.int .u64 (.ofNat 0))) .nil .nil) (.node (some .nils) .nil .nil)) (.node (some (.int .u64 (.ofNat 0))) (.node (some (.int .u64 (.ofNat 0))) .nil .nil) .nil)))) <|
 I0 (oStore 6 t9 t48) <|
 I p10 (oMov t49) <|
 I p11 (oMov t50) <|
 sEnd)
(I p51 (oMov t5) <|
 I p52 (oLoadn 6 t9) <|
 I p53 (oBslice 6 1 [(.int .i64 (.ofNat 0)), (.int .u64 (.ofNat 0)), (.int .u64 (.ofNat 0)), (.int .u64 (.ofNat 0)), (.int .u64 (.ofNat 0)), .nils] [(0, 6, t52)]) <|
 I p54 (oAppend0 6 t51 t53) <|
 I p5 (oMov t54) <|
 sEnd)))))
(I p55 (oAdd t30 (ci 1)) <|
 I p30 (oMov t55) <|
 sEnd)))))))
(sSeq (sSeq (I p56 (oFieldAddr t1 2) <|
 I p57 (oLoad1 t56) <|
 I p58 (oLss t57 (ci 0)) <|
 I p59 (oMov t58) <|
 G p59 false p60 (oFieldAddr t1 2) <|
 G p59 false p61 (oLoad1 t60) <|
 G p59 false p62 (oGtr t61 (ci 1000)) <|
 I p63 (oPick t59 (c (.bool true)) t62) <|
 I p64 (oMov t63) <|
 G p64 false p65 (oFieldAddr t1 3) <|
 G p64 false p66 (oLoad1 t65) <|
 G p64 false p67 (oLss t66 (ci 0)) <|
 I p68 (oPick t64 (c (.bool true)) t67) <|
 I p69 (oMov t68) <|
 G p69 false p70 (oFieldAddr t1 3) <|
 G p69 false p71 (oLoad1 t70) <|
 G p69 false p72 (oGtr t71 (ci 1000)) <|
 I p73 (oPick t69 (c (.bool true)) t72) <|
 sEnd)
(sCond t73 (sSeq (sDraw [⟨0, (some p74), none, .pure, oBuild [.nils, .nils, .nils] []⟩,
 ⟨1, (some p75), none, .pure, oFieldAddr t1 0⟩,
 ⟨2, (some p76), none, (.load 1 t75), oLoad1 t75⟩,
 ⟨3, (some p77), none, .pure, oLenSl t76⟩,
 ⟨4, none, none, .heavy, oStore 3 t2 t74⟩,
 ⟨5, (some p3), none, .pure, oMov t77⟩,
 ⟨6, (some p4), none, .pure, oMov (ci 1)⟩])
sRet) sEnd))
(sSeq (I p79 (oMov t5) <|
 I p80 (oCallF 34 [t79]) <|
 I p78 (oMov t80) <|
 I p81 (oExtract t78 0) <|
 I p82 (oExtract t78 1) <|
 I p12 (oAlloc (.row 0 3 (.node (some .nils) (.node (some .nils) .nil .nil) (.node (some .nils) .nil .nil)))) <|
 I0 (oStore 3 t12 t81) <|
 I p13 (oMov t82) <|
 sEnd)
(sSeq (sSeq (I p83 (oMov t13) <|
 I p84 (oNe t83 (ci 0)) <|
 sEnd)
(sCond t84 (sSeq (I p85 (oBuild [.nils, .nils, .nils] []) <|
 I p86 (oMov t13) <|
 I0 (oStore 3 t2 t85) <|
 I p3 (oMov (ci 0)) <|
 I p4 (oMov t86) <|
 sEnd)
sRet) sEnd))
(sSeq (sSeq (I p87 (oFieldAddr t1 0) <|
 I p88 (oLoad1 t87) <|
 I p89 (oLenSl t88) <|
 I p90 (oMov (ci 0)) <|
 sEnd)
(sBlock 2 (sLoop (sSeq (I p91 (oLss t90 t89) <|
 sEnd)
(sSeq (sCond t91 sEnd (sExit 2))
(sSeq (sBlock 3 (sSeq (I p92 (oMov t90) <|
 I p93 (oIndexS 5 t88 t90) <|
 I p94 (oLoadn 5 t93) <|
 I p15 (oAlloc (.row 0 5 (.node (some (.str [])) (.node (some (.int .i64 (.ofNat 0))) (.node (some (.str [])) .nil .nil) .nil) (.node (some (.str [])) (.node (some (.str [])) .nil .nil) .nil)))) <|
 I p14 (oMov t92) <|
 I0 (oStore 5 t15 t94) <|
 sEnd)
(sSeq (sSeq (I p95 (oLoadn 3 t12) <|
 I p96 (oFieldAddr t15 3) <|
 I p97 (oLoad1 t96) <|
 I p98 (oCallF 35 [t95, t97]) <|
 I p99 (oMov t14) <|
 I p100 (oNe t98 t99) <|
 sEnd)
(sCond t100 (sSeq (I p101 (oBuild [.nils, .nils, .nils] []) <|
 I p102 (oMov t14) <|
 I0 (oStore 3 t2 t101) <|
 I p3 (oMov t102) <|
 I p4 (oMov (ci 13)) <|
 sEnd)
sRet) sEnd))
(sSeq (I p103 (oFieldAddr t15 1) <|
 I p104 (oLoad1 t103) <|
 I p105 (oEq t104 (ci 3)) <|
 I p106 (oMov t105) <|
 G p106 true p107 (oMov t5) <|
 G p106 true p108 (oMov t14) <|
 G p106 true p109 (oIndexS 6 t107 t108) <|
 G p106 true p110 (oLoadn 6 t109) <|
 G p106 true p111 (oFieldAddr t15 3) <|
 G p106 true p112 (oLoad1 t111) <|
 G p106 true p113 (oCallF 36 [t110, t112]) <|
 G p106 true p114 (oNot t113) <|
 I p115 (oPick t106 t114 (c (.bool false))) <|
 sEnd)
(sCond t115 (sSeq (I p116 (oBuild [.nils, .nils, .nils] []) <|
 I p117 (oMov t14) <|
 I0 (oStore 3 t2 t116) <|
 I p3 (oMov t117) <|
 I p4 (oMov (ci 14)) <|
 sEnd)
sRet) sEnd)))))
(I p118 (oAdd t90 (ci 1)) <|
 I p90 (oMov t118) <|
 sEnd)))))))
(sSeq (I p119 (oLoadn 3 t12) <|
 I0 (oStore 3 t2 t119) <|
 I p3 (oMov (ci 0)) <|
 I p4 (oMov (ci 0)) <|
 sEnd)
sRet)))))))))⟩
def s16 : List (Nat × Sched) := [(14, .hoist 0 (.hoist 1 (.hoist 2 (.hoist 3 (.one 4 (.hoist 5 (.hoist 6 (.done)))))))), (23, .hoist 0 (.hoist 1 (.hoist 2 (.hoist 3 (.hoist 4 (.hoist 5 (.hoist 6 (.hoist 7 (.hoist 8 (.hoist 9 (.one 10 (.hoist 11 (.hoist 12 (.done))))))))))))))]
/- emendate/lexer.one -/
noncomputable def a17 : AF := ⟨56, [.celln p6 4],
(sSeq (I p3 (oBox t0) <|
 I p6 (oAlloc (.row 0 4 (.node (some (.int .i64 (.ofNat 0))) (.node (some (.int .i64 (.ofNat 0))) (.node (some (.int .i64 (.ofNat 0))) .nil .nil) .nil) (.node (some (.str [])) .nil .nil)))) <|
 sEnd)
(sSeq (I p12 (oMov t2) <|
 I p13 (oMov t1) <|
 I p14 (oMov t2) <|
 I p15 (oMov t2) <|
 I p16 (oAdd t15 (ci 1)) <|
 I p17 (oSliceS t13 (some t14) (some t16)) <|
 I p18 (oBuild [(.int .i64 (.ofNat 0)), (.int .i64 (.ofNat 0)), (.str []), (.int .i64 (.ofNat 0))] [(0, 1, (c (.int .i64 (.negSucc 0)))), (1, 1, t12), (2, 1, t17)]) <|
 I p7 (oAlloc (.row 0 4 (.node (some (.int .i64 (.ofNat 0))) (.node (some (.int .i64 (.ofNat 0))) (.node (some (.int .i64 (.ofNat 0))) .nil .nil) .nil) (.node (some (.str [])) .nil .nil)))) <|
 I0 (oStore 4 t7 t18) <|
 sEnd)
(sSeq (I p19 (oLoadn 3 t3) <|
 I p20 (oBuild [.nils, .nils, .nils, (.int .i64 (.ofNat 0))] [(0, 3, t19)]) <|
 I p21 (oBox t20) <|
 I p8 (oMov t21) <|
 sEnd)
(sSeq (I p22 (oMov t8) <|
 I p23 (oMkfn 37 [t22] []) <|
 I p9 (oMov t23) <|
 sEnd)
(sSeq (I p24 (oMov t2) <|
 I p10 (oMov t24) <|
 sEnd)
(sBlock 0 (sLoop (sSeq (sBlock 1 (sSeq (I p27 (oFieldAddr t7 3) <|
 I p28 (oLoad1 t27) <|
 I p29 (oAdd t28 (ci 1)) <|
 I p30 (oFieldAddr t7 3) <|
 I0 (oStore 1 t30 t29) <|
 sEnd)
(sSeq (sSeq (I p31 (oMov t10) <|
 I p32 (oMov t1) <|
 I p33 (oLenStr t32) <|
 I p34 (oEq t31 t33) <|
 I p35 (oMov t34) <|
 G p35 false p36 (oMov t9) <|
 G p35 false p37 (oMov t1) <|
 G p35 false p38 (oMov t10) <|
 G p35 false p39 (oIndexStr t37 t38) <|
 G p35 false p40 (oCall t36 [t39]) <|
 G p35 false p41 (oNot t40) <|
 I p42 (oPick t35 (c (.bool true)) t41) <|
 sEnd)
(sCond t42 (sSeq (I p43 (oLoadn 4 t7) <|
 I0 (oStore 4 t6 t43) <|
 sEnd)
sRet) sEnd))
(sSeq (I p44 (oMov t8) <|
 I p45 (oCallF 38 [t44]) <|
 I p11 (oMov t45) <|
 sEnd)
(sSeq (I p46 (oMov t11) <|
 I p47 (oGeq t46 (ci 0)) <|
 sEnd)
(sCond t47 (I p48 (oMov t11) <|
 I p49 (oMov t1) <|
 I p50 (oMov t2) <|
 I p51 (oMov t10) <|
 I p52 (oAdd t51 (ci 1)) <|
 I p53 (oSliceS t49 (some t50) (some t52)) <|
 I p54 (oFieldAddr t7 0) <|
 I0 (oStore 1 t54 t48) <|
 I p55 (oFieldAddr t7 2) <|
 I0 (oStore 1 t55 t53) <|
 sEnd) sEnd))))))
(I p25 (oMov t10) <|
 I p26 (oAdd t25 (ci 1)) <|
 I p10 (oMov t26) <|
 sEnd)))))))))⟩
def s17 : List (Nat × Sched) := [(11, .hoist 0 (.hoist 1 (.hoist 2 (.hoist 3 (.hoist 4 (.hoist 5 (.hoist 6 (.one 7 (.hoist 8 (.one 9 (.done)))))))))))]
/- emendate/regex.Parse$1 -/
noncomputable def a18 : AF := ⟨10, [],
(sSeq (I p4 (oStuck) <|
 I p3 (oMov t4) <|
 sEnd)
(sSeq (I p5 (oMov t3) <|
 I p6 (oStuck) <|
 sEnd)
(sCond t6 (sDraw [⟨0, (some p7), none, .pure, oBuild [(.int .i64 (.ofNat 0)), (.int .u64 (.ofNat 0)), (.int .u64 (.ofNat 0)), (.int .u64 (.ofNat 0)), (.int .u64 (.ofNat 0)), .nils] []⟩,
 ⟨1, (some p8), none, .pure, oMov t3⟩,
 ⟨2, (some p9), none, .heavy, oStuck⟩,
 ⟨3, none, none, .heavy, oStore 6 t0 t7⟩,
 ⟨4, none, none, .late, oStore 1 t1 t9⟩,
 ⟨5, none, none, .late, oStore 1 t2 (ci 3)⟩]) sEnd)))⟩
def s18 : List (Nat × Sched) := [(2, .hoist 0 (.hoist 1 (.two 2 (.one 3 (.one 4 (.one 5 (.done)))) 3 (.one 2 (.one 4 (.one 5 (.done)))))))]
/- (*emendate/regex.reader).regex -/
noncomputable def a19 : AF := ⟨24, [.celln p2 6],
(sSeq (I p2 (oAlloc (.row 0 6 (.node (some (.int .i64 (.ofNat 0))) (.node (some (.int .u64 (.ofNat 0))) (.node (some (.int .u64 (.ofNat 0))) .nil .nil) (.node (some .nils) .nil .nil)) (.node (some (.int .u64 (.ofNat 0))) (.node (some (.int .u64 (.ofNat 0))) .nil .nil) .nil)))) <|
 sEnd)
(sSeq (I p4 (oMov t0) <|
 I p5 (oCallF 39 [t4]) <|
 I p6 (oBslice 6 1 [(.int .i64 (.ofNat 0)), (.int .u64 (.ofNat 0)), (.int .u64 (.ofNat 0)), (.int .u64 (.ofNat 0)), (.int .u64 (.ofNat 0)), .nils] [(0, 6, t5)]) <|
 I p3 (oMov t6) <|
 sEnd)
(sSeq (sBlock 0 (sLoop (sSeq (sSeq (I p7 (oMov t0) <|
 I p8 (oCallF 40 [t7]) <|
 I p9 (oEq t8 (c (.int .u8 (.ofNat 124)))) <|
 sEnd)
(sCond t9 sEnd (sExit 0)))
(sBlock 1 (sSeq (I p10 (oMov t0) <|
 I p11 (oNil t10) <|
 I p12 (oFieldAddr t11 1) <|
 I p13 (oLoad1 t12) <|
 I p14 (oAdd t13 (ci 1)) <|
 I p15 (oNil t10) <|
 I p16 (oFieldAddr t15 1) <|
 I0 (oStore 1 t16 t14) <|
 sEnd)
(I p17 (oMov t3) <|
 I p18 (oMov t0) <|
 I p19 (oCallF 39 [t18]) <|
 I p20 (oBslice 6 1 [(.int .i64 (.ofNat 0)), (.int .u64 (.ofNat 0)), (.int .u64 (.ofNat 0)), (.int .u64 (.ofNat 0)), (.int .u64 (.ofNat 0)), .nils] [(0, 6, t19)]) <|
 I p21 (oAppend0 6 t17 t20) <|
 I p3 (oMov t21) <|
 sEnd))))))
(sSeq (I p22 (oMov t3) <|
 I p23 (oCallF 41 [(ci 5), t22]) <|
 I0 (oStore 6 t2 t23) <|
 sEnd)
sRet))))⟩
def s19 : List (Nat × Sched) := []
/- (*emendate/regex.reader).fail -/
noncomputable def a20 : AF := ⟨7, [],
(I p2 (oMov t0) <|
 I p3 (oNil t2) <|
 I p4 (oFieldAddr t3 1) <|
 I p5 (oLoad1 t4) <|
 I p6 (oStuck) <|
 I0 (oStuck) <|
 sEnd)⟩
def s20 : List (Nat × Sched) := []
/- emendate/regex.Valid -/
noncomputable def a21 : AF := ⟨5, [.tmp p2],
(sSeq (I p1 (oBox t0) <|
 I p2 (oMov (c (.bool false))) <|
 sEnd)
(sSeq (I p3 (oLoadn 6 t1) <|
 I p4 (oCallF 42 [t3, (ci 30)]) <|
 I p2 (oMov t4) <|
 sEnd)
sRet))⟩
def s21 : List (Nat × Sched) := []
/- emendate/regex.Derive -/
noncomputable def a22 : AF := ⟨80, [.celln p4 6],
(sSeq (I p2 (oBox t0) <|
 I p4 (oAlloc (.row 0 6 (.node (some (.int .i64 (.ofNat 0))) (.node (some (.int .u64 (.ofNat 0))) (.node (some (.int .u64 (.ofNat 0))) .nil .nil) (.node (some .nils) .nil .nil)) (.node (some (.int .u64 (.ofNat 0))) (.node (some (.int .u64 (.ofNat 0))) .nil .nil) .nil)))) <|
 sEnd)
(sSeq (sSeq (I p11 (oFieldAddr t2 0) <|
 I p12 (oLoad1 t11) <|
 sEnd)
(sBlock 0 (sSeq (I p14 (oEq t12 (ci 3)) <|
 I p13 (oMov t14) <|
 sEnd)
(sCond t13 (sSeq (I p15 (oFieldAddr t2 1) <|
 I p16 (oLoadn 4 t15) <|
 I p17 (oMov t1) <|
 I p18 (oCallF 43 [t16, t17]) <|
 sEnd)
(sCond t18 (sSeq (I p19 (oBuild [(.int .i64 (.ofNat 0)), (.int .u64 (.ofNat 0)), (.int .u64 (.ofNat 0)), (.int .u64 (.ofNat 0)), (.int .u64 (.ofNat 0)), .nils] [(0, 1, (ci 2))]) <|
 I0 (oStore 6 t4 t19) <|
 sEnd)
sRet) sEnd)) (sSeq (I p21 (oEq t12 (ci 4)) <|
 I p20 (oMov t21) <|
 sEnd)
(sCond t20 (sSeq (I p5 (oMov (c .nils)) <|
 sEnd)
(sSeq (sSeq (I p22 (oFieldAddr t2 5) <|
 I p23 (oLoad1 t22) <|
 I p24 (oLenSl t23) <|
 I p25 (oMov (ci 0)) <|
 sEnd)
(sBlock 1 (sLoop (sSeq (I p26 (oLss t25 t24) <|
 sEnd)
(sSeq (sCond t26 sEnd (sExit 1))
(sSeq (sBlock 2 (sSeq (I p27 (oMov t25) <|
 I p28 (oIndexS 6 t23 t25) <|
 I p29 (oLoadn 6 t28) <|
 I p7 (oAlloc (.row 0 6 (.node (some (.int .i64 (.ofNat 0))) (.node (some (.int .u64 (.ofNat 0))) (.node (some (.int .u64 (.ofNat 0))) .nil .nil) (.node (some .nils) .nil .nil)) (.node (some (.int .u64 (.ofNat 0))) (.node (some (.int .u64 (.ofNat 0))) .nil .nil) .nil)))) <|
 I p6 (oMov t27) <|
 I0 (oStore 6 t7 t29) <|
 sEnd)
(sSeq (sDraw [⟨0, (some p30), none, .pure, oMov t5⟩,
 ⟨1, (some p31), none, (.load 6 t7), oLoadn 6 t7⟩,
 ⟨2, (some p32), none, .pure, oMov t1⟩,
 ⟨5, (some p35), none, .pure, oFieldAddr t2 5⟩,
 ⟨6, (some p36), none, (.load 1 t35), oLoad1 t35⟩,
 ⟨7, (some p37), none, .pure, oMov t6⟩,
 ⟨8, (some p38), none, .pure, oAdd t37 (ci 1)⟩,
 ⟨9, (some p39), none, .pure, oSlice 6 t36 (some t38) none⟩,
 ⟨3, (some p33), none, .heavy, oCallF 22 [t31, t32]⟩,
 ⟨4, (some p34), none, .heavy, oBslice 6 1 [(.int .i64 (.ofNat 0)), (.int .u64 (.ofNat 0)), (.int .u64 (.ofNat 0)), (.int .u64 (.ofNat 0)), (.int .u64 (.ofNat 0)), .nils] [(0, 6, t33)]⟩,
 ⟨10, (some p40), none, .late, oAppend0 6 t34 t39⟩,
 ⟨11, (some p41), none, .late, oCallF 44 [t40]⟩,
 ⟨12, (some p42), none, .late, oBslice 6 1 [(.int .i64 (.ofNat 0)), (.int .u64 (.ofNat 0)), (.int .u64 (.ofNat 0)), (.int .u64 (.ofNat 0)), (.int .u64 (.ofNat 0)), .nils] [(0, 6, t41)]⟩,
 ⟨13, (some p43), none, .late, oAppend0 6 t30 t42⟩,
 ⟨14, (some p5), none, .pure, oMov t43⟩])
(sSeq (I p44 (oLoadn 6 t7) <|
 I p45 (oCallF 23 [t44]) <|
 I p46 (oNot t45) <|
 sEnd)
(sCond t46 (sExit 1) sEnd)))))
(I p47 (oAdd t25 (ci 1)) <|
 I p25 (oMov t47) <|
 sEnd)))))))
(sSeq (I p48 (oMov t5) <|
 I p49 (oCallF 45 [t48]) <|
 I0 (oStore 6 t4 t49) <|
 sEnd)
sRet))) (sSeq (I p51 (oEq t12 (ci 5)) <|
 I p50 (oMov t51) <|
 sEnd)
(sCond t50 (sSeq (I p8 (oMov (c .nils)) <|
 sEnd)
(sSeq (sSeq (I p52 (oFieldAddr t2 5) <|
 I p53 (oLoad1 t52) <|
 I p54 (oLenSl t53) <|
 I p55 (oMov (ci 0)) <|
 sEnd)
(sBlock 3 (sLoop (sSeq (I p56 (oLss t55 t54) <|
 sEnd)
(sSeq (sCond t56 sEnd (sExit 3))
(sSeq (sBlock 4 (sSeq (I p57 (oIndexS 6 t53 t55) <|
 I p58 (oLoadn 6 t57) <|
 I p10 (oAlloc (.row 0 6 (.node (some (.int .i64 (.ofNat 0))) (.node (some (.int .u64 (.ofNat 0))) (.node (some (.int .u64 (.ofNat 0))) .nil .nil) (.node (some .nils) .nil .nil)) (.node (some (.int .u64 (.ofNat 0))) (.node (some (.int .u64 (.ofNat 0))) .nil .nil) .nil)))) <|
 I0 (oStore 6 t10 t58) <|
 sEnd)
(I p59 (oMov t8) <|
 I p60 (oLoadn 6 t10) <|
 I p61 (oMov t1) <|
 I p62 (oCallF 22 [t60, t61]) <|
 I p63 (oBslice 6 1 [(.int .i64 (.ofNat 0)), (.int .u64 (.ofNat 0)), (.int .u64 (.ofNat 0)), (.int .u64 (.ofNat 0)), (.int .u64 (.ofNat 0)), .nils] [(0, 6, t62)]) <|
 I p64 (oAppend0 6 t59 t63) <|
 I p8 (oMov t64) <|
 sEnd)))
(I p65 (oAdd t55 (ci 1)) <|
 I p55 (oMov t65) <|
 sEnd)))))))
(sSeq (I p66 (oMov t8) <|
 I p67 (oCallF 45 [t66]) <|
 I0 (oStore 6 t4 t67) <|
 sEnd)
sRet))) (sSeq (I p69 (oEq t12 (ci 6)) <|
 I p68 (oMov t69) <|
 sEnd)
(sCond t68 (sSeq (sDraw [⟨0, (some p70), none, .pure, oFieldAddr t2 5⟩,
 ⟨1, (some p71), none, (.load 1 t70), oLoad1 t70⟩,
 ⟨2, (some p72), none, .pure, oIndexS 6 t71 (ci 0)⟩,
 ⟨3, (some p73), none, (.load 6 t72), oLoadn 6 t72⟩,
 ⟨4, (some p74), none, .pure, oMov t1⟩,
 ⟨6, (some p76), none, (.load 6 t2), oLoadn 6 t2⟩,
 ⟨5, (some p75), none, .heavy, oCallF 22 [t73, t74]⟩,
 ⟨7, (some p77), none, .late, oBslice 6 2 [(.int .i64 (.ofNat 0)), (.int .u64 (.ofNat 0)), (.int .u64 (.ofNat 0)), (.int .u64 (.ofNat 0)), (.int .u64 (.ofNat 0)), .nils, (.int .i64 (.ofNat 0)), (.int .u64 (.ofNat 0)), (.int .u64 (.ofNat 0)), (.int .u64 (.ofNat 0)), (.int .u64 (.ofNat 0)), .nils] [(0, 6, t75), (6, 6, t76)]⟩,
 ⟨8, (some p78), none, .late, oCallF 44 [t77]⟩,
 ⟨9, none, none, .late, oStore 6 t4 t78⟩])
sRet) sEnd))))))))))
(sSeq (I p79 (oBuild [(.int .i64 (.ofNat 0)), (.int .u64 (.ofNat 0)), (.int .u64 (.ofNat 0)), (.int .u64 (.ofNat 0)), (.int .u64 (.ofNat 0)), .nils] [(0, 1, (ci 1))]) <|
 I0 (oStore 6 t4 t79) <|
 sEnd)
sRet)))⟩
def s22 : List (Nat × Sched) := [(10, .hoist 0 (.hoist 1 (.hoist 2 (.hoist 5 (.hoist 6 (.hoist 7 (.hoist 8 (.hoist 9 (.one 3 (.one 4 (.one 10 (.one 11 (.one 12 (.one 13 (.hoist 14 (.done)))))))))))))))), (23, .hoist 0 (.hoist 1 (.hoist 2 (.hoist 3 (.hoist 4 (.hoist 6 (.one 5 (.one 7 (.one 8 (.one 9 (.done)))))))))))]
/- emendate/regex.Nullable -/
noncomputable def a23 : AF := ⟨37, [.tmp p2],
(sSeq (I p1 (oBox t0) <|
 I p2 (oMov (c (.bool false))) <|
 sEnd)
(sSeq (sSeq (I p7 (oFieldAddr t1 0) <|
 I p8 (oLoad1 t7) <|
 sEnd)
(sBlock 0 (sSeq (sSeq (I p10 (oEq t8 (ci 2)) <|
 I p9 (oMov t10) <|
 sEnd)
(sCond t9 sEnd (I p11 (oEq t8 (ci 6)) <|
 I p9 (oMov t11) <|
 sEnd)))
(sCond t9 (sSeq (I p2 (oMov (c (.bool true))) <|
 sEnd)
sRet) (sSeq (I p13 (oEq t8 (ci 4)) <|
 I p12 (oMov t13) <|
 sEnd)
(sCond t12 (sSeq (sSeq (I p14 (oFieldAddr t1 5) <|
 I p15 (oLoad1 t14) <|
 I p16 (oLenSl t15) <|
 I p17 (oMov (ci 0)) <|
 sEnd)
(sBlock 1 (sLoop (sSeq (I p18 (oLss t17 t16) <|
 sEnd)
(sSeq (sCond t18 sEnd (sExit 1))
(sSeq (sBlock 2 (sSeq (I p19 (oIndexS 6 t15 t17) <|
 I p20 (oLoadn 6 t19) <|
 I p4 (oAlloc (.row 0 6 (.node (some (.int .i64 (.ofNat 0))) (.node (some (.int .u64 (.ofNat 0))) (.node (some (.int .u64 (.ofNat 0))) .nil .nil) (.node (some .nils) .nil .nil)) (.node (some (.int .u64 (.ofNat 0))) (.node (some (.int .u64 (.ofNat 0))) .nil .nil) .nil)))) <|
 I0 (oStore 6 t4 t20) <|
 sEnd)
(sSeq (I p21 (oLoadn 6 t4) <|
 I p22 (oCallF 23 [t21]) <|
 I p23 (oNot t22) <|
 sEnd)
(sCond t23 (sSeq (I p2 (oMov (c (.bool false))) <|
 sEnd)
sRet) sEnd))))
(I p24 (oAdd t17 (ci 1)) <|
 I p17 (oMov t24) <|
 sEnd)))))))
(sSeq (I p2 (oMov (c (.bool true))) <|
 sEnd)
sRet)) (sSeq (I p26 (oEq t8 (ci 5)) <|
 I p25 (oMov t26) <|
 sEnd)
(sCond t25 (sSeq (I p27 (oFieldAddr t1 5) <|
 I p28 (oLoad1 t27) <|
 I p29 (oLenSl t28) <|
 I p30 (oMov (ci 0)) <|
 sEnd)
(sBlock 3 (sLoop (sSeq (I p31 (oLss t30 t29) <|
 sEnd)
(sSeq (sCond t31 sEnd (sExit 3))
(sSeq (sBlock 4 (sSeq (I p32 (oIndexS 6 t28 t30) <|
 I p33 (oLoadn 6 t32) <|
 I p6 (oAlloc (.row 0 6 (.node (some (.int .i64 (.ofNat 0))) (.node (some (.int .u64 (.ofNat 0))) (.node (some (.int .u64 (.ofNat 0))) .nil .nil) (.node (some .nils) .nil .nil)) (.node (some (.int .u64 (.ofNat 0))) (.node (some (.int .u64 (.ofNat 0))) .nil .nil) .nil)))) <|
 I0 (oStore 6 t6 t33) <|
 sEnd)
(sSeq (I p34 (oLoadn 6 t6) <|
 I p35 (oCallF 23 [t34]) <|
 sEnd)
(sCond t35 (sSeq (I p2 (oMov (c (.bool true))) <|
 sEnd)
sRet) sEnd))))
(I p36 (oAdd t30 (ci 1)) <|
 I p30 (oMov t36) <|
 sEnd))))))) sEnd))))))))
(sSeq (I p2 (oMov (c (.bool false))) <|
 sEnd)
sRet)))⟩
def s23 : List (Nat × Sched) := []
/- emendate/recognizer.run -/
noncomputable def a31 : AF := ⟨39, [.tmp p4],
(sSeq (I p2 (oBox t0) <|
 I p4 (oMov (c .nilp)) <|
 sEnd)
(sSeq (sDraw [⟨0, (some p8), none, (.load 4 t2), oLoadn 4 t2⟩,
 ⟨1, (some p9), none, (.load 4 t2), oLoadn 4 t2⟩,
 ⟨3, (some p11), none, .pure, oBuild [.nils, .nilm] []⟩,
 ⟨2, (some p10), none, .heavy, oCallF 49 [t9]⟩,
 ⟨4, (some p12), none, .heavy, oBox t11⟩,
 ⟨5, (some p13), none, .heavy, oBslice 1 1 [.nilp] [(0, 1, t12)]⟩,
 ⟨6, (some p14), none, .pure, oBuild [.nils, .nils, (.int .i64 (.ofNat 0)), .nils, .nils, .nils] [(0, 4, t8), (4, 1, t10), (5, 1, t13)]⟩,
 ⟨7, (some p15), none, .late, oBox t14⟩,
 ⟨8, (some p5), none, .pure, oMov t15⟩])
(sSeq (I p16 (oMov t5) <|
 I p17 (oMov t5) <|
 I p18 (oNil t17) <|
 I p19 (oFieldAddr t18 5) <|
 I p20 (oLoad1 t19) <|
 I p21 (oIndexS 1 t20 (ci 0)) <|
 I p22 (oLoad1 t21) <|
 I p23 (oFieldAddr t2 2) <|
 I p24 (oLoad1 t23) <|
 I p25 (oCallF 50 [t16, t22, t24]) <|
 sEnd)
(sSeq (I p26 (oMov t5) <|
 I p27 (oCallF 51 [t26]) <|
 sEnd)
(sSeq (sSeq (I p28 (oMov t1) <|
 I p29 (oLenSl t28) <|
 I p30 (oMov (ci 0)) <|
 sEnd)
(sBlock 0 (sLoop (sSeq (I p31 (oLss t30 t29) <|
 sEnd)
(sSeq (sCond t31 sEnd (sExit 0))
(sSeq (sBlock 1 (sSeq (I p32 (oIndexS 1 t28 t30) <|
 I p33 (oLoad1 t32) <|
 I p7 (oMov t33) <|
 sEnd)
(I p34 (oMov t5) <|
 I p35 (oMov t7) <|
 I p36 (oCallF 52 [t34, t35]) <|
 sEnd)))
(I p37 (oAdd t30 (ci 1)) <|
 I p30 (oMov t37) <|
 sEnd)))))))
(sSeq (I p38 (oMov t5) <|
 I p4 (oMov t38) <|
 sEnd)
sRet))))))⟩
def s31 : List (Nat × Sched) := [(1, .hoist 0 (.hoist 1 (.hoist 3 (.two 2 (.one 4 (.one 5 (.hoist 6 (.one 7 (.hoist 8 (.done)))))) 4 (.two 2 (.one 5 (.hoist 6 (.one 7 (.hoist 8 (.done))))) 5 (.one 2 (.hoist 6 (.one 7 (.hoist 8 (.done)))))))))), (2, .hoist 0 (.hoist 1 (.hoist 2 (.hoist 3 (.hoist 4 (.hoist 5 (.hoist 6 (.hoist 7 (.hoist 8 (.one 9 (.done)))))))))))]
/- (*emendate/recognizer.earley).sentence -/
noncomputable def a32 : AF := ⟨7, [.tmp p2],
(sSeq (I p1 (oBox t0) <|
 I p2 (oMov (c (.bool false))) <|
 sEnd)
(sSeq (I p3 (oLoad1 t1) <|
 I p4 (oCallF 54 [t3]) <|
 I p5 (oMkfn 55 [] [t1]) <|
 I p6 (oCallF 53 [t4, t5]) <|
 I p2 (oMov t6) <|
 sEnd)
sRet))⟩
def s32 : List (Nat × Sched) := []
/- emendate/lexspec.definition -/
noncomputable def a33 : AF := ⟨51, [.tmp p4],
(sSeq (I p2 (oBox t0) <|
 I p3 (oBox t1) <|
 I p4 (oMov (ci 0)) <|
 sEnd)
(sSeq (I p13 (oLoad1 t2) <|
 I p14 (oLoad1 t3) <|
 I p15 (oIndexS 5 t13 t14) <|
 I p16 (oLoadn 5 t15) <|
 I p5 (oAlloc (.row 0 5 (.node (some (.str [])) (.node (some (.int .i64 (.ofNat 0))) (.node (some (.str [])) .nil .nil) .nil) (.node (some (.str [])) (.node (some (.str [])) .nil .nil) .nil)))) <|
 I0 (oStore 5 t5 t16) <|
 sEnd)
(sSeq (I p18 (oFieldAddr t5 2) <|
 I p19 (oLoad1 t18) <|
 I p20 (oCallF 9 [t19]) <|
 I p17 (oMov t20) <|
 I p21 (oExtract t17 0) <|
 I p22 (oExtract t17 1) <|
 I p23 (oExtract t17 2) <|
 I p6 (oAlloc (.row 0 6 (.node (some (.int .i64 (.ofNat 0))) (.node (some (.int .u64 (.ofNat 0))) (.node (some (.int .u64 (.ofNat 0))) .nil .nil) (.node (some .nils) .nil .nil)) (.node (some (.int .u64 (.ofNat 0))) (.node (some (.int .u64 (.ofNat 0))) .nil .nil) .nil)))) <|
 I p8 (oAlloc (.row 0 1 (.node (some (.int .i64 (.ofNat 0))) .nil .nil))) <|
 I0 (oStore 6 t6 t21) <|
 I p7 (oMov t22) <|
 I0 (oStore 1 t8 t23) <|
 sEnd)
(sSeq (I p24 (oMkfn 56 [] [t2, t3, t5]) <|
 I p9 (oMov t24) <|
 sEnd)
(sSeq (I p25 (oMkfn 57 [] [t5]) <|
 I p26 (oBuild [.bad, (.int .i64 (.ofNat 0))] [(0, 1, t25), (1, 1, (ci 4))]) <|
 I p27 (oMov t9) <|
 I p28 (oBuild [.bad, (.int .i64 (.ofNat 0))] [(0, 1, t27), (1, 1, (ci 5))]) <|
 I p29 (oMkfn 59 [] [t5]) <|
 I p30 (oBuild [.bad, (.int .i64 (.ofNat 0))] [(0, 1, t29), (1, 1, (ci 1))]) <|
 I p31 (oMkfn 60 [] [t8]) <|
 I p32 (oLoad1 t8) <|
 I p33 (oBuild [.bad, (.int .i64 (.ofNat 0))] [(0, 1, t31), (1, 1, t32)]) <|
 I p34 (oMkfn 61 [] [t6]) <|
 I p35 (oBuild [.bad, (.int .i64 (.ofNat 0))] [(0, 1, t34), (1, 1, (ci 10))]) <|
 I p36 (oMkfn 62 [] [t5]) <|
 I p37 (oBuild [.bad, (.int .i64 (.ofNat 0))] [(0, 1, t36), (1, 1, (ci 1))]) <|
 I p38 (oBslice 2 6 [.bad, (.int .i64 (.ofNat 0)), .bad, (.int .i64 (.ofNat 0)), .bad, (.int .i64 (.ofNat 0)), .bad, (.int .i64 (.ofNat 0)), .bad, (.int .i64 (.ofNat 0)), .bad, (.int .i64 (.ofNat 0))] [(0, 2, t26), (2, 2, t28), (4, 2, t30), (6, 2, t33), (8, 2, t35), (10, 2, t37)]) <|
 I p10 (oMov t38) <|
 sEnd)
(sSeq (sSeq (I p39 (oMov t10) <|
 I p40 (oLenSl t39) <|
 I p41 (oMov (ci 0)) <|
 sEnd)
(sBlock 0 (sLoop (sSeq (I p42 (oLss t41 t40) <|
 sEnd)
(sSeq (sCond t42 sEnd (sExit 0))
(sSeq (sBlock 1 (sSeq (I p43 (oIndexS 2 t39 t41) <|
 I p44 (oLoadn 2 t43) <|
 I p12 (oAlloc (.row 0 2 (.node (some .bad) (.node (some (.int .i64 (.ofNat 0))) .nil .nil) .nil))) <|
 I0 (oStore 2 t12 t44) <|
 sEnd)
(sSeq (I p45 (oFieldAddr t12 0) <|
 I p46 (oLoad1 t45) <|
 I p47 (oCall t46 []) <|
 sEnd)
(sCond t47 (sSeq (I p48 (oFieldAddr t12 1) <|
 I p49 (oLoad1 t48) <|
 I p4 (oMov t49) <|
 sEnd)
sRet) sEnd))))
(I p50 (oAdd t41 (ci 1)) <|
 I p41 (oMov t50) <|
 sEnd)))))))
(sSeq (I p4 (oMov (ci 0)) <|
 sEnd)
sRet)))))))⟩
def s33 : List (Nat × Sched) := []
/- emendate/lexspec.build -/
noncomputable def a34 : AF := ⟨27, [.celln p2 3, .tmp p3],
(sSeq (I p2 (oAlloc (.row 0 3 (.node (some .nils) (.node (some .nils) .nil .nil) (.node (some .nils) .nil .nil)))) <|
 I p3 (oMov (ci 0)) <|
 sEnd)
(sSeq (I p8 (oMov t0) <|
 I p9 (oCallF 64 [t8]) <|
 I p7 (oMov t9) <|
 I p10 (oExtract t7 0) <|
 I p11 (oExtract t7 1) <|
 I p4 (oAlloc (.row 0 4 (.node (some (.int .i64 (.ofNat 0))) (.node (some (.int .i64 (.ofNat 0))) (.node (some .nils) .nil .nil) .nil) (.node (some .nils) .nil .nil)))) <|
 I0 (oStore 4 t4 t10) <|
 I p5 (oMov t11) <|
 sEnd)
(sSeq (sSeq (I p12 (oMov t5) <|
 I p13 (oNe t12 (ci 0)) <|
 sEnd)
(sCond t13 (sSeq (I p14 (oBuild [.nils, .nils, .nils] []) <|
 I p15 (oMov t5) <|
 I0 (oStore 3 t2 t14) <|
 I p3 (oMov t15) <|
 sEnd)
sRet) sEnd))
(sSeq (I p17 (oLoadn 4 t4) <|
 I p18 (oCallF 65 [t17]) <|
 I p16 (oMov t18) <|
 I p19 (oExtract t16 0) <|
 I p20 (oExtract t16 1) <|
 I p6 (oAlloc (.row 0 3 (.node (some .nils) (.node (some .nils) .nil .nil) (.node (some .nils) .nil .nil)))) <|
 I0 (oStore 3 t6 t19) <|
 I p5 (oMov t20) <|
 sEnd)
(sSeq (sSeq (I p21 (oMov t5) <|
 I p22 (oNe t21 (ci 0)) <|
 sEnd)
(sCond t22 (sSeq (I p23 (oBuild [.nils, .nils, .nils] []) <|
 I p24 (oMov t5) <|
 I0 (oStore 3 t2 t23) <|
 I p3 (oMov t24) <|
 sEnd)
sRet) sEnd))
(sSeq (I p25 (oLoadn 3 t6) <|
 I p26 (oCallF 66 [t25]) <|
 I0 (oStore 3 t2 t26) <|
 I p3 (oMov (ci 0)) <|
 sEnd)
sRet))))))⟩
def s34 : List (Nat × Sched) := []
/- emendate/dfa.Run -/
noncomputable def a35 : AF := ⟨22, [.tmp p4],
(sSeq (I p2 (oBox t0) <|
 I p4 (oMov (ci 0)) <|
 sEnd)
(sSeq (I p5 (oMov (ci 0)) <|
 sEnd)
(sSeq (sSeq (I p7 (oMov t1) <|
 I p8 (oLenStr t7) <|
 I p9 (oMov (ci 0)) <|
 sEnd)
(sBlock 0 (sLoop (sSeq (I p10 (oLss t9 t8) <|
 sEnd)
(sSeq (sCond t10 sEnd (sExit 0))
(sSeq (sBlock 1 (sSeq (I p11 (oMov t9) <|
 I p6 (oMov t11) <|
 sEnd)
(I p12 (oLoadn 3 t2) <|
 I p13 (oMov t5) <|
 I p14 (oMov t1) <|
 I p15 (oMov t6) <|
 I p16 (oIndexStr t14 t15) <|
 I p17 (oCallF 67 [t12, t13, t16]) <|
 I p5 (oMov t17) <|
 sEnd)))
(I p18 (oAdd t9 (ci 1)) <|
 I p9 (oMov t18) <|
 sEnd)))))))
(sSeq (I p19 (oLoadn 3 t2) <|
 I p20 (oMov t5) <|
 I p21 (oCallF 68 [t19, t20]) <|
 I p4 (oMov t21) <|
 sEnd)
sRet))))⟩
def s35 : List (Nat × Sched) := [(5, .hoist 0 (.hoist 1 (.hoist 2 (.hoist 3 (.hoist 4 (.one 5 (.hoist 6 (.done))))))))]
/- emendate/lexspec.only -/
noncomputable def a36 : AF := ⟨38, [.tmp p4],
(sSeq (I p2 (oBox t0) <|
 I p4 (oMov (c (.bool false))) <|
 sEnd)
(sSeq (I p12 (oLoadn 6 t2) <|
 I p13 (oBslice 6 1 [(.int .i64 (.ofNat 0)), (.int .u64 (.ofNat 0)), (.int .u64 (.ofNat 0)), (.int .u64 (.ofNat 0)), (.int .u64 (.ofNat 0)), .nils] [(0, 6, t12)]) <|
 I p14 (oCallF 34 [t13]) <|
 I p11 (oMov t14) <|
 I p15 (oExtract t11 0) <|
 I p16 (oExtract t11 1) <|
 I p5 (oAlloc (.row 0 3 (.node (some .nils) (.node (some .nils) .nil .nil) (.node (some .nils) .nil .nil)))) <|
 I0 (oStore 3 t5 t15) <|
 I p6 (oMov t16) <|
 sEnd)
(sSeq (I p18 (oMov t1) <|
 I p19 (oCallF 69 [t18]) <|
 I p20 (oBslice 6 1 [(.int .i64 (.ofNat 0)), (.int .u64 (.ofNat 0)), (.int .u64 (.ofNat 0)), (.int .u64 (.ofNat 0)), (.int .u64 (.ofNat 0)), .nils] [(0, 6, t19)]) <|
 I p21 (oCallF 34 [t20]) <|
 I p17 (oMov t21) <|
 I p22 (oExtract t17 0) <|
 I p23 (oExtract t17 1) <|
 I p7 (oAlloc (.row 0 3 (.node (some .nils) (.node (some .nils) .nil .nil) (.node (some .nils) .nil .nil)))) <|
 I0 (oStore 3 t7 t22) <|
 I p8 (oMov t23) <|
 sEnd)
(sSeq (sSeq (I p24 (oMov t6) <|
 I p25 (oNe t24 (ci 0)) <|
 I p26 (oMov t25) <|
 G p26 false p27 (oMov t8) <|
 G p26 false p28 (oNe t27 (ci 0)) <|
 I p29 (oPick t26 (c (.bool true)) t28) <|
 sEnd)
(sCond t29 (sSeq (I p4 (oMov (c (.bool false))) <|
 sEnd)
sRet) sEnd))
(sSeq (I p31 (oLoadn 3 t5) <|
 I p32 (oLoadn 3 t7) <|
 I p33 (oCallF 70 [t31, t32]) <|
 I p30 (oMov t33) <|
 I p34 (oExtract t30 0) <|
 I p35 (oExtract t30 1) <|
 I p9 (oMov t34) <|
 I p10 (oMov t35) <|
 sEnd)
(sSeq (I p36 (oMov t10) <|
 I p37 (oNot t36) <|
 I p4 (oMov t37) <|
 sEnd)
sRet))))))⟩
def s36 : List (Nat × Sched) := []
/- (*emendate/lexer.scanner).step -/
noncomputable def a37 : AF := ⟨34, [.tmp p4],
(sSeq (I p4 (oMov (c (.bool false))) <|
 sEnd)
(sSeq (I p5 (oMov t0) <|
 I p6 (oMov t0) <|
 I p7 (oNil t6) <|
 I p8 (oFieldAddr t7 0) <|
 I p9 (oFieldAddr t8 1) <|
 I p10 (oLoad1 t9) <|
 I p11 (oMov t0) <|
 I p12 (oNil t11) <|
 I p13 (oFieldAddr t12 3) <|
 I p14 (oLoad1 t13) <|
 I p15 (oIndexS 1 t10 t14) <|
 I p16 (oLoad1 t15) <|
 I p17 (oMov t0) <|
 I p18 (oNil t17) <|
 I p19 (oFieldAddr t18 0) <|
 I p20 (oFieldAddr t19 0) <|
 I p21 (oLoad1 t20) <|
 I p22 (oMov t1) <|
 I p23 (oIndexS 1 t21 t22) <|
 I p24 (oLoad1 t23) <|
 I p25 (oIndexS 1 t16 t24) <|
 I p26 (oLoad1 t25) <|
 I p27 (oNil t5) <|
 I p28 (oFieldAddr t27 3) <|
 I0 (oStore 1 t28 t26) <|
 sEnd)
(sSeq (I p29 (oMov t0) <|
 I p30 (oNil t29) <|
 I p31 (oFieldAddr t30 3) <|
 I p32 (oLoad1 t31) <|
 I p33 (oGeq t32 (ci 0)) <|
 I p4 (oMov t33) <|
 sEnd)
sRet)))⟩
def s37 : List (Nat × Sched) := [(1, .hoist 0 (.hoist 1 (.hoist 2 (.hoist 3 (.hoist 4 (.hoist 5 (.hoist 6 (.hoist 7 (.hoist 8 (.hoist 9 (.hoist 10 (.hoist 11 (.hoist 12 (.hoist 13 (.hoist 14 (.hoist 15 (.hoist 16 (.hoist 17 (.hoist 18 (.hoist 19 (.hoist 20 (.hoist 21 (.hoist 22 (.hoist 23 (.one 24 (.done))))))))))))))))))))))))))]
/- (*emendate/lexer.scanner).accepted -/
noncomputable def a38 : AF := ⟨14, [.tmp p2],
(sSeq (I p2 (oMov (ci 0)) <|
 sEnd)
(sSeq (I p3 (oMov t0) <|
 I p4 (oNil t3) <|
 I p5 (oFieldAddr t4 0) <|
 I p6 (oFieldAddr t5 2) <|
 I p7 (oLoad1 t6) <|
 I p8 (oMov t0) <|
 I p9 (oNil t8) <|
 I p10 (oFieldAddr t9 3) <|
 I p11 (oLoad1 t10) <|
 I p12 (oIndexS 1 t7 t11) <|
 I p13 (oLoad1 t12) <|
 I p2 (oMov t13) <|
 sEnd)
sRet))⟩
def s38 : List (Nat × Sched) := [(1, .hoist 0 (.hoist 1 (.hoist 2 (.hoist 3 (.hoist 4 (.hoist 5 (.hoist 6 (.hoist 7 (.hoist 8 (.hoist 9 (.hoist 10 (.hoist 11 (.done)))))))))))))]
/- (*emendate/regex.reader).branch -/
noncomputable def a39 : AF := ⟨49, [.celln p2 6],
(sSeq (I p2 (oAlloc (.row 0 6 (.node (some (.int .i64 (.ofNat 0))) (.node (some (.int .u64 (.ofNat 0))) (.node (some (.int .u64 (.ofNat 0))) .nil .nil) (.node (some .nils) .nil .nil)) (.node (some (.int .u64 (.ofNat 0))) (.node (some (.int .u64 (.ofNat 0))) .nil .nil) .nil)))) <|
 sEnd)
(sSeq (I p3 (oMov (c .nils)) <|
 sEnd)
(sSeq (sBlock 0 (sLoop (sSeq (sSeq (I p4 (oMov t0) <|
 I p5 (oNil t4) <|
 I p6 (oFieldAddr t5 1) <|
 I p7 (oLoad1 t6) <|
 I p8 (oMov t0) <|
 I p9 (oNil t8) <|
 I p10 (oFieldAddr t9 0) <|
 I p11 (oLoad1 t10) <|
 I p12 (oLenStr t11) <|
 I p13 (oLss t7 t12) <|
 I p14 (oMov t13) <|
 G p14 true p15 (oMov t0) <|
 G p14 true p16 (oNil t15) <|
 G p14 true p17 (oFieldAddr t16 0) <|
 G p14 true p18 (oLoad1 t17) <|
 G p14 true p19 (oMov t0) <|
 G p14 true p20 (oNil t19) <|
 G p14 true p21 (oFieldAddr t20 1) <|
 G p14 true p22 (oLoad1 t21) <|
 G p14 true p23 (oIndexStr t18 t22) <|
 G p14 true p24 (oNe t23 (c (.int .u8 (.ofNat 124)))) <|
 I p25 (oPick t14 t24 (c (.bool false))) <|
 I p26 (oMov t25) <|
 G p26 true p27 (oMov t0) <|
 G p26 true p28 (oNil t27) <|
 G p26 true p29 (oFieldAddr t28 0) <|
 G p26 true p30 (oLoad1 t29) <|
 G p26 true p31 (oMov t0) <|
 G p26 true p32 (oNil t31) <|
 G p26 true p33 (oFieldAddr t32 1) <|
 G p26 true p34 (oLoad1 t33) <|
 G p26 true p35 (oIndexStr t30 t34) <|
 G p26 true p36 (oNe t35 (c (.int .u8 (.ofNat 41)))) <|
 I p37 (oPick t26 t36 (c (.bool false))) <|
 sEnd)
(sCond t37 sEnd (sExit 0)))
(sBlock 1 (I p38 (oMov t3) <|
 I p39 (oMov t0) <|
 I p40 (oCallF 71 [t39]) <|
 I p41 (oBslice 6 1 [(.int .i64 (.ofNat 0)), (.int .u64 (.ofNat 0)), (.int .u64 (.ofNat 0)), (.int .u64 (.ofNat 0)), (.int .u64 (.ofNat 0)), .nils] [(0, 6, t40)]) <|
 I p42 (oAppend0 6 t38 t41) <|
 I p3 (oMov t42) <|
 sEnd)))))
(sSeq (sSeq (I p43 (oMov t3) <|
 I p44 (oLenSl t43) <|
 I p45 (oEq t44 (ci 0)) <|
 sEnd)
(sCond t45 (sSeq (I p46 (oBuild [(.int .i64 (.ofNat 0)), (.int .u64 (.ofNat 0)), (.int .u64 (.ofNat 0)), (.int .u64 (.ofNat 0)), (.int .u64 (.ofNat 0)), .nils] [(0, 1, (ci 2))]) <|
 I0 (oStore 6 t2 t46) <|
 sEnd)
sRet) sEnd))
(sSeq (I p47 (oMov t3) <|
 I p48 (oCallF 41 [(ci 4), t47]) <|
 I0 (oStore 6 t2 t48) <|
 sEnd)
sRet)))))⟩
def s39 : List (Nat × Sched) := [(2, .hoist 0 (.hoist 1 (.hoist 2 (.hoist 3 (.hoist 4 (.hoist 5 (.hoist 6 (.hoist 7 (.hoist 8 (.hoist 9 (.hoist 10 (.hoist 11 (.hoist 12 (.hoist 13 (.hoist 14 (.hoist 15 (.hoist 16 (.hoist 17 (.hoist 18 (.hoist 19 (.hoist 20 (.hoist 21 (.hoist 22 (.hoist 23 (.hoist 24 (.hoist 25 (.hoist 26 (.hoist 27 (.hoist 28 (.hoist 29 (.hoist 30 (.hoist 31 (.hoist 32 (.hoist 33 (.done)))))))))))))))))))))))))))))))))))]
/- (*emendate/regex.reader).peek -/
noncomputable def a40 : AF := ⟨22, [.tmp p2],
(sSeq (I p2 (oMov (c (.int .u8 (.ofNat 0)))) <|
 sEnd)
(sSeq (sSeq (I p3 (oMov t0) <|
 I p4 (oNil t3) <|
 I p5 (oFieldAddr t4 1) <|
 I p6 (oLoad1 t5) <|
 I p7 (oMov t0) <|
 I p8 (oNil t7) <|
 I p9 (oFieldAddr t8 0) <|
 I p10 (oLoad1 t9) <|
 I p11 (oLenStr t10) <|
 I p12 (oLss t6 t11) <|
 sEnd)
(sCond t12 (sSeq (I p13 (oMov t0) <|
 I p14 (oNil t13) <|
 I p15 (oFieldAddr t14 0) <|
 I p16 (oLoad1 t15) <|
 I p17 (oMov t0) <|
 I p18 (oNil t17) <|
 I p19 (oFieldAddr t18 1) <|
 I p20 (oLoad1 t19) <|
 I p21 (oIndexStr t16 t20) <|
 I p2 (oMov t21) <|
 sEnd)
sRet) sEnd))
(sSeq (I p2 (oMov (c (.int .u8 (.ofNat 0)))) <|
 sEnd)
sRet)))⟩
def s40 : List (Nat × Sched) := [(1, .hoist 0 (.hoist 1 (.hoist 2 (.hoist 3 (.hoist 4 (.hoist 5 (.hoist 6 (.hoist 7 (.hoist 8 (.hoist 9 (.done))))))))))), (2, .hoist 0 (.hoist 1 (.hoist 2 (.hoist 3 (.hoist 4 (.hoist 5 (.hoist 6 (.hoist 7 (.hoist 8 (.hoist 9 (.done)))))))))))]
/- emendate/regex.group -/
noncomputable def a41 : AF := ⟨14, [.celln p4 6],
(sSeq (I p4 (oAlloc (.row 0 6 (.node (some (.int .i64 (.ofNat 0))) (.node (some (.int .u64 (.ofNat 0))) (.node (some (.int .u64 (.ofNat 0))) .nil .nil) (.node (some .nils) .nil .nil)) (.node (some (.int .u64 (.ofNat 0))) (.node (some (.int .u64 (.ofNat 0))) .nil .nil) .nil)))) <|
 sEnd)
(sSeq (sSeq (I p5 (oMov t1) <|
 I p6 (oLenSl t5) <|
 I p7 (oEq t6 (ci 1)) <|
 sEnd)
(sCond t7 (sSeq (I p8 (oMov t1) <|
 I p9 (oIndexS 6 t8 (ci 0)) <|
 I p10 (oLoadn 6 t9) <|
 I0 (oStore 6 t4 t10) <|
 sEnd)
sRet) sEnd))
(sSeq (I p11 (oMov t0) <|
 I p12 (oMov t1) <|
 I p13 (oBuild [(.int .i64 (.ofNat 0)), (.int .u64 (.ofNat 0)), (.int .u64 (.ofNat 0)), (.int .u64 (.ofNat 0)), (.int .u64 (.ofNat 0)), .nils] [(0, 1, t11), (5, 1, t12)]) <|
 I0 (oStore 6 t4 t13) <|
 sEnd)
sRet)))⟩
def s41 : List (Nat × Sched) := []
/- emendate/regex.valid -/
noncomputable def a42 : AF := ⟨60, [.tmp p4],
(sSeq (I p2 (oBox t0) <|
 I p4 (oMov (c (.bool false))) <|
 sEnd)
(sSeq (sSeq (I p9 (oMov t1) <|
 I p10 (oEq t9 (ci 0)) <|
 I p11 (oMov t10) <|
 G p11 false p12 (oFieldAddr t2 0) <|
 G p11 false p13 (oLoad1 t12) <|
 G p11 false p14 (oEq t13 (ci 3)) <|
 G p11 false p15 (oFieldAddr t2 1) <|
 G p11 false p16 (oLoadn 4 t15) <|
 G p11 false p17 (oBuild [(.int .u64 (.ofNat 0)), (.int .u64 (.ofNat 0)), (.int .u64 (.ofNat 0)), (.int .u64 (.ofNat 0))] []) <|
 G p11 false p18 (oEqL 4 t16 t17) <|
 G p11 false p19 (oEqB t14 t18) <|
 I p20 (oPick t11 (c (.bool true)) t19) <|
 sEnd)
(sCond t20 (sSeq (I p4 (oMov (c (.bool false))) <|
 sEnd)
sRet) sEnd))
(sSeq (I p5 (oMov (ci 0)) <|
 I p6 (oMov (ci 0)) <|
 sEnd)
(sSeq (sSeq (I p21 (oFieldAddr t2 0) <|
 I p22 (oLoad1 t21) <|
 sEnd)
(sBlock 0 (sSeq (sSeq (I p24 (oEq t22 (ci 1)) <|
 I p23 (oMov t24) <|
 sEnd)
(sCond t23 sEnd (sSeq (I p25 (oEq t22 (ci 2)) <|
 I p23 (oMov t25) <|
 sEnd)
(sCond t23 sEnd (I p26 (oEq t22 (ci 3)) <|
 I p23 (oMov t26) <|
 sEnd)))))
(sCond t23 sEnd (sSeq (sSeq (I p28 (oEq t22 (ci 4)) <|
 I p27 (oMov t28) <|
 sEnd)
(sCond t27 sEnd (I p29 (oEq t22 (ci 5)) <|
 I p27 (oMov t29) <|
 sEnd)))
(sCond t27 (I p30 (oFieldAddr t2 5) <|
 I p31 (oLoad1 t30) <|
 I p32 (oLenSl t31) <|
 I p5 (oMov (ci 2)) <|
 I p6 (oMov t32) <|
 sEnd) (sSeq (I p34 (oEq t22 (ci 6)) <|
 I p33 (oMov t34) <|
 sEnd)
(sCond t33 (I p5 (oMov (ci 1)) <|
 I p6 (oMov (ci 1)) <|
 sEnd) (sSeq (I p4 (oMov (c (.bool false))) <|
 sEnd)
sRet)))))))))
(sSeq (sSeq (I p35 (oFieldAddr t2 5) <|
 I p36 (oLoad1 t35) <|
 I p37 (oLenSl t36) <|
 I p38 (oMov t5) <|
 I p39 (oLss t37 t38) <|
 I p40 (oMov t39) <|
 G p40 false p41 (oFieldAddr t2 5) <|
 G p40 false p42 (oLoad1 t41) <|
 G p40 false p43 (oLenSl t42) <|
 G p40 false p44 (oMov t6) <|
 G p40 false p45 (oGtr t43 t44) <|
 I p46 (oPick t40 (c (.bool true)) t45) <|
 sEnd)
(sCond t46 (sSeq (I p4 (oMov (c (.bool false))) <|
 sEnd)
sRet) sEnd))
(sSeq (sSeq (I p47 (oFieldAddr t2 5) <|
 I p48 (oLoad1 t47) <|
 I p49 (oLenSl t48) <|
 I p50 (oMov (ci 0)) <|
 sEnd)
(sBlock 1 (sLoop (sSeq (I p51 (oLss t50 t49) <|
 sEnd)
(sSeq (sCond t51 sEnd (sExit 1))
(sSeq (sBlock 2 (sSeq (I p52 (oIndexS 6 t48 t50) <|
 I p53 (oLoadn 6 t52) <|
 I p8 (oAlloc (.row 0 6 (.node (some (.int .i64 (.ofNat 0))) (.node (some (.int .u64 (.ofNat 0))) (.node (some (.int .u64 (.ofNat 0))) .nil .nil) (.node (some .nils) .nil .nil)) (.node (some (.int .u64 (.ofNat 0))) (.node (some (.int .u64 (.ofNat 0))) .nil .nil) .nil)))) <|
 I0 (oStore 6 t8 t53) <|
 sEnd)
(sSeq (I p54 (oLoadn 6 t8) <|
 I p55 (oMov t1) <|
 I p56 (oSub t55 (ci 1)) <|
 I p57 (oCallF 42 [t54, t56]) <|
 I p58 (oNot t57) <|
 sEnd)
(sCond t58 (sSeq (I p4 (oMov (c (.bool false))) <|
 sEnd)
sRet) sEnd))))
(I p59 (oAdd t50 (ci 1)) <|
 I p50 (oMov t59) <|
 sEnd)))))))
(sSeq (I p4 (oMov (c (.bool true))) <|
 sEnd)
sRet)))))))⟩
def s42 : List (Nat × Sched) := [(1, .hoist 0 (.hoist 1 (.hoist 2 (.hoist 3 (.hoist 4 (.hoist 5 (.hoist 6 (.hoist 7 (.hoist 8 (.hoist 9 (.hoist 10 (.hoist 11 (.done))))))))))))), (11, .hoist 0 (.hoist 1 (.hoist 2 (.hoist 3 (.hoist 4 (.done))))))]
/- emendate/byteset.Has -/
noncomputable def a43 : AF := ⟨14, [.tmp p4],
(sSeq (I p2 (oBox t0) <|
 I p4 (oMov (c (.bool false))) <|
 sEnd)
(sSeq (I p5 (oMov t1) <|
 I p6 (oQuo t5 (c (.int .u8 (.ofNat 64)))) <|
 I p7 (oIndexA 4 1 t2 t6) <|
 I p8 (oLoad1 t7) <|
 I p9 (oMov t1) <|
 I p10 (oRem t9 (c (.int .u8 (.ofNat 64)))) <|
 I p11 (oShr t8 t10) <|
 I p12 (oAnd t11 (c (.int .u64 (.ofNat 1)))) <|
 I p13 (oEq t12 (c (.int .u64 (.ofNat 1)))) <|
 I p4 (oMov t13) <|
 sEnd)
sRet))⟩
def s43 : List (Nat × Sched) := []
/- emendate/regex.concat -/
noncomputable def a44 : AF := ⟨36, [.celln p2 6],
(sSeq (I p2 (oAlloc (.row 0 6 (.node (some (.int .i64 (.ofNat 0))) (.node (some (.int .u64 (.ofNat 0))) (.node (some (.int .u64 (.ofNat 0))) .nil .nil) (.node (some .nils) .nil .nil)) (.node (some (.int .u64 (.ofNat 0))) (.node (some (.int .u64 (.ofNat 0))) .nil .nil) .nil)))) <|
 sEnd)
(sSeq (I p3 (oMov (c .nils)) <|
 sEnd)
(sSeq (sSeq (I p6 (oMov t0) <|
 I p7 (oLenSl t6) <|
 I p8 (oMov (ci 0)) <|
 sEnd)
(sBlock 0 (sLoop (sSeq (I p9 (oLss t8 t7) <|
 sEnd)
(sSeq (sCond t9 sEnd (sExit 0))
(sSeq (sBlock 1 (sSeq (I p10 (oIndexS 6 t6 t8) <|
 I p11 (oLoadn 6 t10) <|
 I p5 (oAlloc (.row 0 6 (.node (some (.int .i64 (.ofNat 0))) (.node (some (.int .u64 (.ofNat 0))) (.node (some (.int .u64 (.ofNat 0))) .nil .nil) (.node (some .nils) .nil .nil)) (.node (some (.int .u64 (.ofNat 0))) (.node (some (.int .u64 (.ofNat 0))) .nil .nil) .nil)))) <|
 I0 (oStore 6 t5 t11) <|
 sEnd)
(sSeq (sSeq (I p12 (oFieldAddr t5 0) <|
 I p13 (oLoad1 t12) <|
 I p14 (oEq t13 (ci 1)) <|
 sEnd)
(sCond t14 (sSeq (I p15 (oLoadn 6 t5) <|
 I0 (oStore 6 t2 t15) <|
 sEnd)
sRet) sEnd))
(sSeq (I p16 (oFieldAddr t5 0) <|
 I p17 (oLoad1 t16) <|
 I p18 (oNe t17 (ci 2)) <|
 sEnd)
(sCond t18 (I p19 (oMov t3) <|
 I p20 (oLoadn 6 t5) <|
 I p21 (oBslice 6 1 [(.int .i64 (.ofNat 0)), (.int .u64 (.ofNat 0)), (.int .u64 (.ofNat 0)), (.int .u64 (.ofNat 0)), (.int .u64 (.ofNat 0)), .nils] [(0, 6, t20)]) <|
 I p22 (oAppend0 6 t19 t21) <|
 I p3 (oMov t22) <|
 sEnd) sEnd)))))
(I p23 (oAdd t8 (ci 1)) <|
 I p8 (oMov t23) <|
 sEnd)))))))
(sSeq (sSeq (I p24 (oMov t3) <|
 I p25 (oLenSl t24) <|
 sEnd)
(sBlock 2 (sSeq (I p27 (oEq t25 (ci 0)) <|
 I p26 (oMov t27) <|
 sEnd)
(sCond t26 (sSeq (I p28 (oBuild [(.int .i64 (.ofNat 0)), (.int .u64 (.ofNat 0)), (.int .u64 (.ofNat 0)), (.int .u64 (.ofNat 0)), (.int .u64 (.ofNat 0)), .nils] [(0, 1, (ci 2))]) <|
 I0 (oStore 6 t2 t28) <|
 sEnd)
sRet) (sSeq (I p30 (oEq t25 (ci 1)) <|
 I p29 (oMov t30) <|
 sEnd)
(sCond t29 (sSeq (I p31 (oMov t3) <|
 I p32 (oIndexS 6 t31 (ci 0)) <|
 I p33 (oLoadn 6 t32) <|
 I0 (oStore 6 t2 t33) <|
 sEnd)
sRet) sEnd))))))
(sSeq (I p34 (oMov t3) <|
 I p35 (oBuild [(.int .i64 (.ofNat 0)), (.int .u64 (.ofNat 0)), (.int .u64 (.ofNat 0)), (.int .u64 (.ofNat 0)), (.int .u64 (.ofNat 0)), .nils] [(0, 1, (ci 4)), (5, 1, t34)]) <|
 I0 (oStore 6 t2 t35) <|
 sEnd)
sRet)))))⟩
def s44 : List (Nat × Sched) := []
/- emendate/regex.union -/
noncomputable def a45 : AF := ⟨61, [.celln p2 6],
(sSeq (I p2 (oAlloc (.row 0 6 (.node (some (.int .i64 (.ofNat 0))) (.node (some (.int .u64 (.ofNat 0))) (.node (some (.int .u64 (.ofNat 0))) .nil .nil) (.node (some .nils) .nil .nil)) (.node (some (.int .u64 (.ofNat 0))) (.node (some (.int .u64 (.ofNat 0))) .nil .nil) .nil)))) <|
 sEnd)
(sSeq (I p3 (oMov (c .nils)) <|
 sEnd)
(sSeq (sSeq (I p11 (oMov t0) <|
 I p12 (oLenSl t11) <|
 I p13 (oMov (ci 0)) <|
 sEnd)
(sBlock 0 (sLoop (sSeq (I p14 (oLss t13 t12) <|
 sEnd)
(sSeq (sCond t14 sEnd (sExit 0))
(sSeq (sBlock 1 (sSeq (I p15 (oIndexS 6 t11 t13) <|
 I p16 (oLoadn 6 t15) <|
 I p5 (oAlloc (.row 0 6 (.node (some (.int .i64 (.ofNat 0))) (.node (some (.int .u64 (.ofNat 0))) (.node (some (.int .u64 (.ofNat 0))) .nil .nil) (.node (some .nils) .nil .nil)) (.node (some (.int .u64 (.ofNat 0))) (.node (some (.int .u64 (.ofNat 0))) .nil .nil) .nil)))) <|
 I0 (oStore 6 t5 t16) <|
 sEnd)
(sSeq (I p17 (oLoadn 6 t5) <|
 I p18 (oBslice 6 1 [(.int .i64 (.ofNat 0)), (.int .u64 (.ofNat 0)), (.int .u64 (.ofNat 0)), (.int .u64 (.ofNat 0)), (.int .u64 (.ofNat 0)), .nils] [(0, 6, t17)]) <|
 I p6 (oMov t18) <|
 sEnd)
(sSeq (sSeq (I p19 (oFieldAddr t5 0) <|
 I p20 (oLoad1 t19) <|
 I p21 (oEq t20 (ci 5)) <|
 sEnd)
(sCond t21 (I p22 (oFieldAddr t5 5) <|
 I p23 (oLoad1 t22) <|
 I p6 (oMov t23) <|
 sEnd) sEnd))
(sSeq sEnd
(sSeq (I p24 (oMov t6) <|
 I p25 (oLenSl t24) <|
 I p26 (oMov (ci 0)) <|
 sEnd)
(sBlock 2 (sLoop (sSeq (I p27 (oLss t26 t25) <|
 sEnd)
(sSeq (sCond t27 sEnd (sExit 2))
(sSeq (sBlock 3 (sSeq (I p28 (oIndexS 6 t24 t26) <|
 I p29 (oLoadn 6 t28) <|
 I p8 (oAlloc (.row 0 6 (.node (some (.int .i64 (.ofNat 0))) (.node (some (.int .u64 (.ofNat 0))) (.node (some (.int .u64 (.ofNat 0))) .nil .nil) (.node (some .nils) .nil .nil)) (.node (some (.int .u64 (.ofNat 0))) (.node (some (.int .u64 (.ofNat 0))) .nil .nil) .nil)))) <|
 I0 (oStore 6 t8 t29) <|
 sEnd)
(sSeq (sSeq (I p30 (oFieldAddr t8 0) <|
 I p31 (oLoad1 t30) <|
 I p32 (oEq t31 (ci 1)) <|
 sEnd)
(sCond t32 (sExit 3) sEnd))
(sSeq (sSeq (I p33 (oMov t3) <|
 I p34 (oLenSl t33) <|
 I p35 (oMov (ci 0)) <|
 sEnd)
(sBlock 4 (sLoop (sSeq (I p36 (oLss t35 t34) <|
 sEnd)
(sSeq (sCond t36 sEnd (sExit 4))
(sSeq (sBlock 5 (sSeq (I p37 (oIndexS 6 t33 t35) <|
 I p38 (oLoadn 6 t37) <|
 I p10 (oAlloc (.row 0 6 (.node (some (.int .i64 (.ofNat 0))) (.node (some (.int .u64 (.ofNat 0))) (.node (some (.int .u64 (.ofNat 0))) .nil .nil) (.node (some .nils) .nil .nil)) (.node (some (.int .u64 (.ofNat 0))) (.node (some (.int .u64 (.ofNat 0))) .nil .nil) .nil)))) <|
 I0 (oStore 6 t10 t38) <|
 sEnd)
(sSeq (I p39 (oLoadn 6 t10) <|
 I p40 (oLoadn 6 t8) <|
 I p41 (oCallF 72 [t39, t40]) <|
 sEnd)
(sCond t41 (sExit 3) sEnd))))
(I p42 (oAdd t35 (ci 1)) <|
 I p35 (oMov t42) <|
 sEnd)))))))
(I p43 (oMov t3) <|
 I p44 (oLoadn 6 t8) <|
 I p45 (oBslice 6 1 [(.int .i64 (.ofNat 0)), (.int .u64 (.ofNat 0)), (.int .u64 (.ofNat 0)), (.int .u64 (.ofNat 0)), (.int .u64 (.ofNat 0)), .nils] [(0, 6, t44)]) <|
 I p46 (oAppend0 6 t43 t45) <|
 I p3 (oMov t46) <|
 sEnd)))))
(I p47 (oAdd t26 (ci 1)) <|
 I p26 (oMov t47) <|
 sEnd))))))))))))
(I p48 (oAdd t13 (ci 1)) <|
 I p13 (oMov t48) <|
 sEnd)))))))
(sSeq (sSeq (I p49 (oMov t3) <|
 I p50 (oLenSl t49) <|
 sEnd)
(sBlock 6 (sSeq (I p52 (oEq t50 (ci 0)) <|
 I p51 (oMov t52) <|
 sEnd)
(sCond t51 (sSeq (I p53 (oBuild [(.int .i64 (.ofNat 0)), (.int .u64 (.ofNat 0)), (.int .u64 (.ofNat 0)), (.int .u64 (.ofNat 0)), (.int .u64 (.ofNat 0)), .nils] [(0, 1, (ci 1))]) <|
 I0 (oStore 6 t2 t53) <|
 sEnd)
sRet) (sSeq (I p55 (oEq t50 (ci 1)) <|
 I p54 (oMov t55) <|
 sEnd)
(sCond t54 (sSeq (I p56 (oMov t3) <|
 I p57 (oIndexS 6 t56 (ci 0)) <|
 I p58 (oLoadn 6 t57) <|
 I0 (oStore 6 t2 t58) <|
 sEnd)
sRet) sEnd))))))
(sSeq (I p59 (oMov t3) <|
 I p60 (oBuild [(.int .i64 (.ofNat 0)), (.int .u64 (.ofNat 0)), (.int .u64 (.ofNat 0)), (.int .u64 (.ofNat 0)), (.int .u64 (.ofNat 0)), .nils] [(0, 1, (ci 5)), (5, 1, t59)]) <|
 I0 (oStore 6 t2 t60) <|
 sEnd)
sRet)))))⟩
def s45 : List (Nat × Sched) := []
/- emendate/analysis.Productive -/
noncomputable def a49 : AF := ⟨5, [.tmp p2],
(sSeq (I p1 (oBox t0) <|
 I p2 (oMov (c .nils)) <|
 sEnd)
(sSeq (I p3 (oLoadn 4 t1) <|
 I p4 (oCallF 74 [t3, (c (.bool true))]) <|
 I p2 (oMov t4) <|
 sEnd)
sRet))⟩
def s49 : List (Nat × Sched) := []
/- (*emendate/recognizer.earley).predict -/
noncomputable def a50 : AF := ⟨39, [],
(sSeq (I p8 (oMov t0) <|
 I p9 (oNil t8) <|
 I p10 (oFieldAddr t9 0) <|
 I p11 (oFieldAddr t10 3) <|
 I p12 (oLoad1 t11) <|
 I p13 (oLenSl t12) <|
 I p14 (oMov (ci 0)) <|
 sEnd)
(sBlock 0 (sLoop (sSeq (I p15 (oLss t14 t13) <|
 sEnd)
(sSeq (sCond t15 sEnd (sExit 0))
(sSeq (sBlock 1 (sSeq (I p16 (oMov t14) <|
 I p17 (oIndexS 3 t12 t14) <|
 I p18 (oLoadn 3 t17) <|
 I p7 (oAlloc (.row 0 3 (.node (some (.int .i64 (.ofNat 0))) (.node (some .nils) .nil .nil) (.node (some (.int .i64 (.ofNat 0))) .nil .nil)))) <|
 I p6 (oMov t16) <|
 I0 (oStore 3 t7 t18) <|
 sEnd)
(sSeq (I p19 (oFieldAddr t7 0) <|
 I p20 (oLoad1 t19) <|
 I p21 (oMov t2) <|
 I p22 (oEq t20 t21) <|
 I p23 (oMov t22) <|
 G p23 true p24 (oMov t0) <|
 G p23 true p25 (oLoadn 3 t7) <|
 G p23 true p26 (oCallF 75 [t24, t25]) <|
 I p27 (oPick t23 t26 (c (.bool false))) <|
 sEnd)
(sCond t27 (I p28 (oMov t1) <|
 I p29 (oMov t6) <|
 I p30 (oMov t0) <|
 I p31 (oNil t30) <|
 I p32 (oFieldAddr t31 5) <|
 I p33 (oLoad1 t32) <|
 I p34 (oLenSl t33) <|
 I p35 (oSub t34 (ci 1)) <|
 I p36 (oBuild [(.int .i64 (.ofNat 0)), (.int .i64 (.ofNat 0)), (.int .i64 (.ofNat 0))] [(0, 1, t29), (1, 1, (ci 0)), (2, 1, t35)]) <|
 I p37 (oCallF 76 [t28, t36]) <|
 sEnd) sEnd))))
(I p38 (oAdd t14 (ci 1)) <|
 I p14 (oMov t38) <|
 sEnd)))))))⟩
def s50 : List (Nat × Sched) := []
/- (*emendate/recognizer.earley).close -/
noncomputable def a51 : AF := ⟨142, [],
(sSeq (I p13 (oMov t0) <|
 I p14 (oNil t13) <|
 I p15 (oFieldAddr t14 5) <|
 I p16 (oLoad1 t15) <|
 I p17 (oMov t0) <|
 I p18 (oNil t17) <|
 I p19 (oFieldAddr t18 5) <|
 I p20 (oLoad1 t19) <|
 I p21 (oLenSl t20) <|
 I p22 (oSub t21 (ci 1)) <|
 I p23 (oIndexS 1 t16 t22) <|
 I p24 (oLoad1 t23) <|
 I p2 (oMov t24) <|
 sEnd)
(sSeq (I p3 (oMov (c (.bool true))) <|
 sEnd)
(sBlock 0 (sLoop (sSeq (sSeq (I p25 (oMov t3) <|
 sEnd)
(sCond t25 sEnd (sExit 0)))
(sBlock 1 (sSeq (I p26 (oMov t2) <|
 I p27 (oNil t26) <|
 I p28 (oFieldAddr t27 0) <|
 I p29 (oLoad1 t28) <|
 I p30 (oLenSl t29) <|
 I p4 (oMov t30) <|
 sEnd)
(sSeq (sSeq (I p5 (oMov (ci 0)) <|
 sEnd)
(sBlock 2 (sLoop (sSeq (sSeq (I p31 (oMov t5) <|
 I p32 (oMov t2) <|
 I p33 (oNil t32) <|
 I p34 (oFieldAddr t33 0) <|
 I p35 (oLoad1 t34) <|
 I p36 (oLenSl t35) <|
 I p37 (oLss t31 t36) <|
 sEnd)
(sCond t37 sEnd (sExit 2)))
(sSeq (sBlock 3 (sSeq (I p40 (oMov t2) <|
 I p41 (oNil t40) <|
 I p42 (oFieldAddr t41 0) <|
 I p43 (oLoad1 t42) <|
 I p44 (oMov t5) <|
 I p45 (oIndexS 3 t43 t44) <|
 I p46 (oLoadn 3 t45) <|
 I p6 (oAlloc (.row 0 3 (.node (some (.int .i64 (.ofNat 0))) (.node (some (.int .i64 (.ofNat 0))) .nil .nil) (.node (some (.int .i64 (.ofNat 0))) .nil .nil)))) <|
 I0 (oStore 3 t6 t46) <|
 sEnd)
(sSeq (sDraw [⟨0, (some p47), none, .pure, oMov t0⟩,
 ⟨1, (some p48), none, .pure, oNil t47⟩,
 ⟨2, (some p49), none, .pure, oFieldAddr t48 0⟩,
 ⟨3, (some p50), none, .pure, oFieldAddr t49 3⟩,
 ⟨4, (some p51), none, (.load 1 t50), oLoad1 t50⟩,
 ⟨5, (some p52), none, .pure, oFieldAddr t6 0⟩,
 ⟨6, (some p53), none, (.load 1 t52), oLoad1 t52⟩,
 ⟨7, (some p54), none, .pure, oIndexS 3 t51 t53⟩,
 ⟨8, (some p55), none, (.load 3 t54), oLoadn 3 t54⟩,
 ⟨9, (some p7), none, .heavy, oAlloc (.row 0 3 (.node (some (.int .i64 (.ofNat 0))) (.node (some .nils) .nil .nil) (.node (some (.int .i64 (.ofNat 0))) .nil .nil)))⟩,
 ⟨10, none, none, .late, oStore 3 t7 t55⟩])
(sSeq (sSeq (I p56 (oFieldAddr t6 1) <|
 I p57 (oLoad1 t56) <|
 I p58 (oFieldAddr t7 1) <|
 I p59 (oLoad1 t58) <|
 I p60 (oLenSl t59) <|
 I p61 (oLss t57 t60) <|
 sEnd)
(sCond t61 (sSeq (sSeq (I p62 (oFieldAddr t7 1) <|
 I p63 (oLoad1 t62) <|
 I p64 (oFieldAddr t6 1) <|
 I p65 (oLoad1 t64) <|
 I p66 (oIndexS 1 t63 t65) <|
 I p67 (oLoad1 t66) <|
 I p8 (oMov t67) <|
 sEnd)
(sSeq (I p68 (oMov t8) <|
 I p69 (oLss t68 (ci 0)) <|
 sEnd)
(sCond t69 (I p70 (oMov t0) <|
 I p71 (oMov t2) <|
 I p72 (oMov t8) <|
 I p73 (oSub (c (.int .i64 (.negSucc 0))) t72) <|
 I p74 (oCallF 50 [t70, t71, t73]) <|
 sEnd) sEnd)))
(sExit 3)) sEnd))
(sSeq (I p75 (oMov t0) <|
 I p76 (oNil t75) <|
 I p77 (oFieldAddr t76 5) <|
 I p78 (oLoad1 t77) <|
 I p79 (oFieldAddr t6 2) <|
 I p80 (oLoad1 t79) <|
 I p81 (oIndexS 1 t78 t80) <|
 I p82 (oLoad1 t81) <|
 I p9 (oMov t82) <|
 sEnd)
(sSeq (I p10 (oMov (ci 0)) <|
 sEnd)
(sBlock 4 (sLoop (sSeq (sSeq (I p83 (oMov t10) <|
 I p84 (oMov t9) <|
 I p85 (oNil t84) <|
 I p86 (oFieldAddr t85 0) <|
 I p87 (oLoad1 t86) <|
 I p88 (oLenSl t87) <|
 I p89 (oLss t83 t88) <|
 sEnd)
(sCond t89 sEnd (sExit 4)))
(sSeq (sBlock 5 (sSeq (I p92 (oMov t9) <|
 I p93 (oNil t92) <|
 I p94 (oFieldAddr t93 0) <|
 I p95 (oLoad1 t94) <|
 I p96 (oMov t10) <|
 I p97 (oIndexS 3 t95 t96) <|
 I p98 (oLoadn 3 t97) <|
 I p11 (oAlloc (.row 0 3 (.node (some (.int .i64 (.ofNat 0))) (.node (some (.int .i64 (.ofNat 0))) .nil .nil) (.node (some (.int .i64 (.ofNat 0))) .nil .nil)))) <|
 I0 (oStore 3 t11 t98) <|
 sEnd)
(sSeq (I p99 (oMov t0) <|
 I p100 (oNil t99) <|
 I p101 (oFieldAddr t100 0) <|
 I p102 (oFieldAddr t101 3) <|
 I p103 (oLoad1 t102) <|
 I p104 (oFieldAddr t11 0) <|
 I p105 (oLoad1 t104) <|
 I p106 (oIndexS 3 t103 t105) <|
 I p107 (oFieldAddr t106 1) <|
 I p108 (oLoad1 t107) <|
 I p12 (oMov t108) <|
 sEnd)
(sSeq (I p109 (oFieldAddr t11 1) <|
 I p110 (oLoad1 t109) <|
 I p111 (oMov t12) <|
 I p112 (oLenSl t111) <|
 I p113 (oLss t110 t112) <|
 I p114 (oMov t113) <|
 G p114 true p115 (oMov t12) <|
 G p114 true p116 (oFieldAddr t11 1) <|
 G p114 true p117 (oLoad1 t116) <|
 G p114 true p118 (oIndexS 1 t115 t117) <|
 G p114 true p119 (oLoad1 t118) <|
 G p114 true p120 (oFieldAddr t7 0) <|
 G p114 true p121 (oLoad1 t120) <|
 G p114 true p122 (oSub (c (.int .i64 (.negSucc 0))) t121) <|
 G p114 true p123 (oEq t119 t122) <|
 I p124 (oPick t114 t123 (c (.bool false))) <|
 sEnd)
(sCond t124 (I p125 (oMov t2) <|
 I p126 (oFieldAddr t11 0) <|
 I p127 (oLoad1 t126) <|
 I p128 (oFieldAddr t11 1) <|
 I p129 (oLoad1 t128) <|
 I p130 (oAdd t129 (ci 1)) <|
 I p131 (oFieldAddr t11 2) <|
 I p132 (oLoad1 t131) <|
 I p133 (oBuild [(.int .i64 (.ofNat 0)), (.int .i64 (.ofNat 0)), (.int .i64 (.ofNat 0))] [(0, 1, t127), (1, 1, t130), (2, 1, t132)]) <|
 I p134 (oCallF 76 [t125, t133]) <|
 sEnd) sEnd)))))
(I p90 (oMov t10) <|
 I p91 (oAdd t90 (ci 1)) <|
 I p10 (oMov t91) <|
 sEnd)))))))))))
(I p38 (oMov t5) <|
 I p39 (oAdd t38 (ci 1)) <|
 I p5 (oMov t39) <|
 sEnd))))))
(I p135 (oMov t2) <|
 I p136 (oNil t135) <|
 I p137 (oFieldAddr t136 0) <|
 I p138 (oLoad1 t137) <|
 I p139 (oLenSl t138) <|
 I p140 (oMov t4) <|
 I p141 (oGtr t139 t140) <|
 I p3 (oMov t141) <|
 sEnd)))))))))⟩
def s51 : List (Nat × Sched) := [(0, .hoist 0 (.hoist 1 (.hoist 2 (.hoist 3 (.hoist 4 (.hoist 5 (.hoist 6 (.hoist 7 (.hoist 8 (.hoist 9 (.hoist 10 (.hoist 11 (.hoist 12 (.done)))))))))))))), (8, .hoist 0 (.hoist 1 (.hoist 2 (.hoist 3 (.hoist 4 (.hoist 5 (.hoist 6 (.hoist 7 (.hoist 8 (.one 9 (.one 10 (.done)))))))))))), (13, .hoist 0 (.hoist 1 (.hoist 2 (.hoist 3 (.hoist 4 (.hoist 5 (.hoist 6 (.hoist 7 (.hoist 8 (.done)))))))))), (18, .hoist 0 (.hoist 1 (.hoist 2 (.hoist 3 (.hoist 4 (.hoist 5 (.hoist 6 (.hoist 7 (.hoist 8 (.hoist 9 (.hoist 10 (.done)))))))))))), (19, .hoist 0 (.hoist 1 (.hoist 2 (.hoist 3 (.hoist 4 (.hoist 5 (.hoist 6 (.hoist 7 (.hoist 8 (.hoist 9 (.hoist 10 (.hoist 11 (.hoist 12 (.hoist 13 (.hoist 14 (.hoist 15 (.done)))))))))))))))))]
/- (*emendate/recognizer.earley).advance -/
noncomputable def a52 : AF := ⟨81, [],
(sSeq (I p8 (oBuild [.nils, .nilm] []) <|
 I p9 (oBox t8) <|
 I p4 (oMov t9) <|
 sEnd)
(sSeq (sSeq (I p10 (oMov t0) <|
 I p11 (oNil t10) <|
 I p12 (oFieldAddr t11 5) <|
 I p13 (oLoad1 t12) <|
 I p14 (oMov t0) <|
 I p15 (oNil t14) <|
 I p16 (oFieldAddr t15 5) <|
 I p17 (oLoad1 t16) <|
 I p18 (oLenSl t17) <|
 I p19 (oSub t18 (ci 1)) <|
 I p20 (oIndexS 1 t13 t19) <|
 I p21 (oLoad1 t20) <|
 I p22 (oNil t21) <|
 I p23 (oFieldAddr t22 0) <|
 I p24 (oLoad1 t23) <|
 I p25 (oLenSl t24) <|
 I p26 (oMov (ci 0)) <|
 sEnd)
(sBlock 0 (sLoop (sSeq (I p27 (oLss t26 t25) <|
 sEnd)
(sSeq (sCond t27 sEnd (sExit 0))
(sSeq (sBlock 1 (sSeq (I p28 (oIndexS 3 t24 t26) <|
 I p29 (oLoadn 3 t28) <|
 I p6 (oAlloc (.row 0 3 (.node (some (.int .i64 (.ofNat 0))) (.node (some (.int .i64 (.ofNat 0))) .nil .nil) (.node (some (.int .i64 (.ofNat 0))) .nil .nil)))) <|
 I0 (oStore 3 t6 t29) <|
 sEnd)
(sSeq (I p30 (oMov t0) <|
 I p31 (oNil t30) <|
 I p32 (oFieldAddr t31 0) <|
 I p33 (oFieldAddr t32 3) <|
 I p34 (oLoad1 t33) <|
 I p35 (oFieldAddr t6 0) <|
 I p36 (oLoad1 t35) <|
 I p37 (oIndexS 3 t34 t36) <|
 I p38 (oFieldAddr t37 1) <|
 I p39 (oLoad1 t38) <|
 I p7 (oMov t39) <|
 sEnd)
(sSeq (I p40 (oFieldAddr t6 1) <|
 I p41 (oLoad1 t40) <|
 I p42 (oMov t7) <|
 I p43 (oLenSl t42) <|
 I p44 (oLss t41 t43) <|
 I p45 (oMov t44) <|
 G p45 true p46 (oMov t7) <|
 G p45 true p47 (oFieldAddr t6 1) <|
 G p45 true p48 (oLoad1 t47) <|
 G p45 true p49 (oIndexS 1 t46 t48) <|
 G p45 true p50 (oLoad1 t49) <|
 G p45 true p51 (oMov t1) <|
 G p45 true p52 (oEq t50 t51) <|
 I p53 (oPick t45 t52 (c (.bool false))) <|
 I p54 (oMov t53) <|
 G p54 true p55 (oMov t1) <|
 G p54 true p56 (oGeq t55 (ci 0)) <|
 I p57 (oPick t54 t56 (c (.bool false))) <|
 sEnd)
(sCond t57 (I p58 (oMov t4) <|
 I p59 (oFieldAddr t6 0) <|
 I p60 (oLoad1 t59) <|
 I p61 (oFieldAddr t6 1) <|
 I p62 (oLoad1 t61) <|
 I p63 (oAdd t62 (ci 1)) <|
 I p64 (oFieldAddr t6 2) <|
 I p65 (oLoad1 t64) <|
 I p66 (oBuild [(.int .i64 (.ofNat 0)), (.int .i64 (.ofNat 0)), (.int .i64 (.ofNat 0))] [(0, 1, t60), (1, 1, t63), (2, 1, t65)]) <|
 I p67 (oCallF 76 [t58, t66]) <|
 sEnd) sEnd)))))
(I p68 (oAdd t26 (ci 1)) <|
 I p26 (oMov t68) <|
 sEnd)))))))
(sSeq (I p69 (oMov t0) <|
 I p70 (oMov t0) <|
 I p71 (oNil t70) <|
 I p72 (oFieldAddr t71 5) <|
 I p73 (oLoad1 t72) <|
 I p74 (oMov t4) <|
 I p75 (oBslice 1 1 [.nilp] [(0, 1, t74)]) <|
 I p76 (oAppend0 1 t73 t75) <|
 I p77 (oNil t69) <|
 I p78 (oFieldAddr t77 5) <|
 I0 (oStore 1 t78 t76) <|
 sEnd)
(I p79 (oMov t0) <|
 I p80 (oCallF 51 [t79]) <|
 sEnd))))⟩
def s52 : List (Nat × Sched) := [(1, .hoist 0 (.hoist 1 (.hoist 2 (.hoist 3 (.hoist 4 (.hoist 5 (.hoist 6 (.hoist 7 (.hoist 8 (.hoist 9 (.hoist 10 (.hoist 11 (.hoist 12 (.hoist 13 (.hoist 14 (.hoist 15 (.hoist 16 (.done)))))))))))))))))), (4, .hoist 0 (.hoist 1 (.hoist 2 (.hoist 3 (.hoist 4 (.hoist 5 (.hoist 6 (.hoist 7 (.hoist 8 (.hoist 9 (.hoist 10 (.done))))))))))))]
/- slices.ContainsFunc[[]emendate/recognizer.item,emendate/recognizer.item] -/
noncomputable def a53 : AF := ⟨9, [.tmp p4],
(sSeq (I p4 (oMov (c (.bool false))) <|
 sEnd)
(sSeq (I p5 (oMov t0) <|
 I p6 (oMov t1) <|
 I p7 (oCallF 77 [t5, t6]) <|
 I p8 (oGeq t7 (ci 0)) <|
 I p4 (oMov t8) <|
 sEnd)
sRet))⟩
def s53 : List (Nat × Sched) := []
/- (*emendate/recognizer.earley).last -/
noncomputable def a54 : AF := ⟨18, [.tmp p2],
(sSeq (I p2 (oMov (c .nils)) <|
 sEnd)
(sSeq (I p3 (oMov t0) <|
 I p4 (oNil t3) <|
 I p5 (oFieldAddr t4 5) <|
 I p6 (oLoad1 t5) <|
 I p7 (oMov t0) <|
 I p8 (oNil t7) <|
 I p9 (oFieldAddr t8 5) <|
 I p10 (oLoad1 t9) <|
 I p11 (oLenSl t10) <|
 I p12 (oSub t11 (ci 1)) <|
 I p13 (oIndexS 1 t6 t12) <|
 I p14 (oLoad1 t13) <|
 I p15 (oNil t14) <|
 I p16 (oFieldAddr t15 0) <|
 I p17 (oLoad1 t16) <|
 I p2 (oMov t17) <|
 sEnd)
sRet))⟩
def s54 : List (Nat × Sched) := [(1, .hoist 0 (.hoist 1 (.hoist 2 (.hoist 3 (.hoist 4 (.hoist 5 (.hoist 6 (.hoist 7 (.hoist 8 (.hoist 9 (.hoist 10 (.hoist 11 (.hoist 12 (.hoist 13 (.hoist 14 (.hoist 15 (.done)))))))))))))))))]
/- (*emendate/recognizer.earley).sentence$1 -/
noncomputable def a55 : AF := ⟨35, [.tmp p3],
(sSeq (I p2 (oBox t0) <|
 I p3 (oMov (c (.bool false))) <|
 sEnd)
(sSeq (sDraw [⟨0, (some p5), none, (.load 1 t1), oLoad1 t1⟩,
 ⟨1, (some p6), none, .pure, oNil t5⟩,
 ⟨2, (some p7), none, .pure, oFieldAddr t6 0⟩,
 ⟨3, (some p8), none, .pure, oFieldAddr t7 3⟩,
 ⟨4, (some p9), none, (.load 1 t8), oLoad1 t8⟩,
 ⟨5, (some p10), none, .pure, oFieldAddr t2 0⟩,
 ⟨6, (some p11), none, (.load 1 t10), oLoad1 t10⟩,
 ⟨7, (some p12), none, .pure, oIndexS 3 t9 t11⟩,
 ⟨8, (some p13), none, (.load 3 t12), oLoadn 3 t12⟩,
 ⟨9, (some p4), none, .heavy, oAlloc (.row 0 3 (.node (some (.int .i64 (.ofNat 0))) (.node (some .nils) .nil .nil) (.node (some (.int .i64 (.ofNat 0))) .nil .nil)))⟩,
 ⟨10, none, none, .late, oStore 3 t4 t13⟩])
(sSeq (I p14 (oFieldAddr t2 2) <|
 I p15 (oLoad1 t14) <|
 I p16 (oEq t15 (ci 0)) <|
 I p17 (oMov t16) <|
 G p17 true p18 (oFieldAddr t4 0) <|
 G p17 true p19 (oLoad1 t18) <|
 G p17 true p20 (oLoad1 t1) <|
 G p17 true p21 (oNil t20) <|
 G p17 true p22 (oFieldAddr t21 0) <|
 G p17 true p23 (oFieldAddr t22 2) <|
 G p17 true p24 (oLoad1 t23) <|
 G p17 true p25 (oEq t19 t24) <|
 I p26 (oPick t17 t25 (c (.bool false))) <|
 I p27 (oMov t26) <|
 G p27 true p28 (oFieldAddr t2 1) <|
 G p27 true p29 (oLoad1 t28) <|
 G p27 true p30 (oFieldAddr t4 1) <|
 G p27 true p31 (oLoad1 t30) <|
 G p27 true p32 (oLenSl t31) <|
 G p27 true p33 (oEq t29 t32) <|
 I p34 (oPick t27 t33 (c (.bool false))) <|
 I p3 (oMov t34) <|
 sEnd)
sRet)))⟩
def s55 : List (Nat × Sched) := [(1, .hoist 0 (.hoist 1 (.hoist 2 (.hoist 3 (.hoist 4 (.hoist 5 (.hoist 6 (.hoist 7 (.hoist 8 (.one 9 (.one 10 (.done)))))))))))), (2, .hoist 0 (.hoist 1 (.hoist 2 (.hoist 3 (.hoist 4 (.hoist 5 (.hoist 6 (.hoist 7 (.hoist 8 (.hoist 9 (.hoist 10 (.hoist 11 (.hoist 12 (.hoist 13 (.hoist 14 (.hoist 15 (.hoist 16 (.hoist 17 (.hoist 18 (.hoist 19 (.hoist 20 (.hoist 21 (.done)))))))))))))))))))))))]
/- emendate/lexspec.definition$1 -/
noncomputable def a56 : AF := ⟨20, [.tmp p3],
(sSeq (I p3 (oMov (c (.bool false))) <|
 sEnd)
(sSeq (sSeq (I p6 (oLoad1 t0) <|
 I p7 (oLoad1 t1) <|
 I p8 (oSlice 5 t6 none (some t7)) <|
 I p9 (oLenSl t8) <|
 I p10 (oMov (ci 0)) <|
 sEnd)
(sBlock 0 (sLoop (sSeq (I p11 (oLss t10 t9) <|
 sEnd)
(sSeq (sCond t11 sEnd (sExit 0))
(sSeq (sBlock 1 (sSeq (I p12 (oIndexS 5 t8 t10) <|
 I p13 (oLoadn 5 t12) <|
 I p5 (oAlloc (.row 0 5 (.node (some (.str [])) (.node (some (.int .i64 (.ofNat 0))) (.node (some (.str [])) .nil .nil) .nil) (.node (some (.str [])) (.node (some (.str [])) .nil .nil) .nil)))) <|
 I0 (oStore 5 t5 t13) <|
 sEnd)
(sSeq (I p14 (oFieldAddr t5 0) <|
 I p15 (oLoad1 t14) <|
 I p16 (oFieldAddr t2 0) <|
 I p17 (oLoad1 t16) <|
 I p18 (oEq t15 t17) <|
 sEnd)
(sCond t18 (sSeq (I p3 (oMov (c (.bool true))) <|
 sEnd)
sRet) sEnd))))
(I p19 (oAdd t10 (ci 1)) <|
 I p10 (oMov t19) <|
 sEnd)))))))
(sSeq (I p3 (oMov (c (.bool false))) <|
 sEnd)
sRet)))⟩
def s56 : List (Nat × Sched) := []
/- emendate/lexspec.definition$2 -/
noncomputable def a57 : AF := ⟨6, [.tmp p1],
(sSeq (I p1 (oMov (c (.bool false))) <|
 sEnd)
(sSeq (I p2 (oFieldAddr t0 0) <|
 I p3 (oLoad1 t2) <|
 I p4 (oCallF 58 [t3]) <|
 I p5 (oNot t4) <|
 I p1 (oMov t5) <|
 sEnd)
sRet))⟩
def s57 : List (Nat × Sched) := []
/- emendate/lexspec.isName -/
noncomputable def a58 : AF := ⟨72, [.tmp p2],
(sSeq (I p2 (oMov (c (.bool false))) <|
 sEnd)
(sSeq (sSeq (I p6 (oMov t0) <|
 I p7 (oEq t6 (c (.str []))) <|
 I p8 (oMov t7) <|
 G p8 false p9 (oMov t0) <|
 G p8 false p10 (oLenStr t9) <|
 G p8 false p11 (oGtr t10 (ci 24)) <|
 I p12 (oPick t8 (c (.bool true)) t11) <|
 I p13 (oMov t12) <|
 G p13 false p14 (oMov t0) <|
 G p13 false p15 (oIndexA 3 1 (c (.ptr .z 0)) (ci 0)) <|
 G p13 false p16 (oLoad1 t15) <|
 G p13 false p17 (oEq t14 t16) <|
 I p18 (oPick t13 (c (.bool true)) t17) <|
 I p19 (oMov t18) <|
 G p19 false p20 (oMov t0) <|
 G p19 false p21 (oIndexA 3 1 (c (.ptr .z 0)) (ci 1)) <|
 G p19 false p22 (oLoad1 t21) <|
 G p19 false p23 (oEq t20 t22) <|
 I p24 (oPick t19 (c (.bool true)) t23) <|
 I p25 (oMov t24) <|
 G p25 false p26 (oMov t0) <|
 G p25 false p27 (oIndexA 3 1 (c (.ptr .z 0)) (ci 2)) <|
 G p25 false p28 (oLoad1 t27) <|
 G p25 false p29 (oEq t26 t28) <|
 I p30 (oPick t25 (c (.bool true)) t29) <|
 sEnd)
(sCond t30 (sSeq (I p2 (oMov (c (.bool false))) <|
 sEnd)
sRet) sEnd))
(sSeq (sSeq (I p31 (oMov t0) <|
 I p32 (oLenStr t31) <|
 I p33 (oMov (ci 0)) <|
 sEnd)
(sBlock 0 (sLoop (sSeq (I p34 (oLss t33 t32) <|
 sEnd)
(sSeq (sCond t34 sEnd (sExit 0))
(sSeq (sBlock 1 (sSeq (I p35 (oMov t33) <|
 I p3 (oMov t35) <|
 sEnd)
(sSeq (I p36 (oMov t0) <|
 I p37 (oMov t3) <|
 I p38 (oIndexStr t36 t37) <|
 I p4 (oMov t38) <|
 sEnd)
(sSeq (I p39 (oMov t4) <|
 I p40 (oGeq t39 (c (.int .u8 (.ofNat 97)))) <|
 I p41 (oMov t40) <|
 G p41 true p42 (oMov t4) <|
 G p41 true p43 (oLeq t42 (c (.int .u8 (.ofNat 122)))) <|
 I p44 (oPick t41 t43 (c (.bool false))) <|
 I p45 (oMov t44) <|
 G p45 false p46 (oMov t4) <|
 G p45 false p47 (oGeq t46 (c (.int .u8 (.ofNat 65)))) <|
 G p45 false p48 (oMov t47) <|
 G p48 true p49 (oMov t4) <|
 G p48 true p50 (oLeq t49 (c (.int .u8 (.ofNat 90)))) <|
 G p45 false p51 (oPick t48 t50 (c (.bool false))) <|
 I p52 (oPick t45 (c (.bool true)) t51) <|
 I p5 (oMov t52) <|
 sEnd)
(sSeq (I p53 (oMov t5) <|
 I p54 (oNot t53) <|
 I p55 (oMov t54) <|
 G p55 true p56 (oMov t3) <|
 G p55 true p57 (oEq t56 (ci 0)) <|
 G p55 true p58 (oMov t57) <|
 G p58 false p59 (oMov t4) <|
 G p58 false p60 (oNe t59 (c (.int .u8 (.ofNat 95)))) <|
 G p58 false p61 (oMov t60) <|
 G p61 true p62 (oMov t4) <|
 G p61 true p63 (oLss t62 (c (.int .u8 (.ofNat 48)))) <|
 G p61 true p64 (oMov t63) <|
 G p64 false p65 (oMov t4) <|
 G p64 false p66 (oGtr t65 (c (.int .u8 (.ofNat 57)))) <|
 G p61 true p67 (oPick t64 (c (.bool true)) t66) <|
 G p58 false p68 (oPick t61 t67 (c (.bool false))) <|
 G p55 true p69 (oPick t58 (c (.bool true)) t68) <|
 I p70 (oPick t55 t69 (c (.bool false))) <|
 sEnd)
(sCond t70 (sSeq (I p2 (oMov (c (.bool false))) <|
 sEnd)
sRet) sEnd))))))
(I p71 (oAdd t33 (ci 1)) <|
 I p33 (oMov t71) <|
 sEnd)))))))
(sSeq (I p2 (oMov (c (.bool true))) <|
 sEnd)
sRet))))⟩
def s58 : List (Nat × Sched) := []
/- emendate/lexspec.definition$3 -/
noncomputable def a59 : AF := ⟨10, [.tmp p1],
(sSeq (I p1 (oMov (c (.bool false))) <|
 sEnd)
(sSeq (I p2 (oFieldAddr t0 1) <|
 I p3 (oLoad1 t2) <|
 I p4 (oLss t3 (ci 1)) <|
 I p5 (oMov t4) <|
 G p5 false p6 (oFieldAddr t0 1) <|
 G p5 false p7 (oLoad1 t6) <|
 G p5 false p8 (oGtr t7 (ci 3)) <|
 I p9 (oPick t5 (c (.bool true)) t8) <|
 I p1 (oMov t9) <|
 sEnd)
sRet))⟩
def s59 : List (Nat × Sched) := []
/- emendate/lexspec.definition$4 -/
noncomputable def a60 : AF := ⟨4, [.tmp p1],
(sSeq (I p1 (oMov (c (.bool false))) <|
 sEnd)
(sSeq (I p2 (oLoad1 t0) <|
 I p3 (oNe t2 (ci 0)) <|
 I p1 (oMov t3) <|
 sEnd)
sRet))⟩
def s60 : List (Nat × Sched) := []
/- emendate/lexspec.definition$5 -/
noncomputable def a61 : AF := ⟨4, [.tmp p1],
(sSeq (I p1 (oMov (c (.bool false))) <|
 sEnd)
(sSeq (I p2 (oLoadn 6 t0) <|
 I p3 (oCallF 23 [t2]) <|
 I p1 (oMov t3) <|
 sEnd)
sRet))⟩
def s61 : List (Nat × Sched) := []
/- emendate/lexspec.definition$6 -/
noncomputable def a62 : AF := ⟨6, [.tmp p1],
(sSeq (I p1 (oMov (c (.bool false))) <|
 sEnd)
(sSeq (I p2 (oFieldAddr t0 4) <|
 I p3 (oLoad1 t2) <|
 I p4 (oCallF 63 [t3]) <|
 I p5 (oNot t4) <|
 I p1 (oMov t5) <|
 sEnd)
sRet))⟩
def s62 : List (Nat × Sched) := []
/- emendate/lexspec.printable -/
noncomputable def a63 : AF := ⟨20, [.tmp p2],
(sSeq (I p2 (oMov (c (.bool false))) <|
 sEnd)
(sSeq (sSeq (I p4 (oMov t0) <|
 I p5 (oLenStr t4) <|
 I p6 (oMov (ci 0)) <|
 sEnd)
(sBlock 0 (sLoop (sSeq (I p7 (oLss t6 t5) <|
 sEnd)
(sSeq (sCond t7 sEnd (sExit 0))
(sSeq (sBlock 1 (sSeq (I p8 (oMov t6) <|
 I p3 (oMov t8) <|
 sEnd)
(sSeq (I p9 (oMov t0) <|
 I p10 (oMov t3) <|
 I p11 (oIndexStr t9 t10) <|
 I p12 (oLss t11 (c (.int .u8 (.ofNat 32)))) <|
 I p13 (oMov t12) <|
 G p13 false p14 (oMov t0) <|
 G p13 false p15 (oMov t3) <|
 G p13 false p16 (oIndexStr t14 t15) <|
 G p13 false p17 (oGtr t16 (c (.int .u8 (.ofNat 126)))) <|
 I p18 (oPick t13 (c (.bool true)) t17) <|
 sEnd)
(sCond t18 (sSeq (I p2 (oMov (c (.bool false))) <|
 sEnd)
sRet) sEnd))))
(I p19 (oAdd t6 (ci 1)) <|
 I p6 (oMov t19) <|
 sEnd)))))))
(sSeq (I p2 (oMov (c (.bool true))) <|
 sEnd)
sRet)))⟩
def s63 : List (Nat × Sched) := []
/- emendate/nfa.FromRegexes -/
noncomputable def a64 : AF := ⟨133, [.celln p2 4, .tmp p3],
(sSeq (I p2 (oAlloc (.row 0 4 (.node (some (.int .i64 (.ofNat 0))) (.node (some (.int .i64 (.ofNat 0))) (.node (some .nils) .nil .nil) .nil) (.node (some .nils) .nil .nil)))) <|
 I p3 (oMov (ci 0)) <|
 sEnd)
(sSeq (I p4 (oMov (ci 0)) <|
 sEnd)
(sSeq (sSeq (I p19 (oMov t0) <|
 I p20 (oLenSl t19) <|
 I p21 (oMov (ci 0)) <|
 sEnd)
(sBlock 0 (sLoop (sSeq (I p22 (oLss t21 t20) <|
 sEnd)
(sSeq (sCond t22 sEnd (sExit 0))
(sSeq (sBlock 1 (sSeq (I p23 (oIndexS 6 t19 t21) <|
 I p24 (oLoadn 6 t23) <|
 I p6 (oAlloc (.row 0 6 (.node (some (.int .i64 (.ofNat 0))) (.node (some (.int .u64 (.ofNat 0))) (.node (some (.int .u64 (.ofNat 0))) .nil .nil) (.node (some .nils) .nil .nil)) (.node (some (.int .u64 (.ofNat 0))) (.node (some (.int .u64 (.ofNat 0))) .nil .nil) .nil)))) <|
 I0 (oStore 6 t6 t24) <|
 sEnd)
(sSeq (sSeq (I p25 (oLoadn 6 t6) <|
 I p26 (oCallF 21 [t25]) <|
 I p27 (oNot t26) <|
 sEnd)
(sCond t27 (sSeq (I p28 (oBuild [(.int .i64 (.ofNat 0)), (.int .i64 (.ofNat 0)), .nils, .nils] []) <|
 I0 (oStore 4 t2 t28) <|
 I p3 (oMov (ci 1)) <|
 sEnd)
sRet) sEnd))
(I p29 (oMov t4) <|
 I p30 (oLoadn 6 t6) <|
 I p31 (oCallF 78 [t30]) <|
 I p32 (oAdd t29 t31) <|
 I p4 (oMov t32) <|
 sEnd))))
(I p33 (oAdd t21 (ci 1)) <|
 I p21 (oMov t33) <|
 sEnd)))))))
(sSeq (sSeq (I p34 (oMov t4) <|
 I p35 (oGtr t34 (ci 500)) <|
 sEnd)
(sCond t35 (sSeq (I p36 (oBuild [(.int .i64 (.ofNat 0)), (.int .i64 (.ofNat 0)), .nils, .nils] []) <|
 I0 (oStore 4 t2 t36) <|
 I p3 (oMov (ci 11)) <|
 sEnd)
sRet) sEnd))
(sSeq (I p37 (oMkmap) <|
 I p38 (oBslice 1 1 [.nilm] [(0, 1, t37)]) <|
 I p39 (oBuild [.nils, .nils] [(1, 1, t38)]) <|
 I p40 (oBox t39) <|
 I p7 (oMov t40) <|
 sEnd)
(sSeq (I p41 (oBslice 1 1 [(.int .i64 (.ofNat 0))] [(0, 1, (c (.int .i64 (.negSucc 0))))]) <|
 I p8 (oMov t41) <|
 sEnd)
(sSeq (sSeq (I p42 (oMov t0) <|
 I p43 (oLenSl t42) <|
 I p44 (oMov (ci 0)) <|
 sEnd)
(sBlock 2 (sLoop (sSeq (I p45 (oLss t44 t43) <|
 sEnd)
(sSeq (sCond t45 sEnd (sExit 2))
(sSeq (sBlock 3 (sSeq (I p46 (oMov t44) <|
 I p47 (oIndexS 6 t42 t44) <|
 I p48 (oLoadn 6 t47) <|
 I p10 (oAlloc (.row 0 6 (.node (some (.int .i64 (.ofNat 0))) (.node (some (.int .u64 (.ofNat 0))) (.node (some (.int .u64 (.ofNat 0))) .nil .nil) (.node (some .nils) .nil .nil)) (.node (some (.int .u64 (.ofNat 0))) (.node (some (.int .u64 (.ofNat 0))) .nil .nil) .nil)))) <|
 I p9 (oMov t46) <|
 I0 (oStore 6 t10 t48) <|
 sEnd)
(sSeq (I p49 (oMov t7) <|
 I p50 (oLoadn 6 t10) <|
 I p51 (oCallF 79 [t49, t50]) <|
 I p11 (oAlloc (.row 0 3 (.node (some (.bool false)) (.node (some .nils) .nil .nil) (.node (some .nils) .nil .nil)))) <|
 I0 (oStore 3 t11 t51) <|
 sEnd)
(sSeq (I p52 (oMov t7) <|
 I p53 (oBslice 1 1 [(.int .i64 (.ofNat 0))] [(0, 1, (ci 0))]) <|
 I p54 (oFieldAddr t11 1) <|
 I p55 (oLoad1 t54) <|
 I p56 (oCallF 80 [t52, t53, t55]) <|
 sEnd)
(sSeq (sBlock 4 (sLoop (sSeq (sSeq (I p57 (oMov t8) <|
 I p58 (oLenSl t57) <|
 I p59 (oMov t7) <|
 I p60 (oNil t59) <|
 I p61 (oFieldAddr t60 0) <|
 I p62 (oLoad1 t61) <|
 I p63 (oLenSl t62) <|
 I p64 (oLeq t58 t63) <|
 sEnd)
(sCond t64 sEnd (sExit 4)))
(sBlock 5 (I p65 (oMov t8) <|
 I p66 (oBslice 1 1 [(.int .i64 (.ofNat 0))] [(0, 1, (c (.int .i64 (.negSucc 0))))]) <|
 I p67 (oAppend0 1 t65 t66) <|
 I p8 (oMov t67) <|
 sEnd)))))
(sSeq (sSeq (I p68 (oFieldAddr t11 2) <|
 I p69 (oLoad1 t68) <|
 I p70 (oLenSl t69) <|
 I p71 (oMov (ci 0)) <|
 sEnd)
(sBlock 6 (sLoop (sSeq (I p72 (oLss t71 t70) <|
 sEnd)
(sSeq (sCond t72 sEnd (sExit 6))
(sSeq (sBlock 7 (sSeq (I p73 (oIndexS 1 t69 t71) <|
 I p74 (oLoad1 t73) <|
 I p13 (oMov t74) <|
 sEnd)
(I p75 (oMov t8) <|
 I p76 (oMov t13) <|
 I p77 (oMov t9) <|
 I p78 (oIndexS 1 t75 t76) <|
 I0 (oStore 1 t78 t77) <|
 sEnd)))
(I p79 (oAdd t71 (ci 1)) <|
 I p71 (oMov t79) <|
 sEnd)))))))
(sSeq (I p80 (oFieldAddr t11 0) <|
 I p81 (oLoad1 t80) <|
 I p82 (oMov t81) <|
 G p82 true p83 (oMov t8) <|
 G p82 true p84 (oIndexS 1 t83 (ci 0)) <|
 G p82 true p85 (oLoad1 t84) <|
 G p82 true p86 (oLss t85 (ci 0)) <|
 I p87 (oPick t82 t86 (c (.bool false))) <|
 sEnd)
(sCond t87 (I p88 (oMov t8) <|
 I p89 (oMov t9) <|
 I p90 (oIndexS 1 t88 (ci 0)) <|
 I0 (oStore 1 t90 t89) <|
 sEnd) sEnd))))))))
(I p91 (oAdd t44 (ci 1)) <|
 I p44 (oMov t91) <|
 sEnd)))))))
(sSeq (I p92 (oMov t8) <|
 I p93 (oLenSl t92) <|
 I p94 (oMov t8) <|
 I p95 (oBuild [(.int .i64 (.ofNat 0)), (.int .i64 (.ofNat 0)), .nils, .nils] [(0, 1, t93), (3, 1, t94)]) <|
 I p14 (oAlloc (.row 0 4 (.node (some (.int .i64 (.ofNat 0))) (.node (some (.int .i64 (.ofNat 0))) (.node (some .nils) .nil .nil) .nil) (.node (some .nils) .nil .nil)))) <|
 I0 (oStore 4 t14 t95) <|
 sEnd)
(sSeq (sSeq (I p96 (oMov t7) <|
 I p97 (oNil t96) <|
 I p98 (oFieldAddr t97 1) <|
 I p99 (oLoad1 t98) <|
 I p100 (oLenSl t99) <|
 I p101 (oMov (ci 0)) <|
 sEnd)
(sBlock 8 (sLoop (sSeq (I p102 (oLss t101 t100) <|
 sEnd)
(sSeq (sCond t102 sEnd (sExit 8))
(sSeq (sBlock 9 (sSeq (I p103 (oMov t101) <|
 I p104 (oIndexS 1 t99 t101) <|
 I p105 (oLoad1 t104) <|
 I p15 (oMov t103) <|
 I p16 (oMov t105) <|
 sEnd)
(sSeq (I p106 (oMov t16) <|
 I p107 (oCallF 82 [t106]) <|
 I p108 (oCallF 81 [t107]) <|
 I p109 (oLenSl t108) <|
 I p110 (oMov (ci 0)) <|
 sEnd)
(sBlock 10 (sLoop (sSeq (I p111 (oLss t110 t109) <|
 sEnd)
(sSeq (sCond t111 sEnd (sExit 10))
(sSeq (sBlock 11 (sSeq (I p112 (oIndexS 1 t108 t110) <|
 I p113 (oLoad1 t112) <|
 I p18 (oMov t113) <|
 sEnd)
(sDraw [⟨0, (some p114), none, .pure, oFieldAddr t14 2⟩,
 ⟨1, (some p115), none, (.load 1 t114), oLoad1 t114⟩,
 ⟨2, (some p116), none, .pure, oMov t15⟩,
 ⟨3, (some p117), none, .pure, oMov t18⟩,
 ⟨4, (some p118), none, .pure, oMov t7⟩,
 ⟨5, (some p119), none, .pure, oNil t118⟩,
 ⟨6, (some p120), none, .pure, oFieldAddr t119 0⟩,
 ⟨7, (some p121), none, (.load 1 t120), oLoad1 t120⟩,
 ⟨8, (some p122), none, .pure, oMov t18⟩,
 ⟨9, (some p123), none, .pure, oSub t122 (ci 1)⟩,
 ⟨10, (some p124), none, .pure, oIndexS 4 t121 t123⟩,
 ⟨11, (some p125), none, (.load 4 t124), oLoadn 4 t124⟩,
 ⟨12, (some p126), none, .pure, oBuild [(.int .i64 (.ofNat 0)), (.int .i64 (.ofNat 0)), (.bool false), (.int .u64 (.ofNat 0)), (.int .u64 (.ofNat 0)), (.int .u64 (.ofNat 0)), (.int .u64 (.ofNat 0))] [(0, 1, t116), (1, 1, t117), (3, 4, t125)]⟩,
 ⟨13, (some p127), none, .heavy, oBslice 7 1 [(.int .i64 (.ofNat 0)), (.int .i64 (.ofNat 0)), (.bool false), (.int .u64 (.ofNat 0)), (.int .u64 (.ofNat 0)), (.int .u64 (.ofNat 0)), (.int .u64 (.ofNat 0))] [(0, 7, t126)]⟩,
 ⟨14, (some p128), none, .late, oAppend0 7 t115 t127⟩,
 ⟨15, (some p129), none, .pure, oFieldAddr t14 2⟩,
 ⟨16, none, none, .late, oStore 1 t129 t128⟩])))
(I p130 (oAdd t110 (ci 1)) <|
 I p110 (oMov t130) <|
 sEnd)))))))))
(I p131 (oAdd t101 (ci 1)) <|
 I p101 (oMov t131) <|
 sEnd)))))))
(sSeq (I p132 (oLoadn 4 t14) <|
 I0 (oStore 4 t2 t132) <|
 I p3 (oMov (ci 0)) <|
 sEnd)
sRet))))))))))⟩
def s64 : List (Nat × Sched) := [(35, .hoist 0 (.hoist 1 (.hoist 2 (.hoist 3 (.hoist 4 (.hoist 5 (.hoist 6 (.hoist 7 (.hoist 8 (.hoist 9 (.hoist 10 (.hoist 11 (.hoist 12 (.one 13 (.one 14 (.hoist 15 (.one 16 (.done))))))))))))))))))]
/- emendate/dfa.Determinize -/
noncomputable def a65 : AF := ⟨127, [.celln p2 3, .tmp p3],
(sSeq (I p1 (oBox t0) <|
 I p2 (oAlloc (.row 0 3 (.node (some .nils) (.node (some .nils) .nil .nil) (.node (some .nils) .nil .nil)))) <|
 I p3 (oMov (ci 0)) <|
 sEnd)
(sSeq (sSeq (I p18 (oLoadn 4 t1) <|
 I p19 (oCallF 83 [t18]) <|
 I p20 (oNot t19) <|
 sEnd)
(sCond t20 (sSeq (I p21 (oBuild [.nils, .nils, .nils] []) <|
 I0 (oStore 3 t2 t21) <|
 I p3 (oMov (ci 1)) <|
 sEnd)
sRet) sEnd))
(sSeq (I p4 (oMov (c .nils)) <|
 sEnd)
(sSeq (sSeq (I p22 (oFieldAddr t1 2) <|
 I p23 (oLoad1 t22) <|
 I p24 (oLenSl t23) <|
 I p25 (oMov (ci 0)) <|
 sEnd)
(sBlock 0 (sLoop (sSeq (I p26 (oLss t25 t24) <|
 sEnd)
(sSeq (sCond t26 sEnd (sExit 0))
(sSeq (sBlock 1 (sSeq (I p27 (oIndexS 7 t23 t25) <|
 I p28 (oLoadn 7 t27) <|
 I p6 (oAlloc (.row 0 7 (.node (some (.int .i64 (.ofNat 0))) (.node (some (.int .i64 (.ofNat 0))) (.node (some (.int .u64 (.ofNat 0))) .nil .nil) (.node (some (.int .u64 (.ofNat 0))) .nil .nil)) (.node (some (.bool false)) (.node (some (.int .u64 (.ofNat 0))) .nil .nil) (.node (some (.int .u64 (.ofNat 0))) .nil .nil))))) <|
 I0 (oStore 7 t6 t28) <|
 sEnd)
(I p29 (oMov t4) <|
 I p30 (oFieldAddr t6 3) <|
 I p31 (oLoadn 4 t30) <|
 I p32 (oBslice 4 1 [(.int .u64 (.ofNat 0)), (.int .u64 (.ofNat 0)), (.int .u64 (.ofNat 0)), (.int .u64 (.ofNat 0))] [(0, 4, t31)]) <|
 I p33 (oAppend0 4 t29 t32) <|
 I p4 (oMov t33) <|
 sEnd)))
(I p34 (oAdd t25 (ci 1)) <|
 I p25 (oMov t34) <|
 sEnd)))))))
(sSeq (I p35 (oMov t4) <|
 I p36 (oCallF 84 [t35]) <|
 I p37 (oBuild [.nils, .nils, .nils] [(0, 1, t36)]) <|
 I p7 (oAlloc (.row 0 3 (.node (some .nils) (.node (some .nils) .nil .nil) (.node (some .nils) .nil .nil)))) <|
 I0 (oStore 3 t7 t37) <|
 sEnd)
(sSeq (I p38 (oFieldAddr t7 0) <|
 I p39 (oLoad1 t38) <|
 I p40 (oCallF 85 [t39]) <|
 I p8 (oMov t40) <|
 sEnd)
(sSeq (I p41 (oLoadn 4 t1) <|
 I p42 (oFieldAddr t1 1) <|
 I p43 (oLoad1 t42) <|
 I p44 (oBslice 1 1 [(.int .i64 (.ofNat 0))] [(0, 1, t43)]) <|
 I p45 (oCallF 86 [t41, t44]) <|
 I p46 (oBslice 1 1 [.nils] [(0, 1, t45)]) <|
 I p9 (oMov t46) <|
 sEnd)
(sSeq (I p47 (oMkmap) <|
 I p48 (oMov t9) <|
 I p49 (oIndexS 1 t48 (ci 0)) <|
 I p50 (oLoad1 t49) <|
 I p51 (oCallF 87 [t50]) <|
 I0 (oMapset keqS t47 t51 (ci 0)) <|
 I p52 (oMov t47) <|
 I p10 (oMov t52) <|
 sEnd)
(sSeq (sSeq (I p11 (oMov (ci 0)) <|
 sEnd)
(sBlock 2 (sLoop (sSeq (sSeq (I p53 (oMov t11) <|
 I p54 (oMov t9) <|
 I p55 (oLenSl t54) <|
 I p56 (oLss t53 t55) <|
 sEnd)
(sCond t56 sEnd (sExit 2)))
(sSeq (sBlock 3 (sSeq (I p59 (oMov t8) <|
 I p60 (oLenSl t59) <|
 I p61 (oMkslice 1 [(.int .i64 (.ofNat 0))] t60 t60) <|
 I p12 (oMov t61) <|
 sEnd)
(sSeq (sSeq (I p62 (oMov t8) <|
 I p63 (oLenSl t62) <|
 I p64 (oMov (ci 0)) <|
 sEnd)
(sBlock 4 (sLoop (sSeq (I p65 (oLss t64 t63) <|
 sEnd)
(sSeq (sCond t65 sEnd (sExit 4))
(sSeq (sBlock 5 (sSeq (I p66 (oMov t64) <|
 I p67 (oIndexS 1 t62 t64) <|
 I p68 (oLoad1 t67) <|
 I p13 (oMov t66) <|
 I p14 (oMov t68) <|
 sEnd)
(sSeq (I p69 (oLoadn 4 t1) <|
 I p70 (oMov t9) <|
 I p71 (oMov t11) <|
 I p72 (oIndexS 1 t70 t71) <|
 I p73 (oLoad1 t72) <|
 I p74 (oMov t14) <|
 I p75 (oCallF 88 [t69, t73, t74]) <|
 I p15 (oMov t75) <|
 sEnd)
(sSeq (I p76 (oMov t12) <|
 I p77 (oMov t13) <|
 I p78 (oIndexS 1 t76 t77) <|
 I0 (oStore 1 t78 (c (.int .i64 (.negSucc 0)))) <|
 sEnd)
(sSeq (sSeq (I p79 (oMov t15) <|
 I p80 (oLenSl t79) <|
 I p81 (oEq t80 (ci 0)) <|
 sEnd)
(sCond t81 (sExit 5) sEnd))
(sSeq (I p83 (oMov t10) <|
 I p84 (oMov t15) <|
 I p85 (oCallF 87 [t84]) <|
 I p86 (oLookup keqS (.int .i64 (.ofNat 0)) t83 t85 true) <|
 I p82 (oMov t86) <|
 I p87 (oExtract t82 0) <|
 I p88 (oExtract t82 1) <|
 I p16 (oMov t87) <|
 I p17 (oMov t88) <|
 sEnd)
(sSeq (sSeq (I p89 (oMov t17) <|
 I p90 (oNot t89) <|
 sEnd)
(sCond t90 (sSeq (I p91 (oMov t9) <|
 I p92 (oLenSl t91) <|
 I p16 (oMov t92) <|
 sEnd)
(sSeq (sSeq (I p93 (oMov t16) <|
 I p94 (oEq t93 (ci 500)) <|
 sEnd)
(sCond t94 (sSeq (I p95 (oBuild [.nils, .nils, .nils] []) <|
 I0 (oStore 3 t2 t95) <|
 I p3 (oMov (ci 11)) <|
 sEnd)
sRet) sEnd))
(sSeq (I p96 (oMov t10) <|
 I p97 (oMov t15) <|
 I p98 (oCallF 87 [t97]) <|
 I p99 (oMov t16) <|
 I0 (oMapset keqS t96 t98 t99) <|
 sEnd)
(I p100 (oMov t9) <|
 I p101 (oMov t15) <|
 I p102 (oBslice 1 1 [.nils] [(0, 1, t101)]) <|
 I p103 (oAppend0 1 t100 t102) <|
 I p9 (oMov t103) <|
 sEnd)))) sEnd))
(I p104 (oMov t12) <|
 I p105 (oMov t13) <|
 I p106 (oMov t16) <|
 I p107 (oIndexS 1 t104 t105) <|
 I0 (oStore 1 t107 t106) <|
 sEnd))))))))
(I p108 (oAdd t64 (ci 1)) <|
 I p64 (oMov t108) <|
 sEnd)))))))
(sSeq (I p109 (oFieldAddr t7 1) <|
 I p110 (oLoad1 t109) <|
 I p111 (oMov t12) <|
 I p112 (oBslice 1 1 [.nils] [(0, 1, t111)]) <|
 I p113 (oAppend0 1 t110 t112) <|
 I p114 (oFieldAddr t7 1) <|
 I0 (oStore 1 t114 t113) <|
 sEnd)
(sDraw [⟨0, (some p115), none, .pure, oFieldAddr t7 2⟩,
 ⟨1, (some p116), none, (.load 1 t115), oLoad1 t115⟩,
 ⟨2, (some p117), none, (.load 4 t1), oLoadn 4 t1⟩,
 ⟨3, (some p118), none, .pure, oMov t9⟩,
 ⟨4, (some p119), none, .pure, oMov t11⟩,
 ⟨5, (some p120), none, .pure, oIndexS 1 t118 t119⟩,
 ⟨6, (some p121), none, (.load 1 t120), oLoad1 t120⟩,
 ⟨7, (some p122), none, .heavy, oCallF 89 [t117, t121]⟩,
 ⟨8, (some p123), none, .heavy, oBslice 1 1 [(.int .i64 (.ofNat 0))] [(0, 1, t122)]⟩,
 ⟨9, (some p124), none, .late, oAppend0 1 t116 t123⟩,
 ⟨10, (some p125), none, .pure, oFieldAddr t7 2⟩,
 ⟨11, none, none, .late, oStore 1 t125 t124⟩])))))
(I p57 (oMov t11) <|
 I p58 (oAdd t57 (ci 1)) <|
 I p11 (oMov t58) <|
 sEnd))))))
(sSeq (I p126 (oLoadn 3 t7) <|
 I0 (oStore 3 t2 t126) <|
 I p3 (oMov (ci 0)) <|
 sEnd)
sRet))))))))))⟩
def s65 : List (Nat × Sched) := [(20, .hoist 0 (.hoist 1 (.hoist 2 (.hoist 3 (.hoist 4 (.hoist 5 (.one 6 (.hoist 7 (.done))))))))), (33, .hoist 0 (.hoist 1 (.hoist 2 (.hoist 3 (.hoist 4 (.hoist 5 (.hoist 6 (.one 7 (.one 8 (.one 9 (.hoist 10 (.one 11 (.done)))))))))))))]
/- emendate/dfa.Minimize -/
noncomputable def a66 : AF := ⟨112, [.celln p2 3],
(sSeq (I p1 (oBox t0) <|
 I p2 (oAlloc (.row 0 3 (.node (some .nils) (.node (some .nils) .nil .nil) (.node (some .nils) .nil .nil)))) <|
 sEnd)
(sSeq (I p15 (oLoadn 3 t1) <|
 I p16 (oCallF 91 [t15]) <|
 I p17 (oCallF 90 [t16]) <|
 I0 (oStore 3 t1 t17) <|
 sEnd)
(sSeq (I p18 (oLoadn 3 t1) <|
 I p19 (oCallF 92 [t18]) <|
 I p3 (oMov t19) <|
 sEnd)
(sSeq (sDraw [⟨0, (some p20), none, (.load 3 t1), oLoadn 3 t1⟩,
 ⟨1, (some p21), none, (.load 3 t1), oLoadn 3 t1⟩,
 ⟨2, (some p22), none, .pure, oMov t3⟩,
 ⟨4, (some p24), none, .pure, oMov t3⟩,
 ⟨3, (some p23), none, .heavy, oCallF 94 [t21, t22]⟩,
 ⟨5, (some p25), none, .heavy, oCallF 93 [t20, t23, t24]⟩,
 ⟨6, (some p26), none, .pure, oBuild [.nils, .nils, .nils] [(0, 1, t25)]⟩,
 ⟨7, (some p4), none, .heavy, oAlloc (.row 0 3 (.node (some .nils) (.node (some .nils) .nil .nil) (.node (some .nils) .nil .nil)))⟩,
 ⟨8, none, none, .late, oStore 3 t4 t26⟩])
(sSeq (I p27 (oFieldAddr t4 0) <|
 I p28 (oLoad1 t27) <|
 I p29 (oCallF 85 [t28]) <|
 I p5 (oMov t29) <|
 sEnd)
(sSeq (I p30 (oBslice 1 1 [(.int .i64 (.ofNat 0))] [(0, 1, (ci 0))]) <|
 I p6 (oMov t30) <|
 sEnd)
(sSeq (I p31 (oMkmap) <|
 I p32 (oMov t3) <|
 I p33 (oIndexS 1 t32 (ci 0)) <|
 I p34 (oLoad1 t33) <|
 I0 (oMapset keqI t31 t34 (ci 0)) <|
 I p35 (oMov t31) <|
 I p7 (oMov t35) <|
 sEnd)
(sSeq (sSeq (I p8 (oMov (ci 0)) <|
 sEnd)
(sBlock 0 (sLoop (sSeq (sSeq (I p36 (oMov t8) <|
 I p37 (oMov t6) <|
 I p38 (oLenSl t37) <|
 I p39 (oLss t36 t38) <|
 sEnd)
(sCond t39 sEnd (sExit 0)))
(sSeq (sBlock 1 (sSeq (I p42 (oMov t5) <|
 I p43 (oLenSl t42) <|
 I p44 (oMkslice 1 [(.int .i64 (.ofNat 0))] t43 t43) <|
 I p9 (oMov t44) <|
 sEnd)
(sSeq (sSeq (I p45 (oMov t5) <|
 I p46 (oLenSl t45) <|
 I p47 (oMov (ci 0)) <|
 sEnd)
(sBlock 2 (sLoop (sSeq (I p48 (oLss t47 t46) <|
 sEnd)
(sSeq (sCond t48 sEnd (sExit 2))
(sSeq (sBlock 3 (sSeq (I p49 (oMov t47) <|
 I p50 (oIndexS 1 t45 t47) <|
 I p51 (oLoad1 t50) <|
 I p10 (oMov t49) <|
 I p11 (oMov t51) <|
 sEnd)
(sSeq (I p52 (oLoadn 3 t1) <|
 I p53 (oMov t6) <|
 I p54 (oMov t8) <|
 I p55 (oIndexS 1 t53 t54) <|
 I p56 (oLoad1 t55) <|
 I p57 (oMov t11) <|
 I p58 (oCallF 67 [t52, t56, t57]) <|
 I p12 (oMov t58) <|
 sEnd)
(sSeq (I p59 (oMov t9) <|
 I p60 (oMov t10) <|
 I p61 (oIndexS 1 t59 t60) <|
 I0 (oStore 1 t61 (c (.int .i64 (.negSucc 0)))) <|
 sEnd)
(sSeq (sSeq (I p62 (oMov t12) <|
 I p63 (oLss t62 (ci 0)) <|
 sEnd)
(sCond t63 (sExit 3) sEnd))
(sSeq (I p65 (oMov t7) <|
 I p66 (oMov t3) <|
 I p67 (oMov t12) <|
 I p68 (oIndexS 1 t66 t67) <|
 I p69 (oLoad1 t68) <|
 I p70 (oLookup keqI (.int .i64 (.ofNat 0)) t65 t69 true) <|
 I p64 (oMov t70) <|
 I p71 (oExtract t64 0) <|
 I p72 (oExtract t64 1) <|
 I p13 (oMov t71) <|
 I p14 (oMov t72) <|
 sEnd)
(sSeq (sSeq (I p73 (oMov t14) <|
 I p74 (oNot t73) <|
 sEnd)
(sCond t74 (sSeq (I p75 (oMov t6) <|
 I p76 (oLenSl t75) <|
 I p13 (oMov t76) <|
 sEnd)
(sSeq (I p77 (oMov t7) <|
 I p78 (oMov t3) <|
 I p79 (oMov t12) <|
 I p80 (oIndexS 1 t78 t79) <|
 I p81 (oLoad1 t80) <|
 I p82 (oMov t13) <|
 I0 (oMapset keqI t77 t81 t82) <|
 sEnd)
(I p83 (oMov t6) <|
 I p84 (oMov t12) <|
 I p85 (oBslice 1 1 [(.int .i64 (.ofNat 0))] [(0, 1, t84)]) <|
 I p86 (oAppend0 1 t83 t85) <|
 I p6 (oMov t86) <|
 sEnd))) sEnd))
(I p87 (oMov t9) <|
 I p88 (oMov t10) <|
 I p89 (oMov t13) <|
 I p90 (oIndexS 1 t87 t88) <|
 I0 (oStore 1 t90 t89) <|
 sEnd))))))))
(I p91 (oAdd t47 (ci 1)) <|
 I p47 (oMov t91) <|
 sEnd)))))))
(sSeq (I p92 (oFieldAddr t4 1) <|
 I p93 (oLoad1 t92) <|
 I p94 (oMov t9) <|
 I p95 (oBslice 1 1 [.nils] [(0, 1, t94)]) <|
 I p96 (oAppend0 1 t93 t95) <|
 I p97 (oFieldAddr t4 1) <|
 I0 (oStore 1 t97 t96) <|
 sEnd)
(sDraw [⟨0, (some p98), none, .pure, oFieldAddr t4 2⟩,
 ⟨1, (some p99), none, (.load 1 t98), oLoad1 t98⟩,
 ⟨2, (some p100), none, .pure, oFieldAddr t1 2⟩,
 ⟨3, (some p101), none, (.load 1 t100), oLoad1 t100⟩,
 ⟨4, (some p102), none, .pure, oMov t6⟩,
 ⟨5, (some p103), none, .pure, oMov t8⟩,
 ⟨6, (some p104), none, .pure, oIndexS 1 t102 t103⟩,
 ⟨7, (some p105), none, (.load 1 t104), oLoad1 t104⟩,
 ⟨8, (some p106), none, .pure, oIndexS 1 t101 t105⟩,
 ⟨9, (some p107), none, (.load 1 t106), oLoad1 t106⟩,
 ⟨10, (some p108), none, .heavy, oBslice 1 1 [(.int .i64 (.ofNat 0))] [(0, 1, t107)]⟩,
 ⟨11, (some p109), none, .late, oAppend0 1 t99 t108⟩,
 ⟨12, (some p110), none, .pure, oFieldAddr t4 2⟩,
 ⟨13, none, none, .late, oStore 1 t110 t109⟩])))))
(I p40 (oMov t8) <|
 I p41 (oAdd t40 (ci 1)) <|
 I p8 (oMov t41) <|
 sEnd))))))
(sSeq (I p111 (oLoadn 3 t4) <|
 I0 (oStore 3 t2 t111) <|
 sEnd)
sRet)))))))))⟩
def s66 : List (Nat × Sched) := [(3, .hoist 0 (.hoist 1 (.hoist 2 (.hoist 4 (.two 3 (.two 5 (.hoist 6 (.one 7 (.one 8 (.done)))) 7 (.one 5 (.hoist 6 (.one 8 (.done))))) 7 (.one 3 (.one 5 (.hoist 6 (.one 8 (.done)))))))))), (14, .hoist 0 (.hoist 1 (.hoist 2 (.hoist 3 (.hoist 4 (.hoist 5 (.one 6 (.hoist 7 (.done))))))))), (25, .hoist 0 (.hoist 1 (.hoist 2 (.hoist 3 (.hoist 4 (.hoist 5 (.hoist 6 (.hoist 7 (.hoist 8 (.hoist 9 (.one 10 (.one 11 (.hoist 12 (.one 13 (.done)))))))))))))))]
/- emendate/dfa.step -/
noncomputable def a67 : AF := ⟨21, [.tmp p6],
(sSeq (I p3 (oBox t0) <|
 I p6 (oMov (ci 0)) <|
 sEnd)
(sSeq (sSeq (I p7 (oMov t1) <|
 I p8 (oLss t7 (ci 0)) <|
 sEnd)
(sCond t8 (sSeq (I p6 (oMov (c (.int .i64 (.negSucc 0)))) <|
 sEnd)
sRet) sEnd))
(sSeq (I p9 (oFieldAddr t3 1) <|
 I p10 (oLoad1 t9) <|
 I p11 (oMov t1) <|
 I p12 (oIndexS 1 t10 t11) <|
 I p13 (oLoad1 t12) <|
 I p14 (oFieldAddr t3 0) <|
 I p15 (oLoad1 t14) <|
 I p16 (oMov t2) <|
 I p17 (oIndexS 1 t15 t16) <|
 I p18 (oLoad1 t17) <|
 I p19 (oIndexS 1 t13 t18) <|
 I p20 (oLoad1 t19) <|
 I p6 (oMov t20) <|
 sEnd)
sRet)))⟩
def s67 : List (Nat × Sched) := [(3, .hoist 0 (.hoist 1 (.hoist 2 (.hoist 3 (.hoist 4 (.hoist 5 (.hoist 6 (.hoist 7 (.hoist 8 (.hoist 9 (.hoist 10 (.hoist 11 (.hoist 12 (.done))))))))))))))]
/- emendate/dfa.result -/
noncomputable def a68 : AF := ⟨12, [.tmp p4],
(sSeq (I p2 (oBox t0) <|
 I p4 (oMov (ci 0)) <|
 sEnd)
(sSeq (sSeq (I p5 (oMov t1) <|
 I p6 (oLss t5 (ci 0)) <|
 sEnd)
(sCond t6 (sSeq (I p4 (oMov (c (.int .i64 (.negSucc 0)))) <|
 sEnd)
sRet) sEnd))
(sSeq (I p7 (oFieldAddr t2 2) <|
 I p8 (oLoad1 t7) <|
 I p9 (oMov t1) <|
 I p10 (oIndexS 1 t8 t9) <|
 I p11 (oLoad1 t10) <|
 I p4 (oMov t11) <|
 sEnd)
sRet)))⟩
def s68 : List (Nat × Sched) := []
/- emendate/lexspec.literal -/
noncomputable def a69 : AF := ⟨30, [.celln p2 6],
(sSeq (I p2 (oAlloc (.row 0 6 (.node (some (.int .i64 (.ofNat 0))) (.node (some (.int .u64 (.ofNat 0))) (.node (some (.int .u64 (.ofNat 0))) .nil .nil) (.node (some .nils) .nil .nil)) (.node (some (.int .u64 (.ofNat 0))) (.node (some (.int .u64 (.ofNat 0))) .nil .nil) .nil)))) <|
 sEnd)
(sSeq (I p3 (oMov (c .nils)) <|
 sEnd)
(sSeq (sSeq (I p5 (oMov t0) <|
 I p6 (oLenStr t5) <|
 I p7 (oMov (ci 0)) <|
 sEnd)
(sBlock 0 (sLoop (sSeq (I p8 (oLss t7 t6) <|
 sEnd)
(sSeq (sCond t8 sEnd (sExit 0))
(sSeq (sBlock 1 (sSeq (I p9 (oMov t7) <|
 I p4 (oMov t9) <|
 sEnd)
(I p10 (oMov t3) <|
 I p11 (oMov t0) <|
 I p12 (oMov t4) <|
 I p13 (oIndexStr t11 t12) <|
 I p14 (oMov t0) <|
 I p15 (oMov t4) <|
 I p16 (oIndexStr t14 t15) <|
 I p17 (oCallF 95 [t13, t16]) <|
 I p18 (oBuild [(.int .i64 (.ofNat 0)), (.int .u64 (.ofNat 0)), (.int .u64 (.ofNat 0)), (.int .u64 (.ofNat 0)), (.int .u64 (.ofNat 0)), .nils] [(0, 1, (ci 3)), (1, 4, t17)]) <|
 I p19 (oBslice 6 1 [(.int .i64 (.ofNat 0)), (.int .u64 (.ofNat 0)), (.int .u64 (.ofNat 0)), (.int .u64 (.ofNat 0)), (.int .u64 (.ofNat 0)), .nils] [(0, 6, t18)]) <|
 I p20 (oAppend0 6 t10 t19) <|
 I p3 (oMov t20) <|
 sEnd)))
(I p21 (oAdd t7 (ci 1)) <|
 I p7 (oMov t21) <|
 sEnd)))))))
(sSeq (sSeq (I p22 (oMov t3) <|
 I p23 (oLenSl t22) <|
 I p24 (oEq t23 (ci 1)) <|
 sEnd)
(sCond t24 (sSeq (I p25 (oMov t3) <|
 I p26 (oIndexS 6 t25 (ci 0)) <|
 I p27 (oLoadn 6 t26) <|
 I0 (oStore 6 t2 t27) <|
 sEnd)
sRet) sEnd))
(sSeq (I p28 (oMov t3) <|
 I p29 (oBuild [(.int .i64 (.ofNat 0)), (.int .u64 (.ofNat 0)), (.int .u64 (.ofNat 0)), (.int .u64 (.ofNat 0)), (.int .u64 (.ofNat 0)), .nils] [(0, 1, (ci 4)), (5, 1, t28)]) <|
 I0 (oStore 6 t2 t29) <|
 sEnd)
sRet)))))⟩
def s69 : List (Nat × Sched) := [(5, .hoist 0 (.hoist 1 (.hoist 2 (.hoist 3 (.hoist 4 (.hoist 5 (.hoist 6 (.one 7 (.hoist 8 (.one 9 (.one 10 (.hoist 11 (.done)))))))))))))]
/- emendate/dfa.Difference -/
noncomputable def a70 : AF := ⟨85, [.tmp p4, .tmp p5],
(sSeq (I p2 (oBox t0) <|
 I p3 (oBox t1) <|
 I p4 (oMov (c (.str []))) <|
 I p5 (oMov (c (.bool false))) <|
 sEnd)
(sSeq (I p14 (oBuild [(.int .i64 (.ofNat 0)), (.int .i64 (.ofNat 0)), (.str [])] []) <|
 I p15 (oBslice 3 1 [(.int .i64 (.ofNat 0)), (.int .i64 (.ofNat 0)), (.str [])] [(0, 3, t14)]) <|
 I p6 (oMov t15) <|
 sEnd)
(sSeq (I p16 (oMkmap) <|
 I p17 (oBuild [(.int .i64 (.ofNat 0)), (.int .i64 (.ofNat 0))] []) <|
 I p18 (oBuild [] []) <|
 I0 (oMapset (keqL 2) t16 t17 t18) <|
 I p19 (oMov t16) <|
 I p7 (oMov t19) <|
 sEnd)
(sSeq (sSeq (I p8 (oMov (ci 0)) <|
 sEnd)
(sBlock 0 (sLoop (sSeq (sSeq (I p20 (oMov t8) <|
 I p21 (oMov t6) <|
 I p22 (oLenSl t21) <|
 I p23 (oLss t20 t22) <|
 sEnd)
(sCond t23 sEnd (sExit 0)))
(sSeq (sBlock 1 (sSeq (I p26 (oMov t6) <|
 I p27 (oMov t8) <|
 I p28 (oIndexS 3 t26 t27) <|
 I p29 (oLoadn 3 t28) <|
 I p9 (oAlloc (.row 0 3 (.node (some (.int .i64 (.ofNat 0))) (.node (some (.int .i64 (.ofNat 0))) .nil .nil) (.node (some (.str [])) .nil .nil)))) <|
 I0 (oStore 3 t9 t29) <|
 sEnd)
(sSeq (sSeq (sDraw [⟨0, (some p30), none, (.load 3 t2), oLoadn 3 t2⟩,
 ⟨1, (some p31), none, .pure, oFieldAddr t9 0⟩,
 ⟨2, (some p32), none, .pure, oFieldAddr t31 0⟩,
 ⟨3, (some p33), none, (.load 1 t32), oLoad1 t32⟩,
 ⟨5, (some p35), none, (.load 3 t3), oLoadn 3 t3⟩,
 ⟨6, (some p36), none, .pure, oFieldAddr t9 0⟩,
 ⟨7, (some p37), none, .pure, oFieldAddr t36 1⟩,
 ⟨8, (some p38), none, (.load 1 t37), oLoad1 t37⟩,
 ⟨4, (some p34), none, .heavy, oCallF 68 [t30, t33]⟩,
 ⟨9, (some p39), none, .late, oCallF 68 [t35, t38]⟩,
 ⟨10, (some p40), none, .pure, oNe t34 t39⟩])
(sCond t40 (sSeq (I p41 (oFieldAddr t9 2) <|
 I p42 (oLoad1 t41) <|
 I p4 (oMov t42) <|
 I p5 (oMov (c (.bool true))) <|
 sEnd)
sRet) sEnd))
(sSeq (I p43 (oMov (ci 0)) <|
 sEnd)
(sBlock 2 (sLoop (sSeq (I p44 (oLss t43 (ci 256)) <|
 sEnd)
(sSeq (sCond t44 sEnd (sExit 2))
(sSeq (sBlock 3 (sSeq (I p45 (oMov t43) <|
 I p10 (oMov t45) <|
 sEnd)
(sSeq (sDraw [⟨0, (some p46), none, (.load 3 t2), oLoadn 3 t2⟩,
 ⟨1, (some p47), none, .pure, oFieldAddr t9 0⟩,
 ⟨2, (some p48), none, .pure, oFieldAddr t47 0⟩,
 ⟨3, (some p49), none, (.load 1 t48), oLoad1 t48⟩,
 ⟨4, (some p50), none, .pure, oMov t10⟩,
 ⟨5, (some p51), none, .pure, oConv .u8 t50⟩,
 ⟨7, (some p53), none, (.load 3 t3), oLoadn 3 t3⟩,
 ⟨8, (some p54), none, .pure, oFieldAddr t9 0⟩,
 ⟨9, (some p55), none, .pure, oFieldAddr t54 1⟩,
 ⟨10, (some p56), none, (.load 1 t55), oLoad1 t55⟩,
 ⟨11, (some p57), none, .pure, oMov t10⟩,
 ⟨12, (some p58), none, .pure, oConv .u8 t57⟩,
 ⟨6, (some p52), none, .heavy, oCallF 67 [t46, t49, t51]⟩,
 ⟨13, (some p59), none, .heavy, oCallF 67 [t53, t56, t58]⟩,
 ⟨14, (some p60), none, .pure, oBuild [(.int .i64 (.ofNat 0)), (.int .i64 (.ofNat 0))] [(0, 1, t52), (1, 1, t59)]⟩,
 ⟨15, (some p11), none, .heavy, oAlloc (.row 0 2 (.node (some (.int .i64 (.ofNat 0))) (.node (some (.int .i64 (.ofNat 0))) .nil .nil) .nil))⟩,
 ⟨16, none, none, .late, oStore 2 t11 t60⟩])
(sSeq (I p62 (oMov t7) <|
 I p63 (oLoadn 2 t11) <|
 I p64 (oLookup (keqL 2) (.agg []) t62 t63 true) <|
 I p61 (oMov t64) <|
 I p65 (oExtract t61 0) <|
 I p66 (oExtract t61 1) <|
 I p12 (oAlloc (.row 0 0 .nil)) <|
 I0 (oStore 0 t12 t65) <|
 I p13 (oMov t66) <|
 sEnd)
(sSeq (I p67 (oMov t13) <|
 I p68 (oNot t67) <|
 sEnd)
(sCond t68 (sSeq (I p69 (oMov t7) <|
 I p70 (oLoadn 2 t11) <|
 I p71 (oBuild [] []) <|
 I0 (oMapset (keqL 2) t69 t70 t71) <|
 sEnd)
(I p72 (oMov t6) <|
 I p73 (oLoadn 2 t11) <|
 I p74 (oFieldAddr t9 2) <|
 I p75 (oLoad1 t74) <|
 I p76 (oMov t10) <|
 I p77 (oConv .u8 t76) <|
 I p78 (oBslice 1 1 [(.int .u8 (.ofNat 0))] [(0, 1, t77)]) <|
 I p79 (oToStr t78) <|
 I p80 (oCat t75 t79) <|
 I p81 (oBuild [(.int .i64 (.ofNat 0)), (.int .i64 (.ofNat 0)), (.str [])] [(0, 2, t73), (2, 1, t80)]) <|
 I p82 (oBslice 3 1 [(.int .i64 (.ofNat 0)), (.int .i64 (.ofNat 0)), (.str [])] [(0, 3, t81)]) <|
 I p83 (oAppend0 3 t72 t82) <|
 I p6 (oMov t83) <|
 sEnd)) sEnd))))))
(I p84 (oAdd t43 (ci 1)) <|
 I p43 (oMov t84) <|
 sEnd))))))))))
(I p24 (oMov t8) <|
 I p25 (oAdd t24 (ci 1)) <|
 I p8 (oMov t25) <|
 sEnd))))))
(sSeq (I p4 (oMov (c (.str []))) <|
 I p5 (oMov (c (.bool false))) <|
 sEnd)
sRet)))))⟩
def s70 : List (Nat × Sched) := [(7, .hoist 0 (.hoist 1 (.hoist 2 (.hoist 3 (.hoist 5 (.hoist 6 (.hoist 7 (.hoist 8 (.one 4 (.one 9 (.hoist 10 (.done)))))))))))), (12, .hoist 0 (.hoist 1 (.hoist 2 (.hoist 3 (.hoist 4 (.hoist 5 (.hoist 7 (.hoist 8 (.hoist 9 (.hoist 10 (.hoist 11 (.hoist 12 (.two 6 (.two 13 (.hoist 14 (.one 15 (.one 16 (.done)))) 15 (.one 13 (.hoist 14 (.one 16 (.done))))) 15 (.one 6 (.one 13 (.hoist 14 (.one 16 (.done))))))))))))))))))]
/- (*emendate/regex.reader).repeat -/
noncomputable def a71 : AF := ⟨35, [.celln p2 6],
(sSeq (I p2 (oAlloc (.row 0 6 (.node (some (.int .i64 (.ofNat 0))) (.node (some (.int .u64 (.ofNat 0))) (.node (some (.int .u64 (.ofNat 0))) .nil .nil) (.node (some .nils) .nil .nil)) (.node (some (.int .u64 (.ofNat 0))) (.node (some (.int .u64 (.ofNat 0))) .nil .nil) .nil)))) <|
 sEnd)
(sSeq (I p5 (oMov t0) <|
 I p6 (oCallF 96 [t5]) <|
 I p3 (oAlloc (.row 0 6 (.node (some (.int .i64 (.ofNat 0))) (.node (some (.int .u64 (.ofNat 0))) (.node (some (.int .u64 (.ofNat 0))) .nil .nil) (.node (some .nils) .nil .nil)) (.node (some (.int .u64 (.ofNat 0))) (.node (some (.int .u64 (.ofNat 0))) .nil .nil) .nil)))) <|
 I0 (oStore 6 t3 t6) <|
 sEnd)
(sBlock 0 (sLoop (sBlock 1 (sSeq (I p7 (oLoadn 6 t3) <|
 I p8 (oBslice 6 1 [(.int .i64 (.ofNat 0)), (.int .u64 (.ofNat 0)), (.int .u64 (.ofNat 0)), (.int .u64 (.ofNat 0)), (.int .u64 (.ofNat 0)), .nils] [(0, 6, t7)]) <|
 I p9 (oBuild [(.int .i64 (.ofNat 0)), (.int .u64 (.ofNat 0)), (.int .u64 (.ofNat 0)), (.int .u64 (.ofNat 0)), (.int .u64 (.ofNat 0)), .nils] [(0, 1, (ci 6)), (5, 1, t8)]) <|
 I p4 (oAlloc (.row 0 6 (.node (some (.int .i64 (.ofNat 0))) (.node (some (.int .u64 (.ofNat 0))) (.node (some (.int .u64 (.ofNat 0))) .nil .nil) (.node (some .nils) .nil .nil)) (.node (some (.int .u64 (.ofNat 0))) (.node (some (.int .u64 (.ofNat 0))) .nil .nil) .nil)))) <|
 I0 (oStore 6 t4 t9) <|
 sEnd)
(sSeq (sSeq (I p10 (oMov t0) <|
 I p11 (oCallF 40 [t10]) <|
 sEnd)
(sBlock 2 (sSeq (I p14 (oEq t11 (c (.int .u8 (.ofNat 42)))) <|
 I p13 (oMov t14) <|
 sEnd)
(sCond t13 (I p15 (oLoadn 6 t4) <|
 I0 (oStore 6 t3 t15) <|
 sEnd) (sSeq (I p17 (oEq t11 (c (.int .u8 (.ofNat 43)))) <|
 I p16 (oMov t17) <|
 sEnd)
(sCond t16 (I p18 (oLoadn 6 t3) <|
 I p19 (oLoadn 6 t4) <|
 I p20 (oBslice 6 2 [(.int .i64 (.ofNat 0)), (.int .u64 (.ofNat 0)), (.int .u64 (.ofNat 0)), (.int .u64 (.ofNat 0)), (.int .u64 (.ofNat 0)), .nils, (.int .i64 (.ofNat 0)), (.int .u64 (.ofNat 0)), (.int .u64 (.ofNat 0)), (.int .u64 (.ofNat 0)), (.int .u64 (.ofNat 0)), .nils] [(0, 6, t18), (6, 6, t19)]) <|
 I p21 (oBuild [(.int .i64 (.ofNat 0)), (.int .u64 (.ofNat 0)), (.int .u64 (.ofNat 0)), (.int .u64 (.ofNat 0)), (.int .u64 (.ofNat 0)), .nils] [(0, 1, (ci 4)), (5, 1, t20)]) <|
 I0 (oStore 6 t3 t21) <|
 sEnd) (sSeq (I p23 (oEq t11 (c (.int .u8 (.ofNat 63)))) <|
 I p22 (oMov t23) <|
 sEnd)
(sCond t22 (I p24 (oLoadn 6 t3) <|
 I p25 (oBuild [(.int .i64 (.ofNat 0)), (.int .u64 (.ofNat 0)), (.int .u64 (.ofNat 0)), (.int .u64 (.ofNat 0)), (.int .u64 (.ofNat 0)), .nils] [(0, 1, (ci 2))]) <|
 I p26 (oBslice 6 2 [(.int .i64 (.ofNat 0)), (.int .u64 (.ofNat 0)), (.int .u64 (.ofNat 0)), (.int .u64 (.ofNat 0)), (.int .u64 (.ofNat 0)), .nils, (.int .i64 (.ofNat 0)), (.int .u64 (.ofNat 0)), (.int .u64 (.ofNat 0)), (.int .u64 (.ofNat 0)), (.int .u64 (.ofNat 0)), .nils] [(0, 6, t24), (6, 6, t25)]) <|
 I p27 (oBuild [(.int .i64 (.ofNat 0)), (.int .u64 (.ofNat 0)), (.int .u64 (.ofNat 0)), (.int .u64 (.ofNat 0)), (.int .u64 (.ofNat 0)), .nils] [(0, 1, (ci 5)), (5, 1, t26)]) <|
 I0 (oStore 6 t3 t27) <|
 sEnd) (sSeq (I p12 (oLoadn 6 t3) <|
 I0 (oStore 6 t2 t12) <|
 sEnd)
sRet)))))))))
(I p28 (oMov t0) <|
 I p29 (oNil t28) <|
 I p30 (oFieldAddr t29 1) <|
 I p31 (oLoad1 t30) <|
 I p32 (oAdd t31 (ci 1)) <|
 I p33 (oNil t28) <|
 I p34 (oFieldAddr t33 1) <|
 I0 (oStore 1 t34 t32) <|
 sEnd))))))))⟩
def s71 : List (Nat × Sched) := []
/- emendate/regex.equal -/
noncomputable def a72 : AF := ⟨46, [.tmp p4],
(sSeq (I p2 (oBox t0) <|
 I p3 (oBox t1) <|
 I p4 (oMov (c (.bool false))) <|
 sEnd)
(sSeq (sSeq (I p6 (oFieldAddr t2 0) <|
 I p7 (oLoad1 t6) <|
 I p8 (oFieldAddr t3 0) <|
 I p9 (oLoad1 t8) <|
 I p10 (oNe t7 t9) <|
 I p11 (oMov t10) <|
 G p11 false p12 (oFieldAddr t2 1) <|
 G p11 false p13 (oLoadn 4 t12) <|
 G p11 false p14 (oFieldAddr t3 1) <|
 G p11 false p15 (oLoadn 4 t14) <|
 G p11 false p16 (oNeL 4 t13 t15) <|
 I p17 (oPick t11 (c (.bool true)) t16) <|
 I p18 (oMov t17) <|
 G p18 false p19 (oFieldAddr t2 5) <|
 G p18 false p20 (oLoad1 t19) <|
 G p18 false p21 (oLenSl t20) <|
 G p18 false p22 (oFieldAddr t3 5) <|
 G p18 false p23 (oLoad1 t22) <|
 G p18 false p24 (oLenSl t23) <|
 G p18 false p25 (oNe t21 t24) <|
 I p26 (oPick t18 (c (.bool true)) t25) <|
 sEnd)
(sCond t26 (sSeq (I p4 (oMov (c (.bool false))) <|
 sEnd)
sRet) sEnd))
(sSeq (sSeq (I p27 (oFieldAddr t2 5) <|
 I p28 (oLoad1 t27) <|
 I p29 (oLenSl t28) <|
 I p30 (oMov (ci 0)) <|
 sEnd)
(sBlock 0 (sLoop (sSeq (I p31 (oLss t30 t29) <|
 sEnd)
(sSeq (sCond t31 sEnd (sExit 0))
(sSeq (sBlock 1 (sSeq (I p32 (oMov t30) <|
 I p5 (oMov t32) <|
 sEnd)
(sSeq (I p33 (oFieldAddr t2 5) <|
 I p34 (oLoad1 t33) <|
 I p35 (oMov t5) <|
 I p36 (oIndexS 6 t34 t35) <|
 I p37 (oLoadn 6 t36) <|
 I p38 (oFieldAddr t3 5) <|
 I p39 (oLoad1 t38) <|
 I p40 (oMov t5) <|
 I p41 (oIndexS 6 t39 t40) <|
 I p42 (oLoadn 6 t41) <|
 I p43 (oCallF 72 [t37, t42]) <|
 I p44 (oNot t43) <|
 sEnd)
(sCond t44 (sSeq (I p4 (oMov (c (.bool false))) <|
 sEnd)
sRet) sEnd))))
(I p45 (oAdd t30 (ci 1)) <|
 I p30 (oMov t45) <|
 sEnd)))))))
(sSeq (I p4 (oMov (c (.bool true))) <|
 sEnd)
sRet))))⟩
def s72 : List (Nat × Sched) := [(6, .hoist 0 (.hoist 1 (.hoist 2 (.hoist 3 (.hoist 4 (.hoist 5 (.hoist 6 (.hoist 7 (.hoist 8 (.hoist 9 (.one 10 (.hoist 11 (.done)))))))))))))]
/- emendate/analysis.heads -/
noncomputable def a74 : AF := ⟨14, [.tmp p4],
(sSeq (I p2 (oBox t0) <|
 I p3 (oBox t1) <|
 I p4 (oMov (c .nils)) <|
 sEnd)
(sSeq (I p6 (oFieldAddr t2 1) <|
 I p7 (oLoad1 t6) <|
 I p8 (oLenSl t7) <|
 I p9 (oMkslice 1 [(.bool false)] t8 t8) <|
 I p5 (oAlloc (.row 0 1 (.node (some .nils) .nil .nil))) <|
 I0 (oStore 1 t5 t9) <|
 sEnd)
(sSeq (I p10 (oLoadn 4 t2) <|
 I p11 (oMkfn 98 [] [t5, t3]) <|
 I p12 (oCallF 97 [t10, t11]) <|
 sEnd)
(sSeq (I p13 (oLoad1 t5) <|
 I p4 (oMov t13) <|
 sEnd)
sRet))))⟩
def s74 : List (Nat × Sched) := []
/- (*emendate/recognizer.earley).works -/
noncomputable def a75 : AF := ⟨10, [.tmp p4],
(sSeq (I p2 (oBox t0) <|
 I p3 (oBox t1) <|
 I p4 (oMov (c (.bool false))) <|
 sEnd)
(sSeq (I p5 (oFieldAddr t3 1) <|
 I p6 (oLoad1 t5) <|
 I p7 (oMkfn 102 [] [t2]) <|
 I p8 (oCallF 101 [t6, t7]) <|
 I p9 (oNot t8) <|
 I p4 (oMov t9) <|
 sEnd)
sRet))⟩
def s75 : List (Nat × Sched) := []
/- (*emendate/recognizer.set).add -/
noncomputable def a76 : AF := ⟨35, [],
(sSeq (I p3 (oBox t1) <|
 sEnd)
(sSeq (sSeq (I p4 (oMov t0) <|
 I p5 (oNil t4) <|
 I p6 (oFieldAddr t5 1) <|
 I p7 (oLoad1 t6) <|
 I p8 (oEqM t7) <|
 sEnd)
(sCond t8 (I p9 (oMov t0) <|
 I p10 (oMkmap) <|
 I p11 (oNil t9) <|
 I p12 (oFieldAddr t11 1) <|
 I0 (oStore 1 t12 t10) <|
 sEnd) sEnd))
(sSeq (I p13 (oMov t0) <|
 I p14 (oNil t13) <|
 I p15 (oFieldAddr t14 1) <|
 I p16 (oLoad1 t15) <|
 I p17 (oLoadn 3 t3) <|
 I p18 (oLookup (keqL 3) (.bool false) t16 t17 false) <|
 I p19 (oNot t18) <|
 sEnd)
(sCond t19 (sSeq (I p20 (oMov t0) <|
 I p21 (oNil t20) <|
 I p22 (oFieldAddr t21 1) <|
 I p23 (oLoad1 t22) <|
 I p24 (oLoadn 3 t3) <|
 I0 (oMapset (keqL 3) t23 t24 (c (.bool true))) <|
 sEnd)
(sDraw [⟨0, (some p25), none, .pure, oMov t0⟩,
 ⟨1, (some p26), none, .pure, oMov t0⟩,
 ⟨2, (some p27), none, .pure, oNil t26⟩,
 ⟨3, (some p28), none, .pure, oFieldAddr t27 0⟩,
 ⟨4, (some p29), none, (.load 1 t28), oLoad1 t28⟩,
 ⟨5, (some p30), none, (.load 3 t3), oLoadn 3 t3⟩,
 ⟨6, (some p31), none, .heavy, oBslice 3 1 [(.int .i64 (.ofNat 0)), (.int .i64 (.ofNat 0)), (.int .i64 (.ofNat 0))] [(0, 3, t30)]⟩,
 ⟨7, (some p32), none, .late, oAppend0 3 t29 t31⟩,
 ⟨8, (some p33), none, .pure, oNil t25⟩,
 ⟨9, (some p34), none, .pure, oFieldAddr t33 0⟩,
 ⟨10, none, none, .late, oStore 1 t34 t32⟩])) sEnd))))⟩
def s76 : List (Nat × Sched) := [(3, .hoist 0 (.hoist 1 (.hoist 2 (.hoist 3 (.hoist 4 (.one 5 (.hoist 6 (.done)))))))), (4, .hoist 0 (.hoist 1 (.hoist 2 (.hoist 3 (.hoist 4 (.one 5 (.done))))))), (5, .hoist 0 (.hoist 1 (.hoist 2 (.hoist 3 (.hoist 4 (.hoist 5 (.one 6 (.one 7 (.hoist 8 (.hoist 9 (.one 10 (.done))))))))))))]
/- slices.IndexFunc[[]emendate/recognizer.item,emendate/recognizer.item] -/
noncomputable def a77 : AF := ⟨19, [.tmp p4],
(sSeq (I p4 (oMov (ci 0)) <|
 sEnd)
(sSeq (sSeq (I p6 (oMov t0) <|
 I p7 (oLenSl t6) <|
 I p8 (oMov (ci 0)) <|
 sEnd)
(sBlock 0 (sLoop (sSeq (I p9 (oLss t8 t7) <|
 sEnd)
(sSeq (sCond t9 sEnd (sExit 0))
(sSeq (sBlock 1 (sSeq (I p10 (oMov t8) <|
 I p5 (oMov t10) <|
 sEnd)
(sSeq (I p11 (oMov t1) <|
 I p12 (oMov t0) <|
 I p13 (oMov t5) <|
 I p14 (oIndexS 3 t12 t13) <|
 I p15 (oLoadn 3 t14) <|
 I p16 (oCall t11 [t15]) <|
 sEnd)
(sCond t16 (sSeq (I p17 (oMov t5) <|
 I p4 (oMov t17) <|
 sEnd)
sRet) sEnd))))
(I p18 (oAdd t8 (ci 1)) <|
 I p8 (oMov t18) <|
 sEnd)))))))
(sSeq (I p4 (oMov (c (.int .i64 (.negSucc 0)))) <|
 sEnd)
sRet)))⟩
def s77 : List (Nat × Sched) := []
/- emendate/nfa.nodes -/
noncomputable def a78 : AF := ⟨19, [.tmp p2],
(sSeq (I p1 (oBox t0) <|
 I p2 (oMov (ci 0)) <|
 sEnd)
(sSeq (I p3 (oMov (ci 1)) <|
 sEnd)
(sSeq (sSeq (I p6 (oFieldAddr t1 5) <|
 I p7 (oLoad1 t6) <|
 I p8 (oLenSl t7) <|
 I p9 (oMov (ci 0)) <|
 sEnd)
(sBlock 0 (sLoop (sSeq (I p10 (oLss t9 t8) <|
 sEnd)
(sSeq (sCond t10 sEnd (sExit 0))
(sSeq (sBlock 1 (sSeq (I p11 (oIndexS 6 t7 t9) <|
 I p12 (oLoadn 6 t11) <|
 I p5 (oAlloc (.row 0 6 (.node (some (.int .i64 (.ofNat 0))) (.node (some (.int .u64 (.ofNat 0))) (.node (some (.int .u64 (.ofNat 0))) .nil .nil) (.node (some .nils) .nil .nil)) (.node (some (.int .u64 (.ofNat 0))) (.node (some (.int .u64 (.ofNat 0))) .nil .nil) .nil)))) <|
 I0 (oStore 6 t5 t12) <|
 sEnd)
(I p13 (oMov t3) <|
 I p14 (oLoadn 6 t5) <|
 I p15 (oCallF 78 [t14]) <|
 I p16 (oAdd t13 t15) <|
 I p3 (oMov t16) <|
 sEnd)))
(I p17 (oAdd t9 (ci 1)) <|
 I p9 (oMov t17) <|
 sEnd)))))))
(sSeq (I p18 (oMov t3) <|
 I p2 (oMov t18) <|
 sEnd)
sRet))))⟩
def s78 : List (Nat × Sched) := []
/- (*emendate/nfa.builder).expr -/
noncomputable def a79 : AF := ⟨15, [.celln p4 3],
(sSeq (I p3 (oBox t1) <|
 I p4 (oAlloc (.row 0 3 (.node (some (.bool false)) (.node (some .nils) .nil .nil) (.node (some .nils) .nil .nil)))) <|
 sEnd)
(sSeq (I p6 (oMkmap) <|
 I0 (oMapset keqI t6 (ci 1) (c (.fn 103 [] []))) <|
 I0 (oMapset keqI t6 (ci 2) (c (.fn 104 [] []))) <|
 I0 (oMapset keqI t6 (ci 3) (c (.fn 105 [] []))) <|
 I0 (oMapset keqI t6 (ci 4) (c (.fn 106 [] []))) <|
 I0 (oMapset keqI t6 (ci 5) (c (.fn 107 [] []))) <|
 I0 (oMapset keqI t6 (ci 6) (c (.fn 108 [] []))) <|
 I p7 (oMov t6) <|
 I p5 (oMov t7) <|
 sEnd)
(sSeq (I p8 (oMov t5) <|
 I p9 (oFieldAddr t3 0) <|
 I p10 (oLoad1 t9) <|
 I p11 (oLookup keqI .bad t8 t10 false) <|
 I p12 (oMov t0) <|
 I p13 (oLoadn 6 t3) <|
 I p14 (oCall t11 [t12, t13]) <|
 I0 (oStore 3 t4 t14) <|
 sEnd)
sRet)))⟩
def s79 : List (Nat × Sched) := []
/- (*emendate/nfa.builder).link -/
noncomputable def a80 : AF := ⟨32, [],
(sSeq (I p10 (oMov t1) <|
 I p11 (oLenSl t10) <|
 I p12 (oMov (ci 0)) <|
 sEnd)
(sBlock 0 (sLoop (sSeq (I p13 (oLss t12 t11) <|
 sEnd)
(sSeq (sCond t13 sEnd (sExit 0))
(sSeq (sBlock 1 (sSeq (I p14 (oIndexS 1 t10 t12) <|
 I p15 (oLoad1 t14) <|
 I p7 (oMov t15) <|
 sEnd)
(sSeq (I p16 (oMov t2) <|
 I p17 (oLenSl t16) <|
 I p18 (oMov (ci 0)) <|
 sEnd)
(sBlock 2 (sLoop (sSeq (I p19 (oLss t18 t17) <|
 sEnd)
(sSeq (sCond t19 sEnd (sExit 2))
(sSeq (sBlock 3 (sSeq (I p20 (oIndexS 1 t16 t18) <|
 I p21 (oLoad1 t20) <|
 I p9 (oMov t21) <|
 sEnd)
(I p22 (oMov t0) <|
 I p23 (oNil t22) <|
 I p24 (oFieldAddr t23 1) <|
 I p25 (oLoad1 t24) <|
 I p26 (oMov t7) <|
 I p27 (oIndexS 1 t25 t26) <|
 I p28 (oLoad1 t27) <|
 I p29 (oMov t9) <|
 I0 (oMapset keqI t28 t29 (c (.bool true))) <|
 sEnd)))
(I p30 (oAdd t18 (ci 1)) <|
 I p18 (oMov t30) <|
 sEnd)))))))))
(I p31 (oAdd t12 (ci 1)) <|
 I p12 (oMov t31) <|
 sEnd)))))))⟩
def s80 : List (Nat × Sched) := []
/- slices.Sorted[int] -/
noncomputable def a81 : AF := ⟨9, [.tmp p2],
(sSeq (I p2 (oMov (c .nils)) <|
 sEnd)
(sSeq (I p4 (oMov t0) <|
 I p5 (oCallF 109 [t4]) <|
 I p3 (oMov t5) <|
 sEnd)
(sSeq (I p6 (oMov t3) <|
 I p7 (oCallF 110 [t6]) <|
 sEnd)
(sSeq (I p8 (oMov t3) <|
 I p2 (oMov t8) <|
 sEnd)
sRet))))⟩
def s81 : List (Nat × Sched) := []
/- maps.Keys[map[int]bool,int,bool] -/
noncomputable def a82 : AF := ⟨4, [.tmp p2],
(sSeq (I p1 (oBox t0) <|
 I p2 (oMov (c .bad)) <|
 sEnd)
(sSeq (I p3 (oMkfn 111 [] [t1]) <|
 I p2 (oMov t3) <|
 sEnd)
sRet))⟩
def s82 : List (Nat × Sched) := []
/- emendate/nfa.Valid -/
noncomputable def a83 : AF := ⟨64, [.tmp p2],
(sSeq (I p1 (oBox t0) <|
 I p2 (oMov (c (.bool false))) <|
 sEnd)
(sSeq (I p6 (oMkfn 112 [] [t1]) <|
 I p3 (oMov t6) <|
 sEnd)
(sSeq (sSeq (I p7 (oFieldAddr t1 0) <|
 I p8 (oLoad1 t7) <|
 I p9 (oLss t8 (ci 1)) <|
 I p10 (oMov t9) <|
 G p10 false p11 (oFieldAddr t1 0) <|
 G p10 false p12 (oLoad1 t11) <|
 G p10 false p13 (oGtr t12 (ci 2000)) <|
 I p14 (oPick t10 (c (.bool true)) t13) <|
 I p15 (oMov t14) <|
 G p15 false p16 (oMov t3) <|
 G p15 false p17 (oFieldAddr t1 1) <|
 G p15 false p18 (oLoad1 t17) <|
 G p15 false p19 (oCall t16 [t18]) <|
 G p15 false p20 (oNot t19) <|
 I p21 (oPick t15 (c (.bool true)) t20) <|
 I p22 (oMov t21) <|
 G p22 false p23 (oFieldAddr t1 3) <|
 G p22 false p24 (oLoad1 t23) <|
 G p22 false p25 (oLenSl t24) <|
 G p22 false p26 (oFieldAddr t1 0) <|
 G p22 false p27 (oLoad1 t26) <|
 G p22 false p28 (oNe t25 t27) <|
 I p29 (oPick t22 (c (.bool true)) t28) <|
 sEnd)
(sCond t29 (sSeq (I p2 (oMov (c (.bool false))) <|
 sEnd)
sRet) sEnd))
(sSeq (sSeq (I p30 (oFieldAddr t1 2) <|
 I p31 (oLoad1 t30) <|
 I p32 (oLenSl t31) <|
 I p33 (oMov (ci 0)) <|
 sEnd)
(sBlock 0 (sLoop (sSeq (I p34 (oLss t33 t32) <|
 sEnd)
(sSeq (sCond t34 sEnd (sExit 0))
(sSeq (sBlock 1 (sSeq (I p35 (oIndexS 7 t31 t33) <|
 I p36 (oLoadn 7 t35) <|
 I p5 (oAlloc (.row 0 7 (.node (some (.int .i64 (.ofNat 0))) (.node (some (.int .i64 (.ofNat 0))) (.node (some (.int .u64 (.ofNat 0))) .nil .nil) (.node (some (.int .u64 (.ofNat 0))) .nil .nil)) (.node (some (.bool false)) (.node (some (.int .u64 (.ofNat 0))) .nil .nil) (.node (some (.int .u64 (.ofNat 0))) .nil .nil))))) <|
 I0 (oStore 7 t5 t36) <|
 sEnd)
(sSeq (I p37 (oMov t3) <|
 I p38 (oFieldAddr t5 0) <|
 I p39 (oLoad1 t38) <|
 I p40 (oCall t37 [t39]) <|
 I p41 (oNot t40) <|
 I p42 (oMov t41) <|
 G p42 false p43 (oMov t3) <|
 G p42 false p44 (oFieldAddr t5 1) <|
 G p42 false p45 (oLoad1 t44) <|
 G p42 false p46 (oCall t43 [t45]) <|
 G p42 false p47 (oNot t46) <|
 I p48 (oPick t42 (c (.bool true)) t47) <|
 I p49 (oMov t48) <|
 G p49 false p50 (oFieldAddr t5 2) <|
 G p49 false p51 (oLoad1 t50) <|
 G p49 false p52 (oMov t51) <|
 G p52 true p53 (oFieldAddr t5 3) <|
 G p52 true p54 (oLoadn 4 t53) <|
 G p52 true p55 (oBuild [(.int .u64 (.ofNat 0)), (.int .u64 (.ofNat 0)), (.int .u64 (.ofNat 0)), (.int .u64 (.ofNat 0))] []) <|
 G p52 true p56 (oNeL 4 t54 t55) <|
 G p49 false p57 (oPick t52 t56 (c (.bool false))) <|
 I p58 (oPick t49 (c (.bool true)) t57) <|
 sEnd)
(sCond t58 (sSeq (I p2 (oMov (c (.bool false))) <|
 sEnd)
sRet) sEnd))))
(I p59 (oAdd t33 (ci 1)) <|
 I p33 (oMov t59) <|
 sEnd)))))))
(sSeq (I p60 (oFieldAddr t1 3) <|
 I p61 (oLoad1 t60) <|
 I p62 (oCallF 101 [t61, (c (.fn 113 [] []))]) <|
 I p63 (oNot t62) <|
 I p2 (oMov t63) <|
 sEnd)
sRet)))))⟩
def s83 : List (Nat × Sched) := []
/- emendate/byteset.Classes -/
noncomputable def a84 : AF := ⟨57, [.tmp p2],
(sSeq (I p2 (oMov (c .nils)) <|
 sEnd)
(sSeq (I p11 (oMkslice 1 [(.int .i64 (.ofNat 0))] (ci 256) (ci 256)) <|
 I p3 (oMov t11) <|
 sEnd)
(sSeq (I p12 (oMkmap) <|
 I p4 (oMov t12) <|
 sEnd)
(sSeq (sSeq (I p13 (oMov t3) <|
 I p14 (oLenSl t13) <|
 I p15 (oMov (ci 0)) <|
 sEnd)
(sBlock 0 (sLoop (sSeq (I p16 (oLss t15 t14) <|
 sEnd)
(sSeq (sCond t16 sEnd (sExit 0))
(sSeq (sBlock 1 (sSeq (I p17 (oMov t15) <|
 I p5 (oMov t17) <|
 sEnd)
(sSeq (I p18 (oMov t0) <|
 I p19 (oLenSl t18) <|
 I p20 (oMkslice 1 [(.int .u8 (.ofNat 0))] t19 t19) <|
 I p6 (oMov t20) <|
 sEnd)
(sSeq (sSeq (I p21 (oMov t0) <|
 I p22 (oLenSl t21) <|
 I p23 (oMov (ci 0)) <|
 sEnd)
(sBlock 2 (sLoop (sSeq (I p24 (oLss t23 t22) <|
 sEnd)
(sSeq (sCond t24 sEnd (sExit 2))
(sSeq (sBlock 3 (sSeq (I p25 (oMov t23) <|
 I p26 (oIndexS 4 t21 t23) <|
 I p27 (oLoadn 4 t26) <|
 I p8 (oAlloc (.row 0 4 (.node (some (.int .u64 (.ofNat 0))) (.node (some (.int .u64 (.ofNat 0))) (.node (some (.int .u64 (.ofNat 0))) .nil .nil) .nil) (.node (some (.int .u64 (.ofNat 0))) .nil .nil)))) <|
 I p7 (oMov t25) <|
 I0 (oStore 4 t8 t27) <|
 sEnd)
(sSeq (I p28 (oLoadn 4 t8) <|
 I p29 (oMov t5) <|
 I p30 (oConv .u8 t29) <|
 I p31 (oCallF 43 [t28, t30]) <|
 sEnd)
(sCond t31 (I p32 (oMov t6) <|
 I p33 (oMov t7) <|
 I p34 (oIndexS 1 t32 t33) <|
 I0 (oStore 1 t34 (c (.int .u8 (.ofNat 1)))) <|
 sEnd) sEnd))))
(I p35 (oAdd t23 (ci 1)) <|
 I p23 (oMov t35) <|
 sEnd)))))))
(sSeq (I p37 (oMov t4) <|
 I p38 (oMov t6) <|
 I p39 (oToStr t38) <|
 I p40 (oLookup keqS (.int .i64 (.ofNat 0)) t37 t39 true) <|
 I p36 (oMov t40) <|
 I p41 (oExtract t36 0) <|
 I p42 (oExtract t36 1) <|
 I p9 (oMov t41) <|
 I p10 (oMov t42) <|
 sEnd)
(sSeq (sSeq (I p43 (oMov t10) <|
 I p44 (oNot t43) <|
 sEnd)
(sCond t44 (sSeq (I p45 (oMov t4) <|
 I p46 (oLenM t45) <|
 I p9 (oMov t46) <|
 sEnd)
(I p47 (oMov t4) <|
 I p48 (oMov t6) <|
 I p49 (oToStr t48) <|
 I p50 (oMov t9) <|
 I0 (oMapset keqS t47 t49 t50) <|
 sEnd)) sEnd))
(I p51 (oMov t3) <|
 I p52 (oMov t5) <|
 I p53 (oMov t9) <|
 I p54 (oIndexS 1 t51 t52) <|
 I0 (oStore 1 t54 t53) <|
 sEnd)))))))
(I p55 (oAdd t15 (ci 1)) <|
 I p15 (oMov t55) <|
 sEnd)))))))
(sSeq (I p56 (oMov t3) <|
 I p2 (oMov t56) <|
 sEnd)
sRet)))))⟩
def s84 : List (Nat × Sched) := []
/- emendate/dfa.sample -/
noncomputable def a85 : AF := ⟨24, [.tmp p2],
(sSeq (I p2 (oMov (c .nils)) <|
 sEnd)
(sSeq (I p3 (oMov (c .nils)) <|
 sEnd)
(sSeq (sSeq (I p6 (oMov t0) <|
 I p7 (oLenSl t6) <|
 I p8 (oMov (ci 0)) <|
 sEnd)
(sBlock 0 (sLoop (sSeq (I p9 (oLss t8 t7) <|
 sEnd)
(sSeq (sCond t9 sEnd (sExit 0))
(sSeq (sBlock 1 (sSeq (I p10 (oMov t8) <|
 I p11 (oIndexS 1 t6 t8) <|
 I p12 (oLoad1 t11) <|
 I p4 (oMov t10) <|
 I p5 (oMov t12) <|
 sEnd)
(sSeq (I p13 (oMov t5) <|
 I p14 (oMov t3) <|
 I p15 (oLenSl t14) <|
 I p16 (oEq t13 t15) <|
 sEnd)
(sCond t16 (I p17 (oMov t3) <|
 I p18 (oMov t4) <|
 I p19 (oConv .u8 t18) <|
 I p20 (oBslice 1 1 [(.int .u8 (.ofNat 0))] [(0, 1, t19)]) <|
 I p21 (oAppend0 1 t17 t20) <|
 I p3 (oMov t21) <|
 sEnd) sEnd))))
(I p22 (oAdd t8 (ci 1)) <|
 I p8 (oMov t22) <|
 sEnd)))))))
(sSeq (I p23 (oMov t3) <|
 I p2 (oMov t23) <|
 sEnd)
sRet))))⟩
def s85 : List (Nat × Sched) := []
/- emendate/nfa.Closure -/
noncomputable def a86 : AF := ⟨63, [.tmp p4],
(sSeq (I p2 (oBox t0) <|
 I p4 (oMov (c .nils)) <|
 sEnd)
(sSeq (I p13 (oFieldAddr t2 0) <|
 I p14 (oLoad1 t13) <|
 I p15 (oMkslice 1 [(.bool false)] t14 t14) <|
 I p5 (oAlloc (.row 0 1 (.node (some .nils) .nil .nil))) <|
 I0 (oStore 1 t5 t15) <|
 sEnd)
(sSeq (I p6 (oAlloc (.row 0 1 (.node (some .nils) .nil .nil))) <|
 sEnd)
(sSeq (I p16 (oMkfn 114 [] [t2, t5, t6]) <|
 I p7 (oMov t16) <|
 sEnd)
(sSeq (sSeq (I p17 (oMov t1) <|
 I p18 (oLenSl t17) <|
 I p19 (oMov (ci 0)) <|
 sEnd)
(sBlock 0 (sLoop (sSeq (I p20 (oLss t19 t18) <|
 sEnd)
(sSeq (sCond t20 sEnd (sExit 0))
(sSeq (sBlock 1 (sSeq (I p21 (oIndexS 1 t17 t19) <|
 I p22 (oLoad1 t21) <|
 I p9 (oMov t22) <|
 sEnd)
(I p23 (oMov t7) <|
 I p24 (oMov t9) <|
 I p25 (oCall t23 [t24]) <|
 sEnd)))
(I p26 (oAdd t19 (ci 1)) <|
 I p19 (oMov t26) <|
 sEnd)))))))
(sSeq (sBlock 2 (sLoop (sSeq (sSeq (I p27 (oLoad1 t6) <|
 I p28 (oLenSl t27) <|
 I p29 (oGtr t28 (ci 0)) <|
 sEnd)
(sCond t29 sEnd (sExit 2)))
(sBlock 3 (sSeq (I p30 (oLoad1 t6) <|
 I p31 (oLoad1 t6) <|
 I p32 (oLenSl t31) <|
 I p33 (oSub t32 (ci 1)) <|
 I p34 (oIndexS 1 t30 t33) <|
 I p35 (oLoad1 t34) <|
 I p10 (oMov t35) <|
 sEnd)
(sSeq (I p36 (oLoad1 t6) <|
 I p37 (oLoad1 t6) <|
 I p38 (oLenSl t37) <|
 I p39 (oSub t38 (ci 1)) <|
 I p40 (oSlice 1 t36 none (some t39)) <|
 I0 (oStore 1 t6 t40) <|
 sEnd)
(sSeq (I p41 (oFieldAddr t2 2) <|
 I p42 (oLoad1 t41) <|
 I p43 (oLenSl t42) <|
 I p44 (oMov (ci 0)) <|
 sEnd)
(sBlock 4 (sLoop (sSeq (I p45 (oLss t44 t43) <|
 sEnd)
(sSeq (sCond t45 sEnd (sExit 4))
(sSeq (sBlock 5 (sSeq (I p46 (oIndexS 7 t42 t44) <|
 I p47 (oLoadn 7 t46) <|
 I p12 (oAlloc (.row 0 7 (.node (some (.int .i64 (.ofNat 0))) (.node (some (.int .i64 (.ofNat 0))) (.node (some (.int .u64 (.ofNat 0))) .nil .nil) (.node (some (.int .u64 (.ofNat 0))) .nil .nil)) (.node (some (.bool false)) (.node (some (.int .u64 (.ofNat 0))) .nil .nil) (.node (some (.int .u64 (.ofNat 0))) .nil .nil))))) <|
 I0 (oStore 7 t12 t47) <|
 sEnd)
(sSeq (I p48 (oFieldAddr t12 2) <|
 I p49 (oLoad1 t48) <|
 I p50 (oMov t49) <|
 G p50 true p51 (oFieldAddr t12 0) <|
 G p50 true p52 (oLoad1 t51) <|
 G p50 true p53 (oMov t10) <|
 G p50 true p54 (oEq t52 t53) <|
 I p55 (oPick t50 t54 (c (.bool false))) <|
 sEnd)
(sCond t55 (I p56 (oMov t7) <|
 I p57 (oFieldAddr t12 1) <|
 I p58 (oLoad1 t57) <|
 I p59 (oCall t56 [t58]) <|
 sEnd) sEnd))))
(I p60 (oAdd t44 (ci 1)) <|
 I p44 (oMov t60) <|
 sEnd)))))))))))))
(sSeq (I p61 (oLoad1 t5) <|
 I p62 (oCallF 115 [t61]) <|
 I p4 (oMov t62) <|
 sEnd)
sRet)))))))⟩
def s86 : List (Nat × Sched) := []
/- emendate/dfa.key -/
noncomputable def a87 : AF := ⟨23, [.tmp p2],
(sSeq (I p2 (oMov (c (.str []))) <|
 sEnd)
(sSeq (I p3 (oMov (c .nils)) <|
 sEnd)
(sSeq (sSeq (I p6 (oMov t0) <|
 I p7 (oLenSl t6) <|
 I p8 (oMov (ci 0)) <|
 sEnd)
(sBlock 0 (sLoop (sSeq (I p9 (oLss t8 t7) <|
 sEnd)
(sSeq (sCond t9 sEnd (sExit 0))
(sSeq (sBlock 1 (sSeq (I p10 (oIndexS 1 t6 t8) <|
 I p11 (oLoad1 t10) <|
 I p5 (oMov t11) <|
 sEnd)
(I p12 (oMov t3) <|
 I p13 (oMov t5) <|
 I p14 (oConv .u8 t13) <|
 I p15 (oMov t5) <|
 I p16 (oShr t15 (c (.int .u64 (.ofNat 8)))) <|
 I p17 (oConv .u8 t16) <|
 I p18 (oBslice 1 2 [(.int .u8 (.ofNat 0)), (.int .u8 (.ofNat 0))] [(0, 1, t14), (1, 1, t17)]) <|
 I p19 (oAppend0 1 t12 t18) <|
 I p3 (oMov t19) <|
 sEnd)))
(I p20 (oAdd t8 (ci 1)) <|
 I p8 (oMov t20) <|
 sEnd)))))))
(sSeq (I p21 (oMov t3) <|
 I p22 (oToStr t21) <|
 I p2 (oMov t22) <|
 sEnd)
sRet))))⟩
def s87 : List (Nat × Sched) := []
/- emendate/nfa.Step -/
noncomputable def a88 : AF := ⟨60, [.tmp p6],
(sSeq (I p3 (oBox t0) <|
 I p6 (oMov (c .nils)) <|
 sEnd)
(sSeq (I p13 (oFieldAddr t3 0) <|
 I p14 (oLoad1 t13) <|
 I p15 (oMkslice 1 [(.bool false)] t14 t14) <|
 I p7 (oMov t15) <|
 sEnd)
(sSeq (sSeq (I p16 (oLoadn 4 t3) <|
 I p17 (oMov t1) <|
 I p18 (oCallF 86 [t16, t17]) <|
 I p19 (oLenSl t18) <|
 I p20 (oMov (ci 0)) <|
 sEnd)
(sBlock 0 (sLoop (sSeq (I p21 (oLss t20 t19) <|
 sEnd)
(sSeq (sCond t21 sEnd (sExit 0))
(sSeq (sBlock 1 (sSeq (I p22 (oIndexS 1 t18 t20) <|
 I p23 (oLoad1 t22) <|
 I p9 (oMov t23) <|
 sEnd)
(I p24 (oMov t7) <|
 I p25 (oMov t9) <|
 I p26 (oIndexS 1 t24 t25) <|
 I0 (oStore 1 t26 (c (.bool true))) <|
 sEnd)))
(I p27 (oAdd t20 (ci 1)) <|
 I p20 (oMov t27) <|
 sEnd)))))))
(sSeq (I p10 (oMov (c .nils)) <|
 sEnd)
(sSeq (sSeq (I p28 (oFieldAddr t3 2) <|
 I p29 (oLoad1 t28) <|
 I p30 (oLenSl t29) <|
 I p31 (oMov (ci 0)) <|
 sEnd)
(sBlock 2 (sLoop (sSeq (I p32 (oLss t31 t30) <|
 sEnd)
(sSeq (sCond t32 sEnd (sExit 2))
(sSeq (sBlock 3 (sSeq (I p33 (oIndexS 7 t29 t31) <|
 I p34 (oLoadn 7 t33) <|
 I p12 (oAlloc (.row 0 7 (.node (some (.int .i64 (.ofNat 0))) (.node (some (.int .i64 (.ofNat 0))) (.node (some (.int .u64 (.ofNat 0))) .nil .nil) (.node (some (.int .u64 (.ofNat 0))) .nil .nil)) (.node (some (.bool false)) (.node (some (.int .u64 (.ofNat 0))) .nil .nil) (.node (some (.int .u64 (.ofNat 0))) .nil .nil))))) <|
 I0 (oStore 7 t12 t34) <|
 sEnd)
(sSeq (I p35 (oFieldAddr t12 2) <|
 I p36 (oLoad1 t35) <|
 I p37 (oNot t36) <|
 I p38 (oMov t37) <|
 G p38 true p39 (oMov t7) <|
 G p38 true p40 (oFieldAddr t12 0) <|
 G p38 true p41 (oLoad1 t40) <|
 G p38 true p42 (oIndexS 1 t39 t41) <|
 G p38 true p43 (oLoad1 t42) <|
 I p44 (oPick t38 t43 (c (.bool false))) <|
 I p45 (oMov t44) <|
 G p45 true p46 (oFieldAddr t12 3) <|
 G p45 true p47 (oLoadn 4 t46) <|
 G p45 true p48 (oMov t2) <|
 G p45 true p49 (oCallF 43 [t47, t48]) <|
 I p50 (oPick t45 t49 (c (.bool false))) <|
 sEnd)
(sCond t50 (I p51 (oMov t10) <|
 I p52 (oFieldAddr t12 1) <|
 I p53 (oLoad1 t52) <|
 I p54 (oBslice 1 1 [(.int .i64 (.ofNat 0))] [(0, 1, t53)]) <|
 I p55 (oAppend0 1 t51 t54) <|
 I p10 (oMov t55) <|
 sEnd) sEnd))))
(I p56 (oAdd t31 (ci 1)) <|
 I p31 (oMov t56) <|
 sEnd)))))))
(sSeq (I p57 (oLoadn 4 t3) <|
 I p58 (oMov t10) <|
 I p59 (oCallF 86 [t57, t58]) <|
 I p6 (oMov t59) <|
 sEnd)
sRet))))))⟩
def s88 : List (Nat × Sched) := []
/- emendate/dfa.accepts -/
noncomputable def a89 : AF := ⟨34, [.tmp p4],
(sSeq (I p2 (oBox t0) <|
 I p4 (oMov (ci 0)) <|
 sEnd)
(sSeq (I p5 (oMov (c (.int .i64 (.negSucc 0)))) <|
 sEnd)
(sSeq (sSeq (I p9 (oMov t1) <|
 I p10 (oLenSl t9) <|
 I p11 (oMov (ci 0)) <|
 sEnd)
(sBlock 0 (sLoop (sSeq (I p12 (oLss t11 t10) <|
 sEnd)
(sSeq (sCond t12 sEnd (sExit 0))
(sSeq (sBlock 1 (sSeq (I p13 (oIndexS 1 t9 t11) <|
 I p14 (oLoad1 t13) <|
 I p7 (oMov t14) <|
 sEnd)
(sSeq (I p15 (oFieldAddr t2 3) <|
 I p16 (oLoad1 t15) <|
 I p17 (oMov t7) <|
 I p18 (oIndexS 1 t16 t17) <|
 I p19 (oLoad1 t18) <|
 I p8 (oMov t19) <|
 sEnd)
(sSeq (I p20 (oMov t8) <|
 I p21 (oGeq t20 (ci 0)) <|
 I p22 (oMov t21) <|
 G p22 true p23 (oMov t5) <|
 G p22 true p24 (oLss t23 (ci 0)) <|
 G p22 true p25 (oMov t24) <|
 G p25 false p26 (oMov t8) <|
 G p25 false p27 (oMov t5) <|
 G p25 false p28 (oLss t26 t27) <|
 G p22 true p29 (oPick t25 (c (.bool true)) t28) <|
 I p30 (oPick t22 t29 (c (.bool false))) <|
 sEnd)
(sCond t30 (I p31 (oMov t8) <|
 I p5 (oMov t31) <|
 sEnd) sEnd)))))
(I p32 (oAdd t11 (ci 1)) <|
 I p11 (oMov t32) <|
 sEnd)))))))
(sSeq (I p33 (oMov t5) <|
 I p4 (oMov t33) <|
 sEnd)
sRet))))⟩
def s89 : List (Nat × Sched) := []
/- emendate/dfa.pruned -/
noncomputable def a90 : AF := ⟨52, [.celln p2 3],
(sSeq (I p1 (oBox t0) <|
 I p2 (oAlloc (.row 0 3 (.node (some .nils) (.node (some .nils) .nil .nil) (.node (some .nils) .nil .nil)))) <|
 sEnd)
(sSeq (I p10 (oLoadn 3 t1) <|
 I p11 (oCallF 116 [t10]) <|
 I p3 (oMov t11) <|
 sEnd)
(sSeq (I p4 (oMov (c .nils)) <|
 sEnd)
(sSeq (sSeq (I p12 (oFieldAddr t1 1) <|
 I p13 (oLoad1 t12) <|
 I p14 (oLenSl t13) <|
 I p15 (oMov (ci 0)) <|
 sEnd)
(sBlock 0 (sLoop (sSeq (I p16 (oLss t15 t14) <|
 sEnd)
(sSeq (sCond t16 sEnd (sExit 0))
(sSeq (sBlock 1 (sSeq (I p17 (oIndexS 1 t13 t15) <|
 I p18 (oLoad1 t17) <|
 I p6 (oMov t18) <|
 sEnd)
(sSeq (I p19 (oMov t6) <|
 I p20 (oCallF 117 [t19]) <|
 I p7 (oMov t20) <|
 sEnd)
(sSeq (sSeq (I p21 (oMov t7) <|
 I p22 (oLenSl t21) <|
 I p23 (oMov (ci 0)) <|
 sEnd)
(sBlock 2 (sLoop (sSeq (I p24 (oLss t23 t22) <|
 sEnd)
(sSeq (sCond t24 sEnd (sExit 2))
(sSeq (sBlock 3 (sSeq (I p25 (oMov t23) <|
 I p26 (oIndexS 1 t21 t23) <|
 I p27 (oLoad1 t26) <|
 I p8 (oMov t25) <|
 I p9 (oMov t27) <|
 sEnd)
(sSeq (I p28 (oMov t9) <|
 I p29 (oGeq t28 (ci 0)) <|
 I p30 (oMov t29) <|
 G p30 true p31 (oMov t3) <|
 G p30 true p32 (oMov t9) <|
 G p30 true p33 (oIndexS 1 t31 t32) <|
 G p30 true p34 (oLoad1 t33) <|
 G p30 true p35 (oNot t34) <|
 I p36 (oPick t30 t35 (c (.bool false))) <|
 sEnd)
(sCond t36 (I p37 (oMov t7) <|
 I p38 (oMov t8) <|
 I p39 (oIndexS 1 t37 t38) <|
 I0 (oStore 1 t39 (c (.int .i64 (.negSucc 0)))) <|
 sEnd) sEnd))))
(I p40 (oAdd t23 (ci 1)) <|
 I p23 (oMov t40) <|
 sEnd)))))))
(I p41 (oMov t4) <|
 I p42 (oMov t7) <|
 I p43 (oBslice 1 1 [.nils] [(0, 1, t42)]) <|
 I p44 (oAppend0 1 t41 t43) <|
 I p4 (oMov t44) <|
 sEnd)))))
(I p45 (oAdd t15 (ci 1)) <|
 I p15 (oMov t45) <|
 sEnd)))))))
(sSeq (I p46 (oFieldAddr t1 0) <|
 I p47 (oLoad1 t46) <|
 I p48 (oMov t4) <|
 I p49 (oFieldAddr t1 2) <|
 I p50 (oLoad1 t49) <|
 I p51 (oBuild [.nils, .nils, .nils] [(0, 1, t47), (1, 1, t48), (2, 1, t50)]) <|
 I0 (oStore 3 t2 t51) <|
 sEnd)
sRet)))))⟩
def s90 : List (Nat × Sched) := []
/- emendate/dfa.used -/
noncomputable def a91 : AF := ⟨83, [.celln p2 3],
(sSeq (I p1 (oBox t0) <|
 I p2 (oAlloc (.row 0 3 (.node (some .nils) (.node (some .nils) .nil .nil) (.node (some .nils) .nil .nil)))) <|
 sEnd)
(sSeq (I p15 (oMkmap) <|
 I p3 (oMov t15) <|
 sEnd)
(sSeq (I p4 (oMov (c .nils)) <|
 sEnd)
(sSeq (sDraw [⟨0, (some p16), none, .pure, oFieldAddr t1 0⟩,
 ⟨1, (some p17), none, (.load 1 t16), oLoad1 t16⟩,
 ⟨2, (some p18), none, .pure, oLenSl t17⟩,
 ⟨4, (some p20), none, .pure, oFieldAddr t1 2⟩,
 ⟨5, (some p21), none, (.load 1 t20), oLoad1 t20⟩,
 ⟨3, (some p19), none, .heavy, oMkslice 1 [(.int .i64 (.ofNat 0))] t18 t18⟩,
 ⟨6, (some p22), none, .pure, oBuild [.nils, .nils, .nils] [(0, 1, t19), (2, 1, t21)]⟩,
 ⟨7, (some p5), none, .heavy, oAlloc (.row 0 3 (.node (some .nils) (.node (some .nils) .nil .nil) (.node (some .nils) .nil .nil)))⟩,
 ⟨8, none, none, .late, oStore 3 t5 t22⟩])
(sSeq (sSeq (I p23 (oFieldAddr t1 0) <|
 I p24 (oLoad1 t23) <|
 I p25 (oLenSl t24) <|
 I p26 (oMov (ci 0)) <|
 sEnd)
(sBlock 0 (sLoop (sSeq (I p27 (oLss t26 t25) <|
 sEnd)
(sSeq (sCond t27 sEnd (sExit 0))
(sSeq (sBlock 1 (sSeq (I p28 (oMov t26) <|
 I p29 (oIndexS 1 t24 t26) <|
 I p30 (oLoad1 t29) <|
 I p6 (oMov t28) <|
 I p7 (oMov t30) <|
 sEnd)
(sSeq (I p32 (oMov t3) <|
 I p33 (oMov t7) <|
 I p34 (oLookup keqI (.int .i64 (.ofNat 0)) t32 t33 true) <|
 I p31 (oMov t34) <|
 I p35 (oExtract t31 0) <|
 I p36 (oExtract t31 1) <|
 I p8 (oMov t35) <|
 I p9 (oMov t36) <|
 sEnd)
(sSeq (sSeq (I p37 (oMov t9) <|
 I p38 (oNot t37) <|
 sEnd)
(sCond t38 (sSeq (I p39 (oMov t4) <|
 I p40 (oLenSl t39) <|
 I p8 (oMov t40) <|
 sEnd)
(sSeq (I p41 (oMov t3) <|
 I p42 (oMov t7) <|
 I p43 (oMov t8) <|
 I0 (oMapset keqI t41 t42 t43) <|
 sEnd)
(I p44 (oMov t4) <|
 I p45 (oMov t7) <|
 I p46 (oBslice 1 1 [(.int .i64 (.ofNat 0))] [(0, 1, t45)]) <|
 I p47 (oAppend0 1 t44 t46) <|
 I p4 (oMov t47) <|
 sEnd))) sEnd))
(I p48 (oFieldAddr t5 0) <|
 I p49 (oLoad1 t48) <|
 I p50 (oMov t6) <|
 I p51 (oMov t8) <|
 I p52 (oIndexS 1 t49 t50) <|
 I0 (oStore 1 t52 t51) <|
 sEnd)))))
(I p53 (oAdd t26 (ci 1)) <|
 I p26 (oMov t53) <|
 sEnd)))))))
(sSeq (sSeq (I p54 (oFieldAddr t1 1) <|
 I p55 (oLoad1 t54) <|
 I p56 (oLenSl t55) <|
 I p57 (oMov (ci 0)) <|
 sEnd)
(sBlock 2 (sLoop (sSeq (I p58 (oLss t57 t56) <|
 sEnd)
(sSeq (sCond t58 sEnd (sExit 2))
(sSeq (sBlock 3 (sSeq (I p59 (oIndexS 1 t55 t57) <|
 I p60 (oLoad1 t59) <|
 I p11 (oMov t60) <|
 sEnd)
(sSeq (I p12 (oMov (c .nils)) <|
 sEnd)
(sSeq (sSeq (I p61 (oMov t4) <|
 I p62 (oLenSl t61) <|
 I p63 (oMov (ci 0)) <|
 sEnd)
(sBlock 4 (sLoop (sSeq (I p64 (oLss t63 t62) <|
 sEnd)
(sSeq (sCond t64 sEnd (sExit 4))
(sSeq (sBlock 5 (sSeq (I p65 (oIndexS 1 t61 t63) <|
 I p66 (oLoad1 t65) <|
 I p14 (oMov t66) <|
 sEnd)
(I p67 (oMov t12) <|
 I p68 (oMov t11) <|
 I p69 (oMov t14) <|
 I p70 (oIndexS 1 t68 t69) <|
 I p71 (oLoad1 t70) <|
 I p72 (oBslice 1 1 [(.int .i64 (.ofNat 0))] [(0, 1, t71)]) <|
 I p73 (oAppend0 1 t67 t72) <|
 I p12 (oMov t73) <|
 sEnd)))
(I p74 (oAdd t63 (ci 1)) <|
 I p63 (oMov t74) <|
 sEnd)))))))
(I p75 (oFieldAddr t5 1) <|
 I p76 (oLoad1 t75) <|
 I p77 (oMov t12) <|
 I p78 (oBslice 1 1 [.nils] [(0, 1, t77)]) <|
 I p79 (oAppend0 1 t76 t78) <|
 I p80 (oFieldAddr t5 1) <|
 I0 (oStore 1 t80 t79) <|
 sEnd)))))
(I p81 (oAdd t57 (ci 1)) <|
 I p57 (oMov t81) <|
 sEnd)))))))
(sSeq (I p82 (oLoadn 3 t5) <|
 I0 (oStore 3 t2 t82) <|
 sEnd)
sRet)))))))⟩
def s91 : List (Nat × Sched) := [(3, .hoist 0 (.hoist 1 (.hoist 2 (.hoist 4 (.hoist 5 (.two 3 (.hoist 6 (.one 7 (.one 8 (.done)))) 7 (.one 3 (.hoist 6 (.one 8 (.done))))))))))]
/- emendate/dfa.partition -/
noncomputable def a92 : AF := ⟨89, [.tmp p2],
(sSeq (I p1 (oBox t0) <|
 I p2 (oMov (c .nils)) <|
 sEnd)
(sSeq (I p14 (oFieldAddr t1 1) <|
 I p15 (oLoad1 t14) <|
 I p16 (oLenSl t15) <|
 I p17 (oMkslice 1 [(.int .i64 (.ofNat 0))] t16 t16) <|
 I p3 (oMov t17) <|
 sEnd)
(sSeq (I p4 (oMov (ci 0)) <|
 sEnd)
(sBlock 0 (sLoop (sBlock 1 (sSeq (I p18 (oMkmap) <|
 I p5 (oMov t18) <|
 sEnd)
(sSeq (I p19 (oMov t3) <|
 I p20 (oLenSl t19) <|
 I p21 (oMkslice 1 [(.int .i64 (.ofNat 0))] t20 t20) <|
 I p6 (oMov t21) <|
 sEnd)
(sSeq (sSeq (I p22 (oFieldAddr t1 1) <|
 I p23 (oLoad1 t22) <|
 I p24 (oLenSl t23) <|
 I p25 (oMov (ci 0)) <|
 sEnd)
(sBlock 2 (sLoop (sSeq (I p26 (oLss t25 t24) <|
 sEnd)
(sSeq (sCond t26 sEnd (sExit 2))
(sSeq (sBlock 3 (sSeq (I p27 (oMov t25) <|
 I p28 (oIndexS 1 t23 t25) <|
 I p29 (oLoad1 t28) <|
 I p7 (oMov t27) <|
 I p8 (oMov t29) <|
 sEnd)
(sSeq (I p30 (oMov t3) <|
 I p31 (oMov t7) <|
 I p32 (oIndexS 1 t30 t31) <|
 I p33 (oLoad1 t32) <|
 I p34 (oFieldAddr t1 2) <|
 I p35 (oLoad1 t34) <|
 I p36 (oMov t7) <|
 I p37 (oIndexS 1 t35 t36) <|
 I p38 (oLoad1 t37) <|
 I p39 (oAdd t38 (ci 1)) <|
 I p40 (oBslice 1 2 [(.int .i64 (.ofNat 0)), (.int .i64 (.ofNat 0))] [(0, 1, t33), (1, 1, t39)]) <|
 I p9 (oMov t40) <|
 sEnd)
(sSeq (sSeq (I p41 (oMov t8) <|
 I p42 (oLenSl t41) <|
 I p43 (oMov (ci 0)) <|
 sEnd)
(sBlock 4 (sLoop (sSeq (I p44 (oLss t43 t42) <|
 sEnd)
(sSeq (sCond t44 sEnd (sExit 4))
(sSeq (sBlock 5 (sSeq (I p45 (oIndexS 1 t41 t43) <|
 I p46 (oLoad1 t45) <|
 I p11 (oMov t46) <|
 sEnd)
(sSeq (I p47 (oMov t11) <|
 I p48 (oLss t47 (ci 0)) <|
 sEnd)
(sCond t48 (I p49 (oMov t9) <|
 I p50 (oBslice 1 1 [(.int .i64 (.ofNat 0))] [(0, 1, (ci 0))]) <|
 I p51 (oAppend0 1 t49 t50) <|
 I p9 (oMov t51) <|
 sEnd) (I p52 (oMov t9) <|
 I p53 (oMov t3) <|
 I p54 (oMov t11) <|
 I p55 (oIndexS 1 t53 t54) <|
 I p56 (oLoad1 t55) <|
 I p57 (oAdd t56 (ci 1)) <|
 I p58 (oBslice 1 1 [(.int .i64 (.ofNat 0))] [(0, 1, t57)]) <|
 I p59 (oAppend0 1 t52 t58) <|
 I p9 (oMov t59) <|
 sEnd)))))
(I p60 (oAdd t43 (ci 1)) <|
 I p43 (oMov t60) <|
 sEnd)))))))
(sSeq (I p62 (oMov t5) <|
 I p63 (oMov t9) <|
 I p64 (oCallF 118 [t63]) <|
 I p65 (oLookup keqS (.int .i64 (.ofNat 0)) t62 t64 true) <|
 I p61 (oMov t65) <|
 I p66 (oExtract t61 0) <|
 I p67 (oExtract t61 1) <|
 I p12 (oMov t66) <|
 I p13 (oMov t67) <|
 sEnd)
(sSeq (sSeq (I p68 (oMov t13) <|
 I p69 (oNot t68) <|
 sEnd)
(sCond t69 (sSeq (I p70 (oMov t5) <|
 I p71 (oLenM t70) <|
 I p12 (oMov t71) <|
 sEnd)
(I p72 (oMov t5) <|
 I p73 (oMov t9) <|
 I p74 (oCallF 118 [t73]) <|
 I p75 (oMov t12) <|
 I0 (oMapset keqS t72 t74 t75) <|
 sEnd)) sEnd))
(I p76 (oMov t6) <|
 I p77 (oMov t7) <|
 I p78 (oMov t12) <|
 I p79 (oIndexS 1 t76 t77) <|
 I0 (oStore 1 t79 t78) <|
 sEnd)))))))
(I p80 (oAdd t25 (ci 1)) <|
 I p25 (oMov t80) <|
 sEnd)))))))
(sSeq (I p81 (oMov t6) <|
 I p3 (oMov t81) <|
 sEnd)
(sSeq (sSeq (I p82 (oMov t5) <|
 I p83 (oLenM t82) <|
 I p84 (oMov t4) <|
 I p85 (oEq t83 t84) <|
 sEnd)
(sCond t85 (sSeq (I p86 (oMov t3) <|
 I p2 (oMov t86) <|
 sEnd)
sRet) sEnd))
(I p87 (oMov t5) <|
 I p88 (oLenM t87) <|
 I p4 (oMov t88) <|
 sEnd))))))))))))⟩
def s92 : List (Nat × Sched) := [(8, .hoist 0 (.hoist 1 (.hoist 2 (.hoist 3 (.hoist 4 (.hoist 5 (.hoist 6 (.hoist 7 (.hoist 8 (.hoist 9 (.one 10 (.hoist 11 (.done)))))))))))))]
/- emendate/dfa.classes -/
noncomputable def a93 : AF := ⟨66, [.tmp p6],
(sSeq (I p3 (oBox t0) <|
 I p6 (oMov (c .nils)) <|
 sEnd)
(sSeq (I p16 (oMkslice 1 [(.int .i64 (.ofNat 0))] (ci 256) (ci 256)) <|
 I p7 (oMov t16) <|
 sEnd)
(sSeq (I p17 (oMkmap) <|
 I p8 (oMov t17) <|
 sEnd)
(sSeq (sSeq (I p18 (oMov t7) <|
 I p19 (oLenSl t18) <|
 I p20 (oMov (ci 0)) <|
 sEnd)
(sBlock 0 (sLoop (sSeq (I p21 (oLss t20 t19) <|
 sEnd)
(sSeq (sCond t21 sEnd (sExit 0))
(sSeq (sBlock 1 (sSeq (I p22 (oMov t20) <|
 I p9 (oMov t22) <|
 sEnd)
(sSeq (I p10 (oMov (c .nils)) <|
 sEnd)
(sSeq (sSeq (I p23 (oMov t1) <|
 I p24 (oLenSl t23) <|
 I p25 (oMov (ci 0)) <|
 sEnd)
(sBlock 2 (sLoop (sSeq (I p26 (oLss t25 t24) <|
 sEnd)
(sSeq (sCond t26 sEnd (sExit 2))
(sSeq (sBlock 3 (sSeq (I p27 (oIndexS 1 t23 t25) <|
 I p28 (oLoad1 t27) <|
 I p12 (oMov t28) <|
 sEnd)
(sSeq (I p29 (oLoadn 3 t3) <|
 I p30 (oMov t12) <|
 I p31 (oMov t9) <|
 I p32 (oConv .u8 t31) <|
 I p33 (oCallF 67 [t29, t30, t32]) <|
 I p13 (oMov t33) <|
 sEnd)
(sSeq (sSeq (I p34 (oMov t13) <|
 I p35 (oGeq t34 (ci 0)) <|
 sEnd)
(sCond t35 (I p36 (oMov t2) <|
 I p37 (oMov t13) <|
 I p38 (oIndexS 1 t36 t37) <|
 I p39 (oLoad1 t38) <|
 I p13 (oMov t39) <|
 sEnd) sEnd))
(I p40 (oMov t10) <|
 I p41 (oMov t13) <|
 I p42 (oBslice 1 1 [(.int .i64 (.ofNat 0))] [(0, 1, t41)]) <|
 I p43 (oAppend0 1 t40 t42) <|
 I p10 (oMov t43) <|
 sEnd)))))
(I p44 (oAdd t25 (ci 1)) <|
 I p25 (oMov t44) <|
 sEnd)))))))
(sSeq (I p46 (oMov t8) <|
 I p47 (oMov t10) <|
 I p48 (oCallF 118 [t47]) <|
 I p49 (oLookup keqS (.int .i64 (.ofNat 0)) t46 t48 true) <|
 I p45 (oMov t49) <|
 I p50 (oExtract t45 0) <|
 I p51 (oExtract t45 1) <|
 I p14 (oMov t50) <|
 I p15 (oMov t51) <|
 sEnd)
(sSeq (sSeq (I p52 (oMov t15) <|
 I p53 (oNot t52) <|
 sEnd)
(sCond t53 (sSeq (I p54 (oMov t8) <|
 I p55 (oLenM t54) <|
 I p14 (oMov t55) <|
 sEnd)
(I p56 (oMov t8) <|
 I p57 (oMov t10) <|
 I p58 (oCallF 118 [t57]) <|
 I p59 (oMov t14) <|
 I0 (oMapset keqS t56 t58 t59) <|
 sEnd)) sEnd))
(I p60 (oMov t7) <|
 I p61 (oMov t9) <|
 I p62 (oMov t14) <|
 I p63 (oIndexS 1 t60 t61) <|
 I0 (oStore 1 t63 t62) <|
 sEnd)))))))
(I p64 (oAdd t20 (ci 1)) <|
 I p20 (oMov t64) <|
 sEnd)))))))
(sSeq (I p65 (oMov t7) <|
 I p6 (oMov t65) <|
 sEnd)
sRet)))))⟩
def s93 : List (Nat × Sched) := []
/- emendate/dfa.reached -/
noncomputable def a94 : AF := ⟨63, [.tmp p4],
(sSeq (I p2 (oBox t0) <|
 I p4 (oMov (c .nils)) <|
 sEnd)
(sSeq (I p10 (oBslice 1 1 [(.int .i64 (.ofNat 0))] [(0, 1, (ci 0))]) <|
 I p5 (oMov t10) <|
 sEnd)
(sSeq (I p11 (oFieldAddr t2 1) <|
 I p12 (oLoad1 t11) <|
 I p13 (oLenSl t12) <|
 I p14 (oMkslice 1 [(.bool false)] t13 t13) <|
 I p6 (oMov t14) <|
 sEnd)
(sSeq (I p15 (oMov t6) <|
 I p16 (oMov t1) <|
 I p17 (oIndexS 1 t16 (ci 0)) <|
 I p18 (oLoad1 t17) <|
 I p19 (oIndexS 1 t15 t18) <|
 I0 (oStore 1 t19 (c (.bool true))) <|
 sEnd)
(sSeq (sSeq (I p7 (oMov (ci 0)) <|
 sEnd)
(sBlock 0 (sLoop (sSeq (sSeq (I p20 (oMov t7) <|
 I p21 (oMov t5) <|
 I p22 (oLenSl t21) <|
 I p23 (oLss t20 t22) <|
 sEnd)
(sCond t23 sEnd (sExit 0)))
(sSeq (sBlock 1 (sSeq (I p26 (oFieldAddr t2 1) <|
 I p27 (oLoad1 t26) <|
 I p28 (oMov t5) <|
 I p29 (oMov t7) <|
 I p30 (oIndexS 1 t28 t29) <|
 I p31 (oLoad1 t30) <|
 I p32 (oIndexS 1 t27 t31) <|
 I p33 (oLoad1 t32) <|
 I p34 (oLenSl t33) <|
 I p35 (oMov (ci 0)) <|
 sEnd)
(sBlock 2 (sLoop (sSeq (I p36 (oLss t35 t34) <|
 sEnd)
(sSeq (sCond t36 sEnd (sExit 2))
(sSeq (sBlock 3 (sSeq (I p37 (oIndexS 1 t33 t35) <|
 I p38 (oLoad1 t37) <|
 I p9 (oMov t38) <|
 sEnd)
(sSeq (I p39 (oMov t9) <|
 I p40 (oGeq t39 (ci 0)) <|
 I p41 (oMov t40) <|
 G p41 true p42 (oMov t6) <|
 G p41 true p43 (oMov t1) <|
 G p41 true p44 (oMov t9) <|
 G p41 true p45 (oIndexS 1 t43 t44) <|
 G p41 true p46 (oLoad1 t45) <|
 G p41 true p47 (oIndexS 1 t42 t46) <|
 G p41 true p48 (oLoad1 t47) <|
 G p41 true p49 (oNot t48) <|
 I p50 (oPick t41 t49 (c (.bool false))) <|
 sEnd)
(sCond t50 (sSeq (I p51 (oMov t6) <|
 I p52 (oMov t1) <|
 I p53 (oMov t9) <|
 I p54 (oIndexS 1 t52 t53) <|
 I p55 (oLoad1 t54) <|
 I p56 (oIndexS 1 t51 t55) <|
 I0 (oStore 1 t56 (c (.bool true))) <|
 sEnd)
(I p57 (oMov t5) <|
 I p58 (oMov t9) <|
 I p59 (oBslice 1 1 [(.int .i64 (.ofNat 0))] [(0, 1, t58)]) <|
 I p60 (oAppend0 1 t57 t59) <|
 I p5 (oMov t60) <|
 sEnd)) sEnd))))
(I p61 (oAdd t35 (ci 1)) <|
 I p35 (oMov t61) <|
 sEnd))))))))
(I p24 (oMov t7) <|
 I p25 (oAdd t24 (ci 1)) <|
 I p7 (oMov t25) <|
 sEnd))))))
(sSeq (I p62 (oMov t5) <|
 I p4 (oMov t62) <|
 sEnd)
sRet))))))⟩
def s94 : List (Nat × Sched) := [(7, .hoist 0 (.hoist 1 (.hoist 2 (.hoist 3 (.hoist 4 (.hoist 5 (.hoist 6 (.hoist 7 (.hoist 8 (.hoist 9 (.done)))))))))))]
/- emendate/byteset.Range -/
noncomputable def a95 : AF := ⟨25, [.celln p4 4],
(sSeq (I p4 (oAlloc (.row 0 4 (.node (some (.int .u64 (.ofNat 0))) (.node (some (.int .u64 (.ofNat 0))) (.node (some (.int .u64 (.ofNat 0))) .nil .nil) .nil) (.node (some (.int .u64 (.ofNat 0))) .nil .nil)))) <|
 sEnd)
(sSeq (I p5 (oAlloc (.row 0 4 (.node (some (.int .u64 (.ofNat 0))) (.node (some (.int .u64 (.ofNat 0))) (.node (some (.int .u64 (.ofNat 0))) .nil .nil) .nil) (.node (some (.int .u64 (.ofNat 0))) .nil .nil)))) <|
 sEnd)
(sSeq (sSeq (I p7 (oMov t0) <|
 I p8 (oConv .i64 t7) <|
 I p6 (oMov t8) <|
 sEnd)
(sBlock 0 (sLoop (sSeq (sSeq (I p9 (oMov t6) <|
 I p10 (oMov t1) <|
 I p11 (oConv .i64 t10) <|
 I p12 (oLeq t9 t11) <|
 sEnd)
(sCond t12 sEnd (sExit 0)))
(sSeq (sBlock 1 (I p15 (oMov t6) <|
 I p16 (oQuo t15 (ci 64)) <|
 I p17 (oIndexA 4 1 t5 t16) <|
 I p18 (oLoad1 t17) <|
 I p19 (oMov t6) <|
 I p20 (oRem t19 (ci 64)) <|
 I p21 (oShl (c (.int .u64 (.ofNat 1))) t20) <|
 I p22 (oOr t18 t21) <|
 I p23 (oIndexA 4 1 t5 t16) <|
 I0 (oStore 1 t23 t22) <|
 sEnd))
(I p13 (oMov t6) <|
 I p14 (oAdd t13 (ci 1)) <|
 I p6 (oMov t14) <|
 sEnd))))))
(sSeq (I p24 (oLoadn 4 t5) <|
 I0 (oStore 4 t4 t24) <|
 sEnd)
sRet))))⟩
def s95 : List (Nat × Sched) := [(5, .hoist 0 (.hoist 1 (.hoist 2 (.hoist 3 (.hoist 4 (.hoist 5 (.hoist 6 (.hoist 7 (.hoist 8 (.one 9 (.done)))))))))))]
/- (*emendate/regex.reader).atom -/
noncomputable def a96 : AF := ⟨43, [.celln p2 6],
(sSeq (I p2 (oAlloc (.row 0 6 (.node (some (.int .i64 (.ofNat 0))) (.node (some (.int .u64 (.ofNat 0))) (.node (some (.int .u64 (.ofNat 0))) .nil .nil) (.node (some .nils) .nil .nil)) (.node (some (.int .u64 (.ofNat 0))) (.node (some (.int .u64 (.ofNat 0))) .nil .nil) .nil)))) <|
 sEnd)
(sSeq (sSeq (I p5 (oMov t0) <|
 I p6 (oCallF 40 [t5]) <|
 sEnd)
(sBlock 0 (sSeq (I p8 (oEq t6 (c (.int .u8 (.ofNat 40)))) <|
 I p7 (oMov t8) <|
 sEnd)
(sCond t7 (sSeq (I p9 (oMov t0) <|
 I p10 (oNil t9) <|
 I p11 (oFieldAddr t10 1) <|
 I p12 (oLoad1 t11) <|
 I p13 (oAdd t12 (ci 1)) <|
 I p14 (oNil t9) <|
 I p15 (oFieldAddr t14 1) <|
 I0 (oStore 1 t15 t13) <|
 sEnd)
(sSeq (I p16 (oMov t0) <|
 I p17 (oCallF 19 [t16]) <|
 I p3 (oAlloc (.row 0 6 (.node (some (.int .i64 (.ofNat 0))) (.node (some (.int .u64 (.ofNat 0))) (.node (some (.int .u64 (.ofNat 0))) .nil .nil) (.node (some .nils) .nil .nil)) (.node (some (.int .u64 (.ofNat 0))) (.node (some (.int .u64 (.ofNat 0))) .nil .nil) .nil)))) <|
 I0 (oStore 6 t3 t17) <|
 sEnd)
(sSeq (I p18 (oMov t0) <|
 I p19 (oCallF 119 [t18, (c (.int .u8 (.ofNat 41)))]) <|
 sEnd)
(sSeq (I p20 (oLoadn 6 t3) <|
 I0 (oStore 6 t2 t20) <|
 sEnd)
sRet)))) (sSeq (I p22 (oEq t6 (c (.int .u8 (.ofNat 91)))) <|
 I p21 (oMov t22) <|
 sEnd)
(sCond t21 (sSeq (I p23 (oMov t0) <|
 I p24 (oCallF 120 [t23]) <|
 I p25 (oBuild [(.int .i64 (.ofNat 0)), (.int .u64 (.ofNat 0)), (.int .u64 (.ofNat 0)), (.int .u64 (.ofNat 0)), (.int .u64 (.ofNat 0)), .nils] [(0, 1, (ci 3)), (1, 4, t24)]) <|
 I0 (oStore 6 t2 t25) <|
 sEnd)
sRet) (sSeq (I p27 (oEq t6 (c (.int .u8 (.ofNat 46)))) <|
 I p26 (oMov t27) <|
 sEnd)
(sCond t26 (sSeq (I p28 (oMov t0) <|
 I p29 (oNil t28) <|
 I p30 (oFieldAddr t29 1) <|
 I p31 (oLoad1 t30) <|
 I p32 (oAdd t31 (ci 1)) <|
 I p33 (oNil t28) <|
 I p34 (oFieldAddr t33 1) <|
 I0 (oStore 1 t34 t32) <|
 sEnd)
(sSeq (I p35 (oCallF 121 []) <|
 I p36 (oBuild [(.int .i64 (.ofNat 0)), (.int .u64 (.ofNat 0)), (.int .u64 (.ofNat 0)), (.int .u64 (.ofNat 0)), (.int .u64 (.ofNat 0)), .nils] [(0, 1, (ci 3)), (1, 4, t35)]) <|
 I0 (oStore 6 t2 t36) <|
 sEnd)
sRet)) sEnd))))))))
(sSeq (I p37 (oMov t0) <|
 I p38 (oCallF 122 [t37, (c (.str [40, 41, 91, 93, 124, 42, 43, 63, 46, 92]))]) <|
 I p4 (oMov t38) <|
 sEnd)
(sSeq (I p39 (oMov t4) <|
 I p40 (oMov t4) <|
 I p41 (oCallF 95 [t39, t40]) <|
 I p42 (oBuild [(.int .i64 (.ofNat 0)), (.int .u64 (.ofNat 0)), (.int .u64 (.ofNat 0)), (.int .u64 (.ofNat 0)), (.int .u64 (.ofNat 0)), .nils] [(0, 1, (ci 3)), (1, 4, t41)]) <|
 I0 (oStore 6 t2 t42) <|
 sEnd)
sRet))))⟩
def s96 : List (Nat × Sched) := []
/- emendate/analysis.fixpoint -/
noncomputable def a97 : AF := ⟨17, [],
(sSeq (I p2 (oBox t0) <|
 sEnd)
(sSeq sEnd
(sBlock 0 (sLoop (sBlock 1 (sSeq (sSeq (I p6 (oFieldAddr t2 3) <|
 I p7 (oLoad1 t6) <|
 I p8 (oLenSl t7) <|
 I p9 (oMov (ci 0)) <|
 sEnd)
(sBlock 2 (sLoop (sSeq (I p10 (oLss t9 t8) <|
 sEnd)
(sSeq (sCond t10 sEnd (sExit 2))
(sSeq (sBlock 3 (sSeq (I p11 (oIndexS 3 t7 t9) <|
 I p12 (oLoadn 3 t11) <|
 I p5 (oAlloc (.row 0 3 (.node (some (.int .i64 (.ofNat 0))) (.node (some .nils) .nil .nil) (.node (some (.int .i64 (.ofNat 0))) .nil .nil)))) <|
 I0 (oStore 3 t5 t12) <|
 sEnd)
(sSeq (I p13 (oMov t1) <|
 I p14 (oLoadn 3 t5) <|
 I p15 (oCall t13 [t14]) <|
 sEnd)
(sCond t15 (sExit 1) sEnd))))
(I p16 (oAdd t9 (ci 1)) <|
 I p9 (oMov t16) <|
 sEnd)))))))
sRet))))))⟩
def s97 : List (Nat × Sched) := []
/- emendate/analysis.heads$1 -/
noncomputable def a98 : AF := ⟨21, [.tmp p4],
(sSeq (I p3 (oBox t0) <|
 I p4 (oMov (c (.bool false))) <|
 sEnd)
(sSeq (sSeq (I p5 (oLoad1 t1) <|
 I p6 (oFieldAddr t3 0) <|
 I p7 (oLoad1 t6) <|
 I p8 (oIndexS 1 t5 t7) <|
 I p9 (oLoad1 t8) <|
 I p10 (oMov t9) <|
 G p10 false p11 (oFieldAddr t3 1) <|
 G p10 false p12 (oLoad1 t11) <|
 G p10 false p13 (oMkfn 100 [] [t2, t1]) <|
 G p10 false p14 (oCallF 99 [t12, t13]) <|
 G p10 false p15 (oNot t14) <|
 I p16 (oPick t10 (c (.bool true)) t15) <|
 sEnd)
(sCond t16 (sSeq (I p4 (oMov (c (.bool false))) <|
 sEnd)
sRet) sEnd))
(sSeq (I p17 (oLoad1 t1) <|
 I p18 (oFieldAddr t3 0) <|
 I p19 (oLoad1 t18) <|
 I p20 (oIndexS 1 t17 t19) <|
 I0 (oStore 1 t20 (c (.bool true))) <|
 sEnd)
(sSeq (I p4 (oMov (c (.bool true))) <|
 sEnd)
sRet))))⟩
def s98 : List (Nat × Sched) := []
/- emendate/analysis.all -/
noncomputable def a99 : AF := ⟨18, [.tmp p4],
(sSeq (I p4 (oMov (c (.bool false))) <|
 sEnd)
(sSeq (sSeq (I p7 (oMov t0) <|
 I p8 (oLenSl t7) <|
 I p9 (oMov (ci 0)) <|
 sEnd)
(sBlock 0 (sLoop (sSeq (I p10 (oLss t9 t8) <|
 sEnd)
(sSeq (sCond t10 sEnd (sExit 0))
(sSeq (sBlock 1 (sSeq (I p11 (oIndexS 1 t7 t9) <|
 I p12 (oLoad1 t11) <|
 I p6 (oMov t12) <|
 sEnd)
(sSeq (I p13 (oMov t1) <|
 I p14 (oMov t6) <|
 I p15 (oCall t13 [t14]) <|
 I p16 (oNot t15) <|
 sEnd)
(sCond t16 (sSeq (I p4 (oMov (c (.bool false))) <|
 sEnd)
sRet) sEnd))))
(I p17 (oAdd t9 (ci 1)) <|
 I p9 (oMov t17) <|
 sEnd)))))))
(sSeq (I p4 (oMov (c (.bool true))) <|
 sEnd)
sRet)))⟩
def s99 : List (Nat × Sched) := []
/- emendate/analysis.heads$1$1 -/
noncomputable def a100 : AF := ⟨21, [.tmp p4],
(sSeq (I p4 (oMov (c (.bool false))) <|
 sEnd)
(sSeq (I p5 (oMov t0) <|
 I p6 (oGeq t5 (ci 0)) <|
 I p7 (oMov t6) <|
 G p7 true p8 (oLoad1 t1) <|
 I p9 (oPick t7 t8 (c (.bool false))) <|
 I p10 (oMov t9) <|
 G p10 false p11 (oMov t0) <|
 G p10 false p12 (oLss t11 (ci 0)) <|
 G p10 false p13 (oMov t12) <|
 G p13 true p14 (oLoad1 t2) <|
 G p13 true p15 (oMov t0) <|
 G p13 true p16 (oSub (c (.int .i64 (.negSucc 0))) t15) <|
 G p13 true p17 (oIndexS 1 t14 t16) <|
 G p13 true p18 (oLoad1 t17) <|
 G p10 false p19 (oPick t13 t18 (c (.bool false))) <|
 I p20 (oPick t10 (c (.bool true)) t19) <|
 I p4 (oMov t20) <|
 sEnd)
sRet))⟩
def s100 : List (Nat × Sched) := []
/- slices.ContainsFunc[[]int,int] -/
noncomputable def a101 : AF := ⟨9, [.tmp p4],
(sSeq (I p4 (oMov (c (.bool false))) <|
 sEnd)
(sSeq (I p5 (oMov t0) <|
 I p6 (oMov t1) <|
 I p7 (oCallF 123 [t5, t6]) <|
 I p8 (oGeq t7 (ci 0)) <|
 I p4 (oMov t8) <|
 sEnd)
sRet))⟩
def s101 : List (Nat × Sched) := []
/- (*emendate/recognizer.earley).works$1 -/
noncomputable def a102 : AF := ⟨17, [.tmp p3],
(sSeq (I p3 (oMov (c (.bool false))) <|
 sEnd)
(sSeq (I p4 (oMov t0) <|
 I p5 (oLss t4 (ci 0)) <|
 I p6 (oMov t5) <|
 G p6 true p7 (oLoad1 t1) <|
 G p6 true p8 (oNil t7) <|
 G p6 true p9 (oFieldAddr t8 4) <|
 G p6 true p10 (oLoad1 t9) <|
 G p6 true p11 (oMov t0) <|
 G p6 true p12 (oSub (c (.int .i64 (.negSucc 0))) t11) <|
 G p6 true p13 (oIndexS 1 t10 t12) <|
 G p6 true p14 (oLoad1 t13) <|
 G p6 true p15 (oNot t14) <|
 I p16 (oPick t6 t15 (c (.bool false))) <|
 I p3 (oMov t16) <|
 sEnd)
sRet))⟩
def s102 : List (Nat × Sched) := []
/- (*emendate/nfa.builder).none -/
noncomputable def a103 : AF := ⟨6, [.celln p4 3],
(sSeq (I p3 (oBox t1) <|
 I p4 (oAlloc (.row 0 3 (.node (some (.bool false)) (.node (some .nils) .nil .nil) (.node (some .nils) .nil .nil)))) <|
 sEnd)
(sSeq (I p5 (oBuild [(.bool false), .nils, .nils] []) <|
 I0 (oStore 3 t4 t5) <|
 sEnd)
sRet))⟩
def s103 : List (Nat × Sched) := []
/- (*emendate/nfa.builder).empty -/
noncomputable def a104 : AF := ⟨6, [.celln p4 3],
(sSeq (I p3 (oBox t1) <|
 I p4 (oAlloc (.row 0 3 (.node (some (.bool false)) (.node (some .nils) .nil .nil) (.node (some .nils) .nil .nil)))) <|
 sEnd)
(sSeq (I p5 (oBuild [(.bool false), .nils, .nils] [(0, 1, (c (.bool true)))]) <|
 I0 (oStore 3 t4 t5) <|
 sEnd)
sRet))⟩
def s104 : List (Nat × Sched) := []
/- (*emendate/nfa.builder).set -/
noncomputable def a105 : AF := ⟨36, [.celln p4 3],
(sSeq (I p3 (oBox t1) <|
 I p4 (oAlloc (.row 0 3 (.node (some (.bool false)) (.node (some .nils) .nil .nil) (.node (some .nils) .nil .nil)))) <|
 sEnd)
(sSeq (sDraw [⟨0, (some p6), none, .pure, oMov t0⟩,
 ⟨1, (some p7), none, .pure, oMov t0⟩,
 ⟨2, (some p8), none, .pure, oNil t7⟩,
 ⟨3, (some p9), none, .pure, oFieldAddr t8 0⟩,
 ⟨4, (some p10), none, (.load 1 t9), oLoad1 t9⟩,
 ⟨5, (some p11), none, .pure, oFieldAddr t3 1⟩,
 ⟨6, (some p12), none, (.load 4 t11), oLoadn 4 t11⟩,
 ⟨7, (some p13), none, .heavy, oBslice 4 1 [(.int .u64 (.ofNat 0)), (.int .u64 (.ofNat 0)), (.int .u64 (.ofNat 0)), (.int .u64 (.ofNat 0))] [(0, 4, t12)]⟩,
 ⟨8, (some p14), none, .late, oAppend0 4 t10 t13⟩,
 ⟨9, (some p15), none, .pure, oNil t6⟩,
 ⟨10, (some p16), none, .pure, oFieldAddr t15 0⟩,
 ⟨11, none, none, .late, oStore 1 t16 t14⟩])
(sSeq (I p17 (oMov t0) <|
 I p18 (oMov t0) <|
 I p19 (oNil t18) <|
 I p20 (oFieldAddr t19 1) <|
 I p21 (oLoad1 t20) <|
 I p22 (oMkmap) <|
 I p23 (oBslice 1 1 [.nilm] [(0, 1, t22)]) <|
 I p24 (oAppend0 1 t21 t23) <|
 I p25 (oNil t17) <|
 I p26 (oFieldAddr t25 1) <|
 I0 (oStore 1 t26 t24) <|
 sEnd)
(sSeq (I p27 (oMov t0) <|
 I p28 (oNil t27) <|
 I p29 (oFieldAddr t28 0) <|
 I p30 (oLoad1 t29) <|
 I p31 (oLenSl t30) <|
 I p32 (oBslice 1 1 [(.int .i64 (.ofNat 0))] [(0, 1, t31)]) <|
 I p5 (oMov t32) <|
 sEnd)
(sSeq (I p33 (oMov t5) <|
 I p34 (oMov t5) <|
 I p35 (oBuild [(.bool false), .nils, .nils] [(1, 1, t33), (2, 1, t34)]) <|
 I0 (oStore 3 t4 t35) <|
 sEnd)
sRet)))))⟩
def s105 : List (Nat × Sched) := [(1, .hoist 0 (.hoist 1 (.hoist 2 (.hoist 3 (.hoist 4 (.hoist 5 (.hoist 6 (.one 7 (.one 8 (.hoist 9 (.hoist 10 (.one 11 (.done)))))))))))))]
/- (*emendate/nfa.builder).concat -/
noncomputable def a106 : AF := ⟨56, [.celln p4 3],
(sSeq (I p3 (oBox t1) <|
 I p4 (oAlloc (.row 0 3 (.node (some (.bool false)) (.node (some .nils) .nil .nil) (.node (some .nils) .nil .nil)))) <|
 sEnd)
(sSeq (I p9 (oBuild [(.bool false), .nils, .nils] [(0, 1, (c (.bool true)))]) <|
 I p5 (oAlloc (.row 0 3 (.node (some (.bool false)) (.node (some .nils) .nil .nil) (.node (some .nils) .nil .nil)))) <|
 I0 (oStore 3 t5 t9) <|
 sEnd)
(sSeq (sSeq (I p10 (oFieldAddr t3 5) <|
 I p11 (oLoad1 t10) <|
 I p12 (oLenSl t11) <|
 I p13 (oMov (ci 0)) <|
 sEnd)
(sBlock 0 (sLoop (sSeq (I p14 (oLss t13 t12) <|
 sEnd)
(sSeq (sCond t14 sEnd (sExit 0))
(sSeq (sBlock 1 (sSeq (I p15 (oIndexS 6 t11 t13) <|
 I p16 (oLoadn 6 t15) <|
 I p7 (oAlloc (.row 0 6 (.node (some (.int .i64 (.ofNat 0))) (.node (some (.int .u64 (.ofNat 0))) (.node (some (.int .u64 (.ofNat 0))) .nil .nil) (.node (some .nils) .nil .nil)) (.node (some (.int .u64 (.ofNat 0))) (.node (some (.int .u64 (.ofNat 0))) .nil .nil) .nil)))) <|
 I0 (oStore 6 t7 t16) <|
 sEnd)
(sSeq (I p17 (oMov t0) <|
 I p18 (oLoadn 6 t7) <|
 I p19 (oCallF 79 [t17, t18]) <|
 I p8 (oAlloc (.row 0 3 (.node (some (.bool false)) (.node (some .nils) .nil .nil) (.node (some .nils) .nil .nil)))) <|
 I0 (oStore 3 t8 t19) <|
 sEnd)
(sSeq (I p20 (oMov t0) <|
 I p21 (oFieldAddr t5 2) <|
 I p22 (oLoad1 t21) <|
 I p23 (oFieldAddr t8 1) <|
 I p24 (oLoad1 t23) <|
 I p25 (oCallF 80 [t20, t22, t24]) <|
 sEnd)
(sSeq (sSeq (I p26 (oFieldAddr t5 0) <|
 I p27 (oLoad1 t26) <|
 sEnd)
(sCond t27 (I p28 (oFieldAddr t5 1) <|
 I p29 (oLoad1 t28) <|
 I p30 (oFieldAddr t8 1) <|
 I p31 (oLoad1 t30) <|
 I p32 (oBslice 1 2 [.nils, .nils] [(0, 1, t29), (1, 1, t31)]) <|
 I p33 (oCallF 124 [t32]) <|
 I p34 (oFieldAddr t5 1) <|
 I0 (oStore 1 t34 t33) <|
 sEnd) sEnd))
(sSeq (sSeq (I p35 (oFieldAddr t8 0) <|
 I p36 (oLoad1 t35) <|
 sEnd)
(sCond t36 (I p37 (oFieldAddr t5 2) <|
 I p38 (oLoad1 t37) <|
 I p39 (oFieldAddr t8 2) <|
 I p40 (oLoad1 t39) <|
 I p41 (oBslice 1 2 [.nils, .nils] [(0, 1, t38), (1, 1, t40)]) <|
 I p42 (oCallF 124 [t41]) <|
 I p43 (oFieldAddr t5 2) <|
 I0 (oStore 1 t43 t42) <|
 sEnd) (I p44 (oFieldAddr t8 2) <|
 I p45 (oLoad1 t44) <|
 I p46 (oFieldAddr t5 2) <|
 I0 (oStore 1 t46 t45) <|
 sEnd)))
(I p47 (oFieldAddr t5 0) <|
 I p48 (oLoad1 t47) <|
 I p49 (oMov t48) <|
 G p49 true p50 (oFieldAddr t8 0) <|
 G p49 true p51 (oLoad1 t50) <|
 I p52 (oPick t49 t51 (c (.bool false))) <|
 I p53 (oFieldAddr t5 0) <|
 I0 (oStore 1 t53 t52) <|
 sEnd)))))))
(I p54 (oAdd t13 (ci 1)) <|
 I p13 (oMov t54) <|
 sEnd)))))))
(sSeq (I p55 (oLoadn 3 t5) <|
 I0 (oStore 3 t4 t55) <|
 sEnd)
sRet))))⟩
def s106 : List (Nat × Sched) := []
/- (*emendate/nfa.builder).union -/
noncomputable def a107 : AF := ⟨40, [.celln p4 3],
(sSeq (I p3 (oBox t1) <|
 I p4 (oAlloc (.row 0 3 (.node (some (.bool false)) (.node (some .nils) .nil .nil) (.node (some .nils) .nil .nil)))) <|
 sEnd)
(sSeq (I p5 (oAlloc (.row 0 3 (.node (some (.bool false)) (.node (some .nils) .nil .nil) (.node (some .nils) .nil .nil)))) <|
 sEnd)
(sSeq (sSeq (I p9 (oFieldAddr t3 5) <|
 I p10 (oLoad1 t9) <|
 I p11 (oLenSl t10) <|
 I p12 (oMov (ci 0)) <|
 sEnd)
(sBlock 0 (sLoop (sSeq (I p13 (oLss t12 t11) <|
 sEnd)
(sSeq (sCond t13 sEnd (sExit 0))
(sSeq (sBlock 1 (sSeq (I p14 (oIndexS 6 t10 t12) <|
 I p15 (oLoadn 6 t14) <|
 I p7 (oAlloc (.row 0 6 (.node (some (.int .i64 (.ofNat 0))) (.node (some (.int .u64 (.ofNat 0))) (.node (some (.int .u64 (.ofNat 0))) .nil .nil) (.node (some .nils) .nil .nil)) (.node (some (.int .u64 (.ofNat 0))) (.node (some (.int .u64 (.ofNat 0))) .nil .nil) .nil)))) <|
 I0 (oStore 6 t7 t15) <|
 sEnd)
(sSeq (I p16 (oMov t0) <|
 I p17 (oLoadn 6 t7) <|
 I p18 (oCallF 79 [t16, t17]) <|
 I p8 (oAlloc (.row 0 3 (.node (some (.bool false)) (.node (some .nils) .nil .nil) (.node (some .nils) .nil .nil)))) <|
 I0 (oStore 3 t8 t18) <|
 sEnd)
(sDraw [⟨0, (some p19), none, .pure, oFieldAddr t5 0⟩,
 ⟨1, (some p20), none, (.load 1 t19), oLoad1 t19⟩,
 ⟨2, (some p21), none, .pure, oMov t20⟩,
 ⟨3, (some p22), some (p21, false), .pure, oFieldAddr t8 0⟩,
 ⟨4, (some p23), some (p21, false), (.load 1 t22), oLoad1 t22⟩,
 ⟨5, (some p24), none, .pure, oPick t21 (c (.bool true)) t23⟩,
 ⟨6, (some p25), none, .pure, oFieldAddr t5 1⟩,
 ⟨7, (some p26), none, (.load 1 t25), oLoad1 t25⟩,
 ⟨8, (some p27), none, .pure, oFieldAddr t8 1⟩,
 ⟨9, (some p28), none, (.load 1 t27), oLoad1 t27⟩,
 ⟨12, (some p31), none, .pure, oFieldAddr t5 2⟩,
 ⟨13, (some p32), none, (.load 1 t31), oLoad1 t31⟩,
 ⟨14, (some p33), none, .pure, oFieldAddr t8 2⟩,
 ⟨15, (some p34), none, (.load 1 t33), oLoad1 t33⟩,
 ⟨10, (some p29), none, .heavy, oBslice 1 2 [.nils, .nils] [(0, 1, t26), (1, 1, t28)]⟩,
 ⟨11, (some p30), none, .heavy, oCallF 124 [t29]⟩,
 ⟨16, (some p35), none, .heavy, oBslice 1 2 [.nils, .nils] [(0, 1, t32), (1, 1, t34)]⟩,
 ⟨17, (some p36), none, .heavy, oCallF 124 [t35]⟩,
 ⟨18, (some p37), none, .pure, oBuild [(.bool false), .nils, .nils] [(0, 1, t24), (1, 1, t30), (2, 1, t36)]⟩,
 ⟨19, none, none, .late, oStore 3 t5 t37⟩]))))
(I p38 (oAdd t12 (ci 1)) <|
 I p12 (oMov t38) <|
 sEnd)))))))
(sSeq (I p39 (oLoadn 3 t5) <|
 I0 (oStore 3 t4 t39) <|
 sEnd)
sRet))))⟩
def s107 : List (Nat × Sched) := [(6, .hoist 0 (.hoist 1 (.hoist 2 (.hoist 3 (.hoist 4 (.hoist 5 (.hoist 6 (.hoist 7 (.hoist 8 (.hoist 9 (.hoist 12 (.hoist 13 (.hoist 14 (.hoist 15 (.two 10 (.two 11 (.one 16 (.one 17 (.hoist 18 (.one 19 (.done))))) 16 (.one 11 (.one 17 (.hoist 18 (.one 19 (.done)))))) 16 (.one 10 (.one 11 (.one 17 (.hoist 18 (.one 19 (.done)))))))))))))))))))))]
/- (*emendate/nfa.builder).star -/
noncomputable def a108 : AF := ⟨20, [.celln p4 3],
(sSeq (I p3 (oBox t1) <|
 I p4 (oAlloc (.row 0 3 (.node (some (.bool false)) (.node (some .nils) .nil .nil) (.node (some .nils) .nil .nil)))) <|
 sEnd)
(sSeq (I p6 (oMov t0) <|
 I p7 (oFieldAddr t3 5) <|
 I p8 (oLoad1 t7) <|
 I p9 (oIndexS 6 t8 (ci 0)) <|
 I p10 (oLoadn 6 t9) <|
 I p11 (oCallF 79 [t6, t10]) <|
 I p5 (oAlloc (.row 0 3 (.node (some (.bool false)) (.node (some .nils) .nil .nil) (.node (some .nils) .nil .nil)))) <|
 I0 (oStore 3 t5 t11) <|
 sEnd)
(sSeq (I p12 (oMov t0) <|
 I p13 (oFieldAddr t5 2) <|
 I p14 (oLoad1 t13) <|
 I p15 (oFieldAddr t5 1) <|
 I p16 (oLoad1 t15) <|
 I p17 (oCallF 80 [t12, t14, t16]) <|
 sEnd)
(sSeq (I p18 (oFieldAddr t5 0) <|
 I0 (oStore 1 t18 (c (.bool true))) <|
 sEnd)
(sSeq (I p19 (oLoadn 3 t5) <|
 I0 (oStore 3 t4 t19) <|
 sEnd)
sRet)))))⟩
def s108 : List (Nat × Sched) := []
/- slices.Collect[int] -/
noncomputable def a109 : AF := ⟨5, [.tmp p2],
(sSeq (I p2 (oMov (c .nils)) <|
 sEnd)
(sSeq (I p3 (oMov t0) <|
 I p4 (oCallF 125 [(c .nils), t3]) <|
 I p2 (oMov t4) <|
 sEnd)
sRet))⟩
def s109 : List (Nat × Sched) := []
/- slices.Sort[[]int,int] -/
noncomputable def a110 : AF := ⟨11, [],
(sSeq (I p3 (oMov t0) <|
 I p4 (oLenSl t3) <|
 I p2 (oMov t4) <|
 sEnd)
(I p5 (oMov t0) <|
 I p6 (oMov t2) <|
 I p7 (oMov t2) <|
 I p8 (oConv .u64 t7) <|
 I p9 (oCallF 127 [t8]) <|
 I p10 (oCallF 126 [t5, (ci 0), t6, t9]) <|
 sEnd))⟩
def s110 : List (Nat × Sched) := []
/- maps.Keys[map[int]bool,int,bool]$1 -/
noncomputable def a111 : AF := ⟨14, [],
(sSeq (I p4 (oLoad1 t1) <|
 I p5 (oStuck) <|
 sEnd)
(sBlock 0 (sLoop (sSeq (I p6 (oStuck) <|
 I p7 (oExtract t6 0) <|
 sEnd)
(sSeq (sCond t7 sEnd (sExit 0))
(sBlock 1 (sSeq (I p8 (oStuck) <|
 I p9 (oExtract t8 0) <|
 I p3 (oMov t9) <|
 sEnd)
(sSeq (I p10 (oMov t0) <|
 I p11 (oMov t3) <|
 I p12 (oCall t10 [t11]) <|
 I p13 (oNot t12) <|
 sEnd)
(sCond t13 sRet sEnd)))))))))⟩
def s111 : List (Nat × Sched) := []
/- emendate/nfa.Valid$1 -/
noncomputable def a112 : AF := ⟨12, [.tmp p3],
(sSeq (I p3 (oMov (c (.bool false))) <|
 sEnd)
(sSeq (I p4 (oMov t0) <|
 I p5 (oGeq t4 (ci 0)) <|
 I p6 (oMov t5) <|
 G p6 true p7 (oMov t0) <|
 G p6 true p8 (oFieldAddr t1 0) <|
 G p6 true p9 (oLoad1 t8) <|
 G p6 true p10 (oLss t7 t9) <|
 I p11 (oPick t6 t10 (c (.bool false))) <|
 I p3 (oMov t11) <|
 sEnd)
sRet))⟩
def s112 : List (Nat × Sched) := []
/- emendate/nfa.Valid$2 -/
noncomputable def a113 : AF := ⟨5, [.tmp p2],
(sSeq (I p2 (oMov (c (.bool false))) <|
 sEnd)
(sSeq (I p3 (oMov t0) <|
 I p4 (oLss t3 (c (.int .i64 (.negSucc 0)))) <|
 I p2 (oMov t4) <|
 sEnd)
sRet))⟩
def s113 : List (Nat × Sched) := []
/- emendate/nfa.Closure$1 -/
noncomputable def a114 : AF := ⟨27, [],
(sSeq (I p5 (oMov t0) <|
 I p6 (oGeq t5 (ci 0)) <|
 I p7 (oMov t6) <|
 G p7 true p8 (oMov t0) <|
 G p7 true p9 (oFieldAddr t1 0) <|
 G p7 true p10 (oLoad1 t9) <|
 G p7 true p11 (oLss t8 t10) <|
 I p12 (oPick t7 t11 (c (.bool false))) <|
 I p13 (oMov t12) <|
 G p13 true p14 (oLoad1 t2) <|
 G p13 true p15 (oMov t0) <|
 G p13 true p16 (oIndexS 1 t14 t15) <|
 G p13 true p17 (oLoad1 t16) <|
 G p13 true p18 (oNot t17) <|
 I p19 (oPick t13 t18 (c (.bool false))) <|
 sEnd)
(sCond t19 (sSeq (I p20 (oLoad1 t2) <|
 I p21 (oMov t0) <|
 I p22 (oIndexS 1 t20 t21) <|
 I0 (oStore 1 t22 (c (.bool true))) <|
 sEnd)
(I p23 (oLoad1 t3) <|
 I p24 (oMov t0) <|
 I p25 (oBslice 1 1 [(.int .i64 (.ofNat 0))] [(0, 1, t24)]) <|
 I p26 (oAppend0 1 t23 t25) <|
 I0 (oStore 1 t3 t26) <|
 sEnd)) sEnd))⟩
def s114 : List (Nat × Sched) := []
/- emendate/nfa.sorted -/
noncomputable def a115 : AF := ⟨20, [.tmp p2],
(sSeq (I p2 (oMov (c .nils)) <|
 sEnd)
(sSeq (I p3 (oMov (c .nils)) <|
 sEnd)
(sSeq (sSeq (I p6 (oMov t0) <|
 I p7 (oLenSl t6) <|
 I p8 (oMov (ci 0)) <|
 sEnd)
(sBlock 0 (sLoop (sSeq (I p9 (oLss t8 t7) <|
 sEnd)
(sSeq (sCond t9 sEnd (sExit 0))
(sSeq (sBlock 1 (sSeq (I p10 (oMov t8) <|
 I p11 (oIndexS 1 t6 t8) <|
 I p12 (oLoad1 t11) <|
 I p4 (oMov t10) <|
 I p5 (oMov t12) <|
 sEnd)
(sSeq (I p13 (oMov t5) <|
 sEnd)
(sCond t13 (I p14 (oMov t3) <|
 I p15 (oMov t4) <|
 I p16 (oBslice 1 1 [(.int .i64 (.ofNat 0))] [(0, 1, t15)]) <|
 I p17 (oAppend0 1 t14 t16) <|
 I p3 (oMov t17) <|
 sEnd) sEnd))))
(I p18 (oAdd t8 (ci 1)) <|
 I p8 (oMov t18) <|
 sEnd)))))))
(sSeq (I p19 (oMov t3) <|
 I p2 (oMov t19) <|
 sEnd)
sRet))))⟩
def s115 : List (Nat × Sched) := []
/- emendate/dfa.live -/
noncomputable def a116 : AF := ⟨51, [.tmp p2],
(sSeq (I p1 (oBox t0) <|
 I p2 (oMov (c .nils)) <|
 sEnd)
(sSeq (I p9 (oFieldAddr t1 1) <|
 I p10 (oLoad1 t9) <|
 I p11 (oLenSl t10) <|
 I p12 (oMkslice 1 [(.bool false)] t11 t11) <|
 I p3 (oAlloc (.row 0 1 (.node (some .nils) .nil .nil))) <|
 I0 (oStore 1 t3 t12) <|
 sEnd)
(sSeq (sSeq (I p13 (oFieldAddr t1 2) <|
 I p14 (oLoad1 t13) <|
 I p15 (oLenSl t14) <|
 I p16 (oMov (ci 0)) <|
 sEnd)
(sBlock 0 (sLoop (sSeq (I p17 (oLss t16 t15) <|
 sEnd)
(sSeq (sCond t17 sEnd (sExit 0))
(sSeq (sBlock 1 (sSeq (I p18 (oMov t16) <|
 I p19 (oIndexS 1 t14 t16) <|
 I p20 (oLoad1 t19) <|
 I p4 (oMov t18) <|
 I p5 (oMov t20) <|
 sEnd)
(I p21 (oLoad1 t3) <|
 I p22 (oMov t4) <|
 I p23 (oMov t5) <|
 I p24 (oGeq t23 (ci 0)) <|
 I p25 (oIndexS 1 t21 t22) <|
 I0 (oStore 1 t25 t24) <|
 sEnd)))
(I p26 (oAdd t16 (ci 1)) <|
 I p16 (oMov t26) <|
 sEnd)))))))
(sSeq (sSeq (I p6 (oMov (c (.bool true))) <|
 sEnd)
(sBlock 2 (sLoop (sSeq (sSeq (I p27 (oMov t6) <|
 sEnd)
(sCond t27 sEnd (sExit 2)))
(sBlock 3 (sSeq (I p6 (oMov (c (.bool false))) <|
 sEnd)
(sSeq (I p28 (oFieldAddr t1 1) <|
 I p29 (oLoad1 t28) <|
 I p30 (oLenSl t29) <|
 I p31 (oMov (ci 0)) <|
 sEnd)
(sBlock 4 (sLoop (sSeq (I p32 (oLss t31 t30) <|
 sEnd)
(sSeq (sCond t32 sEnd (sExit 4))
(sSeq (sBlock 5 (sSeq (I p33 (oMov t31) <|
 I p34 (oIndexS 1 t29 t31) <|
 I p35 (oLoad1 t34) <|
 I p7 (oMov t33) <|
 I p8 (oMov t35) <|
 sEnd)
(sSeq (I p36 (oLoad1 t3) <|
 I p37 (oMov t7) <|
 I p38 (oIndexS 1 t36 t37) <|
 I p39 (oLoad1 t38) <|
 I p40 (oNot t39) <|
 I p41 (oMov t40) <|
 G p41 true p42 (oMov t8) <|
 G p41 true p43 (oMkfn 128 [] [t3]) <|
 G p41 true p44 (oCallF 101 [t42, t43]) <|
 I p45 (oPick t41 t44 (c (.bool false))) <|
 sEnd)
(sCond t45 (I p46 (oLoad1 t3) <|
 I p47 (oMov t7) <|
 I p48 (oIndexS 1 t46 t47) <|
 I0 (oStore 1 t48 (c (.bool true))) <|
 I p6 (oMov (c (.bool true))) <|
 sEnd) sEnd))))
(I p49 (oAdd t31 (ci 1)) <|
 I p31 (oMov t49) <|
 sEnd)))))))))))))
(sSeq (I p50 (oLoad1 t3) <|
 I p2 (oMov t50) <|
 sEnd)
sRet)))))⟩
def s116 : List (Nat × Sched) := []
/- slices.Clone[[]int,int] -/
noncomputable def a117 : AF := ⟨8, [.tmp p2],
(sSeq (I p2 (oMov (c .nils)) <|
 sEnd)
(sSeq (sSeq (I p3 (oMov t0) <|
 I p4 (oEqS t3) <|
 sEnd)
(sCond t4 (sSeq (I p2 (oMov (c .nils)) <|
 sEnd)
sRet) sEnd))
(sSeq (I p5 (oBslice 1 0 [] []) <|
 I p6 (oMov t0) <|
 I p7 (oAppend0 1 t5 t6) <|
 I p2 (oMov t7) <|
 sEnd)
sRet)))⟩
def s117 : List (Nat × Sched) := []
/- emendate/dfa.wide -/
noncomputable def a118 : AF := ⟨28, [.tmp p2],
(sSeq (I p2 (oMov (c (.str []))) <|
 sEnd)
(sSeq (I p3 (oMov (c .nils)) <|
 sEnd)
(sSeq (sSeq (I p7 (oMov t0) <|
 I p8 (oLenSl t7) <|
 I p9 (oMov (ci 0)) <|
 sEnd)
(sBlock 0 (sLoop (sSeq (I p10 (oLss t9 t8) <|
 sEnd)
(sSeq (sCond t10 sEnd (sExit 0))
(sSeq (sBlock 1 (sSeq (I p11 (oIndexS 1 t7 t9) <|
 I p12 (oLoad1 t11) <|
 I p5 (oMov t12) <|
 sEnd)
(sSeq (I p13 (oMov (ci 0)) <|
 sEnd)
(sBlock 2 (sLoop (sSeq (I p14 (oLss t13 (ci 8)) <|
 sEnd)
(sSeq (sCond t14 sEnd (sExit 2))
(sSeq (sBlock 3 (sSeq (I p15 (oMov t13) <|
 I p6 (oMov t15) <|
 sEnd)
(I p16 (oMov t3) <|
 I p17 (oMov t5) <|
 I p18 (oMov t6) <|
 I p19 (oMul (ci 8) t18) <|
 I p20 (oShr t17 t19) <|
 I p21 (oConv .u8 t20) <|
 I p22 (oBslice 1 1 [(.int .u8 (.ofNat 0))] [(0, 1, t21)]) <|
 I p23 (oAppend0 1 t16 t22) <|
 I p3 (oMov t23) <|
 sEnd)))
(I p24 (oAdd t13 (ci 1)) <|
 I p13 (oMov t24) <|
 sEnd)))))))))
(I p25 (oAdd t9 (ci 1)) <|
 I p9 (oMov t25) <|
 sEnd)))))))
(sSeq (I p26 (oMov t3) <|
 I p27 (oToStr t26) <|
 I p2 (oMov t27) <|
 sEnd)
sRet))))⟩
def s118 : List (Nat × Sched) := []
/- (*emendate/regex.reader).expect -/
noncomputable def a119 : AF := ⟨36, [],
(sSeq (sSeq (I p4 (oMov t0) <|
 I p5 (oNil t4) <|
 I p6 (oFieldAddr t5 1) <|
 I p7 (oLoad1 t6) <|
 I p8 (oMov t0) <|
 I p9 (oNil t8) <|
 I p10 (oFieldAddr t9 0) <|
 I p11 (oLoad1 t10) <|
 I p12 (oLenStr t11) <|
 I p13 (oEq t7 t12) <|
 I p14 (oMov t13) <|
 G p14 false p15 (oMov t0) <|
 G p14 false p16 (oNil t15) <|
 G p14 false p17 (oFieldAddr t16 0) <|
 G p14 false p18 (oLoad1 t17) <|
 G p14 false p19 (oMov t0) <|
 G p14 false p20 (oNil t19) <|
 G p14 false p21 (oFieldAddr t20 1) <|
 G p14 false p22 (oLoad1 t21) <|
 G p14 false p23 (oIndexStr t18 t22) <|
 G p14 false p24 (oMov t1) <|
 G p14 false p25 (oNe t23 t24) <|
 I p26 (oPick t14 (c (.bool true)) t25) <|
 sEnd)
(sCond t26 (I p27 (oMov t0) <|
 I p28 (oCallF 20 [t27]) <|
 sEnd) sEnd))
(I p29 (oMov t0) <|
 I p30 (oNil t29) <|
 I p31 (oFieldAddr t30 1) <|
 I p32 (oLoad1 t31) <|
 I p33 (oAdd t32 (ci 1)) <|
 I p34 (oNil t29) <|
 I p35 (oFieldAddr t34 1) <|
 I0 (oStore 1 t35 t33) <|
 sEnd))⟩
def s119 : List (Nat × Sched) := [(0, .hoist 0 (.hoist 1 (.hoist 2 (.hoist 3 (.hoist 4 (.hoist 5 (.hoist 6 (.hoist 7 (.hoist 8 (.hoist 9 (.hoist 10 (.hoist 11 (.hoist 12 (.hoist 13 (.hoist 14 (.hoist 15 (.hoist 16 (.hoist 17 (.hoist 18 (.hoist 19 (.hoist 20 (.hoist 21 (.hoist 22 (.done))))))))))))))))))))))))]
/- (*emendate/regex.reader).bracket -/
noncomputable def a120 : AF := ⟨38, [.celln p2 4],
(sSeq (I p2 (oAlloc (.row 0 4 (.node (some (.int .u64 (.ofNat 0))) (.node (some (.int .u64 (.ofNat 0))) (.node (some (.int .u64 (.ofNat 0))) .nil .nil) .nil) (.node (some (.int .u64 (.ofNat 0))) .nil .nil)))) <|
 sEnd)
(sSeq (I p5 (oMov t0) <|
 I p6 (oCallF 119 [t5, (c (.int .u8 (.ofNat 91)))]) <|
 sEnd)
(sSeq (I p7 (oMov t0) <|
 I p8 (oCallF 40 [t7]) <|
 I p9 (oEq t8 (c (.int .u8 (.ofNat 94)))) <|
 I p3 (oMov t9) <|
 sEnd)
(sSeq (sSeq (I p10 (oMov t3) <|
 sEnd)
(sCond t10 (I p11 (oMov t0) <|
 I p12 (oNil t11) <|
 I p13 (oFieldAddr t12 1) <|
 I p14 (oLoad1 t13) <|
 I p15 (oAdd t14 (ci 1)) <|
 I p16 (oNil t11) <|
 I p17 (oFieldAddr t16 1) <|
 I0 (oStore 1 t17 t15) <|
 sEnd) sEnd))
(sSeq (I p18 (oMov t0) <|
 I p19 (oCallF 129 [t18]) <|
 I p4 (oAlloc (.row 0 4 (.node (some (.int .u64 (.ofNat 0))) (.node (some (.int .u64 (.ofNat 0))) (.node (some (.int .u64 (.ofNat 0))) .nil .nil) .nil) (.node (some (.int .u64 (.ofNat 0))) .nil .nil)))) <|
 I0 (oStore 4 t4 t19) <|
 sEnd)
(sSeq (sBlock 0 (sLoop (sSeq (sSeq (I p20 (oMov t0) <|
 I p21 (oCallF 40 [t20]) <|
 I p22 (oNe t21 (c (.int .u8 (.ofNat 93)))) <|
 sEnd)
(sCond t22 sEnd (sExit 0)))
(sBlock 1 (sDraw [⟨0, (some p23), none, (.load 4 t4), oLoadn 4 t4⟩,
 ⟨1, (some p24), none, .pure, oMov t0⟩,
 ⟨2, (some p25), none, .heavy, oCallF 129 [t24]⟩,
 ⟨3, (some p26), none, .late, oCallF 130 [t23, t25]⟩,
 ⟨4, none, none, .late, oStore 4 t4 t26⟩])))))
(sSeq (I p27 (oMov t0) <|
 I p28 (oNil t27) <|
 I p29 (oFieldAddr t28 1) <|
 I p30 (oLoad1 t29) <|
 I p31 (oAdd t30 (ci 1)) <|
 I p32 (oNil t27) <|
 I p33 (oFieldAddr t32 1) <|
 I0 (oStore 1 t33 t31) <|
 sEnd)
(sSeq (sSeq (I p34 (oMov t3) <|
 sEnd)
(sCond t34 (sSeq (I p35 (oLoadn 4 t4) <|
 I p36 (oCallF 131 [t35]) <|
 I0 (oStore 4 t2 t36) <|
 sEnd)
sRet) sEnd))
(sSeq (I p37 (oLoadn 4 t4) <|
 I0 (oStore 4 t2 t37) <|
 sEnd)
sRet)))))))))⟩
def s120 : List (Nat × Sched) := [(7, .hoist 0 (.hoist 1 (.one 2 (.one 3 (.one 4 (.done))))))]
/- emendate/regex.dot -/
noncomputable def a121 : AF := ⟨3, [.celln p0 4],
(sSeq (I p0 (oAlloc (.row 0 4 (.node (some (.int .u64 (.ofNat 0))) (.node (some (.int .u64 (.ofNat 0))) (.node (some (.int .u64 (.ofNat 0))) .nil .nil) .nil) (.node (some (.int .u64 (.ofNat 0))) .nil .nil)))) <|
 sEnd)
(sSeq (I p1 (oCallF 132 [(c (.str [10]))]) <|
 I p2 (oCallF 131 [t1]) <|
 I0 (oStore 4 t0 t2) <|
 sEnd)
sRet))⟩
def s121 : List (Nat × Sched) := []
/- (*emendate/regex.reader).char -/
noncomputable def a122 : AF := ⟨60, [.tmp p4],
(sSeq (I p4 (oMov (c (.int .u8 (.ofNat 0)))) <|
 sEnd)
(sSeq (sSeq (I p6 (oMov t0) <|
 I p7 (oNil t6) <|
 I p8 (oFieldAddr t7 1) <|
 I p9 (oLoad1 t8) <|
 I p10 (oMov t0) <|
 I p11 (oNil t10) <|
 I p12 (oFieldAddr t11 0) <|
 I p13 (oLoad1 t12) <|
 I p14 (oLenStr t13) <|
 I p15 (oEq t9 t14) <|
 sEnd)
(sCond t15 (I p16 (oMov t0) <|
 I p17 (oCallF 20 [t16]) <|
 sEnd) sEnd))
(sSeq (I p18 (oMov t0) <|
 I p19 (oNil t18) <|
 I p20 (oFieldAddr t19 0) <|
 I p21 (oLoad1 t20) <|
 I p22 (oMov t0) <|
 I p23 (oNil t22) <|
 I p24 (oFieldAddr t23 1) <|
 I p25 (oLoad1 t24) <|
 I p26 (oIndexStr t21 t25) <|
 I p5 (oMov t26) <|
 sEnd)
(sSeq (sSeq (I p27 (oMov t5) <|
 I p28 (oEq t27 (c (.int .u8 (.ofNat 92)))) <|
 sEnd)
(sCond t28 (sSeq (I p29 (oMov t0) <|
 I p30 (oNil t29) <|
 I p31 (oFieldAddr t30 1) <|
 I p32 (oLoad1 t31) <|
 I p33 (oAdd t32 (ci 1)) <|
 I p34 (oNil t29) <|
 I p35 (oFieldAddr t34 1) <|
 I0 (oStore 1 t35 t33) <|
 sEnd)
(sSeq (I p36 (oMov t0) <|
 I p37 (oCallF 133 [t36]) <|
 I p4 (oMov t37) <|
 sEnd)
sRet)) sEnd))
(sSeq (sSeq (I p38 (oMov t5) <|
 I p39 (oLss t38 (c (.int .u8 (.ofNat 32)))) <|
 I p40 (oMov t39) <|
 G p40 false p41 (oMov t5) <|
 G p40 false p42 (oGtr t41 (c (.int .u8 (.ofNat 126)))) <|
 I p43 (oPick t40 (c (.bool true)) t42) <|
 I p44 (oMov t43) <|
 G p44 false p45 (oMov t1) <|
 G p44 false p46 (oMov t5) <|
 G p44 false p47 (oCallF 134 [t45, t46]) <|
 G p44 false p48 (oGeq t47 (ci 0)) <|
 I p49 (oPick t44 (c (.bool true)) t48) <|
 sEnd)
(sCond t49 (I p50 (oMov t0) <|
 I p51 (oCallF 20 [t50]) <|
 sEnd) sEnd))
(sSeq (I p52 (oMov t0) <|
 I p53 (oNil t52) <|
 I p54 (oFieldAddr t53 1) <|
 I p55 (oLoad1 t54) <|
 I p56 (oAdd t55 (ci 1)) <|
 I p57 (oNil t52) <|
 I p58 (oFieldAddr t57 1) <|
 I0 (oStore 1 t58 t56) <|
 sEnd)
(sSeq (I p59 (oMov t5) <|
 I p4 (oMov t59) <|
 sEnd)
sRet)))))))⟩
def s122 : List (Nat × Sched) := [(1, .hoist 0 (.hoist 1 (.hoist 2 (.hoist 3 (.hoist 4 (.hoist 5 (.hoist 6 (.hoist 7 (.hoist 8 (.hoist 9 (.done))))))))))), (3, .hoist 0 (.hoist 1 (.hoist 2 (.hoist 3 (.hoist 4 (.hoist 5 (.hoist 6 (.hoist 7 (.hoist 8 (.hoist 9 (.done)))))))))))]
/- slices.IndexFunc[[]int,int] -/
noncomputable def a123 : AF := ⟨19, [.tmp p4],
(sSeq (I p4 (oMov (ci 0)) <|
 sEnd)
(sSeq (sSeq (I p6 (oMov t0) <|
 I p7 (oLenSl t6) <|
 I p8 (oMov (ci 0)) <|
 sEnd)
(sBlock 0 (sLoop (sSeq (I p9 (oLss t8 t7) <|
 sEnd)
(sSeq (sCond t9 sEnd (sExit 0))
(sSeq (sBlock 1 (sSeq (I p10 (oMov t8) <|
 I p5 (oMov t10) <|
 sEnd)
(sSeq (I p11 (oMov t1) <|
 I p12 (oMov t0) <|
 I p13 (oMov t5) <|
 I p14 (oIndexS 1 t12 t13) <|
 I p15 (oLoad1 t14) <|
 I p16 (oCall t11 [t15]) <|
 sEnd)
(sCond t16 (sSeq (I p17 (oMov t5) <|
 I p4 (oMov t17) <|
 sEnd)
sRet) sEnd))))
(I p18 (oAdd t8 (ci 1)) <|
 I p8 (oMov t18) <|
 sEnd)))))))
(sSeq (I p4 (oMov (c (.int .i64 (.negSucc 0)))) <|
 sEnd)
sRet)))⟩
def s123 : List (Nat × Sched) := []
/- slices.Concat[[]int,int] -/
noncomputable def a124 : AF := ⟨36, [.tmp p2],
(sSeq (I p2 (oMov (c .nils)) <|
 sEnd)
(sSeq (I p3 (oMov (ci 0)) <|
 sEnd)
(sSeq (sSeq (I p9 (oMov t0) <|
 I p10 (oLenSl t9) <|
 I p11 (oMov (ci 0)) <|
 sEnd)
(sBlock 0 (sLoop (sSeq (I p12 (oLss t11 t10) <|
 sEnd)
(sSeq (sCond t12 sEnd (sExit 0))
(sSeq (sBlock 1 (sSeq (I p13 (oIndexS 1 t9 t11) <|
 I p14 (oLoad1 t13) <|
 I p5 (oMov t14) <|
 sEnd)
(sSeq (I p15 (oMov t3) <|
 I p16 (oMov t5) <|
 I p17 (oLenSl t16) <|
 I p18 (oAdd t15 t17) <|
 I p3 (oMov t18) <|
 sEnd)
(sSeq (I p19 (oMov t3) <|
 I p20 (oLss t19 (ci 0)) <|
 sEnd)
(sCond t20 (I p21 (oStuck) <|
 I0 (oStuck) <|
 sEnd) sEnd)))))
(I p22 (oAdd t11 (ci 1)) <|
 I p11 (oMov t22) <|
 sEnd)))))))
(sSeq (I p23 (oMov t3) <|
 I p24 (oCallF 135 [(c .nils), t23]) <|
 I p6 (oMov t24) <|
 sEnd)
(sSeq (sSeq (I p25 (oMov t0) <|
 I p26 (oLenSl t25) <|
 I p27 (oMov (ci 0)) <|
 sEnd)
(sBlock 2 (sLoop (sSeq (I p28 (oLss t27 t26) <|
 sEnd)
(sSeq (sCond t28 sEnd (sExit 2))
(sSeq (sBlock 3 (sSeq (I p29 (oIndexS 1 t25 t27) <|
 I p30 (oLoad1 t29) <|
 I p8 (oMov t30) <|
 sEnd)
(I p31 (oMov t6) <|
 I p32 (oMov t8) <|
 I p33 (oAppend0 1 t31 t32) <|
 I p6 (oMov t33) <|
 sEnd)))
(I p34 (oAdd t27 (ci 1)) <|
 I p27 (oMov t34) <|
 sEnd)))))))
(sSeq (I p35 (oMov t6) <|
 I p2 (oMov t35) <|
 sEnd)
sRet))))))⟩
def s124 : List (Nat × Sched) := []
/- slices.pdqsortOrdered[int] -/
noncomputable def a126 : AF := ⟨134, [],
(sSeq (I p8 (oMov (c (.bool true))) <|
 sEnd)
(sSeq (I p9 (oMov (c (.bool true))) <|
 sEnd)
(sBlock 0 (sLoop (sBlock 1 (sSeq (I p19 (oMov t2) <|
 I p20 (oMov t1) <|
 I p21 (oSub t19 t20) <|
 I p10 (oMov t21) <|
 sEnd)
(sSeq (sSeq (I p22 (oMov t10) <|
 I p23 (oLeq t22 (ci 12)) <|
 sEnd)
(sCond t23 (sSeq (I p24 (oMov t0) <|
 I p25 (oMov t1) <|
 I p26 (oMov t2) <|
 I p27 (oCallF 136 [t24, t25, t26]) <|
 sEnd)
sRet) sEnd))
(sSeq (sSeq (I p28 (oMov t3) <|
 I p29 (oEq t28 (ci 0)) <|
 sEnd)
(sCond t29 (sSeq (I p30 (oMov t0) <|
 I p31 (oMov t1) <|
 I p32 (oMov t2) <|
 I p33 (oCallF 137 [t30, t31, t32]) <|
 sEnd)
sRet) sEnd))
(sSeq (sSeq (I p34 (oMov t8) <|
 I p35 (oNot t34) <|
 sEnd)
(sCond t35 (sSeq (I p36 (oMov t0) <|
 I p37 (oMov t1) <|
 I p38 (oMov t2) <|
 I p39 (oCallF 138 [t36, t37, t38]) <|
 sEnd)
(I p40 (oMov t3) <|
 I p41 (oSub t40 (ci 1)) <|
 I p3 (oMov t41) <|
 sEnd)) sEnd))
(sSeq (I p43 (oMov t0) <|
 I p44 (oMov t1) <|
 I p45 (oMov t2) <|
 I p46 (oCallF 139 [t43, t44, t45]) <|
 I p42 (oMov t46) <|
 I p47 (oExtract t42 0) <|
 I p48 (oExtract t42 1) <|
 I p11 (oMov t47) <|
 I p12 (oMov t48) <|
 sEnd)
(sSeq (sSeq (I p49 (oMov t12) <|
 I p50 (oEq t49 (ci 2)) <|
 sEnd)
(sCond t50 (sSeq (I p51 (oMov t0) <|
 I p52 (oMov t1) <|
 I p53 (oMov t2) <|
 I p54 (oCallF 140 [t51, t52, t53]) <|
 sEnd)
(sSeq (I p55 (oMov t2) <|
 I p56 (oSub t55 (ci 1)) <|
 I p57 (oMov t11) <|
 I p58 (oMov t1) <|
 I p59 (oSub t57 t58) <|
 I p60 (oSub t56 t59) <|
 I p11 (oMov t60) <|
 sEnd)
(I p12 (oMov (ci 1)) <|
 sEnd))) sEnd))
(sSeq (sSeq (I p61 (oMov t8) <|
 I p62 (oMov t61) <|
 G p62 true p63 (oMov t9) <|
 I p64 (oPick t62 t63 (c (.bool false))) <|
 I p65 (oMov t64) <|
 G p65 true p66 (oMov t12) <|
 G p65 true p67 (oEq t66 (ci 1)) <|
 I p68 (oPick t65 t67 (c (.bool false))) <|
 sEnd)
(sCond t68 (sSeq (I p69 (oMov t0) <|
 I p70 (oMov t1) <|
 I p71 (oMov t2) <|
 I p72 (oCallF 141 [t69, t70, t71]) <|
 sEnd)
(sCond t72 sRet sEnd)) sEnd))
(sSeq (sSeq (I p73 (oMov t1) <|
 I p74 (oGtr t73 (ci 0)) <|
 I p75 (oMov t74) <|
 G p75 true p76 (oMov t0) <|
 G p75 true p77 (oMov t1) <|
 G p75 true p78 (oSub t77 (ci 1)) <|
 G p75 true p79 (oIndexS 1 t76 t78) <|
 G p75 true p80 (oLoad1 t79) <|
 G p75 true p81 (oMov t0) <|
 G p75 true p82 (oMov t11) <|
 G p75 true p83 (oIndexS 1 t81 t82) <|
 G p75 true p84 (oLoad1 t83) <|
 G p75 true p85 (oCallF 142 [t80, t84]) <|
 G p75 true p86 (oNot t85) <|
 I p87 (oPick t75 t86 (c (.bool false))) <|
 sEnd)
(sCond t87 (sSeq (I p88 (oMov t0) <|
 I p89 (oMov t1) <|
 I p90 (oMov t2) <|
 I p91 (oMov t11) <|
 I p92 (oCallF 143 [t88, t89, t90, t91]) <|
 I p13 (oMov t92) <|
 sEnd)
(sSeq (I p93 (oMov t13) <|
 I p1 (oMov t93) <|
 sEnd)
(sExit 1))) sEnd))
(sSeq (I p95 (oMov t0) <|
 I p96 (oMov t1) <|
 I p97 (oMov t2) <|
 I p98 (oMov t11) <|
 I p99 (oCallF 144 [t95, t96, t97, t98]) <|
 I p94 (oMov t99) <|
 I p100 (oExtract t94 0) <|
 I p101 (oExtract t94 1) <|
 I p14 (oMov t100) <|
 I p15 (oMov t101) <|
 sEnd)
(sSeq (I p102 (oMov t15) <|
 I p9 (oMov t102) <|
 sEnd)
(sSeq (I p103 (oMov t14) <|
 I p104 (oMov t1) <|
 I p105 (oSub t103 t104) <|
 I p106 (oMov t2) <|
 I p107 (oMov t14) <|
 I p108 (oSub t106 t107) <|
 I p16 (oMov t105) <|
 I p17 (oMov t108) <|
 sEnd)
(sSeq (I p109 (oMov t10) <|
 I p110 (oQuo t109 (ci 8)) <|
 I p18 (oMov t110) <|
 sEnd)
(sSeq (I p111 (oMov t16) <|
 I p112 (oMov t17) <|
 I p113 (oLss t111 t112) <|
 sEnd)
(sCond t113 (sSeq (I p114 (oMov t16) <|
 I p115 (oMov t18) <|
 I p116 (oGeq t114 t115) <|
 I p8 (oMov t116) <|
 sEnd)
(sSeq (I p117 (oMov t0) <|
 I p118 (oMov t1) <|
 I p119 (oMov t14) <|
 I p120 (oMov t3) <|
 I p121 (oCallF 126 [t117, t118, t119, t120]) <|
 sEnd)
(I p122 (oMov t14) <|
 I p123 (oAdd t122 (ci 1)) <|
 I p1 (oMov t123) <|
 sEnd))) (sSeq (I p124 (oMov t17) <|
 I p125 (oMov t18) <|
 I p126 (oGeq t124 t125) <|
 I p8 (oMov t126) <|
 sEnd)
(sSeq (I p127 (oMov t0) <|
 I p128 (oMov t14) <|
 I p129 (oAdd t128 (ci 1)) <|
 I p130 (oMov t2) <|
 I p131 (oMov t3) <|
 I p132 (oCallF 126 [t127, t129, t130, t131]) <|
 sEnd)
(I p133 (oMov t14) <|
 I p2 (oMov t133) <|
 sEnd))))))))))))))))))))))⟩
def s126 : List (Nat × Sched) := [(17, .hoist 0 (.hoist 1 (.hoist 2 (.hoist 3 (.hoist 4 (.hoist 5 (.hoist 6 (.hoist 7 (.hoist 8 (.hoist 9 (.hoist 10 (.hoist 11 (.one 12 (.hoist 13 (.hoist 14 (.done))))))))))))))))]
/- math/bits.Len -/
noncomputable def a127 : AF := ⟨8, [.tmp p2],
(sSeq (I p2 (oMov (ci 0)) <|
 sEnd)
(sSeq (sCond (c (.bool false)) (sSeq (I p3 (oMov t0) <|
 I p4 (oConv .u32 t3) <|
 I p5 (oCallF 145 [t4]) <|
 I p2 (oMov t5) <|
 sEnd)
sRet) sEnd)
(sSeq (I p6 (oMov t0) <|
 I p7 (oCallF 146 [t6]) <|
 I p2 (oMov t7) <|
 sEnd)
sRet)))⟩
def s127 : List (Nat × Sched) := []
/- emendate/dfa.live$1 -/
noncomputable def a128 : AF := ⟨12, [.tmp p3],
(sSeq (I p3 (oMov (c (.bool false))) <|
 sEnd)
(sSeq (I p4 (oMov t0) <|
 I p5 (oGeq t4 (ci 0)) <|
 I p6 (oMov t5) <|
 G p6 true p7 (oLoad1 t1) <|
 G p6 true p8 (oMov t0) <|
 G p6 true p9 (oIndexS 1 t7 t8) <|
 G p6 true p10 (oLoad1 t9) <|
 I p11 (oPick t6 t10 (c (.bool false))) <|
 I p3 (oMov t11) <|
 sEnd)
sRet))⟩
def s128 : List (Nat × Sched) := []
/- (*emendate/regex.reader).element -/
noncomputable def a129 : AF := ⟨37, [.celln p2 4],
(sSeq (I p2 (oAlloc (.row 0 4 (.node (some (.int .u64 (.ofNat 0))) (.node (some (.int .u64 (.ofNat 0))) (.node (some (.int .u64 (.ofNat 0))) .nil .nil) .nil) (.node (some (.int .u64 (.ofNat 0))) .nil .nil)))) <|
 sEnd)
(sSeq (I p6 (oMov t0) <|
 I p7 (oCallF 122 [t6, (c (.str [93, 92, 45]))]) <|
 I p3 (oMov t7) <|
 sEnd)
(sSeq (I p8 (oMov t3) <|
 I p4 (oMov t8) <|
 sEnd)
(sSeq (sSeq (I p9 (oMov t0) <|
 I p10 (oCallF 40 [t9]) <|
 I p11 (oEq t10 (c (.int .u8 (.ofNat 45)))) <|
 sEnd)
(sCond t11 (sSeq (I p12 (oMov t0) <|
 I p13 (oNil t12) <|
 I p14 (oFieldAddr t13 1) <|
 I p15 (oLoad1 t14) <|
 I p16 (oAdd t15 (ci 1)) <|
 I p17 (oNil t12) <|
 I p18 (oFieldAddr t17 1) <|
 I0 (oStore 1 t18 t16) <|
 sEnd)
(sSeq (I p19 (oMov t0) <|
 I p20 (oNil t19) <|
 I p21 (oFieldAddr t20 1) <|
 I p22 (oLoad1 t21) <|
 I p5 (oMov t22) <|
 sEnd)
(sSeq (I p23 (oMov t0) <|
 I p24 (oCallF 122 [t23, (c (.str [93, 92, 45]))]) <|
 I p4 (oMov t24) <|
 sEnd)
(sSeq (I p25 (oMov t4) <|
 I p26 (oMov t3) <|
 I p27 (oLss t25 t26) <|
 sEnd)
(sCond t27 (sSeq (I p28 (oMov t0) <|
 I p29 (oMov t5) <|
 I p30 (oNil t28) <|
 I p31 (oFieldAddr t30 1) <|
 I0 (oStore 1 t31 t29) <|
 sEnd)
(I p32 (oMov t0) <|
 I p33 (oCallF 20 [t32]) <|
 sEnd)) sEnd))))) sEnd))
(sSeq (I p34 (oMov t3) <|
 I p35 (oMov t4) <|
 I p36 (oCallF 95 [t34, t35]) <|
 I0 (oStore 4 t2 t36) <|
 sEnd)
sRet)))))⟩
def s129 : List (Nat × Sched) := []
/- emendate/byteset.Union -/
noncomputable def a130 : AF := ⟨19, [.celln p4 4],
(sSeq (I p2 (oBox t0) <|
 I p3 (oBox t1) <|
 I p4 (oAlloc (.row 0 4 (.node (some (.int .u64 (.ofNat 0))) (.node (some (.int .u64 (.ofNat 0))) (.node (some (.int .u64 (.ofNat 0))) .nil .nil) .nil) (.node (some (.int .u64 (.ofNat 0))) .nil .nil)))) <|
 sEnd)
(sSeq (sSeq (I p6 (oMov (ci 0)) <|
 sEnd)
(sBlock 0 (sLoop (sSeq (I p7 (oLss t6 (ci 4)) <|
 sEnd)
(sSeq (sCond t7 sEnd (sExit 0))
(sSeq (sBlock 1 (sSeq (I p8 (oMov t6) <|
 I p5 (oMov t8) <|
 sEnd)
(I p9 (oMov t5) <|
 I p10 (oIndexA 4 1 t2 t9) <|
 I p11 (oLoad1 t10) <|
 I p12 (oMov t5) <|
 I p13 (oIndexA 4 1 t3 t12) <|
 I p14 (oLoad1 t13) <|
 I p15 (oOr t11 t14) <|
 I p16 (oIndexA 4 1 t2 t9) <|
 I0 (oStore 1 t16 t15) <|
 sEnd)))
(I p17 (oAdd t6 (ci 1)) <|
 I p6 (oMov t17) <|
 sEnd)))))))
(sSeq (I p18 (oLoadn 4 t2) <|
 I0 (oStore 4 t4 t18) <|
 sEnd)
sRet)))⟩
def s130 : List (Nat × Sched) := [(4, .hoist 0 (.hoist 1 (.hoist 2 (.hoist 3 (.hoist 4 (.hoist 5 (.hoist 6 (.hoist 7 (.one 8 (.done))))))))))]
/- emendate/byteset.Complement -/
noncomputable def a131 : AF := ⟨15, [.celln p2 4],
(sSeq (I p1 (oBox t0) <|
 I p2 (oAlloc (.row 0 4 (.node (some (.int .u64 (.ofNat 0))) (.node (some (.int .u64 (.ofNat 0))) (.node (some (.int .u64 (.ofNat 0))) .nil .nil) .nil) (.node (some (.int .u64 (.ofNat 0))) .nil .nil)))) <|
 sEnd)
(sSeq (sSeq (I p4 (oMov (ci 0)) <|
 sEnd)
(sBlock 0 (sLoop (sSeq (I p5 (oLss t4 (ci 4)) <|
 sEnd)
(sSeq (sCond t5 sEnd (sExit 0))
(sSeq (sBlock 1 (sSeq (I p6 (oMov t4) <|
 I p3 (oMov t6) <|
 sEnd)
(I p7 (oMov t3) <|
 I p8 (oMov t3) <|
 I p9 (oIndexA 4 1 t1 t8) <|
 I p10 (oLoad1 t9) <|
 I p11 (oXor t10) <|
 I p12 (oIndexA 4 1 t1 t7) <|
 I0 (oStore 1 t12 t11) <|
 sEnd)))
(I p13 (oAdd t4 (ci 1)) <|
 I p4 (oMov t13) <|
 sEnd)))))))
(sSeq (I p14 (oLoadn 4 t1) <|
 I0 (oStore 4 t2 t14) <|
 sEnd)
sRet)))⟩
def s131 : List (Nat × Sched) := []
/- emendate/byteset.Of -/
noncomputable def a132 : AF := ⟨25, [.celln p2 4],
(sSeq (I p2 (oAlloc (.row 0 4 (.node (some (.int .u64 (.ofNat 0))) (.node (some (.int .u64 (.ofNat 0))) (.node (some (.int .u64 (.ofNat 0))) .nil .nil) .nil) (.node (some (.int .u64 (.ofNat 0))) .nil .nil)))) <|
 sEnd)
(sSeq (I p3 (oAlloc (.row 0 4 (.node (some (.int .u64 (.ofNat 0))) (.node (some (.int .u64 (.ofNat 0))) (.node (some (.int .u64 (.ofNat 0))) .nil .nil) .nil) (.node (some (.int .u64 (.ofNat 0))) .nil .nil)))) <|
 sEnd)
(sSeq (sSeq (I p5 (oMov t0) <|
 I p6 (oLenStr t5) <|
 I p7 (oMov (ci 0)) <|
 sEnd)
(sBlock 0 (sLoop (sSeq (I p8 (oLss t7 t6) <|
 sEnd)
(sSeq (sCond t8 sEnd (sExit 0))
(sSeq (sBlock 1 (sSeq (I p9 (oMov t7) <|
 I p4 (oMov t9) <|
 sEnd)
(I p10 (oMov t0) <|
 I p11 (oMov t4) <|
 I p12 (oIndexStr t10 t11) <|
 I p13 (oQuo t12 (c (.int .u8 (.ofNat 64)))) <|
 I p14 (oIndexA 4 1 t3 t13) <|
 I p15 (oLoad1 t14) <|
 I p16 (oMov t0) <|
 I p17 (oMov t4) <|
 I p18 (oIndexStr t16 t17) <|
 I p19 (oRem t18 (c (.int .u8 (.ofNat 64)))) <|
 I p20 (oShl (c (.int .u64 (.ofNat 1))) t19) <|
 I p21 (oOr t15 t20) <|
 I p22 (oIndexA 4 1 t3 t13) <|
 I0 (oStore 1 t22 t21) <|
 sEnd)))
(I p23 (oAdd t7 (ci 1)) <|
 I p7 (oMov t23) <|
 sEnd)))))))
(sSeq (I p24 (oLoadn 4 t3) <|
 I0 (oStore 4 t2 t24) <|
 sEnd)
sRet))))⟩
def s132 : List (Nat × Sched) := [(5, .hoist 0 (.hoist 1 (.hoist 2 (.hoist 3 (.hoist 4 (.hoist 5 (.hoist 6 (.hoist 7 (.hoist 8 (.hoist 9 (.hoist 10 (.hoist 11 (.hoist 12 (.one 13 (.done)))))))))))))))]
/- (*emendate/regex.reader).escape -/
noncomputable def a133 : AF := ⟨52, [.tmp p2],
(sSeq (I p2 (oMov (c (.int .u8 (.ofNat 0)))) <|
 sEnd)
(sSeq (sSeq (I p4 (oMov t0) <|
 I p5 (oNil t4) <|
 I p6 (oFieldAddr t5 1) <|
 I p7 (oLoad1 t6) <|
 I p8 (oMov t0) <|
 I p9 (oNil t8) <|
 I p10 (oFieldAddr t9 0) <|
 I p11 (oLoad1 t10) <|
 I p12 (oLenStr t11) <|
 I p13 (oEq t7 t12) <|
 sEnd)
(sCond t13 (I p14 (oMov t0) <|
 I p15 (oCallF 20 [t14]) <|
 sEnd) sEnd))
(sSeq (I p16 (oMov t0) <|
 I p17 (oNil t16) <|
 I p18 (oFieldAddr t17 0) <|
 I p19 (oLoad1 t18) <|
 I p20 (oMov t0) <|
 I p21 (oNil t20) <|
 I p22 (oFieldAddr t21 1) <|
 I p23 (oLoad1 t22) <|
 I p24 (oIndexStr t19 t23) <|
 I p3 (oMov t24) <|
 sEnd)
(sSeq (sBlock 0 (sSeq (I p26 (oMov t3) <|
 I p27 (oEq t26 (c (.int .u8 (.ofNat 110)))) <|
 I p25 (oMov t27) <|
 sEnd)
(sCond t25 (I p3 (oMov (c (.int .u8 (.ofNat 10)))) <|
 sEnd) (sSeq (I p29 (oMov t3) <|
 I p30 (oEq t29 (c (.int .u8 (.ofNat 116)))) <|
 I p28 (oMov t30) <|
 sEnd)
(sCond t28 (I p3 (oMov (c (.int .u8 (.ofNat 9)))) <|
 sEnd) (sSeq (I p32 (oMov t3) <|
 I p33 (oLss t32 (c (.int .u8 (.ofNat 32)))) <|
 I p34 (oMov t33) <|
 G p34 false p35 (oMov t3) <|
 G p34 false p36 (oGtr t35 (c (.int .u8 (.ofNat 126)))) <|
 I p37 (oPick t34 (c (.bool true)) t36) <|
 I p38 (oMov t37) <|
 G p38 false p39 (oMov t3) <|
 G p38 false p40 (oCallF 147 [t39]) <|
 I p41 (oPick t38 (c (.bool true)) t40) <|
 I p31 (oMov t41) <|
 sEnd)
(sCond t31 (I p42 (oMov t0) <|
 I p43 (oCallF 20 [t42]) <|
 sEnd) sEnd)))))))
(sSeq (I p44 (oMov t0) <|
 I p45 (oNil t44) <|
 I p46 (oFieldAddr t45 1) <|
 I p47 (oLoad1 t46) <|
 I p48 (oAdd t47 (ci 1)) <|
 I p49 (oNil t44) <|
 I p50 (oFieldAddr t49 1) <|
 I0 (oStore 1 t50 t48) <|
 sEnd)
(sSeq (I p51 (oMov t3) <|
 I p2 (oMov t51) <|
 sEnd)
sRet))))))⟩
def s133 : List (Nat × Sched) := [(1, .hoist 0 (.hoist 1 (.hoist 2 (.hoist 3 (.hoist 4 (.hoist 5 (.hoist 6 (.hoist 7 (.hoist 8 (.hoist 9 (.done))))))))))), (3, .hoist 0 (.hoist 1 (.hoist 2 (.hoist 3 (.hoist 4 (.hoist 5 (.hoist 6 (.hoist 7 (.hoist 8 (.hoist 9 (.done)))))))))))]
/- strings.IndexByte -/
noncomputable def a134 : AF := ⟨8, [.tmp p4],
(sSeq (I p4 (oMov (ci 0)) <|
 sEnd)
(sSeq (I p5 (oMov t0) <|
 I p6 (oMov t1) <|
 I p7 (oCallF 148 [t5, t6]) <|
 I p4 (oMov t7) <|
 sEnd)
sRet))⟩
def s134 : List (Nat × Sched) := []
/- slices.Grow[[]int,int] -/
noncomputable def a135 : AF := ⟨27, [.tmp p4],
(sSeq (I p4 (oMov (c .nils)) <|
 sEnd)
(sSeq (sSeq (I p5 (oMov t1) <|
 I p6 (oLss t5 (ci 0)) <|
 sEnd)
(sCond t6 (I p7 (oStuck) <|
 I0 (oStuck) <|
 sEnd) sEnd))
(sSeq (sSeq (I p8 (oMov t1) <|
 I p9 (oMov t0) <|
 I p10 (oCap t9) <|
 I p11 (oMov t0) <|
 I p12 (oLenSl t11) <|
 I p13 (oSub t10 t12) <|
 I p14 (oSub t8 t13) <|
 I p1 (oMov t14) <|
 sEnd)
(sSeq (I p15 (oMov t1) <|
 I p16 (oGtr t15 (ci 0)) <|
 sEnd)
(sCond t16 (I p17 (oMov t0) <|
 I p18 (oMov t0) <|
 I p19 (oCap t18) <|
 I p20 (oSlice 1 t17 none (some t19)) <|
 I p21 (oMov t1) <|
 I p22 (oAppendZ 1 [(.int .i64 (.ofNat 0))] t20 t21) <|
 I p23 (oMov t0) <|
 I p24 (oLenSl t23) <|
 I p25 (oSlice 1 t22 none (some t24)) <|
 I p0 (oMov t25) <|
 sEnd) sEnd)))
(sSeq (I p26 (oMov t0) <|
 I p4 (oMov t26) <|
 sEnd)
sRet))))⟩
def s135 : List (Nat × Sched) := []
/- slices.insertionSortOrdered[int] -/
noncomputable def a136 : AF := ⟨49, [],
(sSeq (I p8 (oMov t1) <|
 I p9 (oAdd t8 (ci 1)) <|
 I p6 (oMov t9) <|
 sEnd)
(sBlock 0 (sLoop (sSeq (sSeq (I p10 (oMov t6) <|
 I p11 (oMov t2) <|
 I p12 (oLss t10 t11) <|
 sEnd)
(sCond t12 sEnd (sExit 0)))
(sSeq (sBlock 1 (sSeq (I p15 (oMov t6) <|
 I p7 (oMov t15) <|
 sEnd)
(sBlock 2 (sLoop (sSeq (sSeq (I p16 (oMov t7) <|
 I p17 (oMov t1) <|
 I p18 (oGtr t16 t17) <|
 I p19 (oMov t18) <|
 G p19 true p20 (oMov t0) <|
 G p19 true p21 (oMov t7) <|
 G p19 true p22 (oIndexS 1 t20 t21) <|
 G p19 true p23 (oLoad1 t22) <|
 G p19 true p24 (oMov t0) <|
 G p19 true p25 (oMov t7) <|
 G p19 true p26 (oSub t25 (ci 1)) <|
 G p19 true p27 (oIndexS 1 t24 t26) <|
 G p19 true p28 (oLoad1 t27) <|
 G p19 true p29 (oCallF 142 [t23, t28]) <|
 I p30 (oPick t19 t29 (c (.bool false))) <|
 sEnd)
(sCond t30 sEnd (sExit 2)))
(sSeq (sBlock 3 (I p33 (oMov t0) <|
 I p34 (oMov t7) <|
 I p35 (oMov t0) <|
 I p36 (oMov t7) <|
 I p37 (oSub t36 (ci 1)) <|
 I p38 (oMov t0) <|
 I p39 (oMov t7) <|
 I p40 (oSub t39 (ci 1)) <|
 I p41 (oIndexS 1 t38 t40) <|
 I p42 (oLoad1 t41) <|
 I p43 (oMov t0) <|
 I p44 (oMov t7) <|
 I p45 (oIndexS 1 t43 t44) <|
 I p46 (oLoad1 t45) <|
 I p47 (oIndexS 1 t33 t34) <|
 I0 (oStore 1 t47 t42) <|
 I p48 (oIndexS 1 t35 t37) <|
 I0 (oStore 1 t48 t46) <|
 sEnd))
(I p31 (oMov t7) <|
 I p32 (oSub t31 (ci 1)) <|
 I p7 (oMov t32) <|
 sEnd)))))))
(I p13 (oMov t6) <|
 I p14 (oAdd t13 (ci 1)) <|
 I p6 (oMov t14) <|
 sEnd))))))⟩
def s136 : List (Nat × Sched) := [(4, .hoist 0 (.hoist 1 (.hoist 2 (.hoist 3 (.hoist 4 (.hoist 5 (.hoist 6 (.hoist 7 (.hoist 8 (.hoist 9 (.hoist 10 (.hoist 11 (.hoist 12 (.one 13 (.hoist 14 (.done)))))))))))))))), (6, .hoist 0 (.hoist 1 (.hoist 2 (.hoist 3 (.hoist 4 (.hoist 5 (.hoist 6 (.hoist 7 (.hoist 8 (.hoist 9 (.hoist 10 (.hoist 11 (.hoist 12 (.hoist 13 (.hoist 14 (.one 15 (.hoist 16 (.one 17 (.done)))))))))))))))))))]
/- cmp.Less[int] -/
noncomputable def a142 : AF := ⟨17, [.tmp p4],
(sSeq (I p4 (oMov (c (.bool false))) <|
 sEnd)
(sSeq (I p5 (oMov t0) <|
 I p6 (oCallF 154 [t5]) <|
 I p7 (oMov t6) <|
 G p7 true p8 (oMov t1) <|
 G p7 true p9 (oCallF 154 [t8]) <|
 G p7 true p10 (oNot t9) <|
 I p11 (oPick t7 t10 (c (.bool false))) <|
 I p12 (oMov t11) <|
 G p12 false p13 (oMov t0) <|
 G p12 false p14 (oMov t1) <|
 G p12 false p15 (oLss t13 t14) <|
 I p16 (oPick t12 (c (.bool true)) t15) <|
 I p4 (oMov t16) <|
 sEnd)
sRet))⟩
def s142 : List (Nat × Sched) := []
/- math/bits.Len32 -/
noncomputable def a145 : AF := ⟨19, [.tmp p2],
(sSeq (I p2 (oMov (ci 0)) <|
 sEnd)
(sSeq (sSeq (I p3 (oMov t0) <|
 I p4 (oGeq t3 (c (.int .u32 (.ofNat 65536)))) <|
 sEnd)
(sCond t4 (sSeq (I p5 (oMov t0) <|
 I p6 (oShr t5 (c (.int .u64 (.ofNat 16)))) <|
 I p0 (oMov t6) <|
 sEnd)
(I p2 (oMov (ci 16)) <|
 sEnd)) sEnd))
(sSeq (sSeq (I p7 (oMov t0) <|
 I p8 (oGeq t7 (c (.int .u32 (.ofNat 256)))) <|
 sEnd)
(sCond t8 (sSeq (I p9 (oMov t0) <|
 I p10 (oShr t9 (c (.int .u64 (.ofNat 8)))) <|
 I p0 (oMov t10) <|
 sEnd)
(I p11 (oMov t2) <|
 I p12 (oAdd t11 (ci 8)) <|
 I p2 (oMov t12) <|
 sEnd)) sEnd))
(sSeq (I p13 (oMov t2) <|
 I p14 (oMov t0) <|
 I p15 (oConv .u8 t14) <|
 I p16 (oIndexStr (c (.str [0, 1, 2, 2, 3, 3, 3, 3, 4, 4, 4, 4, 4, 4, 4, 4, 5, 5, 5, 5, 5, 5, 5, 5, 5, 5, 5, 5, 5, 5, 5, 5, 6, 6, 6, 6, 6, 6, 6, 6, 6, 6, 6, 6, 6, 6, 6, 6, 6, 6, 6, 6, 6, 6, 6, 6, 6, 6, 6, 6, 6, 6, 6, 6, 7, 7, 7, 7, 7, 7, 7, 7, 7, 7, 7, 7, 7, 7, 7, 7, 7, 7, 7, 7, 7, 7, 7, 7, 7, 7, 7, 7, 7, 7, 7, 7, 7, 7, 7, 7, 7, 7, 7, 7, 7, 7, 7, 7, 7, 7, 7, 7, 7, 7, 7, 7, 7, 7, 7, 7, 7, 7, 7, 7, 7, 7, 7, 7, 8, 8, 8, 8, 8, 8, 8, 8, 8, 8, 8, 8, 8, 8, 8, 8, 8, 8, 8, 8, 8, 8, 8, 8, 8, 8, 8, 8, 8, 8, 8, 8, 8, 8, 8, 8, 8, 8, 8, 8, 8, 8, 8, 8, 8, 8, 8, 8, 8, 8, 8, 8, 8, 8, 8, 8, 8, 8, 8, 8, 8, 8, 8, 8, 8, 8, 8, 8, 8, 8, 8, 8, 8, 8, 8, 8, 8, 8, 8, 8, 8, 8, 8, 8, 8, 8, 8, 8, 8, 8, 8, 8, 8, 8, 8, 8, 8, 8, 8, 8, 8, 8, 8, 8, 8, 8, 8, 8, 8, 8, 8, 8, 8, 8, 8, 8, 8, 8, 8, 8, 8, 8, 8, 8, 8, 8, 8, 8])) t15) <|
 I p17 (oConv .i64 t16) <|
 I p18 (oAdd t13 t17) <|
 I p2 (oMov t18) <|
 sEnd)
sRet))))⟩
def s145 : List (Nat × Sched) := []
/- math/bits.Len64 -/
noncomputable def a146 : AF := ⟨25, [.tmp p2],
(sSeq (I p2 (oMov (ci 0)) <|
 sEnd)
(sSeq (sSeq (I p3 (oMov t0) <|
 I p4 (oGeq t3 (c (.int .u64 (.ofNat 4294967296)))) <|
 sEnd)
(sCond t4 (sSeq (I p5 (oMov t0) <|
 I p6 (oShr t5 (c (.int .u64 (.ofNat 32)))) <|
 I p0 (oMov t6) <|
 sEnd)
(I p2 (oMov (ci 32)) <|
 sEnd)) sEnd))
(sSeq (sSeq (I p7 (oMov t0) <|
 I p8 (oGeq t7 (c (.int .u64 (.ofNat 65536)))) <|
 sEnd)
(sCond t8 (sSeq (I p9 (oMov t0) <|
 I p10 (oShr t9 (c (.int .u64 (.ofNat 16)))) <|
 I p0 (oMov t10) <|
 sEnd)
(I p11 (oMov t2) <|
 I p12 (oAdd t11 (ci 16)) <|
 I p2 (oMov t12) <|
 sEnd)) sEnd))
(sSeq (sSeq (I p13 (oMov t0) <|
 I p14 (oGeq t13 (c (.int .u64 (.ofNat 256)))) <|
 sEnd)
(sCond t14 (sSeq (I p15 (oMov t0) <|
 I p16 (oShr t15 (c (.int .u64 (.ofNat 8)))) <|
 I p0 (oMov t16) <|
 sEnd)
(I p17 (oMov t2) <|
 I p18 (oAdd t17 (ci 8)) <|
 I p2 (oMov t18) <|
 sEnd)) sEnd))
(sSeq (I p19 (oMov t2) <|
 I p20 (oMov t0) <|
 I p21 (oConv .u8 t20) <|
 I p22 (oIndexStr (c (.str [0, 1, 2, 2, 3, 3, 3, 3, 4, 4, 4, 4, 4, 4, 4, 4, 5, 5, 5, 5, 5, 5, 5, 5, 5, 5, 5, 5, 5, 5, 5, 5, 6, 6, 6, 6, 6, 6, 6, 6, 6, 6, 6, 6, 6, 6, 6, 6, 6, 6, 6, 6, 6, 6, 6, 6, 6, 6, 6, 6, 6, 6, 6, 6, 7, 7, 7, 7, 7, 7, 7, 7, 7, 7, 7, 7, 7, 7, 7, 7, 7, 7, 7, 7, 7, 7, 7, 7, 7, 7, 7, 7, 7, 7, 7, 7, 7, 7, 7, 7, 7, 7, 7, 7, 7, 7, 7, 7, 7, 7, 7, 7, 7, 7, 7, 7, 7, 7, 7, 7, 7, 7, 7, 7, 7, 7, 7, 7, 8, 8, 8, 8, 8, 8, 8, 8, 8, 8, 8, 8, 8, 8, 8, 8, 8, 8, 8, 8, 8, 8, 8, 8, 8, 8, 8, 8, 8, 8, 8, 8, 8, 8, 8, 8, 8, 8, 8, 8, 8, 8, 8, 8, 8, 8, 8, 8, 8, 8, 8, 8, 8, 8, 8, 8, 8, 8, 8, 8, 8, 8, 8, 8, 8, 8, 8, 8, 8, 8, 8, 8, 8, 8, 8, 8, 8, 8, 8, 8, 8, 8, 8, 8, 8, 8, 8, 8, 8, 8, 8, 8, 8, 8, 8, 8, 8, 8, 8, 8, 8, 8, 8, 8, 8, 8, 8, 8, 8, 8, 8, 8, 8, 8, 8, 8, 8, 8, 8, 8, 8, 8, 8, 8, 8, 8, 8, 8])) t21) <|
 I p23 (oConv .i64 t22) <|
 I p24 (oAdd t19 t23) <|
 I p2 (oMov t24) <|
 sEnd)
sRet)))))⟩
def s146 : List (Nat × Sched) := []
/- emendate/regex.alphanumeric -/
noncomputable def a147 : AF := ⟨25, [.tmp p2],
(sSeq (I p2 (oMov (c (.bool false))) <|
 sEnd)
(sSeq (I p3 (oMov t0) <|
 I p4 (oGeq t3 (c (.int .u8 (.ofNat 48)))) <|
 I p5 (oMov t4) <|
 G p5 true p6 (oMov t0) <|
 G p5 true p7 (oLeq t6 (c (.int .u8 (.ofNat 57)))) <|
 I p8 (oPick t5 t7 (c (.bool false))) <|
 I p9 (oMov t8) <|
 G p9 false p10 (oMov t0) <|
 G p9 false p11 (oGeq t10 (c (.int .u8 (.ofNat 97)))) <|
 G p9 false p12 (oMov t11) <|
 G p12 true p13 (oMov t0) <|
 G p12 true p14 (oLeq t13 (c (.int .u8 (.ofNat 122)))) <|
 G p9 false p15 (oPick t12 t14 (c (.bool false))) <|
 I p16 (oPick t9 (c (.bool true)) t15) <|
 I p17 (oMov t16) <|
 G p17 false p18 (oMov t0) <|
 G p17 false p19 (oGeq t18 (c (.int .u8 (.ofNat 65)))) <|
 G p17 false p20 (oMov t19) <|
 G p20 true p21 (oMov t0) <|
 G p20 true p22 (oLeq t21 (c (.int .u8 (.ofNat 90)))) <|
 G p17 false p23 (oPick t20 t22 (c (.bool false))) <|
 I p24 (oPick t17 (c (.bool true)) t23) <|
 I p2 (oMov t24) <|
 sEnd)
sRet))⟩
def s147 : List (Nat × Sched) := []
/- internal/stringslite.IndexByte -/
noncomputable def a148 : AF := ⟨8, [.tmp p4],
(sSeq (I p4 (oMov (ci 0)) <|
 sEnd)
(sSeq (I p5 (oMov t0) <|
 I p6 (oMov t1) <|
 I p7 (oCallF 155 [t5, t6]) <|
 I p4 (oMov t7) <|
 sEnd)
sRet))⟩
def s148 : List (Nat × Sched) := []
/- cmp.isNaN[int] -/
noncomputable def a154 : AF := ⟨6, [.tmp p2],
(sSeq (I p2 (oMov (c (.bool false))) <|
 sEnd)
(sSeq (I p3 (oMov t0) <|
 I p4 (oMov t0) <|
 I p5 (oNe t3 t4) <|
 I p2 (oMov t5) <|
 sEnd)
sRet))⟩
def s154 : List (Nat × Sched) := []
end Ev
end Go.Proofs.YtlgpacpebjechaaGreatDoor
