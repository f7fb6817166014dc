/-
 THE PROGRAM's FUNCTIONS AS THE ABSTRACT MACHINE RUNS THEM, printed by a program of this session's own out of what 'compF' makes of them.
-/
import Derived.Test.YtnebopkgnkemiaaGreatDoorIcP
import Derived.Test.YtnebopkgnkemiaaGreatDoorMacC
import Derived.Test.YtnebopkgnkemiaaGreatDoorProg
namespace Go.Proofs.YtnebopkgnkemiaaGreatDoor.Av
set_option maxRecDepth 100000
noncomputable def c3_0 : CEv := (cReg (step0 p6 (gMov (.c (.bool false)))
 endG))
noncomputable def c3_1 : CEv := (cReg (step0 p18 (gCall 4 [])
 (step0 p7 (gMov p18)
 endG)))
noncomputable def c3_2 : CEv := (cReg (step0 p19 (gMov p7)
 (step0 p20 (gP (iNot p19))
 endG)))
noncomputable def c3_3 : CEv := (cCond p20 (cSeq (cReg (step0 p6 (gMov (.c (.bool false)))
 endG))
 cRet)
 cSkip)
noncomputable def c3_4 : CEv := (cReg (step0 p21 (gMov p0)
 (step0 p22 (gP (iInt fRem 8 p21 (.c (.int 8 8))))
 (step0 p23 (gP (iCvi 63 p22))
 (step0 p8 (gMov p23)
 endG)))))
noncomputable def c3_5 : CEv := (cReg (step0 p24 (gMov p1)
 (step0 p25 (gP (iInt fRem 8 p24 (.c (.int 8 8))))
 (step0 p26 (gP (iCvi 63 p25))
 (step0 p9 (gMov p26)
 endG)))))
noncomputable def c3_6 : CEv := (cReg (step0 p27 (gMov p2)
 (step0 p28 (gP (iInt fRem 32 p27 (.c (.int 32 1000000010))))
 (step0 p29 (gP (iCvi 63 p28))
 (step0 p10 (gMov p29)
 endG)))))
noncomputable def c3_7 : CEv := (cReg (step0 p30 (gMov p8)
 (step0 p31 (gP (iCvi 8 p30))
 (step0 p32 (gP (iInt fAdd 8 (.c (.int 8 48)) p31))
 (step0 p33 (gE (iBsl 5 1 [(.int 8 0)] [(0, (1, p32))]))
 (step0 p34 (gP (iCvbs p33))
 (step0 p35 (gP (iStr sAdd (.c (.str [65, 32, 97, 123])) p34))
 (step0 p36 (gP (iStr sAdd p35 (.c (.str [44]))))
 (step0 p37 (gMov p9)
 (step0 p38 (gP (iCvi 8 p37))
 (step0 p39 (gP (iInt fAdd 8 (.c (.int 8 48)) p38))
 (step0 p40 (gE (iBsl 5 1 [(.int 8 0)] [(0, (1, p39))]))
 (step0 p41 (gP (iCvbs p40))
 (step0 p42 (gP (iStr sAdd p36 p41))
 (step0 p43 (gP (iStr sAdd p42 (.c (.str [125, 32, 87, 73, 84, 72, 73, 78, 32]))))
 (step0 p11 (gMov p43)
 endG))))))))))))))))
noncomputable def c3_8 : CEv := (cReg (step0 p44 (gMov p11)
 (step0 p45 (gP (iLenS p44))
 (step0 p12 (gMov p45)
 endG))))
noncomputable def c3_9 : CEv := (cReg (step0 p13 (gMov (.c (.str [])))
 endG))
noncomputable def c3_10 : CEv := (cReg (step0 p46 (gMov p10)
 (step0 p14 (gMov p46)
 endG)))
noncomputable def b3_0 : CEv := (cSeq (cSeq (cReg (step0 p47 (gMov p13)
 (step0 p48 (gP (iStr sEql p47 (.c (.str []))))
 (step0 p49 (gMov p48)
 (stepG p50 (gMov p14) (p49, false)
 (stepG p51 (gP (iInt fGtr 63 p50 (.c (.int 63 0)))) (p49, false)
 (step0 p52 (gP (iPick p49 (.c (.bool true)) p51))
 endG)))))))
 (cCond p52 cSkip
 (cExit 0)))
 (cSeq (cBlock 1 (cReg (step0 p55 (gMov p14)
 (step0 p56 (gP (iInt fRem 63 p55 (.c (.int 63 10))))
 (step0 p57 (gP (iCvi 8 p56))
 (step0 p58 (gP (iInt fAdd 8 (.c (.int 8 48)) p57))
 (step0 p59 (gE (iBsl 5 1 [(.int 8 0)] [(0, (1, p58))]))
 (step0 p60 (gP (iCvbs p59))
 (step0 p61 (gMov p13)
 (step0 p62 (gP (iStr sAdd p60 p61))
 (step0 p13 (gMov p62)
 endG)))))))))))
 (cReg (step0 p53 (gMov p14)
 (step0 p54 (gP (iInt fQuo 63 p53 (.c (.int 63 10))))
 (step0 p14 (gMov p54)
 endG))))))
noncomputable def c3_11 : CEv := (cBlock 0 (cLoop b3_0))
noncomputable def c3_12 : CEv := (cReg (step0 p64 (gMov p11)
 (step0 p65 (gMov p13)
 (step0 p66 (gP (iStr sAdd p64 p65))
 (step0 p67 (gCall 5 [p66])
 (step0 p63 (gMov p67)
 (step0 p68 (gP (iExt p63 0))
 (step0 p69 (gP (iExt p63 1))
 (step0 p70 (gP (iExt p63 2))
 (step0 p15 (gE (iAlloc 27 [(.ref 2 0 0 0 0 false), (.int 63 0), (.str [])]))
 (step0 none (gE (iStore 3 p15 p68))
 (step0 p16 (gMov p69)
 (step0 p17 (gMov p70)
 endG)))))))))))))
noncomputable def c3_13 : CEv := (cBlock 2 (cSeq (cReg (step0 p72 (gMov p8)
 (step0 p73 (gP (iInt fLss 63 p72 (.c (.int 63 1))))
 (step0 p74 (gMov p73)
 (stepG p75 (gMov p8) (p74, false)
 (stepG p76 (gP (iInt fGtr 63 p75 (.c (.int 63 4)))) (p74, false)
 (step0 p77 (gP (iPick p74 (.c (.bool true)) p76))
 (step0 p71 (gMov p77)
 endG))))))))
 (cCond p71 (cSeq (cReg (step0 p78 (gMov p7)
 (step0 p79 (gMov p78)
 (stepG p80 (gMov p17) (p79, true)
 (stepG p81 (gP (iInt fEql 63 p80 (.c (.int 63 3)))) (p79, true)
 (step0 p82 (gP (iPick p79 p81 (.c (.bool false))))
 (step0 p83 (gMov p82)
 (stepG p84 (gMov p16) (p83, true)
 (stepG p85 (gP (iInt fEql 63 p84 (.c (.int 63 4)))) (p83, true)
 (step0 p86 (gP (iPick p83 p85 (.c (.bool false))))
 (step0 p6 (gMov p86)
 endG)))))))))))
 cRet)
 (cSeq (cReg (step0 p88 (gMov p9)
 (step0 p89 (gMov p8)
 (step0 p90 (gP (iInt fLss 63 p88 p89))
 (step0 p91 (gMov p90)
 (stepG p92 (gMov p9) (p91, false)
 (stepG p93 (gP (iInt fGtr 63 p92 (.c (.int 63 4)))) (p91, false)
 (step0 p94 (gP (iPick p91 (.c (.bool true)) p93))
 (step0 p87 (gMov p94)
 endG)))))))))
 (cCond p87 (cSeq (cReg (step0 p95 (gMov p7)
 (step0 p96 (gMov p95)
 (stepG p97 (gMov p17) (p96, true)
 (stepG p98 (gP (iInt fEql 63 p97 (.c (.int 63 3)))) (p96, true)
 (step0 p99 (gP (iPick p96 p98 (.c (.bool false))))
 (step0 p100 (gMov p99)
 (stepG p101 (gMov p16) (p100, true)
 (stepG p102 (gP (iInt fEql 63 p101 (.c (.int 63 6)))) (p100, true)
 (step0 p103 (gP (iPick p100 p102 (.c (.bool false))))
 (step0 p6 (gMov p103)
 endG)))))))))))
 cRet)
 (cSeq (cReg (step0 p105 (gMov p10)
 (step0 p106 (gP (iInt fGtr 63 p105 (.c (.int 63 1000000000))))
 (step0 p104 (gMov p106)
 endG))))
 (cCond p104 (cSeq (cReg (step0 p107 (gMov p7)
 (step0 p108 (gMov p107)
 (stepG p109 (gMov p17) (p108, true)
 (stepG p110 (gP (iInt fEql 63 p109 (.c (.int 63 3)))) (p108, true)
 (step0 p111 (gP (iPick p108 p110 (.c (.bool false))))
 (step0 p112 (gMov p111)
 (stepG p113 (gMov p16) (p112, true)
 (stepG p114 (gMov p12) (p112, true)
 (stepG p115 (gP (iInt fEql 63 p113 p114)) (p112, true)
 (step0 p116 (gP (iPick p112 p115 (.c (.bool false))))
 (step0 p6 (gMov p116)
 endG))))))))))))
 cRet)
 cSkip)))))))
noncomputable def c3_14 : CEv := (cReg (step0 p117 (gMov p7)
 (step0 p118 (gMov p117)
 (stepG p119 (gMov p17) (p118, true)
 (stepG p120 (gP (iInt fEql 63 p119 (.c (.int 63 0)))) (p118, true)
 (step0 p121 (gP (iPick p118 p120 (.c (.bool false))))
 (step0 p122 (gMov p121)
 (stepG p123 (gP (iFad 0 p15)) (p122, true)
 (stepG p124 (gP (iLoad false 1 p123)) (p122, true)
 (stepG p125 (gP (iLenL p124)) (p122, true)
 (stepG p126 (gP (iInt fEql 63 p125 (.c (.int 63 1)))) (p122, true)
 (step0 p127 (gP (iPick p122 p126 (.c (.bool false))))
 (step0 p128 (gMov p127)
 (stepG p129 (gP (iFad 0 p15)) (p128, true)
 (stepG p130 (gP (iLoad false 1 p129)) (p128, true)
 (stepG p131 (gP (iIad 7 p130 (.c (.int 63 0)))) (p128, true)
 (stepG p132 (gP (iFad 4 p131)) (p128, true)
 (stepG p133 (gP (iLoad false 1 p132)) (p128, true)
 (stepG p134 (gMov p8) (p128, true)
 (stepG p135 (gP (iInt fEql 63 p133 p134)) (p128, true)
 (step0 p136 (gP (iPick p128 p135 (.c (.bool false))))
 (step0 p137 (gMov p136)
 (stepG p138 (gP (iFad 0 p15)) (p137, true)
 (stepG p139 (gP (iLoad false 1 p138)) (p137, true)
 (stepG p140 (gP (iIad 7 p139 (.c (.int 63 0)))) (p137, true)
 (stepG p141 (gP (iFad 5 p140)) (p137, true)
 (stepG p142 (gP (iLoad false 1 p141)) (p137, true)
 (stepG p143 (gMov p9) (p137, true)
 (stepG p144 (gP (iInt fEql 63 p142 p143)) (p137, true)
 (step0 p145 (gP (iPick p137 p144 (.c (.bool false))))
 (step0 p146 (gMov p145)
 (stepG p147 (gP (iFad 1 p15)) (p146, true)
 (stepG p148 (gP (iLoad false 1 p147)) (p146, true)
 (stepG p149 (gMov p10) (p146, true)
 (stepG p150 (gP (iInt fEql 63 p148 p149)) (p146, true)
 (step0 p151 (gP (iPick p146 p150 (.c (.bool false))))
 (step0 p6 (gMov p151)
 endG)))))))))))))))))))))))))))))))))))))
noncomputable def sh3 : Fs := .mk [p6]
 (cSeq c3_0
 (cSeq c3_1
 (cSeq (cSeq c3_2
 c3_3)
 (cSeq c3_4
 (cSeq c3_5
 (cSeq c3_6
 (cSeq c3_7
 (cSeq c3_8
 (cSeq c3_9
 (cSeq (cSeq c3_10
 c3_11)
 (cSeq c3_12
 (cSeq c3_13
 (cSeq c3_14
 cRet)))))))))))))
noncomputable def c4_0 : CEv := (cReg (step0 p0 (gMov (.c (.bool false)))
 endG))
noncomputable def c4_1 : CEv := (cReg (step0 p20 (gCall 5 [(.c (.str [65, 32, 97, 32, 59, 32, 33, 66, 32, 98, 91, 98, 46, 121, 61, 61, 97, 46, 120, 93, 32, 59, 32, 40, 65, 32, 99, 123, 49, 44, 50, 125, 32, 124, 32, 67, 32, 100, 41, 32, 87, 73, 84, 72, 73, 78, 32, 49, 48, 32, 66, 89, 32, 107]))])
 (step0 p19 (gMov p20)
 (step0 p21 (gP (iExt p19 0))
 (step0 p22 (gP (iExt p19 1))
 (step0 p23 (gP (iExt p19 2))
 (step0 p1 (gE (iAlloc 27 [(.ref 2 0 0 0 0 false), (.int 63 0), (.str [])]))
 (step0 none (gE (iStore 3 p1 p21))
 (step0 p2 (gMov p22)
 (step0 p3 (gMov p23)
 endG))))))))))
noncomputable def c4_2 : CEv := (cReg (step0 p25 (gCall 5 [(.c (.str [65, 32, 97, 32, 87, 73, 84, 72, 73, 78]))])
 (step0 p24 (gMov p25)
 (step0 p26 (gP (iExt p24 0))
 (step0 p27 (gP (iExt p24 1))
 (step0 p28 (gP (iExt p24 2))
 (step0 p4 (gE (iAlloc 27 [(.ref 2 0 0 0 0 false), (.int 63 0), (.str [])]))
 (step0 none (gE (iStore 3 p4 p26))
 (step0 p5 (gMov p27)
 (step0 p6 (gMov p28)
 endG))))))))))
noncomputable def c4_3 : CEv := (cReg (step0 p30 (gCall 6 [(.c (.str [49, 43, 50, 42, 51, 60, 97, 46, 120, 38, 38, 33, 40, 98, 46, 121, 61, 61, 48, 41]))])
 (step0 p29 (gMov p30)
 (step0 p31 (gP (iExt p29 0))
 (step0 p32 (gP (iExt p29 1))
 (step0 p33 (gP (iExt p29 2))
 (step0 p7 (gE (iAlloc 37 [(.int 63 0), (.str []), (.int 63 0), (.str []), (.str []), (.ref 2 0 0 0 0 false)]))
 (step0 none (gE (iStore 6 p7 p31))
 (step0 p8 (gMov p32)
 (step0 p9 (gMov p33)
 endG))))))))))
noncomputable def c4_4 : CEv := (cReg (step0 p35 (gCall 5 [(.c (.str [65, 32, 97, 123, 48, 44, 50, 125, 32, 87, 73, 84, 72, 73, 78, 32, 49]))])
 (step0 p34 (gMov p35)
 (step0 p36 (gP (iExt p34 0))
 (step0 p37 (gP (iExt p34 1))
 (step0 p38 (gP (iExt p34 2))
 (step0 p10 (gE (iAlloc 27 [(.ref 2 0 0 0 0 false), (.int 63 0), (.str [])]))
 (step0 none (gE (iStore 3 p10 p36))
 (step0 p11 (gMov p37)
 (step0 p12 (gMov p38)
 endG))))))))))
noncomputable def c4_5 : CEv := (cReg (step0 p40 (gCall 7 [(.c (.str [65, 32, 97, 59, 66, 32, 98]))])
 (step0 p39 (gMov p40)
 (step0 p41 (gP (iExt p39 0))
 (step0 p42 (gP (iExt p39 1))
 (step0 p43 (gP (iExt p39 2))
 (step0 p13 (gMov p41)
 (step0 p14 (gMov p42)
 (step0 p15 (gMov p43)
 endG)))))))))
noncomputable def c4_6 : CEv := (cReg (step0 p45 (gCall 6 [(.c (.str [33, 33, 33, 33, 33, 33, 33, 33, 33, 33, 33, 33, 33, 33, 33, 33, 33, 49]))])
 (step0 p44 (gMov p45)
 (step0 p46 (gP (iExt p44 0))
 (step0 p47 (gP (iExt p44 1))
 (step0 p48 (gP (iExt p44 2))
 (step0 p16 (gE (iAlloc 37 [(.int 63 0), (.str []), (.int 63 0), (.str []), (.str []), (.ref 2 0 0 0 0 false)]))
 (step0 none (gE (iStore 6 p16 p46))
 (step0 p17 (gMov p47)
 (step0 p18 (gMov p48)
 endG))))))))))
noncomputable def c4_7 : CEv := (cReg (step0 p49 (gMov p3)
 (step0 p50 (gP (iInt fEql 63 p49 (.c (.int 63 0))))
 (step0 p51 (gMov p50)
 (stepG p52 (gMov p2) (p51, true)
 (stepG p53 (gP (iInt fEql 63 p52 (.c (.int 63 54)))) (p51, true)
 (step0 p54 (gP (iPick p51 p53 (.c (.bool false))))
 (step0 p55 (gMov p54)
 (stepG p56 (gP (iLoad true 3 p1)) (p55, true)
 (stepG p57 (gCall 8 [p56]) (p55, true)
 (stepG p58 (gP (iStr sEql p57 (.c (.str [65, 32, 97, 32, 59, 32, 33, 66, 32, 98, 91, 98, 46, 121, 32, 61, 61, 32, 97, 46, 120, 93, 32, 59, 32, 40, 65, 32, 99, 123, 49, 44, 50, 125, 32, 124, 32, 67, 32, 100, 41, 32, 87, 73, 84, 72, 73, 78, 32, 49, 48, 32, 66, 89, 32, 107])))) (p55, true)
 (step0 p59 (gP (iPick p55 p58 (.c (.bool false))))
 (step0 p60 (gMov p59)
 (stepG p61 (gMov p5) (p60, true)
 (stepG p62 (gP (iInt fEql 63 p61 (.c (.int 63 10)))) (p60, true)
 (step0 p63 (gP (iPick p60 p62 (.c (.bool false))))
 (step0 p64 (gMov p63)
 (stepG p65 (gMov p6) (p64, true)
 (stepG p66 (gP (iInt fEql 63 p65 (.c (.int 63 3)))) (p64, true)
 (step0 p67 (gP (iPick p64 p66 (.c (.bool false))))
 (step0 p68 (gMov p67)
 (stepG p69 (gMov p9) (p68, true)
 (stepG p70 (gP (iInt fEql 63 p69 (.c (.int 63 0)))) (p68, true)
 (step0 p71 (gP (iPick p68 p70 (.c (.bool false))))
 (step0 p72 (gMov p71)
 (stepG p73 (gP (iLoad true 6 p7)) (p72, true)
 (stepG p74 (gCall 9 [p73]) (p72, true)
 (stepG p75 (gP (iStr sEql p74 (.c (.str [49, 32, 43, 32, 50, 32, 42, 32, 51, 32, 60, 32, 97, 46, 120, 32, 38, 38, 32, 33, 40, 98, 46, 121, 32, 61, 61, 32, 48, 41])))) (p72, true)
 (step0 p76 (gP (iPick p72 p75 (.c (.bool false))))
 (step0 p77 (gMov p76)
 (stepG p78 (gMov p11) (p77, true)
 (stepG p79 (gP (iInt fEql 63 p78 (.c (.int 63 4)))) (p77, true)
 (step0 p80 (gP (iPick p77 p79 (.c (.bool false))))
 (step0 p81 (gMov p80)
 (stepG p82 (gMov p12) (p81, true)
 (stepG p83 (gP (iInt fEql 63 p82 (.c (.int 63 3)))) (p81, true)
 (step0 p84 (gP (iPick p81 p83 (.c (.bool false))))
 (step0 p85 (gMov p84)
 (stepG p86 (gMov p15) (p85, true)
 (stepG p87 (gP (iInt fEql 63 p86 (.c (.int 63 0)))) (p85, true)
 (step0 p88 (gP (iPick p85 p87 (.c (.bool false))))
 (step0 p89 (gMov p88)
 (stepG p90 (gMov p13) (p89, true)
 (stepG p91 (gP (iLenL p90)) (p89, true)
 (stepG p92 (gP (iInt fEql 63 p91 (.c (.int 63 2)))) (p89, true)
 (step0 p93 (gP (iPick p89 p92 (.c (.bool false))))
 (step0 p94 (gMov p93)
 (stepG p95 (gMov p17) (p94, true)
 (stepG p96 (gP (iInt fEql 63 p95 (.c (.int 63 16)))) (p94, true)
 (step0 p97 (gP (iPick p94 p96 (.c (.bool false))))
 (step0 p98 (gMov p97)
 (stepG p99 (gMov p18) (p98, true)
 (stepG p100 (gP (iInt fEql 63 p99 (.c (.int 63 4)))) (p98, true)
 (step0 p101 (gP (iPick p98 p100 (.c (.bool false))))
 (step0 p0 (gMov p101)
 endG)))))))))))))))))))))))))))))))))))))))))))))))))))))))
noncomputable def sh4 : Fs := .mk [p0]
 (cSeq c4_0
 (cSeq c4_1
 (cSeq c4_2
 (cSeq c4_3
 (cSeq c4_4
 (cSeq c4_5
 (cSeq c4_6
 (cSeq c4_7
 cRet))))))))
noncomputable def c5_0 : CEv := (cReg (step0 p2 (gE (iAlloc 27 [(.ref 2 0 0 0 0 false), (.int 63 0), (.str [])]))
 (step0 p3 (gMov (.c (.int 63 0)))
 (step0 p4 (gMov (.c (.int 63 0)))
 endG))))
noncomputable def c5_1 : CEv := (cReg (step0 p5 (gMov p0)
 (step0 p6 (gCall 10 [p5, (.c (.cmp 0 11 []))])
 (step0 p7 (gP (iExt p6 0))
 (step0 p8 (gP (iExt p6 1))
 (step0 p9 (gP (iExt p6 2))
 (step0 none (gE (iStore 3 p2 p7))
 (step0 p3 (gMov p8)
 (step0 p4 (gMov p9)
 endG)))))))))
noncomputable def sh5 : Fs := .mk [(.m p2 true 3), p3, p4]
 (cSeq c5_0
 (cSeq c5_1
 cRet))
noncomputable def sh6 : Fs := cF Tryz.prog Tryz.f6
noncomputable def sh7 : Fs := cF Tryz.prog Tryz.f7
noncomputable def sh8 : Fs := cF Tryz.prog Tryz.f8
noncomputable def sh9 : Fs := cF Tryz.prog Tryz.f9
noncomputable def sh10 : Fs := .dfr [(.m p4 true 3), (.m p5 false 1), (.m p6 false 1)]
 (dPre (cReg (step0 p4 (gE (iAlloc 27 [(.ref 2 0 0 0 0 false), (.int 63 0), (.str [])]))
 (step0 p5 (gE (iAlloc 3 [(.int 63 0)]))
 (step0 p6 (gE (iAlloc 28 [(.int 63 0)]))
 endG))))
 (dPre (cReg (step0 p10 (gMov p0)
 (step0 p11 (gCall 21 [p10])
 (step0 p9 (gMov p11)
 (step0 p12 (gP (iExt p9 0))
 (step0 p13 (gP (iExt p9 1))
 (step0 p14 (gP (iExt p9 2))
 (step0 p7 (gMov p12)
 (step0 none (gE (iStore 1 p5 p13))
 (step0 none (gE (iStore 1 p6 p14))
 endG))))))))))
 (dPre (cSeq (cReg (step0 p15 (gP (iLoad false 1 p6))
 (step0 p16 (gP (iInt fNeq 63 p15 (.c (.int 63 0))))
 endG)))
 (cCond p16 (cSeq (cDraw [p17, p18, p19] (stepR [p4] p17 (gP (iLoad true 3 p4)) none
 (stepQ 1 [p5] p18 (gP (iLoad false 1 p5)) none
 (stepQ 2 [p6] p19 (gP (iLoad false 1 p6)) none
 (stepC [1, 2] [p4, p17] none (gE (iStore 3 p4 p17)) none
 (stepC [2] [p5, p18] none (gE (iStore 1 p5 p18)) none
 (stepL [p6, p19] none (gE (iStore 1 p6 p19)) none
 endD)))))))
 cRet)
 cSkip))
 (dDfr (step0 p20 (gP (iMkf 22 [p4, p5, p6]))
 endG) p20
 (cSeq (cReg (step0 p21 (gMov p7)
 (step0 p22 (gMov p0)
 (step0 p23 (gP (iLenS p22))
 (step0 p24 (gP (iBuild [(.ref 2 0 0 0 0 false), (.int 63 0), (.int 63 0), (.int 63 0)] [(0, (1, p21)), (1, (1, p23))]))
 (step0 p25 (gE (iBox 67 p24))
 (step0 p8 (gMov p25)
 endG)))))))
 (cSeq (cReg (step0 p26 (gMov p1)
 (step0 p27 (gMov p8)
 (step0 p28 (gDyn p26 [p27])
 (step0 none (gE (iStore 3 p4 p28))
 endG)))))
 (cSeq (cReg (step0 p29 (gMov p8)
 (step0 p30 (gMov p8)
 (step0 p31 (gP (iNck p30))
 (step0 p32 (gP (iFad 0 p31))
 (step0 p33 (gP (iLoad false 1 p32))
 (step0 p34 (gP (iLenL p33))
 (step0 p35 (gP (iInt fEql 63 p34 (.c (.int 63 0))))
 (step0 p36 (gCall 23 [p29, p35])
 endG)))))))))
 (cSeq (cReg (step0 p37 (gP (iLoad true 3 p4))
 (step0 p38 (gMov p0)
 (step0 p39 (gP (iLenS p38))
 (step0 none (gE (iStore 3 p4 p37))
 (step0 none (gE (iStore 1 p5 p39))
 (step0 none (gE (iStore 1 p6 (.c (.int 63 0))))
 endG)))))))
 cRet))))))))
noncomputable def c11_0 : CEv := (cReg (step0 p2 (gE (iAlloc 27 [(.ref 2 0 0 0 0 false), (.int 63 0), (.str [])]))
 endG))
noncomputable def c11_1 : CEv := (cReg (step0 p4 (gMov p0)
 (step0 p5 (gCall 15 [p4])
 (step0 p6 (gP (iBuild [(.ref 2 0 0 0 0 false), (.int 63 0), (.str [])] [(0, (1, p5))]))
 (step0 p3 (gE (iAlloc 27 [(.ref 2 0 0 0 0 false), (.int 63 0), (.str [])]))
 (step0 none (gE (iStore 3 p3 p6))
 endG))))))
noncomputable def c11_2 : CEv := (cReg (step0 p7 (gMov p0)
 (step0 p8 (gCall 24 [p7, (.c (.str [87, 73, 84, 72, 73, 78]))])
 endG)))
noncomputable def c11_3 : CEv := (cReg (step0 p9 (gMov p0)
 (step0 p10 (gCall 25 [p9, (.c (.int 63 0)), (.c (.int 63 1000000000))])
 (step0 p11 (gP (iFad 1 p3))
 (step0 none (gE (iStore 1 p11 p10))
 endG)))))
noncomputable def c11_4 : CEv := (cReg (step0 p12 (gMov p0)
 (step0 p13 (gCall 26 [p12, (.c (.str [66, 89]))])
 endG)))
noncomputable def c11_5 : CEv := (cCond p13 (cReg (step0 p14 (gMov p0)
 (step0 p15 (gCall 27 [p14])
 (step0 p16 (gP (iFad 2 p3))
 (step0 none (gE (iStore 1 p16 p15))
 endG)))))
 cSkip)
noncomputable def c11_6 : CEv := (cReg (step0 p17 (gP (iLoad true 3 p3))
 (step0 none (gE (iStore 3 p2 p17))
 endG)))
noncomputable def sh11 : Fs := .mk [(.m p2 true 3)]
 (cSeq c11_0
 (cSeq c11_1
 (cSeq c11_2
 (cSeq c11_3
 (cSeq (cSeq c11_4
 c11_5)
 (cSeq c11_6
 cRet))))))
noncomputable def sh12 : Fs := cD Tryz.prog Tryz.f12
noncomputable def sh13 : Fs := cF Tryz.prog Tryz.f13
noncomputable def sh14 : Fs := cD Tryz.prog Tryz.f14
noncomputable def sh15 : Fs := cF Tryz.prog Tryz.f15
noncomputable def sh16 : Fs := cF Tryz.prog Tryz.f16
noncomputable def sh17 : Fs := cF Tryz.prog Tryz.f17
noncomputable def sh18 : Fs := cF Tryz.prog Tryz.f18
noncomputable def sh19 : Fs := cF Tryz.prog Tryz.f19
noncomputable def sh20 : Fs := cF Tryz.prog Tryz.f20
noncomputable def c21_0 : CEv := (cReg (step0 p2 (gMov (.c (.ref 2 0 0 0 0 false)))
 (step0 p3 (gMov (.c (.int 63 0)))
 (step0 p4 (gMov (.c (.int 63 0)))
 endG))))
noncomputable def c21_1 : CEv := (cReg (step0 p7 (gMov p0)
 (step0 p8 (gP (iLenS p7))
 (step0 p9 (gP (iInt fGtr 63 p8 (.c (.int 63 2048))))
 endG))))
noncomputable def c21_2 : CEv := (cCond p9 (cSeq (cReg (step0 p2 (gMov (.c (.ref 2 0 0 0 0 false)))
 (step0 p3 (gMov (.c (.int 63 2048)))
 (step0 p4 (gMov (.c (.int 63 4)))
 endG))))
 cRet)
 cSkip)
noncomputable def b21_0 : CEv := (cBlock 1 (cSeq (cReg (step0 p10 (gMov p0)
 (step0 p11 (gP (iLenS p10))
 (step0 p12 (gMov p0)
 (step0 p13 (gMov p3)
 (step0 p14 (gP (iSls p12 (some (.t p13)) none))
 (step0 p15 (gCall 39 [p14, (.c (.str [9, 10, 13, 32]))])
 (step0 p16 (gP (iLenS p15))
 (step0 p17 (gP (iInt fSub 63 p11 p16))
 (step0 p3 (gMov p17)
 endG))))))))))
 (cSeq (cSeq (cReg (step0 p18 (gMov p3)
 (step0 p19 (gMov p0)
 (step0 p20 (gP (iLenS p19))
 (step0 p21 (gP (iInt fEql 63 p18 p20))
 endG)))))
 (cCond p21 (cSeq (cReg (step0 p22 (gMov p2)
 (step0 p23 (gMov p3)
 (step0 p2 (gMov p22)
 (step0 p3 (gMov p23)
 (step0 p4 (gMov (.c (.int 63 0)))
 endG))))))
 cRet)
 cSkip))
 (cSeq (cReg (step0 p25 (gMov p0)
 (step0 p26 (gMov p3)
 (step0 p27 (gP (iSls p25 (some (.t p26)) none))
 (step0 p28 (gCall 40 [p27])
 (step0 p24 (gMov p28)
 (step0 p29 (gP (iExt p24 0))
 (step0 p30 (gP (iExt p24 1))
 (step0 p5 (gE (iAlloc 88 [(.int 63 0), (.str []), (.int 63 0), (.int 63 0)]))
 (step0 none (gE (iStore 4 p5 p29))
 (step0 p6 (gMov p30)
 endG)))))))))))
 (cSeq (cSeq (cReg (step0 p31 (gMov p6)
 (step0 p32 (gP (iNot p31))
 endG)))
 (cCond p32 (cSeq (cReg (step0 p33 (gMov p3)
 (step0 p2 (gMov (.c (.ref 2 0 0 0 0 false)))
 (step0 p3 (gMov p33)
 (step0 p4 (gMov (.c (.int 63 2)))
 endG)))))
 cRet)
 cSkip))
 (cSeq (cReg (step0 p34 (gMov p3)
 (step0 p35 (gP (iFad 3 p5))
 (step0 none (gE (iStore 1 p35 p34))
 endG))))
 (cSeq (cReg (step0 p36 (gMov p2)
 (step0 p37 (gP (iLoad true 4 p5))
 (step0 p38 (gE (iBsl 88 1 [(.int 63 0), (.str []), (.int 63 0), (.int 63 0)] [(0, (4, p37))]))
 (step0 p39 (gE (iApp false 88 4 40 p36 p38))
 (step0 p2 (gMov p39)
 endG))))))
 (cReg (step0 p40 (gMov p3)
 (step0 p41 (gP (iFad 1 p5))
 (step0 p42 (gP (iLoad false 1 p41))
 (step0 p43 (gP (iLenS p42))
 (step0 p44 (gP (iInt fAdd 63 p40 p43))
 (step0 p3 (gMov p44)
 endG))))))))))))))
noncomputable def c21_3 : CEv := (cBlock 0 (cLoop b21_0))
noncomputable def sh21 : Fs := .mk [p2, p3, p4]
 (cSeq c21_0
 (cSeq (cSeq c21_1
 c21_2)
 c21_3))
noncomputable def sh22 : Fs := .rcv p7
 (cSeq (cReg (step0 p3 (gMov p7)
 endG))
 (cSeq (cReg (step0 p9 (gMov p3)
 (step0 p10 (gP (iTas 64 (.cmp 2 0 [(.int 63 0), (.int 63 0)]) p9 true))
 (step0 p8 (gMov p10)
 (step0 p11 (gP (iExt p8 0))
 (step0 p12 (gP (iExt p8 1))
 (step0 p4 (gE (iAlloc 64 [(.int 63 0), (.int 63 0)]))
 (step0 none (gE (iStore 2 p4 p11))
 (step0 p5 (gMov p12)
 endG)))))))))
 (cSeq (cReg (step0 p13 (gMov p5)
 endG))
 (cCond p13 (cSeq (cReg (step0 p6 (gE (iAlloc 27 [(.ref 2 0 0 0 0 false), (.int 63 0), (.str [])]))
 endG))
 (cDraw [p14, p15, p16, p17, p18] (stepR [p6] p14 (gP (iLoad true 3 p6)) none
 (stepR [p4] p15 (gP (iFad 1 p4)) none
 (stepQ 2 [p15] p16 (gP (iLoad false 1 p15)) none
 (stepR [p4] p17 (gP (iFad 0 p4)) none
 (stepQ 4 [p17] p18 (gP (iLoad false 1 p17)) none
 (stepC [2, 4] [p0, p14] none (gE (iStore 3 p0 p14)) none
 (stepC [4] [p1, p16] none (gE (iStore 1 p1 p16)) none
 (stepL [p2, p18] none (gE (iStore 1 p2 p18)) none
 endD))))))))))
 (cSeq (cReg (step0 p19 (gMov p3)
 (step0 p20 (gP (iEqn true 7 101 p19 (.c (.ref 7 0 0 0 0 false))))
 endG)))
 (cCond p20 (cReg (step0 p21 (gMov p3)
 (step0 none (gPan p21)
 endG)))
 cSkip))))))
noncomputable def c23_0 : CEv := (cReg (step0 p4 (gMov p1)
 (step0 p5 (gP (iNot p4))
 endG)))
noncomputable def c23_1 : CEv := (cCond p5 (cReg (step0 p6 (gMov p0)
 (step0 p7 (gCall 41 [p6, (.c (.int 63 3))])
 endG)))
 cSkip)
noncomputable def sh23 : Fs := .mk []
 (cSeq c23_0
 c23_1)
noncomputable def c24_0 : CEv := (cReg (step0 p4 (gMov p0)
 (step0 p5 (gMov p0)
 (step0 p6 (gMov p1)
 (step0 p7 (gCall 26 [p5, p6])
 (step0 p8 (gCall 23 [p4, p7])
 endG))))))
noncomputable def sh24 : Fs := .mk []
 c24_0
noncomputable def c25_0 : CEv := (cReg (step0 p6 (gMov (.c (.int 63 0)))
 endG))
noncomputable def c25_1 : CEv := (cReg (step0 p8 (gMov p0)
 (step0 p9 (gCall 42 [p8])
 (step0 p10 (gP (iFld false 2 1 p9))
 (step0 p7 (gMov p10)
 endG)))))
noncomputable def c25_2 : CEv := (cReg (step0 p11 (gMov p0)
 (step0 p12 (gMov p7)
 (step0 p13 (gMov p1)
 (step0 p14 (gP (iInt fGeq 63 p12 p13))
 (step0 p15 (gMov p14)
 (stepG p16 (gMov p7) (p15, true)
 (stepG p17 (gMov p2) (p15, true)
 (stepG p18 (gP (iInt fLeq 63 p16 p17)) (p15, true)
 (step0 p19 (gP (iPick p15 p18 (.c (.bool false))))
 (step0 p20 (gCall 23 [p11, p19])
 endG)))))))))))
noncomputable def c25_3 : CEv := (cReg (step0 p21 (gMov p0)
 (step0 p22 (gCall 43 [p21, (.c (.int 63 2))])
 (step0 p23 (gP (iFld false 2 1 p22))
 (step0 p6 (gMov p23)
 endG)))))
noncomputable def sh25 : Fs := .mk [p6]
 (cSeq c25_0
 (cSeq c25_1
 (cSeq c25_2
 (cSeq c25_3
 cRet))))
noncomputable def c26_0 : CEv := (cReg (step0 p4 (gMov (.c (.bool false)))
 endG))
noncomputable def c26_1 : CEv := (cReg (step0 p5 (gMov p0)
 (step0 p6 (gMov p1)
 (step0 p7 (gCall 44 [p5, p6])
 (step0 p8 (gP (iNot p7))
 endG)))))
noncomputable def c26_2 : CEv := (cCond p8 (cSeq (cReg (step0 p4 (gMov (.c (.bool false)))
 endG))
 cRet)
 cSkip)
noncomputable def c26_3 : CEv := (cReg (step0 p9 (gMov p1)
 endG))
noncomputable def c26_4 : CEv := (cBlock 0 (cSeq (cSeq (cReg (step0 p11 (gP (iStr sEql p9 (.c (.str [40]))))
 (step0 p10 (gMov p11)
 endG)))
 (cCond p10 cSkip
 (cReg (step0 p12 (gP (iStr sEql p9 (.c (.str [91]))))
 (step0 p10 (gMov p12)
 endG)))))
 (cCond p10 (cReg (step0 p13 (gMov p0)
 (step0 p14 (gCall 45 [p13])
 endG)))
 (cSeq (cSeq (cReg (step0 p16 (gP (iStr sEql p9 (.c (.str [41]))))
 (step0 p15 (gMov p16)
 endG)))
 (cCond p15 cSkip
 (cReg (step0 p17 (gP (iStr sEql p9 (.c (.str [93]))))
 (step0 p15 (gMov p17)
 endG)))))
 (cCond p15 (cReg (step0 p18 (gMov p0)
 (step0 p19 (gP (iNck p18))
 (step0 p20 (gP (iFad 2 p19))
 (step0 p21 (gP (iLoad false 1 p20))
 (step0 p22 (gP (iInt fSub 63 p21 (.c (.int 63 1))))
 (step0 p23 (gP (iNck p18))
 (step0 p24 (gP (iFad 2 p23))
 (step0 none (gE (iStore 1 p24 p22))
 endG)))))))))
 cSkip)))))
noncomputable def c26_5 : CEv := (cReg (step0 p25 (gMov p0)
 (step0 p26 (gMov p0)
 (step0 p27 (gP (iNck p26))
 (step0 p28 (gP (iFad 0 p27))
 (step0 p29 (gP (iLoad false 1 p28))
 (step0 p30 (gP (iSll 88 4 p29 (some (.c (.int 63 1))) none none))
 (step0 p31 (gP (iNck p25))
 (step0 p32 (gP (iFad 0 p31))
 (step0 none (gE (iStore 1 p32 p30))
 endG))))))))))
noncomputable def c26_6 : CEv := (cReg (step0 p4 (gMov (.c (.bool true)))
 endG))
noncomputable def sh26 : Fs := .mk [p4]
 (cSeq c26_0
 (cSeq (cSeq c26_1
 c26_2)
 (cSeq (cSeq c26_3
 c26_4)
 (cSeq c26_5
 (cSeq c26_6
 cRet)))))
noncomputable def sh27 : Fs := cF Tryz.prog Tryz.f27
noncomputable def sh28 : Fs := cR Tryz.prog Tryz.f28
noncomputable def sh29 : Fs := cF Tryz.prog Tryz.f29
noncomputable def sh30 : Fs := cR Tryz.prog Tryz.f30
noncomputable def sh31 : Fs := cF Tryz.prog Tryz.f31
noncomputable def sh32 : Fs := cF Tryz.prog Tryz.f32
noncomputable def sh33 : Fs := cF Tryz.prog Tryz.f33
noncomputable def sh34 : Fs := cF Tryz.prog Tryz.f34
noncomputable def sh35 : Fs := cF Tryz.prog Tryz.f35
noncomputable def sh36 : Fs := cF Tryz.prog Tryz.f36
noncomputable def sh37 : Fs := cF Tryz.prog Tryz.f37
noncomputable def c38_0 : CEv := (cReg (step0 p1 (gE (iBox 9 p0))
 (step0 p2 (gMov (.c (.int 63 0)))
 endG)))
noncomputable def c38_1 : CEv := (cReg (step0 p3 (gCall 59 [])
 (step0 p4 (gP (iMkf 60 [p1]))
 (step0 p5 (gCall 58 [p3, p4])
 (step0 p6 (gP (iInt fAdd 63 (.c (.int 63 1)) p5))
 (step0 p2 (gMov p6)
 endG))))))
noncomputable def sh38 : Fs := .mk [p2]
 (cSeq c38_0
 (cSeq c38_1
 cRet))
noncomputable def c39_0 : CEv := (cReg (step0 p4 (gMov (.c (.str [])))
 endG))
noncomputable def c39_1 : CEv := (cReg (step0 p7 (gMov p0)
 (step0 p8 (gP (iStr sEql p7 (.c (.str []))))
 (step0 p9 (gMov p8)
 (stepG p10 (gMov p1) (p9, false)
 (stepG p11 (gP (iStr sEql p10 (.c (.str [])))) (p9, false)
 (step0 p12 (gP (iPick p9 (.c (.bool true)) p11))
 endG)))))))
noncomputable def c39_2 : CEv := (cCond p12 (cSeq (cReg (step0 p13 (gMov p0)
 (step0 p4 (gMov p13)
 endG)))
 cRet)
 cSkip)
noncomputable def c39_3 : CEv := (cReg (step0 p14 (gMov p1)
 (step0 p15 (gP (iLenS p14))
 (step0 p16 (gP (iInt fEql 63 p15 (.c (.int 63 1))))
 (step0 p17 (gMov p16)
 (stepG p18 (gMov p1) (p17, true)
 (stepG p19 (gP (iIxs p18 (.c (.int 63 0)))) (p17, true)
 (stepG p20 (gP (iInt fLss 8 p19 (.c (.int 8 128)))) (p17, true)
 (step0 p21 (gP (iPick p17 p20 (.c (.bool false))))
 endG)))))))))
noncomputable def c39_4 : CEv := (cCond p21 (cSeq (cReg (step0 p22 (gMov p0)
 (step0 p23 (gMov p1)
 (step0 p24 (gP (iIxs p23 (.c (.int 63 0))))
 (step0 p25 (gCall 62 [p22, p24])
 (step0 p4 (gMov p25)
 endG))))))
 cRet)
 cSkip)
noncomputable def c39_5 : CEv := (cReg (step0 p27 (gMov p1)
 (step0 p28 (gCall 63 [p27])
 (step0 p26 (gMov p28)
 (step0 p29 (gP (iExt p26 0))
 (step0 p30 (gP (iExt p26 1))
 (step0 p5 (gE (iAlloc 111 [(.bool false), (.bool false), (.bool false), (.bool false), (.bool false), (.bool false), (.bool false), (.bool false), (.bool false), (.bool false), (.bool false), (.bool false), (.bool false), (.bool false), (.bool false), (.bool false), (.bool false), (.bool false), (.bool false), (.bool false), (.bool false), (.bool false), (.bool false), (.bool false), (.bool false), (.bool false), (.bool false), (.bool false), (.bool false), (.bool false), (.bool false), (.bool false), (.bool false), (.bool false), (.bool false), (.bool false), (.bool false), (.bool false), (.bool false), (.bool false), (.bool false), (.bool false), (.bool false), (.bool false), (.bool false), (.bool false), (.bool false), (.bool false), (.bool false), (.bool false), (.bool false), (.bool false), (.bool false), (.bool false), (.bool false), (.bool false), (.bool false), (.bool false), (.bool false), (.bool false), (.bool false), (.bool false), (.bool false), (.bool false), (.bool false), (.bool false), (.bool false), (.bool false), (.bool false), (.bool false), (.bool false), (.bool false), (.bool false), (.bool false), (.bool false), (.bool false), (.bool false), (.bool false), (.bool false), (.bool false), (.bool false), (.bool false), (.bool false), (.bool false), (.bool false), (.bool false), (.bool false), (.bool false), (.bool false), (.bool false), (.bool false), (.bool false), (.bool false), (.bool false), (.bool false), (.bool false), (.bool false), (.bool false), (.bool false), (.bool false), (.bool false), (.bool false), (.bool false), (.bool false), (.bool false), (.bool false), (.bool false), (.bool false), (.bool false), (.bool false), (.bool false), (.bool false), (.bool false), (.bool false), (.bool false), (.bool false), (.bool false), (.bool false), (.bool false), (.bool false), (.bool false), (.bool false), (.bool false), (.bool false), (.bool false), (.bool false), (.bool false), (.bool false), (.bool false), (.bool false), (.bool false), (.bool false), (.bool false), (.bool false), (.bool false), (.bool false), (.bool false), (.bool false), (.bool false), (.bool false), (.bool false), (.bool false), (.bool false), (.bool false), (.bool false), (.bool false), (.bool false), (.bool false), (.bool false), (.bool false), (.bool false), (.bool false), (.bool false), (.bool false), (.bool false), (.bool false), (.bool false), (.bool false), (.bool false), (.bool false), (.bool false), (.bool false), (.bool false), (.bool false), (.bool false), (.bool false), (.bool false), (.bool false), (.bool false), (.bool false), (.bool false), (.bool false), (.bool false), (.bool false), (.bool false), (.bool false), (.bool false), (.bool false), (.bool false), (.bool false), (.bool false), (.bool false), (.bool false), (.bool false), (.bool false), (.bool false), (.bool false), (.bool false), (.bool false), (.bool false), (.bool false), (.bool false), (.bool false), (.bool false), (.bool false), (.bool false), (.bool false), (.bool false), (.bool false), (.bool false), (.bool false), (.bool false), (.bool false), (.bool false), (.bool false), (.bool false), (.bool false), (.bool false), (.bool false), (.bool false), (.bool false), (.bool false), (.bool false), (.bool false), (.bool false), (.bool false), (.bool false), (.bool false), (.bool false), (.bool false), (.bool false), (.bool false), (.bool false), (.bool false), (.bool false), (.bool false), (.bool false), (.bool false), (.bool false), (.bool false), (.bool false), (.bool false), (.bool false), (.bool false), (.bool false), (.bool false), (.bool false), (.bool false), (.bool false), (.bool false), (.bool false), (.bool false), (.bool false), (.bool false), (.bool false), (.bool false), (.bool false), (.bool false), (.bool false), (.bool false), (.bool false), (.bool false), (.bool false), (.bool false), (.bool false), (.bool false)]))
 (step0 none (gE (iStore 256 p5 p29))
 (step0 p6 (gMov p30)
 endG)))))))))
noncomputable def c39_6 : CEv := (cReg (step0 p31 (gMov p6)
 endG))
noncomputable def c39_7 : CEv := (cCond p31 (cSeq (cReg (step0 p32 (gMov p0)
 (step0 p33 (gCall 64 [p32, p5])
 (step0 p4 (gMov p33)
 endG))))
 cRet)
 cSkip)
noncomputable def c39_8 : CEv := (cReg (step0 p34 (gMov p0)
 (step0 p35 (gMov p1)
 (step0 p36 (gCall 65 [p34, p35])
 (step0 p4 (gMov p36)
 endG)))))
noncomputable def sh39 : Fs := .mk [p4]
 (cSeq c39_0
 (cSeq (cSeq c39_1
 c39_2)
 (cSeq (cSeq c39_3
 c39_4)
 (cSeq (cSeq c39_5
 (cSeq c39_6
 c39_7))
 (cSeq c39_8
 cRet)))))
noncomputable def c40_0 : CEv := (cReg (step0 p2 (gE (iAlloc 88 [(.int 63 0), (.str []), (.int 63 0), (.int 63 0)]))
 (step0 p3 (gMov (.c (.bool false)))
 endG)))
noncomputable def c40_1 : CEv := (cBlock 0 (cSeq (cReg (step0 p5 (gMov p0)
 (step0 p6 (gCall 66 [p5, (.c (.cmp 0 67 []))])
 (step0 p7 (gP (iInt fGtr 63 p6 (.c (.int 63 0))))
 (step0 p4 (gMov p7)
 endG)))))
 (cCond p4 (cSeq (cReg (step0 p8 (gMov p0)
 (step0 p9 (gCall 68 [p8])
 (step0 p10 (gP (iExt p9 0))
 (step0 p11 (gP (iExt p9 1))
 (step0 none (gE (iStore 4 p2 p10))
 (step0 p3 (gMov p11)
 endG)))))))
 cRet)
 (cSeq (cReg (step0 p13 (gMov p0)
 (step0 p14 (gCall 66 [p13, (.c (.cmp 0 69 []))])
 (step0 p15 (gP (iInt fGtr 63 p14 (.c (.int 63 0))))
 (step0 p12 (gMov p15)
 endG)))))
 (cCond p12 (cSeq (cReg (step0 p16 (gMov p0)
 (step0 p17 (gCall 70 [p16])
 (step0 p18 (gP (iExt p17 0))
 (step0 p19 (gP (iExt p17 1))
 (step0 none (gE (iStore 4 p2 p18))
 (step0 p3 (gMov p19)
 endG)))))))
 cRet)
 cSkip)))))
noncomputable def c40_2 : CEv := (cReg (step0 p20 (gMov p0)
 (step0 p21 (gCall 71 [p20])
 (step0 p22 (gP (iExt p21 0))
 (step0 p23 (gP (iExt p21 1))
 (step0 none (gE (iStore 4 p2 p22))
 (step0 p3 (gMov p23)
 endG)))))))
noncomputable def sh40 : Fs := .mk [(.m p2 true 4), p3]
 (cSeq c40_0
 (cSeq c40_1
 (cSeq c40_2
 cRet)))
noncomputable def c41_0 : CEv := (cReg (step0 p5 (gMov p0)
 (step0 p6 (gP (iNck p5))
 (step0 p7 (gP (iFad 1 p6))
 (step0 p8 (gP (iLoad false 1 p7))
 (step0 p4 (gMov p8)
 endG))))))
noncomputable def c41_1 : CEv := (cReg (step0 p9 (gMov p0)
 (step0 p10 (gP (iNck p9))
 (step0 p11 (gP (iFad 0 p10))
 (step0 p12 (gP (iLoad false 1 p11))
 (step0 p13 (gP (iLenL p12))
 (step0 p14 (gP (iInt fGtr 63 p13 (.c (.int 63 0))))
 endG)))))))
noncomputable def c41_2 : CEv := (cCond p14 (cReg (step0 p15 (gMov p0)
 (step0 p16 (gP (iNck p15))
 (step0 p17 (gP (iFad 0 p16))
 (step0 p18 (gP (iLoad false 1 p17))
 (step0 p19 (gP (iIad 4 p18 (.c (.int 63 0))))
 (step0 p20 (gP (iFad 3 p19))
 (step0 p21 (gP (iLoad false 1 p20))
 (step0 p4 (gMov p21)
 endG)))))))))
 cSkip)
noncomputable def c41_3 : CEv := (cReg (step0 p22 (gMov p1)
 (step0 p23 (gMov p4)
 (step0 p24 (gP (iBuild [(.int 63 0), (.int 63 0)] [(0, (1, p22)), (1, (1, p23))]))
 (step0 p25 (gP (iMki 64 p24))
 (step0 none (gPan p25)
 endG))))))
noncomputable def sh41 : Fs := .mk []
 (cSeq c41_0
 (cSeq (cSeq c41_1
 c41_2)
 c41_3))
noncomputable def c42_0 : CEv := (cReg (step0 p2 (gE (iAlloc 88 [(.int 63 0), (.str []), (.int 63 0), (.int 63 0)]))
 endG))
noncomputable def c42_1 : CEv := (cReg (step0 p3 (gMov p0)
 (step0 p4 (gP (iNck p3))
 (step0 p5 (gP (iFad 0 p4))
 (step0 p6 (gP (iLoad false 1 p5))
 (step0 p7 (gP (iLenL p6))
 (step0 p8 (gP (iInt fEql 63 p7 (.c (.int 63 0))))
 endG)))))))
noncomputable def c42_2 : CEv := (cCond p8 (cSeq (cReg (step0 p9 (gP (iBuild [(.int 63 0), (.str []), (.int 63 0), (.int 63 0)] []))
 (step0 none (gE (iStore 4 p2 p9))
 endG)))
 cRet)
 cSkip)
noncomputable def c42_3 : CEv := (cReg (step0 p10 (gMov p0)
 (step0 p11 (gP (iNck p10))
 (step0 p12 (gP (iFad 0 p11))
 (step0 p13 (gP (iLoad false 1 p12))
 (step0 p14 (gP (iIad 4 p13 (.c (.int 63 0))))
 (step0 p15 (gP (iLoad true 4 p14))
 (step0 none (gE (iStore 4 p2 p15))
 endG))))))))
noncomputable def sh42 : Fs := .mk [(.m p2 true 4)]
 (cSeq c42_0
 (cSeq (cSeq c42_1
 c42_2)
 (cSeq c42_3
 cRet)))
noncomputable def c43_0 : CEv := (cReg (step0 p4 (gE (iAlloc 88 [(.int 63 0), (.str []), (.int 63 0), (.int 63 0)]))
 endG))
noncomputable def c43_1 : CEv := (cReg (step0 p6 (gMov p0)
 (step0 p7 (gCall 42 [p6])
 (step0 p5 (gE (iAlloc 88 [(.int 63 0), (.str []), (.int 63 0), (.int 63 0)]))
 (step0 none (gE (iStore 4 p5 p7))
 endG)))))
noncomputable def c43_2 : CEv := (cReg (step0 p8 (gMov p0)
 (step0 p9 (gP (iFad 0 p5))
 (step0 p10 (gP (iLoad false 1 p9))
 (step0 p11 (gMov p1)
 (step0 p12 (gP (iInt fEql 63 p10 p11))
 (step0 p13 (gCall 23 [p8, p12])
 endG)))))))
noncomputable def c43_3 : CEv := (cReg (step0 p14 (gMov p0)
 (step0 p15 (gMov p0)
 (step0 p16 (gP (iNck p15))
 (step0 p17 (gP (iFad 0 p16))
 (step0 p18 (gP (iLoad false 1 p17))
 (step0 p19 (gP (iSll 88 4 p18 (some (.c (.int 63 1))) none none))
 (step0 p20 (gP (iNck p14))
 (step0 p21 (gP (iFad 0 p20))
 (step0 none (gE (iStore 1 p21 p19))
 endG))))))))))
noncomputable def c43_4 : CEv := (cReg (step0 p22 (gP (iLoad true 4 p5))
 (step0 none (gE (iStore 4 p4 p22))
 endG)))
noncomputable def sh43 : Fs := .mk [(.m p4 true 4)]
 (cSeq c43_0
 (cSeq c43_1
 (cSeq c43_2
 (cSeq c43_3
 (cSeq c43_4
 cRet)))))
noncomputable def c44_0 : CEv := (cReg (step0 p4 (gMov (.c (.bool false)))
 endG))
noncomputable def c44_1 : CEv := (cReg (step0 p6 (gMov p0)
 (step0 p7 (gCall 42 [p6])
 (step0 p5 (gE (iAlloc 88 [(.int 63 0), (.str []), (.int 63 0), (.int 63 0)]))
 (step0 none (gE (iStore 4 p5 p7))
 endG)))))
noncomputable def c44_2 : CEv := (cReg (step0 p8 (gP (iFad 0 p5))
 (step0 p9 (gP (iLoad false 1 p8))
 (step0 p10 (gP (iInt fEql 63 p9 (.c (.int 63 3))))
 (step0 p11 (gMov p10)
 (stepG p12 (gP (iFad 0 p5)) (p11, false)
 (stepG p13 (gP (iLoad false 1 p12)) (p11, false)
 (stepG p14 (gP (iInt fEql 63 p13 (.c (.int 63 4)))) (p11, false)
 (step0 p15 (gP (iPick p11 (.c (.bool true)) p14))
 (step0 p16 (gMov p15)
 (stepG p17 (gP (iFad 1 p5)) (p16, true)
 (stepG p18 (gP (iLoad false 1 p17)) (p16, true)
 (stepG p19 (gMov p1) (p16, true)
 (stepG p20 (gP (iStr sEql p18 p19)) (p16, true)
 (step0 p21 (gP (iPick p16 p20 (.c (.bool false))))
 (step0 p4 (gMov p21)
 endG))))))))))))))))
noncomputable def sh44 : Fs := .mk [p4]
 (cSeq c44_0
 (cSeq c44_1
 (cSeq c44_2
 cRet)))
noncomputable def sh45 : Fs := cF Tryz.prog Tryz.f45
noncomputable def sh46 : Fs := cF Tryz.prog Tryz.f46
noncomputable def sh47 : Fs := cF Tryz.prog Tryz.f47
noncomputable def sh48 : Fs := cF Tryz.prog Tryz.f48
noncomputable def sh49 : Fs := cF Tryz.prog Tryz.f49
noncomputable def sh50 : Fs := cF Tryz.prog Tryz.f50
noncomputable def sh51 : Fs := cF Tryz.prog Tryz.f51
noncomputable def sh52 : Fs := cF Tryz.prog Tryz.f52
noncomputable def sh53 : Fs := cF Tryz.prog Tryz.f53
noncomputable def sh54 : Fs := cF Tryz.prog Tryz.f54
noncomputable def sh55 : Fs := cF Tryz.prog Tryz.f55
noncomputable def sh56 : Fs := cF Tryz.prog Tryz.f56
noncomputable def sh57 : Fs := cF Tryz.prog Tryz.f57
noncomputable def sh58 : Fs := cF Tryz.prog Tryz.f58
noncomputable def sh59 : Fs := cF Tryz.prog Tryz.f59
noncomputable def sh60 : Fs := cF Tryz.prog Tryz.f60
noncomputable def sh61 : Fs := cF Tryz.prog Tryz.f61
noncomputable def sh62 : Fs := cF Tryz.prog Tryz.f62
noncomputable def sh63 : Fs := cF Tryz.prog Tryz.f63
noncomputable def c64_0 : CEv := (cReg (step0 p4 (gMov (.c (.str [])))
 endG))
noncomputable def b64_0 : CEv := (cSeq (cSeq (cReg (step0 p5 (gMov p0)
 (step0 p6 (gP (iLenS p5))
 (step0 p7 (gP (iInt fGtr 63 p6 (.c (.int 63 0))))
 endG))))
 (cCond p7 cSkip
 (cExit 0)))
 (cBlock 1 (cSeq (cSeq (cReg (step0 p8 (gMov p1)
 (step0 p9 (gMov p0)
 (step0 p10 (gP (iIxs p9 (.c (.int 63 0))))
 (step0 p11 (gCall 81 [p8, p10])
 (step0 p12 (gP (iNot p11))
 endG))))))
 (cCond p12 (cExit 0)
 cSkip))
 (cReg (step0 p13 (gMov p0)
 (step0 p14 (gP (iSls p13 (some (.c (.int 63 1))) none))
 (step0 p0 (gMov p14)
 endG)))))))
noncomputable def c64_1 : CEv := (cBlock 0 (cLoop b64_0))
noncomputable def c64_2 : CEv := (cReg (step0 p15 (gMov p0)
 (step0 p4 (gMov p15)
 endG)))
noncomputable def sh64 : Fs := .mk [p4]
 (cSeq c64_0
 (cSeq c64_1
 (cSeq c64_2
 cRet)))
noncomputable def sh65 : Fs := cF Tryz.prog Tryz.f65
noncomputable def c66_0 : CEv := (cReg (step0 p4 (gMov (.c (.int 63 0)))
 endG))
noncomputable def c66_1 : CEv := (cReg (step0 p8 (gMov p0)
 (step0 p9 (gE (iRng p8))
 endG)))
noncomputable def b66_0 : CEv := (cSeq (cReg (step0 p10 (gE (iNxt p9))
 (step0 p11 (gP (iExt p10 0))
 endG)))
 (cSeq (cCond p11 cSkip
 (cExit 0))
 (cBlock 1 (cSeq (cReg (step0 p12 (gP (iExt p10 1))
 (step0 p13 (gP (iExt p10 2))
 (step0 p5 (gMov p12)
 (step0 p6 (gMov p13)
 endG)))))
 (cSeq (cReg (step0 p14 (gMov p6)
 (step0 p15 (gP (iInt fEql 31 p14 (.c (.int 31 65533))))
 (step0 p16 (gMov p15)
 (stepG p17 (gMov p0) (p16, true)
 (stepG p18 (gMov p5) (p16, true)
 (stepG p19 (gP (iSls p17 (some (.t p18)) none)) (p16, true)
 (stepG p20 (gCall 84 [p19, (.c (.str [239, 191, 189]))]) (p16, true)
 (stepG p21 (gP (iNot p20)) (p16, true)
 (step0 p22 (gP (iPick p16 p21 (.c (.bool false))))
 (step0 p7 (gMov p22)
 endG)))))))))))
 (cSeq (cReg (step0 p23 (gMov p7)
 (step0 p24 (gMov p23)
 (stepG p25 (gMov p1) (p24, false)
 (stepG p26 (gMov p6) (p24, false)
 (stepG p27 (gDyn p25 [p26]) (p24, false)
 (stepG p28 (gP (iNot p27)) (p24, false)
 (step0 p29 (gP (iPick p24 (.c (.bool true)) p28))
 endG))))))))
 (cCond p29 (cSeq (cReg (step0 p30 (gMov p5)
 (step0 p4 (gMov p30)
 endG)))
 cRet)
 cSkip)))))))
noncomputable def c66_2 : CEv := (cBlock 0 (cLoop b66_0))
noncomputable def c66_3 : CEv := (cReg (step0 p31 (gMov p0)
 (step0 p32 (gP (iLenS p31))
 (step0 p4 (gMov p32)
 endG))))
noncomputable def sh66 : Fs := .mk [p4]
 (cSeq c66_0
 (cSeq (cSeq c66_1
 c66_2)
 (cSeq c66_3
 cRet)))
noncomputable def c67_0 : CEv := (cReg (step0 p2 (gMov (.c (.bool false)))
 endG))
noncomputable def c67_1 : CEv := (cReg (step0 p3 (gMov p0)
 (step0 p4 (gP (iCvis p3))
 (step0 p5 (gCall 85 [p4])
 (step0 p2 (gMov p5)
 endG)))))
noncomputable def sh67 : Fs := .mk [p2]
 (cSeq c67_0
 (cSeq c67_1
 cRet))
noncomputable def c68_0 : CEv := (cReg (step0 p2 (gE (iAlloc 88 [(.int 63 0), (.str []), (.int 63 0), (.int 63 0)]))
 (step0 p3 (gMov (.c (.bool false)))
 endG)))
noncomputable def c68_1 : CEv := (cReg (step0 p5 (gMov p0)
 (step0 p6 (gMov p0)
 (step0 p7 (gCall 66 [p6, (.c (.cmp 0 86 []))])
 (step0 p8 (gP (iSls p5 none (some (.t p7))))
 (step0 p9 (gP (iBuild [(.int 63 0), (.str []), (.int 63 0), (.int 63 0)] [(0, (1, (.c (.int 63 1)))), (1, (1, p8))]))
 (step0 p4 (gE (iAlloc 88 [(.int 63 0), (.str []), (.int 63 0), (.int 63 0)]))
 (step0 none (gE (iStore 4 p4 p9))
 endG))))))))
noncomputable def c68_2 : CEv := (cReg (step0 p10 (gP (iFad 1 p4))
 (step0 p11 (gP (iLoad false 1 p10))
 (step0 p12 (gP (iStr sEql p11 (.c (.str [87, 73, 84, 72, 73, 78]))))
 (step0 p13 (gMov p12)
 (stepG p14 (gP (iFad 1 p4)) (p13, false)
 (stepG p15 (gP (iLoad false 1 p14)) (p13, false)
 (stepG p16 (gP (iStr sEql p15 (.c (.str [66, 89])))) (p13, false)
 (step0 p17 (gP (iPick p13 (.c (.bool true)) p16))
 endG)))))))))
noncomputable def c68_3 : CEv := (cCond p17 (cSeq (cReg (step0 p18 (gP (iFad 0 p4))
 (step0 none (gE (iStore 1 p18 (.c (.int 63 4))))
 endG)))
 (cSeq (cReg (step0 p19 (gP (iLoad true 4 p4))
 (step0 none (gE (iStore 4 p2 p19))
 (step0 p3 (gMov (.c (.bool true)))
 endG))))
 cRet))
 cSkip)
noncomputable def c68_4 : CEv := (cDraw [p20, p21, p22, p23, p3] (stepQ 0 [p4] p20 (gP (iLoad true 4 p4)) none
 (stepR [p4] p21 (gP (iFad 1 p4)) none
 (stepR [p21] p22 (gP (iLoad false 1 p21)) none
 (stepC [0] [p22] p23 (gCall 85 [p22]) none
 (stepL [p2, p20] none (gE (iStore 4 p2 p20)) none
 (stepR [p23] p3 (gMov p23) none
 endD)))))))
noncomputable def sh68 : Fs := .mk [(.m p2 true 4), p3]
 (cSeq c68_0
 (cSeq c68_1
 (cSeq (cSeq c68_2
 c68_3)
 (cSeq c68_4
 cRet))))
noncomputable def c69_0 : CEv := (cReg (step0 p2 (gMov (.c (.bool false)))
 endG))
noncomputable def c69_1 : CEv := (cReg (step0 p3 (gMov p0)
 (step0 p4 (gCall 83 [(.c (.str [48, 49, 50, 51, 52, 53, 54, 55, 56, 57])), p3])
 (step0 p2 (gMov p4)
 endG))))
noncomputable def sh69 : Fs := .mk [p2]
 (cSeq c69_0
 (cSeq c69_1
 cRet))
noncomputable def c70_0 : CEv := (cReg (step0 p2 (gE (iAlloc 88 [(.int 63 0), (.str []), (.int 63 0), (.int 63 0)]))
 (step0 p3 (gMov (.c (.bool false)))
 endG)))
noncomputable def c70_1 : CEv := (cReg (step0 p7 (gMov p0)
 (step0 p8 (gMov p0)
 (step0 p9 (gCall 66 [p8, (.c (.cmp 0 69 []))])
 (step0 p10 (gP (iSls p7 none (some (.t p9))))
 (step0 p11 (gP (iBuild [(.int 63 0), (.str []), (.int 63 0), (.int 63 0)] [(0, (1, (.c (.int 63 2)))), (1, (1, p10))]))
 (step0 p4 (gE (iAlloc 88 [(.int 63 0), (.str []), (.int 63 0), (.int 63 0)]))
 (step0 none (gE (iStore 4 p4 p11))
 endG))))))))
noncomputable def c70_2 : CEv := (cReg (step0 p13 (gP (iFad 1 p4))
 (step0 p14 (gP (iLoad false 1 p13))
 (step0 p15 (gCall 87 [p14, (.c (.int 63 10)), (.c (.int 63 64))])
 (step0 p12 (gMov p15)
 (step0 p16 (gP (iExt p12 0))
 (step0 p17 (gP (iExt p12 1))
 (step0 p5 (gMov p16)
 (step0 p6 (gMov p17)
 endG)))))))))
noncomputable def c70_3 : CEv := (cDraw [p18, p19, p20, p21, p22, p23, p24, p25, p26] (stepR [p6] p18 (gMov p6) none
 (stepR [p18] p19 (gP (iEqn true 7 101 p18 (.c (.ref 7 0 0 0 0 false)))) none
 (stepR [p19] p20 (gMov p19) none
 (stepR [p5, p20] p21 (gMov p5) (p20, false)
 (stepR [p4, p20] p23 (gP (iFad 1 p4)) (p20, false)
 (stepQ 6 [p23, p20] p24 (gP (iLoad false 1 p23)) (p20, false)
 (stepC [6] [p21, p20] p22 (gCall 17 [p21, (.c (.int 63 10))]) (p20, false)
 (stepR [p22, p24, p20] p25 (gP (iStr sNeq p22 p24)) (p20, false)
 (stepR [p20, p25] p26 (gP (iPick p20 (.c (.bool true)) p25)) none
 endD))))))))))
noncomputable def c70_4 : CEv := (cCond p26 (cSeq (cReg (step0 p27 (gP (iLoad true 4 p4))
 (step0 none (gE (iStore 4 p2 p27))
 (step0 p3 (gMov (.c (.bool false)))
 endG))))
 cRet)
 cSkip)
noncomputable def c70_5 : CEv := (cReg (step0 p28 (gMov p5)
 (step0 p29 (gP (iFad 2 p4))
 (step0 none (gE (iStore 1 p29 p28))
 endG))))
noncomputable def c70_6 : CEv := (cReg (step0 p30 (gP (iLoad true 4 p4))
 (step0 none (gE (iStore 4 p2 p30))
 (step0 p3 (gMov (.c (.bool true)))
 endG))))
noncomputable def sh70 : Fs := .mk [(.m p2 true 4), p3]
 (cSeq c70_0
 (cSeq c70_1
 (cSeq c70_2
 (cSeq (cSeq c70_3
 c70_4)
 (cSeq c70_5
 (cSeq c70_6
 cRet))))))
noncomputable def c71_0 : CEv := (cReg (step0 p1 (gE (iBox 9 p0))
 (step0 p2 (gE (iAlloc 88 [(.int 63 0), (.str []), (.int 63 0), (.int 63 0)]))
 (step0 p3 (gMov (.c (.bool false)))
 endG))))
noncomputable def c71_1 : CEv := (cReg (step0 p6 (gCall 88 [])
 (step0 p4 (gMov p6)
 endG)))
noncomputable def c71_2 : CEv := (cReg (step0 p7 (gMov p4)
 (step0 p8 (gCall 89 [p7, (.c (.cmp 0 90 []))])
 endG)))
noncomputable def c71_3 : CEv := (cReg (step0 p9 (gMov p4)
 (step0 p10 (gP (iMkf 92 [p1]))
 (step0 p11 (gCall 91 [p9, p10])
 (step0 p5 (gMov p11)
 endG)))))
noncomputable def c71_4 : CEv := (cReg (step0 p12 (gMov p5)
 (step0 p13 (gP (iInt fLss 63 p12 (.c (.int 63 0))))
 endG)))
noncomputable def c71_5 : CEv := (cCond p13 (cSeq (cReg (step0 p14 (gP (iBuild [(.int 63 0), (.str []), (.int 63 0), (.int 63 0)] []))
 (step0 none (gE (iStore 4 p2 p14))
 (step0 p3 (gMov (.c (.bool false)))
 endG))))
 cRet)
 cSkip)
noncomputable def c71_6 : CEv := (cReg (step0 p15 (gMov p4)
 (step0 p16 (gMov p5)
 (step0 p17 (gP (iIad 1 p15 p16))
 (step0 p18 (gP (iLoad false 1 p17))
 (step0 p19 (gP (iBuild [(.int 63 0), (.str []), (.int 63 0), (.int 63 0)] [(0, (1, (.c (.int 63 3)))), (1, (1, p18))]))
 (step0 none (gE (iStore 4 p2 p19))
 (step0 p3 (gMov (.c (.bool true)))
 endG))))))))
noncomputable def sh71 : Fs := .mk [(.m p2 true 4), p3]
 (cSeq c71_0
 (cSeq c71_1
 (cSeq c71_2
 (cSeq c71_3
 (cSeq (cSeq c71_4
 c71_5)
 (cSeq c71_6
 cRet))))))
noncomputable def sh72 : Fs := cF Tryz.prog Tryz.f72
noncomputable def sh73 : Fs := cF Tryz.prog Tryz.f73
noncomputable def sh74 : Fs := cF Tryz.prog Tryz.f74
noncomputable def sh75 : Fs := cF Tryz.prog Tryz.f75
noncomputable def sh76 : Fs := cF Tryz.prog Tryz.f76
noncomputable def sh77 : Fs := cF Tryz.prog Tryz.f77
noncomputable def sh78 : Fs := cF Tryz.prog Tryz.f78
noncomputable def sh79 : Fs := cF Tryz.prog Tryz.f79
noncomputable def sh80 : Fs := cF Tryz.prog Tryz.f80
noncomputable def c81_0 : CEv := (cReg (step0 p4 (gMov (.c (.bool false)))
 endG))
noncomputable def c81_1 : CEv := (cReg (step0 p5 (gMov p0)
 (step0 p6 (gMov p1)
 (step0 p7 (gP (iNck p5))
 (step0 p8 (gP (iIaa 256 1 p7 p6))
 (step0 p9 (gP (iLoad false 1 p8))
 (step0 p4 (gMov p9)
 endG)))))))
noncomputable def sh81 : Fs := .mk [p4]
 (cSeq c81_0
 (cSeq c81_1
 cRet))
noncomputable def sh82 : Fs := cF Tryz.prog Tryz.f82
noncomputable def c83_0 : CEv := (cReg (step0 p4 (gMov (.c (.bool false)))
 endG))
noncomputable def c83_1 : CEv := (cReg (step0 p5 (gMov p0)
 (step0 p6 (gMov p1)
 (step0 p7 (gCall 96 [p5, p6])
 (step0 p8 (gP (iInt fGeq 63 p7 (.c (.int 63 0))))
 (step0 p4 (gMov p8)
 endG))))))
noncomputable def sh83 : Fs := .mk [p4]
 (cSeq c83_0
 (cSeq c83_1
 cRet))
noncomputable def c84_0 : CEv := (cReg (step0 p4 (gMov (.c (.bool false)))
 endG))
noncomputable def c84_1 : CEv := (cReg (step0 p5 (gMov p0)
 (step0 p6 (gMov p1)
 (step0 p7 (gCall 97 [p5, p6])
 (step0 p4 (gMov p7)
 endG)))))
noncomputable def sh84 : Fs := .mk [p4]
 (cSeq c84_0
 (cSeq c84_1
 cRet))
noncomputable def c85_0 : CEv := (cReg (step0 p2 (gMov (.c (.bool false)))
 endG))
noncomputable def c85_1 : CEv := (cReg (step0 p5 (gMov p0)
 (step0 p6 (gP (iStr sEql p5 (.c (.str []))))
 (step0 p7 (gMov p6)
 (stepG p8 (gMov p0) (p7, false)
 (stepG p9 (gP (iLenS p8)) (p7, false)
 (stepG p10 (gP (iInt fGtr 63 p9 (.c (.int 63 24)))) (p7, false)
 (step0 p11 (gP (iPick p7 (.c (.bool true)) p10))
 (step0 p12 (gMov p11)
 (stepG p13 (gMov p0) (p12, false)
 (stepG p14 (gP (iStr sEql p13 (.c (.str [87, 73, 84, 72, 73, 78])))) (p12, false)
 (step0 p15 (gP (iPick p12 (.c (.bool true)) p14))
 (step0 p16 (gMov p15)
 (stepG p17 (gMov p0) (p16, false)
 (stepG p18 (gP (iStr sEql p17 (.c (.str [66, 89])))) (p16, false)
 (step0 p19 (gP (iPick p16 (.c (.bool true)) p18))
 (step0 p20 (gMov p19)
 (stepG p21 (gMov p0) (p20, false)
 (stepG p22 (gCall 98 [p21]) (p20, false)
 (stepG p23 (gP (iNot p22)) (p20, false)
 (step0 p24 (gP (iPick p20 (.c (.bool true)) p23))
 endG)))))))))))))))))))))
noncomputable def c85_2 : CEv := (cCond p24 (cSeq (cReg (step0 p2 (gMov (.c (.bool false)))
 endG))
 cRet)
 cSkip)
noncomputable def c85_3 : CEv := (cReg (step0 p25 (gMov p0)
 (step0 p26 (gE (iRng p25))
 endG)))
noncomputable def b85_0 : CEv := (cSeq (cReg (step0 p27 (gE (iNxt p26))
 (step0 p28 (gP (iExt p27 0))
 endG)))
 (cSeq (cCond p28 cSkip
 (cExit 0))
 (cBlock 1 (cSeq (cReg (step0 p29 (gP (iExt p27 1))
 (step0 p30 (gP (iExt p27 2))
 (step0 p3 (gMov p29)
 (step0 p4 (gMov p30)
 endG)))))
 (cSeq (cReg (step0 p31 (gMov p4)
 (step0 p32 (gCall 99 [p31])
 (step0 p33 (gP (iNot p32))
 (step0 p34 (gMov p33)
 (stepG p35 (gMov p3) (p34, true)
 (stepG p36 (gP (iInt fEql 63 p35 (.c (.int 63 0)))) (p34, true)
 (stepG p37 (gMov p36) (p34, true)
 (stepG p38 (gMov p4) (p37, false)
 (stepG p39 (gCall 100 [p38]) (p37, false)
 (stepG p40 (gP (iNot p39)) (p37, false)
 (stepG p41 (gP (iPick p37 (.c (.bool true)) p40)) (p34, true)
 (step0 p42 (gP (iPick p34 p41 (.c (.bool false))))
 endG)))))))))))))
 (cCond p42 (cSeq (cReg (step0 p2 (gMov (.c (.bool false)))
 endG))
 cRet)
 cSkip))))))
noncomputable def c85_4 : CEv := (cBlock 0 (cLoop b85_0))
noncomputable def c85_5 : CEv := (cReg (step0 p2 (gMov (.c (.bool true)))
 endG))
noncomputable def sh85 : Fs := .mk [p2]
 (cSeq c85_0
 (cSeq (cSeq c85_1
 c85_2)
 (cSeq (cSeq c85_3
 c85_4)
 (cSeq c85_5
 cRet))))
noncomputable def c86_0 : CEv := (cReg (step0 p2 (gMov (.c (.bool false)))
 endG))
noncomputable def c86_1 : CEv := (cReg (step0 p3 (gMov p0)
 (step0 p4 (gCall 67 [p3])
 (step0 p5 (gMov p4)
 (stepG p6 (gMov p0) (p5, false)
 (stepG p7 (gCall 69 [p6]) (p5, false)
 (step0 p8 (gP (iPick p5 (.c (.bool true)) p7))
 (step0 p2 (gMov p8)
 endG))))))))
noncomputable def sh86 : Fs := .mk [p2]
 (cSeq c86_0
 (cSeq c86_1
 cRet))
noncomputable def sh87 : Fs := cF Tryz.prog Tryz.f87
noncomputable def sh88 : Fs := cF Tryz.prog Tryz.f88
noncomputable def sh89 : Fs := cF Tryz.prog Tryz.f89
noncomputable def sh90 : Fs := cF Tryz.prog Tryz.f90
noncomputable def c91_0 : CEv := (cReg (step0 p4 (gMov (.c (.int 63 0)))
 endG))
noncomputable def c91_1 : CEv := (cReg (step0 p6 (gMov p0)
 (step0 p7 (gP (iLenL p6))
 (step0 p8 (gMov (.c (.int 63 0)))
 endG))))
noncomputable def d91_0 : CEv := (cSeq (cReg (step0 p10 (gMov p8)
 (step0 p5 (gMov p10)
 endG)))
 (cSeq (cReg (step0 p11 (gMov p1)
 (step0 p12 (gMov p0)
 (step0 p13 (gMov p5)
 (step0 p14 (gP (iIad 1 p12 p13))
 (step0 p15 (gP (iLoad false 1 p14))
 (step0 p16 (gDyn p11 [p15])
 endG)))))))
 (cCond p16 (cSeq (cReg (step0 p17 (gMov p5)
 (step0 p4 (gMov p17)
 endG)))
 cRet)
 cSkip)))
noncomputable def b91_0 : CEv := (cSeq (cReg (step0 p9 (gP (iInt fLss 63 p8 p7))
 endG))
 (cSeq (cCond p9 cSkip
 (cExit 0))
 (cSeq (cBlock 1 d91_0)
 (cReg (step0 p18 (gP (iInt fAdd 63 p8 (.c (.int 63 1))))
 (step0 p8 (gMov p18)
 endG))))))
noncomputable def c91_2 : CEv := (cBlock 0 (cLoop b91_0))
noncomputable def c91_3 : CEv := (cReg (step0 p4 (gMov (.c (.int 63 (-1))))
 endG))
noncomputable def sh91 : Fs := .mk [p4]
 (cSeq c91_0
 (cSeq (cSeq c91_1
 c91_2)
 (cSeq c91_3
 cRet)))
noncomputable def c92_0 : CEv := (cReg (step0 p3 (gMov (.c (.bool false)))
 endG))
noncomputable def c92_1 : CEv := (cReg (step0 p4 (gP (iLoad false 1 p1))
 (step0 p5 (gMov p0)
 (step0 p6 (gCall 84 [p4, p5])
 (step0 p3 (gMov p6)
 endG)))))
noncomputable def sh92 : Fs := .mk [p3]
 (cSeq c92_0
 (cSeq c92_1
 cRet))
noncomputable def sh93 : Fs := cF Tryz.prog Tryz.f93
noncomputable def sh94 : Fs := cF Tryz.prog Tryz.f94
noncomputable def sh95 : Fs := cF Tryz.prog Tryz.f95
noncomputable def c96_0 : CEv := (cReg (step0 p4 (gMov (.c (.int 63 0)))
 endG))
noncomputable def b96_0 : CEv := (cSeq (cReg (step0 p176 (gE (iNxt p175))
 (step0 p177 (gP (iExt p176 0))
 endG)))
 (cSeq (cCond p177 cSkip
 (cExit 9))
 (cBlock 10 (cSeq (cReg (step0 p178 (gP (iExt p176 1))
 (step0 p179 (gP (iExt p176 2))
 (step0 p5 (gMov p178)
 (step0 p6 (gMov p179)
 endG)))))
 (cSeq (cReg (step0 p180 (gMov p6)
 (step0 p181 (gP (iInt fEql 31 p180 (.c (.int 31 65533))))
 endG)))
 (cCond p181 (cSeq (cReg (step0 p182 (gMov p5)
 (step0 p4 (gMov p182)
 endG)))
 cRet)
 cSkip))))))
noncomputable def b96_1 : CEv := (cSeq (cSeq (cReg (step0 p48 (gMov p12)
 (step0 p49 (gMov p7)
 (step0 p50 (gP (iLenS p49))
 (step0 p51 (gP (iInt fLss 63 p48 p50))
 endG)))))
 (cCond p51 cSkip
 (cExit 3)))
 (cSeq (cBlock 4 (cSeq (cDraw [p54, p55, p56, p57, p58, p59, p60, p61, p62, p63, p64] (stepR [p0] p54 (gMov p0) none
 (stepR [p9] p55 (gMov p9) none
 (stepR [p12] p56 (gMov p12) none
 (stepR [p55, p56] p57 (gP (iInt fSub 63 p55 p56)) none
 (stepR [p54, p57] p58 (gP (iIxs p54 p57)) none
 (stepR [p7] p59 (gMov p7) none
 (stepR [p8] p60 (gMov p8) none
 (stepR [p12] p61 (gMov p12) none
 (stepR [p60, p61] p62 (gP (iInt fSub 63 p60 p61)) none
 (stepR [p59, p62] p63 (gP (iIxs p59 p62)) none
 (stepR [p58, p63] p64 (gP (iInt fNeq 8 p58 p63)) none
 endD))))))))))))
 (cCond p64 cNo
 cSkip)))
 (cReg (step0 p52 (gMov p12)
 (step0 p53 (gP (iInt fAdd 63 p52 (.c (.int 63 1))))
 (step0 p12 (gMov p53)
 endG))))))
noncomputable def b96_2 : CEv := (cSeq (cSeq (cReg (step0 p23 (gMov p9)
 (step0 p24 (gMov p0)
 (step0 p25 (gP (iLenS p24))
 (step0 p26 (gP (iInt fLss 63 p23 p25))
 endG)))))
 (cCond p26 cSkip
 (cExit 1)))
 (cBlock 2 (cSeq (cSeq (cDraw [p27, p28, p29, p30, p31, p32, p33] (stepR [p0] p27 (gMov p0) none
 (stepR [p9] p28 (gMov p9) none
 (stepR [p27, p28] p29 (gP (iIxs p27 p28)) none
 (stepR [p7] p30 (gMov p7) none
 (stepR [p8] p31 (gMov p8) none
 (stepR [p30, p31] p32 (gP (iIxs p30 p31)) none
 (stepR [p29, p32] p33 (gP (iInt fNeq 8 p29 p32)) none
 endD))))))))
 (cCond p33 (cSeq (cDraw [p34, p35, p36, p37, p38, p39, p40, p41, p11] (stepR [p0] p34 (gMov p0) none
 (stepR [p9] p35 (gMov p9) none
 (stepR [p35] p36 (gP (iInt fAdd 63 p35 (.c (.int 63 1)))) none
 (stepR [p34, p36] p37 (gP (iSls p34 (some (.t p36)) none)) none
 (stepR [p7] p38 (gMov p7) none
 (stepR [p8] p39 (gMov p8) none
 (stepR [p38, p39] p40 (gP (iIxs p38 p39)) none
 (stepL [p37, p40] p41 (gCall 105 [p37, p40]) none
 (stepR [p41] p11 (gMov p41) none
 endD))))))))))
 (cSeq (cSeq (cReg (step0 p42 (gMov p11)
 (step0 p43 (gP (iInt fLss 63 p42 (.c (.int 63 0))))
 endG)))
 (cCond p43 (cSeq (cReg (step0 p4 (gMov (.c (.int 63 (-1))))
 endG))
 cRet)
 cSkip))
 (cReg (step0 p44 (gMov p9)
 (step0 p45 (gMov p11)
 (step0 p46 (gP (iInt fAdd 63 p45 (.c (.int 63 1))))
 (step0 p47 (gP (iInt fAdd 63 p44 p46))
 (step0 p9 (gMov p47)
 endG))))))))
 cSkip))
 (cSeq (cSeq (cReg (step0 p12 (gMov (.c (.int 63 1)))
 endG))
 (cBlock 3 (cLoop b96_1)))
 (cSeq (cSeq (cReg (step0 p65 (gMov p9)
 (step0 p66 (gMov p8)
 (step0 p67 (gP (iInt fSub 63 p65 p66))
 (step0 p4 (gMov p67)
 endG)))))
 cRet)
 (cSeq cNo
 (cSeq (cReg (step0 p68 (gMov p10)
 (step0 p69 (gP (iInt fAdd 63 p68 (.c (.int 63 1))))
 (step0 p10 (gMov p69)
 endG))))
 (cSeq (cReg (step0 p70 (gMov p9)
 (step0 p71 (gP (iInt fAdd 63 p70 (.c (.int 63 1))))
 (step0 p9 (gMov p71)
 endG))))
 (cSeq (cReg (step0 p72 (gMov (.c (.bool true)))
 (stepG p73 (gMov p10) (p72, true)
 (stepG p74 (gMov p9) (p72, true)
 (stepG p75 (gCall 107 [p74]) (p72, true)
 (stepG p76 (gP (iInt fGtr 63 p73 p75)) (p72, true)
 (step0 p77 (gP (iPick p72 p76 (.c (.bool false))))
 (step0 p78 (gMov p77)
 (stepG p79 (gMov p9) (p78, true)
 (stepG p80 (gMov p0) (p78, true)
 (stepG p81 (gP (iLenS p80)) (p78, true)
 (stepG p82 (gP (iInt fLss 63 p79 p81)) (p78, true)
 (step0 p83 (gP (iPick p78 p82 (.c (.bool false))))
 (step0 p84 (gMov p83)
 (stepG p85 (gMov (.c (.bool false))) (p84, false)
 (stepG p86 (gMov p10) (p85, true)
 (stepG p87 (gMov p9) (p85, true)
 (stepG p88 (gP (iSh fShr 63 p87 (.c (.int 64 4)))) (p85, true)
 (stepG p89 (gP (iInt fAdd 63 (.c (.int 63 4)) p88)) (p85, true)
 (stepG p90 (gP (iInt fGeq 63 p86 p89)) (p85, true)
 (stepG p91 (gP (iPick p85 p90 (.c (.bool false)))) (p84, false)
 (stepG p92 (gMov p91) (p84, false)
 (stepG p93 (gMov p9) (p92, true)
 (stepG p94 (gMov p0) (p92, true)
 (stepG p95 (gP (iLenS p94)) (p92, true)
 (stepG p96 (gP (iInt fLss 63 p93 p95)) (p92, true)
 (stepG p97 (gP (iPick p92 p96 (.c (.bool false)))) (p84, false)
 (step0 p98 (gP (iPick p84 (.c (.bool true)) p97))
 endG))))))))))))))))))))))))))))
 (cCond p98 cNo
 cSkip))))))))))
noncomputable def b96_3 : CEv := (cSeq (cSeq (cReg (step0 p140 (gMov p16)
 (step0 p141 (gMov p7)
 (step0 p142 (gP (iLenS p141))
 (step0 p143 (gP (iInt fLss 63 p140 p142))
 endG)))))
 (cCond p143 cSkip
 (cExit 7)))
 (cSeq (cBlock 8 (cSeq (cDraw [p146, p147, p148, p149, p150, p151, p152, p153, p154, p155, p156] (stepR [p0] p146 (gMov p0) none
 (stepR [p9] p147 (gMov p9) none
 (stepR [p16] p148 (gMov p16) none
 (stepR [p147, p148] p149 (gP (iInt fSub 63 p147 p148)) none
 (stepR [p146, p149] p150 (gP (iIxs p146 p149)) none
 (stepR [p7] p151 (gMov p7) none
 (stepR [p8] p152 (gMov p8) none
 (stepR [p16] p153 (gMov p16) none
 (stepR [p152, p153] p154 (gP (iInt fSub 63 p152 p153)) none
 (stepR [p151, p154] p155 (gP (iIxs p151 p154)) none
 (stepR [p150, p155] p156 (gP (iInt fNeq 8 p150 p155)) none
 endD))))))))))))
 (cCond p156 (cExit 6)
 cSkip)))
 (cReg (step0 p144 (gMov p16)
 (step0 p145 (gP (iInt fAdd 63 p144 (.c (.int 63 1))))
 (step0 p16 (gMov p145)
 endG))))))
noncomputable def b96_4 : CEv := (cSeq (cSeq (cReg (step0 p121 (gMov p9)
 (step0 p122 (gMov p0)
 (step0 p123 (gP (iLenS p122))
 (step0 p124 (gP (iInt fLss 63 p121 p123))
 endG)))))
 (cCond p124 cSkip
 (cExit 5)))
 (cSeq (cBlock 6 (cSeq (cReg (step0 p127 (gMov p0)
 (step0 p128 (gMov p9)
 (step0 p129 (gP (iIxs p127 p128))
 (step0 p130 (gMov p14)
 (step0 p131 (gP (iInt fEql 8 p129 p130))
 (step0 p132 (gMov p131)
 (stepG p133 (gMov p0) (p132, true)
 (stepG p134 (gMov p9) (p132, true)
 (stepG p135 (gP (iInt fSub 63 p134 (.c (.int 63 1)))) (p132, true)
 (stepG p136 (gP (iIxs p133 p135)) (p132, true)
 (stepG p137 (gMov p15) (p132, true)
 (stepG p138 (gP (iInt fEql 8 p136 p137)) (p132, true)
 (step0 p139 (gP (iPick p132 p138 (.c (.bool false))))
 endG))))))))))))))
 (cCond p139 (cSeq (cSeq (cReg (step0 p16 (gMov (.c (.int 63 2)))
 endG))
 (cBlock 7 (cLoop b96_3)))
 (cSeq (cReg (step0 p157 (gMov p9)
 (step0 p158 (gMov p8)
 (step0 p159 (gP (iInt fSub 63 p157 p158))
 (step0 p4 (gMov p159)
 endG)))))
 cRet))
 cSkip)))
 (cReg (step0 p125 (gMov p9)
 (step0 p126 (gP (iInt fAdd 63 p125 (.c (.int 63 1))))
 (step0 p9 (gMov p126)
 endG))))))
noncomputable def c96_1 : CEv := (cBlock 0 (cSeq (cReg (step0 p161 (gMov p1)
 (step0 p162 (gP (iInt fLeq 31 (.c (.int 31 0)) p161))
 (step0 p163 (gMov p162)
 (stepG p164 (gMov p1) (p163, true)
 (stepG p165 (gP (iInt fLss 31 p164 (.c (.int 31 128)))) (p163, true)
 (step0 p166 (gP (iPick p163 p165 (.c (.bool false))))
 (step0 p160 (gMov p166)
 endG))))))))
 (cCond p160 (cSeq (cReg (step0 p167 (gMov p0)
 (step0 p168 (gMov p1)
 (step0 p169 (gP (iCvi 8 p168))
 (step0 p170 (gCall 105 [p167, p169])
 (step0 p4 (gMov p170)
 endG))))))
 cRet)
 (cSeq (cReg (step0 p172 (gMov p1)
 (step0 p173 (gP (iInt fEql 31 p172 (.c (.int 31 65533))))
 (step0 p171 (gMov p173)
 endG))))
 (cCond p171 (cSeq (cSeq (cReg (step0 p174 (gMov p0)
 (step0 p175 (gE (iRng p174))
 endG)))
 (cBlock 9 (cLoop b96_0)))
 (cSeq (cReg (step0 p4 (gMov (.c (.int 63 (-1))))
 endG))
 cRet))
 (cSeq (cReg (step0 p184 (gMov p1)
 (step0 p185 (gCall 106 [p184])
 (step0 p186 (gP (iNot p185))
 (step0 p183 (gMov p186)
 endG)))))
 (cCond p183 (cSeq (cReg (step0 p4 (gMov (.c (.int 63 (-1))))
 endG))
 cRet)
 (cSeq (cReg (step0 p17 (gMov p1)
 (step0 p18 (gP (iCvis p17))
 (step0 p7 (gMov p18)
 endG))))
 (cSeq (cReg (step0 p19 (gMov p7)
 (step0 p20 (gP (iLenS p19))
 (step0 p21 (gP (iInt fSub 63 p20 (.c (.int 63 1))))
 (step0 p8 (gMov p21)
 endG)))))
 (cSeq (cReg (step0 p22 (gMov p8)
 (step0 p9 (gMov p22)
 endG)))
 (cSeq (cReg (step0 p10 (gMov (.c (.int 63 0)))
 endG))
 (cSeq (cBlock 1 (cLoop b96_2))
 (cSeq (cSeq (cReg (step0 p4 (gMov (.c (.int 63 (-1))))
 endG))
 cRet)
 (cSeq cNo
 (cSeq (cCond (.c (.bool true)) (cSeq (cReg (step0 p99 (gMov p0)
 (step0 p100 (gMov p9)
 (step0 p101 (gMov p8)
 (step0 p102 (gP (iInt fSub 63 p100 p101))
 (step0 p103 (gP (iSls p99 (some (.t p102)) none))
 (step0 p104 (gMov p1)
 (step0 p105 (gP (iCvis p104))
 (step0 p106 (gCall 108 [p103, p105])
 (step0 p13 (gMov p106)
 endG))))))))))
 (cSeq (cReg (step0 p107 (gMov p13)
 (step0 p108 (gP (iInt fGeq 63 p107 (.c (.int 63 0))))
 endG)))
 (cCond p108 (cSeq (cReg (step0 p109 (gMov p9)
 (step0 p110 (gMov p13)
 (step0 p111 (gP (iInt fAdd 63 p109 p110))
 (step0 p112 (gMov p8)
 (step0 p113 (gP (iInt fSub 63 p111 p112))
 (step0 p4 (gMov p113)
 endG)))))))
 cRet)
 cSkip)))
 (cSeq (cReg (step0 p114 (gMov p7)
 (step0 p115 (gMov p8)
 (step0 p116 (gP (iIxs p114 p115))
 (step0 p14 (gMov p116)
 endG)))))
 (cSeq (cReg (step0 p117 (gMov p7)
 (step0 p118 (gMov p8)
 (step0 p119 (gP (iInt fSub 63 p118 (.c (.int 63 1))))
 (step0 p120 (gP (iIxs p117 p119))
 (step0 p15 (gMov p120)
 endG))))))
 (cSeq cNo
 (cBlock 5 (cLoop b96_4))))))
 (cSeq (cReg (step0 p4 (gMov (.c (.int 63 (-1))))
 endG))
 cRet))))))))))))))))
noncomputable def sh96 : Fs := .mk [p4]
 (cSeq c96_0
 c96_1)
noncomputable def c97_0 : CEv := (cReg (step0 p4 (gMov (.c (.bool false)))
 endG))
noncomputable def c97_1 : CEv := (cReg (step0 p5 (gMov p0)
 (step0 p6 (gP (iLenS p5))
 (step0 p7 (gMov p1)
 (step0 p8 (gP (iLenS p7))
 (step0 p9 (gP (iInt fGeq 63 p6 p8))
 (step0 p10 (gMov p9)
 (stepG p11 (gMov p0) (p10, true)
 (stepG p12 (gMov p1) (p10, true)
 (stepG p13 (gP (iLenS p12)) (p10, true)
 (stepG p14 (gP (iSls p11 none (some (.t p13)))) (p10, true)
 (stepG p15 (gMov p1) (p10, true)
 (stepG p16 (gP (iStr sEql p14 p15)) (p10, true)
 (step0 p17 (gP (iPick p10 p16 (.c (.bool false))))
 (step0 p4 (gMov p17)
 endG)))))))))))))))
noncomputable def sh97 : Fs := .mk [p4]
 (cSeq c97_0
 (cSeq c97_1
 cRet))
noncomputable def sh98 : Fs := cF Tryz.prog Tryz.f98
noncomputable def c99_0 : CEv := (cReg (step0 p2 (gMov (.c (.bool false)))
 endG))
noncomputable def c99_1 : CEv := (cReg (step0 p3 (gMov p0)
 (step0 p4 (gP (iInt fGeq 31 p3 (.c (.int 31 97))))
 (step0 p5 (gMov p4)
 (stepG p6 (gMov p0) (p5, true)
 (stepG p7 (gP (iInt fLeq 31 p6 (.c (.int 31 122)))) (p5, true)
 (step0 p8 (gP (iPick p5 p7 (.c (.bool false))))
 (step0 p9 (gMov p8)
 (stepG p10 (gMov p0) (p9, false)
 (stepG p11 (gP (iInt fGeq 31 p10 (.c (.int 31 65)))) (p9, false)
 (stepG p12 (gMov p11) (p9, false)
 (stepG p13 (gMov p0) (p12, true)
 (stepG p14 (gP (iInt fLeq 31 p13 (.c (.int 31 90)))) (p12, true)
 (stepG p15 (gP (iPick p12 p14 (.c (.bool false)))) (p9, false)
 (step0 p16 (gP (iPick p9 (.c (.bool true)) p15))
 (step0 p17 (gMov p16)
 (stepG p18 (gMov p0) (p17, false)
 (stepG p19 (gP (iInt fEql 31 p18 (.c (.int 31 95)))) (p17, false)
 (step0 p20 (gP (iPick p17 (.c (.bool true)) p19))
 (step0 p21 (gMov p20)
 (stepG p22 (gMov p0) (p21, false)
 (stepG p23 (gP (iInt fGeq 31 p22 (.c (.int 31 128)))) (p21, false)
 (step0 p24 (gP (iPick p21 (.c (.bool true)) p23))
 (step0 p2 (gMov p24)
 endG))))))))))))))))))))))))
noncomputable def sh99 : Fs := .mk [p2]
 (cSeq c99_0
 (cSeq c99_1
 cRet))
noncomputable def c100_0 : CEv := (cReg (step0 p2 (gMov (.c (.bool false)))
 endG))
noncomputable def c100_1 : CEv := (cReg (step0 p3 (gMov p0)
 (step0 p4 (gP (iInt fGeq 31 p3 (.c (.int 31 48))))
 (step0 p5 (gMov p4)
 (stepG p6 (gMov p0) (p5, true)
 (stepG p7 (gP (iInt fLeq 31 p6 (.c (.int 31 57)))) (p5, true)
 (step0 p8 (gP (iPick p5 p7 (.c (.bool false))))
 (step0 p2 (gMov p8)
 endG))))))))
noncomputable def sh100 : Fs := .mk [p2]
 (cSeq c100_0
 (cSeq c100_1
 cRet))
noncomputable def sh101 : Fs := cF Tryz.prog Tryz.f101
noncomputable def sh102 : Fs := cF Tryz.prog Tryz.f102
noncomputable def sh103 : Fs := cF Tryz.prog Tryz.f103
noncomputable def sh104 : Fs := cF Tryz.prog Tryz.f104
noncomputable def c105_0 : CEv := (cReg (step0 p4 (gMov (.c (.int 63 0)))
 endG))
noncomputable def c105_1 : CEv := (cReg (step0 p5 (gMov p0)
 (step0 p6 (gMov p1)
 (step0 p7 (gCall 119 [p5, p6])
 (step0 p4 (gMov p7)
 endG)))))
noncomputable def sh105 : Fs := .mk [p4]
 (cSeq c105_0
 (cSeq c105_1
 cRet))
noncomputable def c106_0 : CEv := (cReg (step0 p2 (gMov (.c (.bool false)))
 endG))
noncomputable def c106_1 : CEv := (cBlock 0 (cSeq (cReg (step0 p4 (gMov p0)
 (step0 p5 (gP (iInt fLeq 31 (.c (.int 31 0)) p4))
 (step0 p6 (gMov p5)
 (stepG p7 (gMov p0) (p6, true)
 (stepG p8 (gP (iInt fLss 31 p7 (.c (.int 31 55296)))) (p6, true)
 (step0 p9 (gP (iPick p6 p8 (.c (.bool false))))
 (step0 p3 (gMov p9)
 endG))))))))
 (cCond p3 (cSeq (cReg (step0 p2 (gMov (.c (.bool true)))
 endG))
 cRet)
 (cSeq (cReg (step0 p11 (gMov p0)
 (step0 p12 (gP (iInt fLss 31 (.c (.int 31 57343)) p11))
 (step0 p13 (gMov p12)
 (stepG p14 (gMov p0) (p13, true)
 (stepG p15 (gP (iInt fLeq 31 p14 (.c (.int 31 1114111)))) (p13, true)
 (step0 p16 (gP (iPick p13 p15 (.c (.bool false))))
 (step0 p10 (gMov p16)
 endG))))))))
 (cCond p10 (cSeq (cReg (step0 p2 (gMov (.c (.bool true)))
 endG))
 cRet)
 cSkip)))))
noncomputable def c106_2 : CEv := (cReg (step0 p2 (gMov (.c (.bool false)))
 endG))
noncomputable def sh106 : Fs := .mk [p2]
 (cSeq c106_0
 (cSeq c106_1
 (cSeq c106_2
 cRet)))
noncomputable def sh107 : Fs := cF Tryz.prog Tryz.f107
noncomputable def sh109 : Fs := cF Tryz.prog Tryz.f109
noncomputable def sh110 : Fs := cF Tryz.prog Tryz.f110
noncomputable def sh111 : Fs := cF Tryz.prog Tryz.f111
noncomputable def sh112 : Fs := cF Tryz.prog Tryz.f112
noncomputable def sh113 : Fs := cF Tryz.prog Tryz.f113
noncomputable def sh114 : Fs := cF Tryz.prog Tryz.f114
noncomputable def sh115 : Fs := cF Tryz.prog Tryz.f115
noncomputable def sh116 : Fs := cF Tryz.prog Tryz.f116
noncomputable def sh117 : Fs := cF Tryz.prog Tryz.f117
noncomputable def sh118 : Fs := cF Tryz.prog Tryz.f118
noncomputable def c119_0 : CEv := (cReg (step0 p4 (gMov (.c (.int 63 0)))
 endG))
noncomputable def c119_1 : CEv := (cReg (step0 p5 (gMov p0)
 (step0 p6 (gMov p1)
 (step0 p7 (gCall 126 [p5, p6])
 (step0 p4 (gMov p7)
 endG)))))
noncomputable def sh119 : Fs := .mk [p4]
 (cSeq c119_0
 (cSeq c119_1
 cRet))
noncomputable def sh120 : Fs := cF Tryz.prog Tryz.f120
noncomputable def sh121 : Fs := cF Tryz.prog Tryz.f121
noncomputable def sh122 : Fs := cF Tryz.prog Tryz.f122
noncomputable def sh123 : Fs := cF Tryz.prog Tryz.f123
noncomputable def sh124 : Fs := cF Tryz.prog Tryz.f124
noncomputable def sh125 : Fs := cF Tryz.prog Tryz.f125
def sh126 : Fs := .ext 0
noncomputable def sh127 : Fs := cF Tryz.prog Tryz.f127
noncomputable def sh128 : Fs := cF Tryz.prog Tryz.f128
noncomputable def sh129 : Fs := cF Tryz.prog Tryz.f129
noncomputable def sh130 : Fs := cF Tryz.prog Tryz.f130
noncomputable def sh131 : Fs := cF Tryz.prog Tryz.f131
noncomputable def sh132 : Fs := cF Tryz.prog Tryz.f132
noncomputable def sh133 : Fs := cF Tryz.prog Tryz.f133
noncomputable def sh134 : Fs := cF Tryz.prog Tryz.f134
noncomputable def sh135 : Fs := cF Tryz.prog Tryz.f135
noncomputable def sh136 : Fs := cF Tryz.prog Tryz.f136
noncomputable def sh137 : Fs := cF Tryz.prog Tryz.f137
noncomputable def sh138 : Fs := cF Tryz.prog Tryz.f138
noncomputable def sh139 : Fs := cF Tryz.prog Tryz.f139
noncomputable def sh140 : Fs := cF Tryz.prog Tryz.f140
noncomputable def sh141 : Fs := cF Tryz.prog Tryz.f141
noncomputable def sh142 : Fs := cF Tryz.prog Tryz.f142
noncomputable def sh143 : Fs := cF Tryz.prog Tryz.f143
noncomputable def sh144 : Fs := cF Tryz.prog Tryz.f144
noncomputable def sh145 : Fs := cF Tryz.prog Tryz.f145
noncomputable def sh146 : Fs := cF Tryz.prog Tryz.f146
noncomputable def sh147 : Fs := cF Tryz.prog Tryz.f147
noncomputable def sh148 : Fs := cF Tryz.prog Tryz.f148
noncomputable def sh149 : Fs := cF Tryz.prog Tryz.f149
noncomputable def sh150 : Fs := cF Tryz.prog Tryz.f150
noncomputable def sh151 : Fs := cF Tryz.prog Tryz.f151
noncomputable def sh152 : Fs := cF Tryz.prog Tryz.f152
noncomputable def sh153 : Fs := cF Tryz.prog Tryz.f153
noncomputable def sh154 : Fs := cF Tryz.prog Tryz.f154
noncomputable def sh155 : Fs := cF Tryz.prog Tryz.f155
noncomputable def sh156 : Fs := cF Tryz.prog Tryz.f156
noncomputable def sh157 : Fs := cF Tryz.prog Tryz.f157
noncomputable def sh158 : Fs := cF Tryz.prog Tryz.f158
noncomputable def sh159 : Fs := cF Tryz.prog Tryz.f159
noncomputable def sh160 : Fs := cF Tryz.prog Tryz.f160
noncomputable def sh161 : Fs := cF Tryz.prog Tryz.f161
noncomputable def sh162 : Fs := cF Tryz.prog Tryz.f162
noncomputable def sh163 : Fs := cF Tryz.prog Tryz.f163
noncomputable def sh164 : Fs := cF Tryz.prog Tryz.f164
end Go.Proofs.YtnebopkgnkemiaaGreatDoor.Av
