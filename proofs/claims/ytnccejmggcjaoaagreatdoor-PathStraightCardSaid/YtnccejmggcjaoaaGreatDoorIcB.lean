/-
 THE PROGRAM's FUNCTIONS AS THE ABSTRACT MACHINE RUNS THEM, printed by a program of this session's own out of what 'compF' makes of them.
-/
import Derived.Test.YtnccejmggcjaoaaGreatDoorIcP
namespace Go.Proofs.YtnccejmggcjaoaaGreatDoor.Av
set_option maxRecDepth 100000
noncomputable def c197_0 : CEv := (cReg (step0 p4 (gE (iBox 140 p0))
 (step0 p5 (gE (iBox 43 p1))
 (step0 p6 (gE (iBox 9 p2))
 (step0 p7 (gE (iBox 3 p3))
 (step0 p8 (gMov (.c (.bool false)))
 endG))))))
noncomputable def c197_1 : CEv := (cReg (step0 p10 (gP (iFad 0 p5))
 (step0 p11 (gP (iLoad false 1 p10))
 (step0 p12 (gP (iInt fNeq 63 p11 (.c (.int 63 1))))
 endG))))
noncomputable def c197_2 : CEv := (cCond p12 (cSeq (cReg (step0 p13 (gP (iFad 5 p5))
 (step0 p14 (gP (iLoad false 1 p13))
 (step0 p15 (gP (iMkf 230 [p4, p6, p7]))
 (step0 p16 (gCall 224 [p14, p15])
 (step0 p17 (gP (iNot p16))
 (step0 p8 (gMov p17)
 endG)))))))
 cRet)
 cSkip)
noncomputable def c197_3 : CEv := (cDraw [p18, p19, p20, p21, p22, p23, p24, p9] (stepR [p4] p18 (gP (iLoad false 1 p4)) none
 (stepR [p18] p19 (gP (iNck p18)) none
 (stepR [p19] p20 (gP (iFad 2 p19)) none
 (stepR [p20] p21 (gP (iLoad false 1 p20)) none
 (stepR [p5] p22 (gP (iFad 3 p5)) none
 (stepR [p22] p23 (gP (iLoad false 1 p22)) none
 (stepR [p21, p23] p24 (gP (iLok 100 (.ref 2 0 0 0 0 false) p21 p23 false)) none
 (stepR [p24] p9 (gMov p24) none
 endD)))))))))
noncomputable def c197_4 : CEv := (cReg (step0 p25 (gP (iFad 3 p5))
 (step0 p26 (gP (iLoad false 1 p25))
 (step0 p27 (gP (iLoad false 1 p6))
 (step0 p28 (gP (iStr sEql p26 p27))
 endG)))))
noncomputable def c197_5 : CEv := (cCond p28 (cReg (step0 p29 (gP (iLoad false 1 p7))
 (step0 p30 (gE (iBsl 3 1 [(.int 63 0)] [(0, (1, p29))]))
 (step0 p9 (gMov p30)
 endG))))
 cSkip)
noncomputable def c197_6 : CEv := (cReg (step0 p31 (gP (iLoad false 1 p4))
 (step0 p32 (gMov p9)
 (step0 p33 (gP (iFad 4 p5))
 (step0 p34 (gP (iLoad false 1 p33))
 (step0 p35 (gCall 231 [p31, p32, p34])
 (step0 p8 (gMov p35)
 endG)))))))
noncomputable def sh197 : Fs := .mk [p8]
 (cSeq c197_0
 (cSeq (cSeq c197_1
 c197_2)
 (cSeq c197_3
 (cSeq (cSeq c197_4
 c197_5)
 (cSeq c197_6
 cRet)))))
noncomputable def c202_0 : CEv := (cReg (step0 p2 (gE (iBox 163 p0))
 (step0 p3 (gE (iBox 92 p1))
 (step0 p4 (gE (iAlloc 163 [(.ref 2 0 0 0 0 false), (.ref 2 0 0 0 0 false)]))
 endG))))
noncomputable def c202_1 : CEv := (cDraw [p5, p6, p7, p8, p9, p10, p11, p12, p13, p14, p15, p16, p17] (stepR [p2] p5 (gP (iFad 1 p2)) none
 (stepR [p5] p6 (gP (iLoad false 1 p5)) none
 (stepR [p2] p7 (gP (iFad 1 p2)) none
 (stepR [p7] p8 (gP (iLoad false 1 p7)) none
 (stepR [p8] p9 (gP (iLenL p8)) none
 (stepR [p2] p10 (gP (iFad 1 p2)) none
 (stepR [p10] p11 (gP (iLoad false 1 p10)) none
 (stepR [p11] p12 (gP (iLenL p11)) none
 (stepR [p6, p9, p12] p13 (gP (iSll 92 3 p6 none (some (.t p9)) (some (.t p12)))) none
 (stepR [p3] p14 (gP (iLoad true 3 p3)) none
 (stepL [p14] p15 (gE (iBsl 92 1 [(.int 63 0), (.str []), (.ref 2 0 0 0 0 false)] [(0, (3, p14))])) none
 (stepL [p13, p15] p16 (gE (iApp false 92 3 48 p13 p15)) none
 (stepR [p2] p17 (gP (iFad 1 p2)) none
 (stepL [p17, p16] none (gE (iStore 1 p17 p16)) none
 endD)))))))))))))))
noncomputable def c202_2 : CEv := (cReg (step0 p18 (gP (iLoad true 2 p2))
 (step0 none (gE (iStore 2 p4 p18))
 endG)))
noncomputable def sh202 : Fs := .mk [(.m p4 true 2)]
 (cSeq c202_0
 (cSeq c202_1
 (cSeq c202_2
 cRet)))
noncomputable def c203_0 : CEv := (cReg (step0 p5 (gE (iBox 160 p0))
 (step0 p6 (gE (iBox 163 p1))
 (step0 p7 (gE (iBox 34 p2))
 (step0 p10 (gMov (.c (.ref 2 0 0 0 0 false)))
 endG)))))
noncomputable def c203_1 : CEv := (cDraw [p14, p15, p16, p17, p18, p19, p20, p21, p22, p23, p11] (stepR [p5] p14 (gP (iFad 0 p5)) none
 (stepR [p14] p15 (gP (iLoad false 1 p14)) none
 (stepR [p7] p16 (gP (iFad 1 p7)) none
 (stepR [p16] p17 (gP (iLoad false 1 p16)) none
 (stepR [p7] p19 (gP (iFad 2 p7)) none
 (stepQ 6 [p19] p20 (gP (iLoad false 1 p19)) none
 (stepR [p7] p21 (gP (iFad 3 p7)) none
 (stepQ 8 [p21] p22 (gP (iLoad false 1 p21)) none
 (stepL [] p11 (gE (iAlloc 89 [(.int 63 0), (.str []), (.ref 2 0 0 0 0 false), (.ref 2 0 0 0 0 false)])) none
 (stepC [6, 8] [p15, p17] p18 (gCall 53 [p15, p17]) none
 (stepR [p18, p20, p22] p23 (gP (iBuild [(.int 63 0), (.str []), (.ref 2 0 0 0 0 false), (.ref 2 0 0 0 0 false)] [(0, (1, p18)), (1, (1, p20)), (2, (1, p22))])) none
 (stepL [p11, p23] none (gE (iStore 4 p11 p23)) none
 endD)))))))))))))
noncomputable def c203_2 : CEv := (cReg (step0 p12 (gMov (.c (.ref 2 0 0 0 0 false)))
 endG))
noncomputable def c203_3 : CEv := (cReg (step0 p13 (gMov (.c (.int 63 1)))
 endG))
noncomputable def b203_0 : CEv := (cSeq (cSeq (cReg (step0 p24 (gMov p13)
 (step0 p25 (gMov p4)
 (step0 p26 (gP (iInt fLeq 63 p24 p25))
 endG))))
 (cCond p26 cSkip
 (cExit 0)))
 (cSeq (cBlock 1 (cSeq (cReg (step0 p29 (gP (iLoad true 2 p6))
 (step0 p30 (gP (iLoad true 4 p11))
 (step0 p31 (gCall 234 [p29, p30])
 (step0 none (gE (iStore 2 p6 p31))
 endG)))))
 (cSeq (cReg (step0 p32 (gMov p13)
 (step0 p33 (gMov p3)
 (step0 p34 (gP (iInt fGeq 63 p32 p33))
 endG))))
 (cCond p34 (cReg (step0 p35 (gMov p12)
 (step0 p36 (gP (iLoad true 2 p6))
 (step0 p37 (gE (iBsl 163 1 [(.ref 2 0 0 0 0 false), (.ref 2 0 0 0 0 false)] [(0, (2, p36))]))
 (step0 p38 (gE (iApp false 163 2 48 p35 p37))
 (step0 p12 (gMov p38)
 endG))))))
 cSkip))))
 (cReg (step0 p27 (gMov p13)
 (step0 p28 (gP (iInt fAdd 63 p27 (.c (.int 63 1))))
 (step0 p13 (gMov p28)
 endG))))))
noncomputable def c203_4 : CEv := (cBlock 0 (cLoop b203_0))
noncomputable def c203_5 : CEv := (cReg (step0 p39 (gMov p12)
 (step0 p10 (gMov p39)
 endG)))
noncomputable def sh203 : Fs := .mk [p10]
 (cSeq c203_0
 (cSeq c203_1
 (cSeq c203_2
 (cSeq (cSeq c203_3
 c203_4)
 (cSeq c203_5
 cRet)))))
noncomputable def c206_0 : CEv := (cReg (step0 p2 (gE (iAlloc 276 [(.bool false), (.bool false), (.bool false), (.bool false), (.bool false), (.bool false), (.bool false), (.bool false), (.bool false), (.bool false), (.bool false), (.bool false), (.bool false), (.bool false), (.bool false), (.bool false), (.bool false), (.bool false), (.bool false), (.bool false), (.bool false), (.bool false), (.bool false), (.bool false), (.bool false), (.bool false), (.bool false), (.bool false), (.bool false), (.bool false), (.bool false), (.bool false), (.bool false), (.bool false), (.bool false), (.bool false), (.bool false), (.bool false), (.bool false), (.bool false), (.bool false), (.bool false), (.bool false), (.bool false), (.bool false), (.bool false), (.bool false), (.bool false), (.bool false), (.bool false), (.bool false), (.bool false), (.bool false), (.bool false), (.bool false), (.bool false), (.bool false), (.bool false), (.bool false), (.bool false), (.bool false), (.bool false), (.bool false), (.bool false), (.bool false), (.bool false), (.bool false), (.bool false), (.bool false), (.bool false), (.bool false), (.bool false), (.bool false), (.bool false), (.bool false), (.bool false), (.bool false), (.bool false), (.bool false), (.bool false), (.bool false), (.bool false), (.bool false), (.bool false), (.bool false), (.bool false), (.bool false), (.bool false), (.bool false), (.bool false), (.bool false), (.bool false), (.bool false), (.bool false), (.bool false), (.bool false), (.bool false), (.bool false), (.bool false), (.bool false), (.bool false), (.bool false), (.bool false), (.bool false), (.bool false), (.bool false), (.bool false), (.bool false), (.bool false), (.bool false), (.bool false), (.bool false), (.bool false), (.bool false), (.bool false), (.bool false), (.bool false), (.bool false), (.bool false), (.bool false), (.bool false), (.bool false), (.bool false), (.bool false), (.bool false), (.bool false), (.bool false), (.bool false), (.bool false), (.bool false), (.bool false), (.bool false), (.bool false), (.bool false), (.bool false), (.bool false), (.bool false), (.bool false), (.bool false), (.bool false), (.bool false), (.bool false), (.bool false), (.bool false), (.bool false), (.bool false), (.bool false), (.bool false), (.bool false), (.bool false), (.bool false), (.bool false), (.bool false), (.bool false), (.bool false), (.bool false), (.bool false), (.bool false), (.bool false), (.bool false), (.bool false), (.bool false), (.bool false), (.bool false), (.bool false), (.bool false), (.bool false), (.bool false), (.bool false), (.bool false), (.bool false), (.bool false), (.bool false), (.bool false), (.bool false), (.bool false), (.bool false), (.bool false), (.bool false), (.bool false), (.bool false), (.bool false), (.bool false), (.bool false), (.bool false), (.bool false), (.bool false), (.bool false), (.bool false), (.bool false), (.bool false), (.bool false), (.bool false), (.bool false), (.bool false), (.bool false), (.bool false), (.bool false), (.bool false), (.bool false), (.bool false), (.bool false), (.bool false), (.bool false), (.bool false), (.bool false), (.bool false), (.bool false), (.bool false), (.bool false), (.bool false), (.bool false), (.bool false), (.bool false), (.bool false), (.bool false), (.bool false), (.bool false), (.bool false), (.bool false), (.bool false), (.bool false), (.bool false), (.bool false), (.bool false), (.bool false), (.bool false), (.bool false), (.bool false), (.bool false), (.bool false), (.bool false), (.bool false), (.bool false), (.bool false), (.bool false), (.bool false), (.bool false), (.bool false), (.bool false), (.bool false), (.bool false), (.bool false), (.bool false), (.bool false), (.bool false), (.bool false), (.bool false), (.bool false), (.bool false), (.bool false), (.bool false), (.bool false), (.bool false), (.bool false), (.bool false)]))
 (step0 p3 (gMov (.c (.bool false)))
 endG)))
noncomputable def c206_1 : CEv := (cReg (step0 p4 (gMov (.c (.int 63 0)))
 endG))
noncomputable def b206_0 : CEv := (cSeq (cSeq (cReg (step0 p6 (gMov p4)
 (step0 p7 (gMov p0)
 (step0 p8 (gP (iLenS p7))
 (step0 p9 (gP (iInt fLss 63 p6 p8))
 endG)))))
 (cCond p9 cSkip
 (cExit 0)))
 (cSeq (cBlock 1 (cSeq (cReg (step0 p12 (gMov p0)
 (step0 p13 (gMov p4)
 (step0 p14 (gP (iIxs p12 p13))
 (step0 p5 (gMov p14)
 endG)))))
 (cSeq (cSeq (cReg (step0 p15 (gMov p5)
 (step0 p16 (gP (iInt fGeq 8 p15 (.c (.int 8 128))))
 endG)))
 (cCond p16 (cSeq (cReg (step0 p17 (gP (iLoad true 256 p2))
 (step0 none (gE (iStore 256 p2 p17))
 (step0 p3 (gMov (.c (.bool false)))
 endG))))
 cRet)
 cSkip))
 (cReg (step0 p18 (gMov p5)
 (step0 p19 (gP (iIaa 256 1 p2 p18))
 (step0 none (gE (iStore 1 p19 (.c (.bool true))))
 endG)))))))
 (cReg (step0 p10 (gMov p4)
 (step0 p11 (gP (iInt fAdd 63 p10 (.c (.int 63 1))))
 (step0 p4 (gMov p11)
 endG))))))
noncomputable def c206_2 : CEv := (cBlock 0 (cLoop b206_0))
noncomputable def c206_3 : CEv := (cReg (step0 p20 (gP (iLoad true 256 p2))
 (step0 none (gE (iStore 256 p2 p20))
 (step0 p3 (gMov (.c (.bool true)))
 endG))))
noncomputable def sh206 : Fs := .mk [(.m p2 true 256), p3]
 (cSeq c206_0
 (cSeq (cSeq c206_1
 c206_2)
 (cSeq c206_3
 cRet)))
noncomputable def c207_0 : CEv := (cReg (step0 p4 (gMov (.c (.str [])))
 endG))
noncomputable def b207_0 : CEv := (cSeq (cSeq (cReg (step0 p5 (gMov p0)
 (step0 p6 (gP (iLenS p5))
 (step0 p7 (gP (iInt fGtr 63 p6 (.c (.int 63 0))))
 endG))))
 (cCond p7 cSkip
 (cExit 0)))
 (cBlock 1 (cSeq (cSeq (cReg (step0 p8 (gMov p1)
 (step0 p9 (gMov p0)
 (step0 p10 (gP (iIxs p9 (.c (.int 63 0))))
 (step0 p11 (gCall 235 [p8, p10])
 (step0 p12 (gP (iNot p11))
 endG))))))
 (cCond p12 (cExit 0)
 cSkip))
 (cReg (step0 p13 (gMov p0)
 (step0 p14 (gP (iSls p13 (some (.c (.int 63 1))) none))
 (step0 p0 (gMov p14)
 endG)))))))
noncomputable def c207_1 : CEv := (cBlock 0 (cLoop b207_0))
noncomputable def c207_2 : CEv := (cReg (step0 p15 (gMov p0)
 (step0 p4 (gMov p15)
 endG)))
noncomputable def sh207 : Fs := .mk [p4]
 (cSeq c207_0
 (cSeq c207_1
 (cSeq c207_2
 cRet)))
noncomputable def c209_0 : CEv := (cReg (step0 p4 (gMov (.c (.int 63 0)))
 endG))
noncomputable def c209_1 : CEv := (cReg (step0 p8 (gMov p0)
 (step0 p9 (gE (iRng p8))
 endG)))
noncomputable def b209_0 : CEv := (cSeq (cReg (step0 p10 (gE (iNxt p9))
 (step0 p11 (gP (iExt p10 0))
 endG)))
 (cSeq (cCond p11 cSkip
 (cExit 0))
 (cBlock 1 (cSeq (cReg (step0 p12 (gP (iExt p10 1))
 (step0 p13 (gP (iExt p10 2))
 (step0 p5 (gMov p12)
 (step0 p6 (gMov p13)
 endG)))))
 (cSeq (cReg (step0 p14 (gMov p6)
 (step0 p15 (gP (iInt fEql 31 p14 (.c (.int 31 65533))))
 (step0 p16 (gMov p15)
 (stepG p17 (gMov p0) (p16, true)
 (stepG p18 (gMov p5) (p16, true)
 (stepG p19 (gP (iSls p17 (some (.t p18)) none)) (p16, true)
 (stepG p20 (gCall 238 [p19, (.c (.str [239, 191, 189]))]) (p16, true)
 (stepG p21 (gP (iNot p20)) (p16, true)
 (step0 p22 (gP (iPick p16 p21 (.c (.bool false))))
 (step0 p7 (gMov p22)
 endG)))))))))))
 (cSeq (cReg (step0 p23 (gMov p7)
 (step0 p24 (gMov p23)
 (stepG p25 (gMov p1) (p24, false)
 (stepG p26 (gMov p6) (p24, false)
 (stepG p27 (gDyn p25 [p26]) (p24, false)
 (stepG p28 (gP (iNot p27)) (p24, false)
 (step0 p29 (gP (iPick p24 (.c (.bool true)) p28))
 endG))))))))
 (cCond p29 (cSeq (cReg (step0 p30 (gMov p5)
 (step0 p4 (gMov p30)
 endG)))
 cRet)
 cSkip)))))))
noncomputable def c209_2 : CEv := (cBlock 0 (cLoop b209_0))
noncomputable def c209_3 : CEv := (cReg (step0 p31 (gMov p0)
 (step0 p32 (gP (iLenS p31))
 (step0 p4 (gMov p32)
 endG))))
noncomputable def sh209 : Fs := .mk [p4]
 (cSeq c209_0
 (cSeq (cSeq c209_1
 c209_2)
 (cSeq c209_3
 cRet)))
noncomputable def c210_0 : CEv := (cReg (step0 p2 (gMov (.c (.bool false)))
 endG))
noncomputable def c210_1 : CEv := (cReg (step0 p3 (gMov p0)
 (step0 p4 (gP (iCvis p3))
 (step0 p5 (gCall 81 [p4])
 (step0 p2 (gMov p5)
 endG)))))
noncomputable def sh210 : Fs := .mk [p2]
 (cSeq c210_0
 (cSeq c210_1
 cRet))
noncomputable def c211_0 : CEv := (cReg (step0 p2 (gE (iAlloc 239 [(.int 63 0), (.str []), (.int 63 0), (.int 63 0)]))
 (step0 p3 (gMov (.c (.bool false)))
 endG)))
noncomputable def c211_1 : CEv := (cReg (step0 p5 (gMov p0)
 (step0 p6 (gMov p0)
 (step0 p7 (gCall 209 [p6, (.c (.cmp 0 239 []))])
 (step0 p8 (gP (iSls p5 none (some (.t p7))))
 (step0 p9 (gP (iBuild [(.int 63 0), (.str []), (.int 63 0), (.int 63 0)] [(0, (1, (.c (.int 63 1)))), (1, (1, p8))]))
 (step0 p4 (gE (iAlloc 239 [(.int 63 0), (.str []), (.int 63 0), (.int 63 0)]))
 (step0 none (gE (iStore 4 p4 p9))
 endG))))))))
noncomputable def c211_2 : CEv := (cReg (step0 p10 (gP (iFad 1 p4))
 (step0 p11 (gP (iLoad false 1 p10))
 (step0 p12 (gP (iStr sEql p11 (.c (.str [87, 73, 84, 72, 73, 78]))))
 (step0 p13 (gMov p12)
 (stepG p14 (gP (iFad 1 p4)) (p13, false)
 (stepG p15 (gP (iLoad false 1 p14)) (p13, false)
 (stepG p16 (gP (iStr sEql p15 (.c (.str [66, 89])))) (p13, false)
 (step0 p17 (gP (iPick p13 (.c (.bool true)) p16))
 endG)))))))))
noncomputable def c211_3 : CEv := (cCond p17 (cSeq (cReg (step0 p18 (gP (iFad 0 p4))
 (step0 none (gE (iStore 1 p18 (.c (.int 63 4))))
 endG)))
 (cSeq (cReg (step0 p19 (gP (iLoad true 4 p4))
 (step0 none (gE (iStore 4 p2 p19))
 (step0 p3 (gMov (.c (.bool true)))
 endG))))
 cRet))
 cSkip)
noncomputable def c211_4 : CEv := (cDraw [p20, p21, p22, p23, p3] (stepQ 0 [p4] p20 (gP (iLoad true 4 p4)) none
 (stepR [p4] p21 (gP (iFad 1 p4)) none
 (stepR [p21] p22 (gP (iLoad false 1 p21)) none
 (stepC [0] [p22] p23 (gCall 81 [p22]) none
 (stepL [p2, p20] none (gE (iStore 4 p2 p20)) none
 (stepR [p23] p3 (gMov p23) none
 endD)))))))
noncomputable def sh211 : Fs := .mk [(.m p2 true 4), p3]
 (cSeq c211_0
 (cSeq c211_1
 (cSeq (cSeq c211_2
 c211_3)
 (cSeq c211_4
 cRet))))
noncomputable def c212_0 : CEv := (cReg (step0 p2 (gMov (.c (.bool false)))
 endG))
noncomputable def c212_1 : CEv := (cReg (step0 p3 (gMov p0)
 (step0 p4 (gCall 237 [(.c (.str [48, 49, 50, 51, 52, 53, 54, 55, 56, 57])), p3])
 (step0 p2 (gMov p4)
 endG))))
noncomputable def sh212 : Fs := .mk [p2]
 (cSeq c212_0
 (cSeq c212_1
 cRet))
noncomputable def c213_0 : CEv := (cReg (step0 p2 (gE (iAlloc 239 [(.int 63 0), (.str []), (.int 63 0), (.int 63 0)]))
 (step0 p3 (gMov (.c (.bool false)))
 endG)))
noncomputable def c213_1 : CEv := (cReg (step0 p7 (gMov p0)
 (step0 p8 (gMov p0)
 (step0 p9 (gCall 209 [p8, (.c (.cmp 0 212 []))])
 (step0 p10 (gP (iSls p7 none (some (.t p9))))
 (step0 p11 (gP (iBuild [(.int 63 0), (.str []), (.int 63 0), (.int 63 0)] [(0, (1, (.c (.int 63 2)))), (1, (1, p10))]))
 (step0 p4 (gE (iAlloc 239 [(.int 63 0), (.str []), (.int 63 0), (.int 63 0)]))
 (step0 none (gE (iStore 4 p4 p11))
 endG))))))))
noncomputable def c213_2 : CEv := (cReg (step0 p13 (gP (iFad 1 p4))
 (step0 p14 (gP (iLoad false 1 p13))
 (step0 p15 (gCall 240 [p14, (.c (.int 63 10)), (.c (.int 63 64))])
 (step0 p12 (gMov p15)
 (step0 p16 (gP (iExt p12 0))
 (step0 p17 (gP (iExt p12 1))
 (step0 p5 (gMov p16)
 (step0 p6 (gMov p17)
 endG)))))))))
noncomputable def c213_3 : CEv := (cDraw [p18, p19, p20, p21, p22, p23, p24, p25, p26] (stepR [p6] p18 (gMov p6) none
 (stepR [p18] p19 (gP (iEqn true 7 101 p18 (.c (.ref 7 0 0 0 0 false)))) none
 (stepR [p19] p20 (gMov p19) none
 (stepR [p5, p20] p21 (gMov p5) (p20, false)
 (stepR [p4, p20] p23 (gP (iFad 1 p4)) (p20, false)
 (stepQ 6 [p23, p20] p24 (gP (iLoad false 1 p23)) (p20, false)
 (stepC [6] [p21, p20] p22 (gCall 66 [p21, (.c (.int 63 10))]) (p20, false)
 (stepR [p22, p24, p20] p25 (gP (iStr sNeq p22 p24)) (p20, false)
 (stepR [p20, p25] p26 (gP (iPick p20 (.c (.bool true)) p25)) none
 endD))))))))))
noncomputable def c213_4 : CEv := (cCond p26 (cSeq (cReg (step0 p27 (gP (iLoad true 4 p4))
 (step0 none (gE (iStore 4 p2 p27))
 (step0 p3 (gMov (.c (.bool false)))
 endG))))
 cRet)
 cSkip)
noncomputable def c213_5 : CEv := (cReg (step0 p28 (gMov p5)
 (step0 p29 (gP (iFad 2 p4))
 (step0 none (gE (iStore 1 p29 p28))
 endG))))
noncomputable def c213_6 : CEv := (cReg (step0 p30 (gP (iLoad true 4 p4))
 (step0 none (gE (iStore 4 p2 p30))
 (step0 p3 (gMov (.c (.bool true)))
 endG))))
noncomputable def sh213 : Fs := .mk [(.m p2 true 4), p3]
 (cSeq c213_0
 (cSeq c213_1
 (cSeq c213_2
 (cSeq (cSeq c213_3
 c213_4)
 (cSeq c213_5
 (cSeq c213_6
 cRet))))))
noncomputable def c214_0 : CEv := (cReg (step0 p1 (gE (iBox 9 p0))
 (step0 p2 (gE (iAlloc 239 [(.int 63 0), (.str []), (.int 63 0), (.int 63 0)]))
 (step0 p3 (gMov (.c (.bool false)))
 endG))))
noncomputable def c214_1 : CEv := (cReg (step0 p6 (gCall 241 [])
 (step0 p4 (gMov p6)
 endG)))
noncomputable def c214_2 : CEv := (cReg (step0 p7 (gMov p4)
 (step0 p8 (gCall 242 [p7, (.c (.cmp 0 243 []))])
 endG)))
noncomputable def c214_3 : CEv := (cReg (step0 p9 (gMov p4)
 (step0 p10 (gP (iMkf 245 [p1]))
 (step0 p11 (gCall 244 [p9, p10])
 (step0 p5 (gMov p11)
 endG)))))
noncomputable def c214_4 : CEv := (cReg (step0 p12 (gMov p5)
 (step0 p13 (gP (iInt fLss 63 p12 (.c (.int 63 0))))
 endG)))
noncomputable def c214_5 : CEv := (cCond p13 (cSeq (cReg (step0 p14 (gP (iBuild [(.int 63 0), (.str []), (.int 63 0), (.int 63 0)] []))
 (step0 none (gE (iStore 4 p2 p14))
 (step0 p3 (gMov (.c (.bool false)))
 endG))))
 cRet)
 cSkip)
noncomputable def c214_6 : CEv := (cReg (step0 p15 (gMov p4)
 (step0 p16 (gMov p5)
 (step0 p17 (gP (iIad 1 p15 p16))
 (step0 p18 (gP (iLoad false 1 p17))
 (step0 p19 (gP (iBuild [(.int 63 0), (.str []), (.int 63 0), (.int 63 0)] [(0, (1, (.c (.int 63 3)))), (1, (1, p18))]))
 (step0 none (gE (iStore 4 p2 p19))
 (step0 p3 (gMov (.c (.bool true)))
 endG))))))))
noncomputable def sh214 : Fs := .mk [(.m p2 true 4), p3]
 (cSeq c214_0
 (cSeq c214_1
 (cSeq c214_2
 (cSeq c214_3
 (cSeq (cSeq c214_4
 c214_5)
 (cSeq c214_6
 cRet))))))
noncomputable def c223_0 : CEv := (cReg (step0 p3 (gMov (.c (.bool false)))
 endG))
noncomputable def c223_1 : CEv := (cReg (step0 p4 (gP (iLoad false 1 p1))
 (step0 p5 (gMov p0)
 (step0 p6 (gDyn p4 [p5])
 (step0 p7 (gP (iNot p6))
 (step0 p3 (gMov p7)
 endG))))))
noncomputable def sh223 : Fs := .mk [p3]
 (cSeq c223_0
 (cSeq c223_1
 cRet))
noncomputable def c224_0 : CEv := (cReg (step0 p4 (gMov (.c (.bool false)))
 endG))
noncomputable def c224_1 : CEv := (cReg (step0 p5 (gMov p0)
 (step0 p6 (gMov p1)
 (step0 p7 (gCall 248 [p5, p6])
 (step0 p8 (gP (iInt fGeq 63 p7 (.c (.int 63 0))))
 (step0 p4 (gMov p8)
 endG))))))
noncomputable def sh224 : Fs := .mk [p4]
 (cSeq c224_0
 (cSeq c224_1
 cRet))
noncomputable def c225_0 : CEv := (cReg (step0 p2 (gE (iBox 43 p0))
 (step0 p3 (gMov (.c (.bool false)))
 endG)))
noncomputable def c225_1 : CEv := (cReg (step0 p4 (gP (iLoad false 1 p1))
 (step0 p5 (gP (iLoad true 6 p2))
 (step0 p6 (gDyn p4 [p5])
 (step0 p7 (gP (iNot p6))
 (step0 p3 (gMov p7)
 endG))))))
noncomputable def sh225 : Fs := .mk [p3]
 (cSeq c225_0
 (cSeq c225_1
 cRet))
noncomputable def c226_0 : CEv := (cReg (step0 p1 (gE (iBox 43 p0))
 (step0 p2 (gE (iAlloc 292 [(.bool false), (.bool false), (.int 63 0)]))
 (step0 p3 (gMov (.c (.bool false)))
 endG))))
noncomputable def c226_1 : CEv := (cReg (step0 p4 (gP (iFad 0 p1))
 (step0 p5 (gP (iLoad false 1 p4))
 endG)))
noncomputable def c226_2 : CEv := (cBlock 0 (cSeq (cReg (step0 p7 (gP (iInt fEql 63 p5 (.c (.int 63 0))))
 (step0 p6 (gMov p7)
 endG)))
 (cCond p6 (cSeq (cDraw [p8, p9, p10, p11, p3] (stepR [] p8 (gP (iBuild [(.bool false), (.bool false), (.int 63 0)] [])) none
 (stepR [p1] p9 (gP (iFad 2 p1)) none
 (stepQ 2 [p9] p10 (gP (iLoad false 1 p9)) none
 (stepR [p10] p11 (gP (iInt fGeq 63 p10 (.c (.int 63 0)))) none
 (stepC [2] [p2, p8] none (gE (iStore 3 p2 p8)) none
 (stepR [p11] p3 (gMov p11) none
 endD)))))))
 cRet)
 (cSeq (cReg (step0 p13 (gP (iInt fEql 63 p5 (.c (.int 63 1))))
 (step0 p12 (gMov p13)
 endG)))
 (cCond p12 (cSeq (cReg (step0 p14 (gP (iBuild [(.bool false), (.bool false), (.int 63 0)] [(1, (1, (.c (.bool true))))]))
 (step0 p15 (gP (iFad 2 p1))
 (step0 p16 (gP (iLoad false 1 p15))
 (step0 p17 (gP (iInt fEql 63 p16 (.c (.int 63 0))))
 (step0 p18 (gMov p17)
 (stepG p19 (gP (iFad 3 p1)) (p18, true)
 (stepG p20 (gP (iLoad false 1 p19)) (p18, true)
 (stepG p21 (gCall 81 [p20]) (p18, true)
 (step0 p22 (gP (iPick p18 p21 (.c (.bool false))))
 (step0 p23 (gMov p22)
 (stepG p24 (gP (iFad 4 p1)) (p23, true)
 (stepG p25 (gP (iLoad false 1 p24)) (p23, true)
 (stepG p26 (gCall 81 [p25]) (p23, true)
 (step0 p27 (gP (iPick p23 p26 (.c (.bool false))))
 (step0 none (gE (iStore 3 p2 p14))
 (step0 p3 (gMov p27)
 endG)))))))))))))))))
 cRet)
 (cSeq (cReg (step0 p29 (gP (iInt fEql 63 p5 (.c (.int 63 2))))
 (step0 p28 (gMov p29)
 endG)))
 (cCond p28 (cSeq (cDraw [p30, p31, p32, p33, p34, p35, p36, p37, p38, p39, p40, p41, p42, p43, p3] (stepR [] p30 (gP (iBuild [(.bool false), (.bool false), (.int 63 0)] [(0, (1, (.c (.bool true)))), (2, (1, (.c (.int 63 1))))])) none
 (stepR [p1] p31 (gP (iFad 2 p1)) none
 (stepR [p31] p32 (gP (iLoad false 1 p31)) none
 (stepR [p32] p33 (gP (iInt fEql 63 p32 (.c (.int 63 0)))) none
 (stepR [p33] p34 (gMov p33) none
 (stepR [p1, p34] p35 (gP (iFad 1 p1)) (p34, true)
 (stepR [p35, p34] p36 (gP (iLoad false 1 p35)) (p34, true)
 (stepR [p36, p34] p37 (gP (iStr sEql p36 (.c (.str [45])))) (p34, true)
 (stepR [p37, p34] p38 (gMov p37) (p34, true)
 (stepR [p1, p38] p39 (gP (iFad 1 p1)) (p38, false)
 (stepQ 10 [p39, p38] p40 (gP (iLoad false 1 p39)) (p38, false)
 (stepR [p40, p38] p41 (gP (iStr sEql p40 (.c (.str [33])))) (p38, false)
 (stepR [p38, p41, p34] p42 (gP (iPick p38 (.c (.bool true)) p41)) (p34, true)
 (stepR [p34, p42] p43 (gP (iPick p34 p42 (.c (.bool false)))) none
 (stepC [10] [p2, p30] none (gE (iStore 3 p2 p30)) none
 (stepR [p43] p3 (gMov p43) none
 endD)))))))))))))))))
 cRet)
 (cSeq (cReg (step0 p45 (gP (iInt fEql 63 p5 (.c (.int 63 3))))
 (step0 p44 (gMov p45)
 endG)))
 (cCond p44 (cSeq (cReg (step0 p46 (gP (iBuild [(.bool false), (.bool false), (.int 63 0)] [(0, (1, (.c (.bool true)))), (2, (1, (.c (.int 63 2))))]))
 (step0 p47 (gP (iFad 2 p1))
 (step0 p48 (gP (iLoad false 1 p47))
 (step0 p49 (gP (iInt fEql 63 p48 (.c (.int 63 0))))
 (step0 p50 (gMov p49)
 (stepG p51 (gP (iFad 1 p1)) (p50, true)
 (stepG p52 (gP (iLoad false 1 p51)) (p50, true)
 (stepG p53 (gCall 124 [p52]) (p50, true)
 (stepG p54 (gP (iInt fGtr 63 p53 (.c (.int 63 0)))) (p50, true)
 (step0 p55 (gP (iPick p50 p54 (.c (.bool false))))
 (step0 none (gE (iStore 3 p2 p46))
 (step0 p3 (gMov p55)
 endG)))))))))))))
 cRet)
 cSkip)))))))))
noncomputable def c226_3 : CEv := (cReg (step0 p56 (gP (iBuild [(.bool false), (.bool false), (.int 63 0)] []))
 (step0 none (gE (iStore 3 p2 p56))
 (step0 p3 (gMov (.c (.bool false)))
 endG))))
noncomputable def sh226 : Fs := .mk [(.m p2 true 3), p3]
 (cSeq c226_0
 (cSeq (cSeq c226_1
 c226_2)
 (cSeq c226_3
 cRet)))
noncomputable def c227_0 : CEv := (cReg (step0 p1 (gE (iBox 43 p0))
 (step0 p2 (gMov (.c (.bool false)))
 endG)))
noncomputable def c227_1 : CEv := (cReg (step0 p3 (gP (iLoad true 6 p1))
 (step0 p4 (gCall 189 [p3])
 (step0 p5 (gP (iNot p4))
 (step0 p2 (gMov p5)
 endG)))))
noncomputable def sh227 : Fs := .mk [p2]
 (cSeq c227_0
 (cSeq c227_1
 cRet))
noncomputable def c229_0 : CEv := (cReg (step0 p1 (gE (iBox 43 p0))
 (step0 p2 (gMov (.c (.int 63 0)))
 endG)))
noncomputable def c229_1 : CEv := (cReg (step0 p3 (gE (iAlloc 3 [(.int 63 0)]))
 (step0 none (gE (iStore 1 p3 (.c (.int 63 1))))
 (step0 p4 (gMov (.c (.int 63 1)))
 endG))))
noncomputable def c229_2 : CEv := (cBlock 0 (cSeq (cReg (step0 p6 (gP (iFad 0 p1))
 (step0 p7 (gP (iLoad false 1 p6))
 (step0 p8 (gP (iInt fLss 63 p7 (.c (.int 63 2))))
 (step0 p5 (gMov p8)
 endG)))))
 (cCond p5 (cSeq (cReg (step0 p2 (gMov (.c (.int 63 1)))
 endG))
 cRet)
 (cSeq (cSeq (cReg (step0 p10 (gP (iFad 0 p1))
 (step0 p11 (gP (iLoad false 1 p10))
 (step0 p12 (gP (iInt fEql 63 p11 (.c (.int 63 2))))
 (step0 p13 (gMov p12)
 (stepG p14 (gP (iFad 1 p1)) (p13, true)
 (stepG p15 (gP (iLoad false 1 p14)) (p13, true)
 (stepG p16 (gP (iStr sEql p15 (.c (.str [33])))) (p13, true)
 (step0 p17 (gP (iPick p13 p16 (.c (.bool false))))
 (step0 p9 (gMov p17)
 endG))))))))))
 (cCond p9 cSkip
 (cReg (step0 p18 (gP (iFad 0 p1))
 (step0 p19 (gP (iLoad false 1 p18))
 (step0 p20 (gP (iInt fEql 63 p19 (.c (.int 63 3))))
 (step0 p21 (gMov p20)
 (stepG p22 (gP (iFad 1 p1)) (p21, true)
 (stepG p23 (gP (iLoad false 1 p22)) (p21, true)
 (stepG p24 (gCall 124 [p23]) (p21, true)
 (stepG p25 (gP (iInt fLss 63 p24 (.c (.int 63 3)))) (p21, true)
 (step0 p26 (gP (iPick p21 p25 (.c (.bool false))))
 (step0 p9 (gMov p26)
 endG)))))))))))))
 (cCond p9 (cReg (step0 none (gE (iStore 1 p3 (.c (.int 63 2))))
 (step0 p4 (gMov (.c (.int 63 2)))
 endG)))
 (cSeq (cReg (step0 p28 (gP (iFad 0 p1))
 (step0 p29 (gP (iLoad false 1 p28))
 (step0 p30 (gP (iInt fEql 63 p29 (.c (.int 63 3))))
 (step0 p31 (gMov p30)
 (stepG p32 (gP (iFad 1 p1)) (p31, true)
 (stepG p33 (gP (iLoad false 1 p32)) (p31, true)
 (stepG p34 (gCall 124 [p33]) (p31, true)
 (stepG p35 (gP (iInt fLss 63 p34 (.c (.int 63 5)))) (p31, true)
 (step0 p36 (gP (iPick p31 p35 (.c (.bool false))))
 (step0 p27 (gMov p36)
 endG)))))))))))
 (cCond p27 (cReg (step0 p4 (gMov (.c (.int 63 2)))
 endG))
 cSkip)))))))
noncomputable def c229_3 : CEv := (cReg (step0 p37 (gP (iFad 5 p1))
 (step0 p38 (gP (iLoad false 1 p37))
 (step0 p39 (gP (iMkf 250 [p3]))
 (step0 p40 (gCall 224 [p38, p39])
 endG)))))
noncomputable def c229_4 : CEv := (cCond p40 (cSeq (cReg (step0 p2 (gMov (.c (.int 63 0)))
 endG))
 cRet)
 cSkip)
noncomputable def c229_5 : CEv := (cReg (step0 p41 (gMov p4)
 (step0 p2 (gMov p41)
 endG)))
noncomputable def sh229 : Fs := .mk [p2]
 (cSeq c229_0
 (cSeq c229_1
 (cSeq c229_2
 (cSeq (cSeq c229_3
 c229_4)
 (cSeq c229_5
 cRet)))))
noncomputable def c230_0 : CEv := (cReg (step0 p4 (gE (iBox 43 p0))
 (step0 p5 (gMov (.c (.bool false)))
 endG)))
noncomputable def c230_1 : CEv := (cReg (step0 p6 (gP (iLoad false 1 p1))
 (step0 p7 (gP (iLoad true 6 p4))
 (step0 p8 (gP (iLoad false 1 p2))
 (step0 p9 (gP (iLoad false 1 p3))
 (step0 p10 (gCall 197 [p6, p7, p8, p9])
 (step0 p11 (gP (iNot p10))
 (step0 p5 (gMov p11)
 endG))))))))
noncomputable def sh230 : Fs := .mk [p5]
 (cSeq c230_0
 (cSeq c230_1
 cRet))
noncomputable def c231_0 : CEv := (cReg (step0 p3 (gE (iBox 140 p0))
 (step0 p5 (gE (iBox 9 p2))
 (step0 p6 (gMov (.c (.bool false)))
 endG))))
noncomputable def c231_1 : CEv := (cReg (step0 p7 (gMov p1)
 (step0 p8 (gP (iLenL p7))
 (step0 p9 (gP (iInt fGtr 63 p8 (.c (.int 63 0))))
 (step0 p10 (gMov p9)
 (stepG p11 (gMov p1) (p10, true)
 (stepG p12 (gP (iMkf 252 [p3, p5])) (p10, true)
 (stepG p13 (gCall 251 [p11, p12]) (p10, true)
 (stepG p14 (gP (iNot p13)) (p10, true)
 (step0 p15 (gP (iPick p10 p14 (.c (.bool false))))
 (step0 p6 (gMov p15)
 endG)))))))))))
noncomputable def sh231 : Fs := .mk [p6]
 (cSeq c231_0
 (cSeq c231_1
 cRet))
noncomputable def c234_0 : CEv := (cReg (step0 p2 (gE (iBox 163 p0))
 (step0 p3 (gE (iBox 89 p1))
 (step0 p4 (gE (iAlloc 163 [(.ref 2 0 0 0 0 false), (.ref 2 0 0 0 0 false)]))
 endG))))
noncomputable def c234_1 : CEv := (cReg (step0 p5 (gP (iFad 1 p2))
 (step0 p6 (gP (iLoad false 1 p5))
 (step0 p7 (gP (iFad 3 p3))
 (step0 none (gE (iStore 1 p7 p6))
 endG)))))
noncomputable def c234_2 : CEv := (cDraw [p8, p9, p10, p11, p12, p13, p14, p15, p16, p17, p18, p19, p20] (stepR [p2] p8 (gP (iFad 0 p2)) none
 (stepR [p8] p9 (gP (iLoad false 1 p8)) none
 (stepR [p2] p10 (gP (iFad 0 p2)) none
 (stepR [p10] p11 (gP (iLoad false 1 p10)) none
 (stepR [p11] p12 (gP (iLenL p11)) none
 (stepR [p2] p13 (gP (iFad 0 p2)) none
 (stepR [p13] p14 (gP (iLoad false 1 p13)) none
 (stepR [p14] p15 (gP (iLenL p14)) none
 (stepR [p9, p12, p15] p16 (gP (iSll 89 4 p9 none (some (.t p12)) (some (.t p15)))) none
 (stepR [p3] p17 (gP (iLoad true 4 p3)) none
 (stepL [p17] p18 (gE (iBsl 89 1 [(.int 63 0), (.str []), (.ref 2 0 0 0 0 false), (.ref 2 0 0 0 0 false)] [(0, (4, p17))])) none
 (stepL [p16, p18] p19 (gE (iApp false 89 4 72 p16 p18)) none
 (stepR [p19] p20 (gP (iBuild [(.ref 2 0 0 0 0 false), (.ref 2 0 0 0 0 false)] [(0, (1, p19))])) none
 (stepL [p4, p20] none (gE (iStore 2 p4 p20)) none
 endD)))))))))))))))
noncomputable def sh234 : Fs := .mk [(.m p4 true 2)]
 (cSeq c234_0
 (cSeq c234_1
 (cSeq c234_2
 cRet)))
noncomputable def c235_0 : CEv := (cReg (step0 p4 (gMov (.c (.bool false)))
 endG))
noncomputable def c235_1 : CEv := (cReg (step0 p5 (gMov p0)
 (step0 p6 (gMov p1)
 (step0 p7 (gP (iNck p5))
 (step0 p8 (gP (iIaa 256 1 p7 p6))
 (step0 p9 (gP (iLoad false 1 p8))
 (step0 p4 (gMov p9)
 endG)))))))
noncomputable def sh235 : Fs := .mk [p4]
 (cSeq c235_0
 (cSeq c235_1
 cRet))
noncomputable def c237_0 : CEv := (cReg (step0 p4 (gMov (.c (.bool false)))
 endG))
noncomputable def c237_1 : CEv := (cReg (step0 p5 (gMov p0)
 (step0 p6 (gMov p1)
 (step0 p7 (gCall 255 [p5, p6])
 (step0 p8 (gP (iInt fGeq 63 p7 (.c (.int 63 0))))
 (step0 p4 (gMov p8)
 endG))))))
noncomputable def sh237 : Fs := .mk [p4]
 (cSeq c237_0
 (cSeq c237_1
 cRet))
noncomputable def c238_0 : CEv := (cReg (step0 p4 (gMov (.c (.bool false)))
 endG))
noncomputable def c238_1 : CEv := (cReg (step0 p5 (gMov p0)
 (step0 p6 (gMov p1)
 (step0 p7 (gCall 256 [p5, p6])
 (step0 p4 (gMov p7)
 endG)))))
noncomputable def sh238 : Fs := .mk [p4]
 (cSeq c238_0
 (cSeq c238_1
 cRet))
noncomputable def c239_0 : CEv := (cReg (step0 p2 (gMov (.c (.bool false)))
 endG))
noncomputable def c239_1 : CEv := (cReg (step0 p3 (gMov p0)
 (step0 p4 (gCall 210 [p3])
 (step0 p5 (gMov p4)
 (stepG p6 (gMov p0) (p5, false)
 (stepG p7 (gCall 212 [p6]) (p5, false)
 (step0 p8 (gP (iPick p5 (.c (.bool true)) p7))
 (step0 p2 (gMov p8)
 endG))))))))
noncomputable def sh239 : Fs := .mk [p2]
 (cSeq c239_0
 (cSeq c239_1
 cRet))
noncomputable def c240_0 : CEv := (cReg (step0 p6 (gMov (.c (.int 63 0)))
 (step0 p7 (gMov (.c (.ref 7 0 0 0 0 false)))
 endG)))
noncomputable def c240_1 : CEv := (cReg (step0 p10 (gMov p0)
 (step0 p11 (gMov p1)
 (step0 p12 (gMov p2)
 (step0 p13 (gCall 257 [p10, p11, p12])
 (step0 p9 (gMov p13)
 (step0 p14 (gP (iExt p9 0))
 (step0 p15 (gP (iExt p9 1))
 (step0 p8 (gMov p14)
 (step0 p7 (gMov p15)
 endG))))))))))
noncomputable def c240_2 : CEv := (cReg (step0 p16 (gMov p7)
 (step0 p17 (gP (iEqn true 7 101 p16 (.c (.ref 7 0 0 0 0 false))))
 endG)))
noncomputable def c240_3 : CEv := (cCond p17 (cSeq (cReg (step0 p18 (gMov p8)
 (step0 p19 (gMov p0)
 (step0 p20 (gMov p1)
 (step0 p21 (gMov p2)
 (step0 p22 (gMov p7)
 (step0 p23 (gCall 258 [(.c (.str [80, 97, 114, 115, 101, 73, 110, 116])), p19, p20, p21, p22])
 (step0 p6 (gMov p18)
 (step0 p7 (gMov p23)
 endG)))))))))
 cRet)
 cSkip)
noncomputable def c240_4 : CEv := (cReg (step0 p24 (gMov p8)
 (step0 p6 (gMov p24)
 (step0 p7 (gMov (.c (.ref 7 0 0 0 0 false)))
 endG))))
noncomputable def sh240 : Fs := .mk [p6, p7]
 (cSeq c240_0
 (cSeq c240_1
 (cSeq (cSeq c240_2
 c240_3)
 (cSeq c240_4
 cRet))))
noncomputable def c241_0 : CEv := (cReg (step0 p0 (gMov (.c (.ref 2 0 0 0 0 false)))
 endG))
noncomputable def c241_1 : CEv := (cReg (step0 p1 (gCall 259 [(.c (.str [59, 32, 33, 32, 124, 32, 40, 32, 41, 32, 123, 32, 125, 32, 44, 32, 91, 32, 93, 32, 46, 32, 43, 32, 45, 32, 42, 32, 47, 32, 37, 32, 60, 32, 62, 32, 61, 61, 32, 33, 61, 32, 60, 61, 32, 62, 61, 32, 38, 38, 32, 124, 124]))])
 (step0 p0 (gMov p1)
 endG)))
noncomputable def sh241 : Fs := .mk [p0]
 (cSeq c241_0
 (cSeq c241_1
 cRet))
noncomputable def c242_0 : CEv := (cReg (step0 p4 (gMov p0)
 (step0 p5 (gMov p0)
 (step0 p6 (gP (iLenL p5))
 (step0 p7 (gMov p1)
 (step0 p8 (gCall 260 [p4, p6, p7])
 endG))))))
noncomputable def sh242 : Fs := .mk []
 c242_0
noncomputable def c243_0 : CEv := (cReg (step0 p4 (gMov (.c (.int 63 0)))
 endG))
noncomputable def c243_1 : CEv := (cReg (step0 p5 (gMov p1)
 (step0 p6 (gP (iLenS p5))
 (step0 p7 (gMov p0)
 (step0 p8 (gP (iLenS p7))
 (step0 p9 (gP (iInt fSub 63 p6 p8))
 (step0 p4 (gMov p9)
 endG)))))))
noncomputable def sh243 : Fs := .mk [p4]
 (cSeq c243_0
 (cSeq c243_1
 cRet))
noncomputable def c244_0 : CEv := (cReg (step0 p4 (gMov (.c (.int 63 0)))
 endG))
noncomputable def c244_1 : CEv := (cReg (step0 p6 (gMov p0)
 (step0 p7 (gP (iLenL p6))
 (step0 p8 (gMov (.c (.int 63 0)))
 endG))))
noncomputable def d244_0 : CEv := (cSeq (cReg (step0 p10 (gMov p8)
 (step0 p5 (gMov p10)
 endG)))
 (cSeq (cReg (step0 p11 (gMov p1)
 (step0 p12 (gMov p0)
 (step0 p13 (gMov p5)
 (step0 p14 (gP (iIad 1 p12 p13))
 (step0 p15 (gP (iLoad false 1 p14))
 (step0 p16 (gDyn p11 [p15])
 endG)))))))
 (cCond p16 (cSeq (cReg (step0 p17 (gMov p5)
 (step0 p4 (gMov p17)
 endG)))
 cRet)
 cSkip)))
noncomputable def b244_0 : CEv := (cSeq (cReg (step0 p9 (gP (iInt fLss 63 p8 p7))
 endG))
 (cSeq (cCond p9 cSkip
 (cExit 0))
 (cSeq (cBlock 1 d244_0)
 (cReg (step0 p18 (gP (iInt fAdd 63 p8 (.c (.int 63 1))))
 (step0 p8 (gMov p18)
 endG))))))
noncomputable def c244_2 : CEv := (cBlock 0 (cLoop b244_0))
noncomputable def c244_3 : CEv := (cReg (step0 p4 (gMov (.c (.int 63 (-1))))
 endG))
noncomputable def sh244 : Fs := .mk [p4]
 (cSeq c244_0
 (cSeq (cSeq c244_1
 c244_2)
 (cSeq c244_3
 cRet)))
noncomputable def c245_0 : CEv := (cReg (step0 p3 (gMov (.c (.bool false)))
 endG))
noncomputable def c245_1 : CEv := (cReg (step0 p4 (gP (iLoad false 1 p1))
 (step0 p5 (gMov p0)
 (step0 p6 (gCall 238 [p4, p5])
 (step0 p3 (gMov p6)
 endG)))))
noncomputable def sh245 : Fs := .mk [p3]
 (cSeq c245_0
 (cSeq c245_1
 cRet))
noncomputable def c248_0 : CEv := (cReg (step0 p4 (gMov (.c (.int 63 0)))
 endG))
noncomputable def c248_1 : CEv := (cReg (step0 p6 (gMov p0)
 (step0 p7 (gP (iLenL p6))
 (step0 p8 (gMov (.c (.int 63 0)))
 endG))))
noncomputable def d248_0 : CEv := (cSeq (cReg (step0 p10 (gMov p8)
 (step0 p5 (gMov p10)
 endG)))
 (cSeq (cReg (step0 p11 (gMov p1)
 (step0 p12 (gMov p0)
 (step0 p13 (gMov p5)
 (step0 p14 (gP (iIad 6 p12 p13))
 (step0 p15 (gP (iLoad true 6 p14))
 (step0 p16 (gDyn p11 [p15])
 endG)))))))
 (cCond p16 (cSeq (cReg (step0 p17 (gMov p5)
 (step0 p4 (gMov p17)
 endG)))
 cRet)
 cSkip)))
noncomputable def b248_0 : CEv := (cSeq (cReg (step0 p9 (gP (iInt fLss 63 p8 p7))
 endG))
 (cSeq (cCond p9 cSkip
 (cExit 0))
 (cSeq (cBlock 1 d248_0)
 (cReg (step0 p18 (gP (iInt fAdd 63 p8 (.c (.int 63 1))))
 (step0 p8 (gMov p18)
 endG))))))
noncomputable def c248_2 : CEv := (cBlock 0 (cLoop b248_0))
noncomputable def c248_3 : CEv := (cReg (step0 p4 (gMov (.c (.int 63 (-1))))
 endG))
noncomputable def sh248 : Fs := .mk [p4]
 (cSeq c248_0
 (cSeq (cSeq c248_1
 c248_2)
 (cSeq c248_3
 cRet)))
noncomputable def c250_0 : CEv := (cReg (step0 p2 (gE (iBox 43 p0))
 (step0 p3 (gMov (.c (.bool false)))
 endG)))
noncomputable def c250_1 : CEv := (cDraw [p4, p5, p6, p7, p3] (stepR [p2] p4 (gP (iLoad true 6 p2)) none
 (stepQ 2 [p1] p6 (gP (iLoad false 1 p1)) none
 (stepC [2] [p4] p5 (gCall 229 [p4]) none
 (stepR [p5, p6] p7 (gP (iInt fNeq 63 p5 p6)) none
 (stepR [p7] p3 (gMov p7) none
 endD))))))
noncomputable def sh250 : Fs := .mk [p3]
 (cSeq c250_0
 (cSeq c250_1
 cRet))
noncomputable def c251_0 : CEv := (cReg (step0 p4 (gMov (.c (.bool false)))
 endG))
noncomputable def c251_1 : CEv := (cReg (step0 p5 (gMov p0)
 (step0 p6 (gMov p1)
 (step0 p7 (gCall 262 [p5, p6])
 (step0 p8 (gP (iInt fGeq 63 p7 (.c (.int 63 0))))
 (step0 p4 (gMov p8)
 endG))))))
noncomputable def sh251 : Fs := .mk [p4]
 (cSeq c251_0
 (cSeq c251_1
 cRet))
noncomputable def c252_0 : CEv := (cReg (step0 p4 (gMov (.c (.bool false)))
 endG))
noncomputable def c252_1 : CEv := (cDraw [p5, p6, p7, p8, p9, p10, p11, p12, p13, p14, p4] (stepR [p1] p5 (gP (iLoad false 1 p1)) none
 (stepR [p5] p6 (gP (iNck p5)) none
 (stepR [p6] p7 (gP (iFad 0 p6)) none
 (stepR [p7] p8 (gP (iLoad false 1 p7)) none
 (stepR [p0] p9 (gMov p0) none
 (stepR [p8, p9] p10 (gP (iIad 2 p8 p9)) none
 (stepR [p10] p11 (gP (iLoad true 2 p10)) none
 (stepR [p2] p12 (gP (iLoad false 1 p2)) none
 (stepL [p11, p12] p13 (gCall 195 [p11, p12]) none
 (stepR [p13] p14 (gP (iInt fLss 63 p13 (.c (.int 63 0)))) none
 (stepR [p14] p4 (gMov p14) none
 endD))))))))))))
noncomputable def sh252 : Fs := .mk [p4]
 (cSeq c252_0
 (cSeq c252_1
 cRet))
noncomputable def c255_0 : CEv := (cReg (step0 p4 (gMov (.c (.int 63 0)))
 endG))
noncomputable def b255_0 : CEv := (cSeq (cReg (step0 p176 (gE (iNxt p175))
 (step0 p177 (gP (iExt p176 0))
 endG)))
 (cSeq (cCond p177 cSkip
 (cExit 9))
 (cBlock 10 (cSeq (cReg (step0 p178 (gP (iExt p176 1))
 (step0 p179 (gP (iExt p176 2))
 (step0 p5 (gMov p178)
 (step0 p6 (gMov p179)
 endG)))))
 (cSeq (cReg (step0 p180 (gMov p6)
 (step0 p181 (gP (iInt fEql 31 p180 (.c (.int 31 65533))))
 endG)))
 (cCond p181 (cSeq (cReg (step0 p182 (gMov p5)
 (step0 p4 (gMov p182)
 endG)))
 cRet)
 cSkip))))))
noncomputable def b255_1 : CEv := (cSeq (cSeq (cReg (step0 p48 (gMov p12)
 (step0 p49 (gMov p7)
 (step0 p50 (gP (iLenS p49))
 (step0 p51 (gP (iInt fLss 63 p48 p50))
 endG)))))
 (cCond p51 cSkip
 (cExit 3)))
 (cSeq (cBlock 4 (cSeq (cDraw [p54, p55, p56, p57, p58, p59, p60, p61, p62, p63, p64] (stepR [p0] p54 (gMov p0) none
 (stepR [p9] p55 (gMov p9) none
 (stepR [p12] p56 (gMov p12) none
 (stepR [p55, p56] p57 (gP (iInt fSub 63 p55 p56)) none
 (stepR [p54, p57] p58 (gP (iIxs p54 p57)) none
 (stepR [p7] p59 (gMov p7) none
 (stepR [p8] p60 (gMov p8) none
 (stepR [p12] p61 (gMov p12) none
 (stepR [p60, p61] p62 (gP (iInt fSub 63 p60 p61)) none
 (stepR [p59, p62] p63 (gP (iIxs p59 p62)) none
 (stepR [p58, p63] p64 (gP (iInt fNeq 8 p58 p63)) none
 endD))))))))))))
 (cCond p64 cNo
 cSkip)))
 (cReg (step0 p52 (gMov p12)
 (step0 p53 (gP (iInt fAdd 63 p52 (.c (.int 63 1))))
 (step0 p12 (gMov p53)
 endG))))))
noncomputable def b255_2 : CEv := (cSeq (cSeq (cReg (step0 p23 (gMov p9)
 (step0 p24 (gMov p0)
 (step0 p25 (gP (iLenS p24))
 (step0 p26 (gP (iInt fLss 63 p23 p25))
 endG)))))
 (cCond p26 cSkip
 (cExit 1)))
 (cBlock 2 (cSeq (cSeq (cDraw [p27, p28, p29, p30, p31, p32, p33] (stepR [p0] p27 (gMov p0) none
 (stepR [p9] p28 (gMov p9) none
 (stepR [p27, p28] p29 (gP (iIxs p27 p28)) none
 (stepR [p7] p30 (gMov p7) none
 (stepR [p8] p31 (gMov p8) none
 (stepR [p30, p31] p32 (gP (iIxs p30 p31)) none
 (stepR [p29, p32] p33 (gP (iInt fNeq 8 p29 p32)) none
 endD))))))))
 (cCond p33 (cSeq (cDraw [p34, p35, p36, p37, p38, p39, p40, p41, p11] (stepR [p0] p34 (gMov p0) none
 (stepR [p9] p35 (gMov p9) none
 (stepR [p35] p36 (gP (iInt fAdd 63 p35 (.c (.int 63 1)))) none
 (stepR [p34, p36] p37 (gP (iSls p34 (some (.t p36)) none)) none
 (stepR [p7] p38 (gMov p7) none
 (stepR [p8] p39 (gMov p8) none
 (stepR [p38, p39] p40 (gP (iIxs p38 p39)) none
 (stepL [p37, p40] p41 (gCall 264 [p37, p40]) none
 (stepR [p41] p11 (gMov p41) none
 endD))))))))))
 (cSeq (cSeq (cReg (step0 p42 (gMov p11)
 (step0 p43 (gP (iInt fLss 63 p42 (.c (.int 63 0))))
 endG)))
 (cCond p43 (cSeq (cReg (step0 p4 (gMov (.c (.int 63 (-1))))
 endG))
 cRet)
 cSkip))
 (cReg (step0 p44 (gMov p9)
 (step0 p45 (gMov p11)
 (step0 p46 (gP (iInt fAdd 63 p45 (.c (.int 63 1))))
 (step0 p47 (gP (iInt fAdd 63 p44 p46))
 (step0 p9 (gMov p47)
 endG))))))))
 cSkip))
 (cSeq (cSeq (cReg (step0 p12 (gMov (.c (.int 63 1)))
 endG))
 (cBlock 3 (cLoop b255_1)))
 (cSeq (cSeq (cReg (step0 p65 (gMov p9)
 (step0 p66 (gMov p8)
 (step0 p67 (gP (iInt fSub 63 p65 p66))
 (step0 p4 (gMov p67)
 endG)))))
 cRet)
 (cSeq cNo
 (cSeq (cReg (step0 p68 (gMov p10)
 (step0 p69 (gP (iInt fAdd 63 p68 (.c (.int 63 1))))
 (step0 p10 (gMov p69)
 endG))))
 (cSeq (cReg (step0 p70 (gMov p9)
 (step0 p71 (gP (iInt fAdd 63 p70 (.c (.int 63 1))))
 (step0 p9 (gMov p71)
 endG))))
 (cSeq (cReg (step0 p72 (gMov (.c (.bool true)))
 (stepG p73 (gMov p10) (p72, true)
 (stepG p74 (gMov p9) (p72, true)
 (stepG p75 (gCall 266 [p74]) (p72, true)
 (stepG p76 (gP (iInt fGtr 63 p73 p75)) (p72, true)
 (step0 p77 (gP (iPick p72 p76 (.c (.bool false))))
 (step0 p78 (gMov p77)
 (stepG p79 (gMov p9) (p78, true)
 (stepG p80 (gMov p0) (p78, true)
 (stepG p81 (gP (iLenS p80)) (p78, true)
 (stepG p82 (gP (iInt fLss 63 p79 p81)) (p78, true)
 (step0 p83 (gP (iPick p78 p82 (.c (.bool false))))
 (step0 p84 (gMov p83)
 (stepG p85 (gMov (.c (.bool false))) (p84, false)
 (stepG p86 (gMov p10) (p85, true)
 (stepG p87 (gMov p9) (p85, true)
 (stepG p88 (gP (iSh fShr 63 p87 (.c (.int 64 4)))) (p85, true)
 (stepG p89 (gP (iInt fAdd 63 (.c (.int 63 4)) p88)) (p85, true)
 (stepG p90 (gP (iInt fGeq 63 p86 p89)) (p85, true)
 (stepG p91 (gP (iPick p85 p90 (.c (.bool false)))) (p84, false)
 (stepG p92 (gMov p91) (p84, false)
 (stepG p93 (gMov p9) (p92, true)
 (stepG p94 (gMov p0) (p92, true)
 (stepG p95 (gP (iLenS p94)) (p92, true)
 (stepG p96 (gP (iInt fLss 63 p93 p95)) (p92, true)
 (stepG p97 (gP (iPick p92 p96 (.c (.bool false)))) (p84, false)
 (step0 p98 (gP (iPick p84 (.c (.bool true)) p97))
 endG))))))))))))))))))))))))))))
 (cCond p98 cNo
 cSkip))))))))))
noncomputable def b255_3 : CEv := (cSeq (cSeq (cReg (step0 p140 (gMov p16)
 (step0 p141 (gMov p7)
 (step0 p142 (gP (iLenS p141))
 (step0 p143 (gP (iInt fLss 63 p140 p142))
 endG)))))
 (cCond p143 cSkip
 (cExit 7)))
 (cSeq (cBlock 8 (cSeq (cDraw [p146, p147, p148, p149, p150, p151, p152, p153, p154, p155, p156] (stepR [p0] p146 (gMov p0) none
 (stepR [p9] p147 (gMov p9) none
 (stepR [p16] p148 (gMov p16) none
 (stepR [p147, p148] p149 (gP (iInt fSub 63 p147 p148)) none
 (stepR [p146, p149] p150 (gP (iIxs p146 p149)) none
 (stepR [p7] p151 (gMov p7) none
 (stepR [p8] p152 (gMov p8) none
 (stepR [p16] p153 (gMov p16) none
 (stepR [p152, p153] p154 (gP (iInt fSub 63 p152 p153)) none
 (stepR [p151, p154] p155 (gP (iIxs p151 p154)) none
 (stepR [p150, p155] p156 (gP (iInt fNeq 8 p150 p155)) none
 endD))))))))))))
 (cCond p156 (cExit 6)
 cSkip)))
 (cReg (step0 p144 (gMov p16)
 (step0 p145 (gP (iInt fAdd 63 p144 (.c (.int 63 1))))
 (step0 p16 (gMov p145)
 endG))))))
noncomputable def b255_4 : CEv := (cSeq (cSeq (cReg (step0 p121 (gMov p9)
 (step0 p122 (gMov p0)
 (step0 p123 (gP (iLenS p122))
 (step0 p124 (gP (iInt fLss 63 p121 p123))
 endG)))))
 (cCond p124 cSkip
 (cExit 5)))
 (cSeq (cBlock 6 (cSeq (cReg (step0 p127 (gMov p0)
 (step0 p128 (gMov p9)
 (step0 p129 (gP (iIxs p127 p128))
 (step0 p130 (gMov p14)
 (step0 p131 (gP (iInt fEql 8 p129 p130))
 (step0 p132 (gMov p131)
 (stepG p133 (gMov p0) (p132, true)
 (stepG p134 (gMov p9) (p132, true)
 (stepG p135 (gP (iInt fSub 63 p134 (.c (.int 63 1)))) (p132, true)
 (stepG p136 (gP (iIxs p133 p135)) (p132, true)
 (stepG p137 (gMov p15) (p132, true)
 (stepG p138 (gP (iInt fEql 8 p136 p137)) (p132, true)
 (step0 p139 (gP (iPick p132 p138 (.c (.bool false))))
 endG))))))))))))))
 (cCond p139 (cSeq (cSeq (cReg (step0 p16 (gMov (.c (.int 63 2)))
 endG))
 (cBlock 7 (cLoop b255_3)))
 (cSeq (cReg (step0 p157 (gMov p9)
 (step0 p158 (gMov p8)
 (step0 p159 (gP (iInt fSub 63 p157 p158))
 (step0 p4 (gMov p159)
 endG)))))
 cRet))
 cSkip)))
 (cReg (step0 p125 (gMov p9)
 (step0 p126 (gP (iInt fAdd 63 p125 (.c (.int 63 1))))
 (step0 p9 (gMov p126)
 endG))))))
noncomputable def c255_1 : CEv := (cBlock 0 (cSeq (cReg (step0 p161 (gMov p1)
 (step0 p162 (gP (iInt fLeq 31 (.c (.int 31 0)) p161))
 (step0 p163 (gMov p162)
 (stepG p164 (gMov p1) (p163, true)
 (stepG p165 (gP (iInt fLss 31 p164 (.c (.int 31 128)))) (p163, true)
 (step0 p166 (gP (iPick p163 p165 (.c (.bool false))))
 (step0 p160 (gMov p166)
 endG))))))))
 (cCond p160 (cSeq (cReg (step0 p167 (gMov p0)
 (step0 p168 (gMov p1)
 (step0 p169 (gP (iCvi 8 p168))
 (step0 p170 (gCall 264 [p167, p169])
 (step0 p4 (gMov p170)
 endG))))))
 cRet)
 (cSeq (cReg (step0 p172 (gMov p1)
 (step0 p173 (gP (iInt fEql 31 p172 (.c (.int 31 65533))))
 (step0 p171 (gMov p173)
 endG))))
 (cCond p171 (cSeq (cSeq (cReg (step0 p174 (gMov p0)
 (step0 p175 (gE (iRng p174))
 endG)))
 (cBlock 9 (cLoop b255_0)))
 (cSeq (cReg (step0 p4 (gMov (.c (.int 63 (-1))))
 endG))
 cRet))
 (cSeq (cReg (step0 p184 (gMov p1)
 (step0 p185 (gCall 265 [p184])
 (step0 p186 (gP (iNot p185))
 (step0 p183 (gMov p186)
 endG)))))
 (cCond p183 (cSeq (cReg (step0 p4 (gMov (.c (.int 63 (-1))))
 endG))
 cRet)
 (cSeq (cReg (step0 p17 (gMov p1)
 (step0 p18 (gP (iCvis p17))
 (step0 p7 (gMov p18)
 endG))))
 (cSeq (cReg (step0 p19 (gMov p7)
 (step0 p20 (gP (iLenS p19))
 (step0 p21 (gP (iInt fSub 63 p20 (.c (.int 63 1))))
 (step0 p8 (gMov p21)
 endG)))))
 (cSeq (cReg (step0 p22 (gMov p8)
 (step0 p9 (gMov p22)
 endG)))
 (cSeq (cReg (step0 p10 (gMov (.c (.int 63 0)))
 endG))
 (cSeq (cBlock 1 (cLoop b255_2))
 (cSeq (cSeq (cReg (step0 p4 (gMov (.c (.int 63 (-1))))
 endG))
 cRet)
 (cSeq cNo
 (cSeq (cCond (.c (.bool true)) (cSeq (cReg (step0 p99 (gMov p0)
 (step0 p100 (gMov p9)
 (step0 p101 (gMov p8)
 (step0 p102 (gP (iInt fSub 63 p100 p101))
 (step0 p103 (gP (iSls p99 (some (.t p102)) none))
 (step0 p104 (gMov p1)
 (step0 p105 (gP (iCvis p104))
 (step0 p106 (gCall 267 [p103, p105])
 (step0 p13 (gMov p106)
 endG))))))))))
 (cSeq (cReg (step0 p107 (gMov p13)
 (step0 p108 (gP (iInt fGeq 63 p107 (.c (.int 63 0))))
 endG)))
 (cCond p108 (cSeq (cReg (step0 p109 (gMov p9)
 (step0 p110 (gMov p13)
 (step0 p111 (gP (iInt fAdd 63 p109 p110))
 (step0 p112 (gMov p8)
 (step0 p113 (gP (iInt fSub 63 p111 p112))
 (step0 p4 (gMov p113)
 endG)))))))
 cRet)
 cSkip)))
 (cSeq (cReg (step0 p114 (gMov p7)
 (step0 p115 (gMov p8)
 (step0 p116 (gP (iIxs p114 p115))
 (step0 p14 (gMov p116)
 endG)))))
 (cSeq (cReg (step0 p117 (gMov p7)
 (step0 p118 (gMov p8)
 (step0 p119 (gP (iInt fSub 63 p118 (.c (.int 63 1))))
 (step0 p120 (gP (iIxs p117 p119))
 (step0 p15 (gMov p120)
 endG))))))
 (cSeq cNo
 (cBlock 5 (cLoop b255_4))))))
 (cSeq (cReg (step0 p4 (gMov (.c (.int 63 (-1))))
 endG))
 cRet))))))))))))))))
noncomputable def sh255 : Fs := .mk [p4]
 (cSeq c255_0
 c255_1)
noncomputable def c256_0 : CEv := (cReg (step0 p4 (gMov (.c (.bool false)))
 endG))
noncomputable def c256_1 : CEv := (cReg (step0 p5 (gMov p0)
 (step0 p6 (gP (iLenS p5))
 (step0 p7 (gMov p1)
 (step0 p8 (gP (iLenS p7))
 (step0 p9 (gP (iInt fGeq 63 p6 p8))
 (step0 p10 (gMov p9)
 (stepG p11 (gMov p0) (p10, true)
 (stepG p12 (gMov p1) (p10, true)
 (stepG p13 (gP (iLenS p12)) (p10, true)
 (stepG p14 (gP (iSls p11 none (some (.t p13)))) (p10, true)
 (stepG p15 (gMov p1) (p10, true)
 (stepG p16 (gP (iStr sEql p14 p15)) (p10, true)
 (step0 p17 (gP (iPick p10 p16 (.c (.bool false))))
 (step0 p4 (gMov p17)
 endG)))))))))))))))
noncomputable def sh256 : Fs := .mk [p4]
 (cSeq c256_0
 (cSeq c256_1
 cRet))
noncomputable def c257_0 : CEv := (cReg (step0 p6 (gMov (.c (.int 63 0)))
 (step0 p7 (gMov (.c (.ref 7 0 0 0 0 false)))
 endG)))
noncomputable def c257_1 : CEv := (cReg (step0 p12 (gMov p0)
 (step0 p13 (gP (iStr sEql p12 (.c (.str []))))
 endG)))
noncomputable def c257_2 : CEv := (cCond p13 (cSeq (cReg (step0 p14 (gP (iMki 318 (.c (.int 63 2))))
 (step0 p6 (gMov (.c (.int 63 0)))
 (step0 p7 (gMov p14)
 endG))))
 cRet)
 cSkip)
noncomputable def c257_3 : CEv := (cReg (step0 p8 (gMov (.c (.bool false)))
 endG))
noncomputable def c257_4 : CEv := (cReg (step0 p15 (gMov p0)
 (step0 p16 (gP (iIxs p15 (.c (.int 63 0))))
 endG)))
noncomputable def c257_5 : CEv := (cBlock 0 (cSeq (cReg (step0 p18 (gP (iInt fEql 8 p16 (.c (.int 8 43))))
 (step0 p17 (gMov p18)
 endG)))
 (cCond p17 (cReg (step0 p19 (gMov p0)
 (step0 p20 (gP (iSls p19 (some (.c (.int 63 1))) none))
 (step0 p0 (gMov p20)
 endG))))
 (cSeq (cReg (step0 p22 (gP (iInt fEql 8 p16 (.c (.int 8 45))))
 (step0 p21 (gMov p22)
 endG)))
 (cCond p21 (cSeq (cReg (step0 p23 (gMov p0)
 (step0 p24 (gP (iSls p23 (some (.c (.int 63 1))) none))
 (step0 p0 (gMov p24)
 endG))))
 (cReg (step0 p8 (gMov (.c (.bool true)))
 endG)))
 cSkip)))))
noncomputable def c257_6 : CEv := (cReg (step0 p9 (gMov (.c (.int 64 0)))
 endG))
noncomputable def c257_7 : CEv := (cReg (step0 p26 (gMov p0)
 (step0 p27 (gMov p1)
 (step0 p28 (gMov p2)
 (step0 p29 (gCall 268 [p26, p27, p28])
 (step0 p25 (gMov p29)
 (step0 p30 (gP (iExt p25 0))
 (step0 p31 (gP (iExt p25 1))
 (step0 p9 (gMov p30)
 (step0 p7 (gMov p31)
 endG))))))))))
noncomputable def c257_8 : CEv := (cReg (step0 p32 (gMov p7)
 (step0 p33 (gP (iEqn true 7 101 p32 (.c (.ref 7 0 0 0 0 false))))
 (step0 p34 (gMov p33)
 (stepG p35 (gMov p7) (p34, true)
 (stepG p36 (gP (iMki 318 (.c (.int 63 1)))) (p34, true)
 (stepG p37 (gP (iEqi true plains p35 p36)) (p34, true)
 (step0 p38 (gP (iPick p34 p37 (.c (.bool false))))
 endG))))))))
noncomputable def c257_9 : CEv := (cCond p38 (cSeq (cReg (step0 p39 (gMov p7)
 (step0 p6 (gMov (.c (.int 63 0)))
 (step0 p7 (gMov p39)
 endG))))
 cRet)
 cSkip)
noncomputable def c257_10 : CEv := (cReg (step0 p40 (gMov p2)
 (step0 p41 (gP (iInt fEql 63 p40 (.c (.int 63 0))))
 endG)))
noncomputable def c257_11 : CEv := (cCond p41 (cReg (step0 p2 (gMov (.c (.int 63 64)))
 endG))
 cSkip)
noncomputable def c257_12 : CEv := (cReg (step0 p42 (gMov p2)
 (step0 p43 (gP (iInt fSub 63 p42 (.c (.int 63 1))))
 (step0 p44 (gP (iCvi 64 p43))
 (step0 p45 (gP (iSh fShl 64 (.c (.int 64 1)) p44))
 (step0 p10 (gMov p45)
 endG))))))
noncomputable def c257_13 : CEv := (cReg (step0 p46 (gMov p8)
 (step0 p47 (gP (iNot p46))
 (step0 p48 (gMov p47)
 (stepG p49 (gMov p9) (p48, true)
 (stepG p50 (gMov p10) (p48, true)
 (stepG p51 (gP (iInt fGeq 64 p49 p50)) (p48, true)
 (step0 p52 (gP (iPick p48 p51 (.c (.bool false))))
 endG))))))))
noncomputable def c257_14 : CEv := (cCond p52 (cSeq (cReg (step0 p53 (gMov p10)
 (step0 p54 (gP (iInt fSub 64 p53 (.c (.int 64 1))))
 (step0 p55 (gP (iCvi 63 p54))
 (step0 p56 (gP (iMki 318 (.c (.int 63 1))))
 (step0 p6 (gMov p55)
 (step0 p7 (gMov p56)
 endG)))))))
 cRet)
 cSkip)
noncomputable def c257_15 : CEv := (cReg (step0 p57 (gMov p8)
 (step0 p58 (gMov p57)
 (stepG p59 (gMov p9) (p58, true)
 (stepG p60 (gMov p10) (p58, true)
 (stepG p61 (gP (iInt fGtr 64 p59 p60)) (p58, true)
 (step0 p62 (gP (iPick p58 p61 (.c (.bool false))))
 endG)))))))
noncomputable def c257_16 : CEv := (cCond p62 (cSeq (cReg (step0 p63 (gMov p10)
 (step0 p64 (gP (iCvi 63 p63))
 (step0 p65 (gP (iNeg 63 p64))
 (step0 p66 (gP (iMki 318 (.c (.int 63 1))))
 (step0 p6 (gMov p65)
 (step0 p7 (gMov p66)
 endG)))))))
 cRet)
 cSkip)
noncomputable def c257_17 : CEv := (cReg (step0 p67 (gMov p9)
 (step0 p68 (gP (iCvi 63 p67))
 (step0 p11 (gMov p68)
 endG))))
noncomputable def c257_18 : CEv := (cReg (step0 p69 (gMov p8)
 endG))
noncomputable def c257_19 : CEv := (cCond p69 (cReg (step0 p70 (gMov p11)
 (step0 p71 (gP (iNeg 63 p70))
 (step0 p11 (gMov p71)
 endG))))
 cSkip)
noncomputable def c257_20 : CEv := (cReg (step0 p72 (gMov p11)
 (step0 p6 (gMov p72)
 (step0 p7 (gMov (.c (.ref 7 0 0 0 0 false)))
 endG))))
noncomputable def sh257 : Fs := .mk [p6, p7]
 (cSeq c257_0
 (cSeq (cSeq c257_1
 c257_2)
 (cSeq c257_3
 (cSeq (cSeq c257_4
 c257_5)
 (cSeq c257_6
 (cSeq c257_7
 (cSeq (cSeq c257_8
 c257_9)
 (cSeq (cSeq c257_10
 c257_11)
 (cSeq c257_12
 (cSeq (cSeq c257_13
 c257_14)
 (cSeq (cSeq c257_15
 c257_16)
 (cSeq c257_17
 (cSeq (cSeq c257_18
 c257_19)
 (cSeq c257_20
 cRet))))))))))))))
noncomputable def c259_0 : CEv := (cReg (step0 p2 (gMov (.c (.ref 2 0 0 0 0 false)))
 endG))
noncomputable def c259_1 : CEv := (cReg (step0 p3 (gMov (.c (.int 63 0)))
 endG))
noncomputable def c259_2 : CEv := (cReg (step0 p4 (gMov (.c (.int 63 1)))
 endG))
noncomputable def c259_3 : CEv := (cReg (step0 p5 (gMov (.c (.int 8 0)))
 endG))
noncomputable def c259_4 : CEv := (cReg (step0 p6 (gMov (.c (.int 63 0)))
 endG))
noncomputable def b259_0 : CEv := (cSeq (cSeq (cReg (step0 p13 (gMov p6)
 (step0 p14 (gMov p0)
 (step0 p15 (gP (iLenS p14))
 (step0 p16 (gP (iInt fLss 63 p13 p15))
 endG)))))
 (cCond p16 cSkip
 (cExit 0)))
 (cSeq (cBlock 1 (cSeq (cReg (step0 p19 (gMov p0)
 (step0 p20 (gMov p6)
 (step0 p21 (gP (iIxs p19 p20))
 (step0 p7 (gMov p21)
 endG)))))
 (cSeq (cReg (step0 p22 (gMov p5)
 (step0 p23 (gMov p7)
 (step0 p24 (gP (iInt fOr 8 p22 p23))
 (step0 p5 (gMov p24)
 endG)))))
 (cSeq (cReg (step0 p25 (gMov p7)
 (step0 p26 (gP (iIaa 256 1 (.c (.ref 1 6 0 0 0 false)) p25))
 (step0 p27 (gP (iLoad false 1 p26))
 (step0 p28 (gP (iCvi 63 p27))
 (step0 p8 (gMov p28)
 endG))))))
 (cSeq (cReg (step0 p29 (gMov p3)
 (step0 p30 (gMov p4)
 (step0 p31 (gMov p8)
 (step0 p32 (gP (iXor1 63 p31))
 (step0 p33 (gP (iInt fAnd 63 p30 p32))
 (step0 p34 (gP (iInt fAdd 63 p29 p33))
 (step0 p3 (gMov p34)
 endG))))))))
 (cReg (step0 p35 (gMov p8)
 (step0 p4 (gMov p35)
 endG))))))))
 (cReg (step0 p17 (gMov p6)
 (step0 p18 (gP (iInt fAdd 63 p17 (.c (.int 63 1))))
 (step0 p6 (gMov p18)
 endG))))))
noncomputable def c259_5 : CEv := (cBlock 0 (cLoop b259_0))
noncomputable def c259_6 : CEv := (cReg (step0 p36 (gMov p5)
 (step0 p37 (gP (iInt fGeq 8 p36 (.c (.int 8 128))))
 endG)))
noncomputable def c259_7 : CEv := (cCond p37 (cSeq (cReg (step0 p38 (gMov p0)
 (step0 p39 (gCall 273 [p38, (.c (.cmp 0 274 []))])
 (step0 p2 (gMov p39)
 endG))))
 cRet)
 cSkip)
noncomputable def c259_8 : CEv := (cReg (step0 p40 (gMov p3)
 (step0 p41 (gE (iMks 9 16 [(.str [])] p40 p40))
 (step0 p9 (gMov p41)
 endG))))
noncomputable def c259_9 : CEv := (cReg (step0 p10 (gMov (.c (.int 63 0)))
 endG))
noncomputable def c259_10 : CEv := (cReg (step0 p11 (gMov (.c (.int 63 0)))
 endG))
noncomputable def c259_11 : CEv := (cReg (step0 p12 (gMov (.c (.int 63 0)))
 endG))
noncomputable def b259_1 : CEv := (cSeq (cSeq (cReg (step0 p42 (gMov p12)
 (step0 p43 (gMov p0)
 (step0 p44 (gP (iLenS p43))
 (step0 p45 (gP (iInt fLss 63 p42 p44))
 (step0 p46 (gMov p45)
 (stepG p47 (gMov p0) (p46, true)
 (stepG p48 (gMov p12) (p46, true)
 (stepG p49 (gP (iIxs p47 p48)) (p46, true)
 (stepG p50 (gP (iIaa 256 1 (.c (.ref 1 6 0 0 0 false)) p49)) (p46, true)
 (stepG p51 (gP (iLoad false 1 p50)) (p46, true)
 (stepG p52 (gP (iInt fNeq 8 p51 (.c (.int 8 0)))) (p46, true)
 (step0 p53 (gP (iPick p46 p52 (.c (.bool false))))
 endG)))))))))))))
 (cCond p53 cSkip
 (cExit 2)))
 (cBlock 3 (cReg (step0 p54 (gMov p12)
 (step0 p55 (gP (iInt fAdd 63 p54 (.c (.int 63 1))))
 (step0 p12 (gMov p55)
 endG))))))
noncomputable def c259_12 : CEv := (cBlock 2 (cLoop b259_1))
noncomputable def c259_13 : CEv := (cReg (step0 p56 (gMov p12)
 (step0 p11 (gMov p56)
 endG)))
noncomputable def b259_2 : CEv := (cSeq (cSeq (cReg (step0 p80 (gMov p12)
 (step0 p81 (gMov p0)
 (step0 p82 (gP (iLenS p81))
 (step0 p83 (gP (iInt fLss 63 p80 p82))
 (step0 p84 (gMov p83)
 (stepG p85 (gMov p0) (p84, true)
 (stepG p86 (gMov p12) (p84, true)
 (stepG p87 (gP (iIxs p85 p86)) (p84, true)
 (stepG p88 (gP (iIaa 256 1 (.c (.ref 1 6 0 0 0 false)) p87)) (p84, true)
 (stepG p89 (gP (iLoad false 1 p88)) (p84, true)
 (stepG p90 (gP (iInt fNeq 8 p89 (.c (.int 8 0)))) (p84, true)
 (step0 p91 (gP (iPick p84 p90 (.c (.bool false))))
 endG)))))))))))))
 (cCond p91 cSkip
 (cExit 6)))
 (cBlock 7 (cReg (step0 p92 (gMov p12)
 (step0 p93 (gP (iInt fAdd 63 p92 (.c (.int 63 1))))
 (step0 p12 (gMov p93)
 endG))))))
noncomputable def b259_3 : CEv := (cSeq (cSeq (cReg (step0 p57 (gMov p12)
 (step0 p58 (gMov p0)
 (step0 p59 (gP (iLenS p58))
 (step0 p60 (gP (iInt fLss 63 p57 p59))
 endG)))))
 (cCond p60 cSkip
 (cExit 4)))
 (cBlock 5 (cSeq (cSeq (cReg (step0 p61 (gMov p0)
 (step0 p62 (gMov p12)
 (step0 p63 (gP (iIxs p61 p62))
 (step0 p64 (gP (iIaa 256 1 (.c (.ref 1 6 0 0 0 false)) p63))
 (step0 p65 (gP (iLoad false 1 p64))
 (step0 p66 (gP (iInt fEql 8 p65 (.c (.int 8 0))))
 endG)))))))
 (cCond p66 (cSeq (cReg (step0 p67 (gMov p12)
 (step0 p68 (gP (iInt fAdd 63 p67 (.c (.int 63 1))))
 (step0 p12 (gMov p68)
 endG))))
 (cExit 5))
 cSkip))
 (cSeq (cReg (step0 p69 (gMov p9)
 (step0 p70 (gMov p10)
 (step0 p71 (gMov p0)
 (step0 p72 (gMov p11)
 (step0 p73 (gMov p12)
 (step0 p74 (gP (iSls p71 (some (.t p72)) (some (.t p73))))
 (step0 p75 (gP (iIad 1 p69 p70))
 (step0 none (gE (iStore 1 p75 p74))
 endG)))))))))
 (cSeq (cReg (step0 p76 (gMov p10)
 (step0 p77 (gP (iInt fAdd 63 p76 (.c (.int 63 1))))
 (step0 p10 (gMov p77)
 endG))))
 (cSeq (cReg (step0 p78 (gMov p12)
 (step0 p79 (gP (iInt fAdd 63 p78 (.c (.int 63 1))))
 (step0 p12 (gMov p79)
 endG))))
 (cSeq (cBlock 6 (cLoop b259_2))
 (cReg (step0 p94 (gMov p12)
 (step0 p11 (gMov p94)
 endG))))))))))
noncomputable def c259_14 : CEv := (cBlock 4 (cLoop b259_3))
noncomputable def c259_15 : CEv := (cReg (step0 p95 (gMov p11)
 (step0 p96 (gMov p0)
 (step0 p97 (gP (iLenS p96))
 (step0 p98 (gP (iInt fLss 63 p95 p97))
 endG)))))
noncomputable def c259_16 : CEv := (cCond p98 (cReg (step0 p99 (gMov p9)
 (step0 p100 (gMov p10)
 (step0 p101 (gMov p0)
 (step0 p102 (gMov p11)
 (step0 p103 (gP (iSls p101 (some (.t p102)) none))
 (step0 p104 (gP (iIad 1 p99 p100))
 (step0 none (gE (iStore 1 p104 p103))
 endG))))))))
 cSkip)
noncomputable def c259_17 : CEv := (cReg (step0 p105 (gMov p9)
 (step0 p2 (gMov p105)
 endG)))
noncomputable def sh259 : Fs := .mk [p2]
 (cSeq c259_0
 (cSeq c259_1
 (cSeq c259_2
 (cSeq c259_3
 (cSeq (cSeq c259_4
 c259_5)
 (cSeq (cSeq c259_6
 c259_7)
 (cSeq c259_8
 (cSeq c259_9
 (cSeq c259_10
 (cSeq c259_11
 (cSeq c259_12
 (cSeq c259_13
 (cSeq c259_14
 (cSeq (cSeq c259_15
 c259_16)
 (cSeq c259_17
 cRet)))))))))))))))
noncomputable def c260_0 : CEv := (cReg (step0 p6 (gMov (.c (.int 63 20)))
 endG))
noncomputable def c260_1 : CEv := (cReg (step0 p10 (gMov p6)
 (step0 p7 (gMov (.c (.int 63 0)))
 (step0 p8 (gMov p10)
 endG))))
noncomputable def b260_0 : CEv := (cSeq (cSeq (cReg (step0 p11 (gMov p8)
 (step0 p12 (gMov p1)
 (step0 p13 (gP (iInt fLeq 63 p11 p12))
 endG))))
 (cCond p13 cSkip
 (cExit 0)))
 (cBlock 1 (cSeq (cReg (step0 p14 (gMov p0)
 (step0 p15 (gMov p7)
 (step0 p16 (gMov p8)
 (step0 p17 (gMov p2)
 (step0 p18 (gCall 275 [p14, p15, p16, p17])
 endG))))))
 (cSeq (cReg (step0 p19 (gMov p8)
 (step0 p7 (gMov p19)
 endG)))
 (cReg (step0 p20 (gMov p8)
 (step0 p21 (gMov p6)
 (step0 p22 (gP (iInt fAdd 63 p20 p21))
 (step0 p8 (gMov p22)
 endG)))))))))
noncomputable def c260_2 : CEv := (cBlock 0 (cLoop b260_0))
noncomputable def c260_3 : CEv := (cReg (step0 p23 (gMov p0)
 (step0 p24 (gMov p7)
 (step0 p25 (gMov p1)
 (step0 p26 (gMov p2)
 (step0 p27 (gCall 275 [p23, p24, p25, p26])
 endG))))))
noncomputable def b260_1 : CEv := (cSeq (cSeq (cReg (step0 p33 (gMov p8)
 (step0 p34 (gMov p1)
 (step0 p35 (gP (iInt fLeq 63 p33 p34))
 endG))))
 (cCond p35 cSkip
 (cExit 4)))
 (cBlock 5 (cSeq (cReg (step0 p36 (gMov p0)
 (step0 p37 (gMov p7)
 (step0 p38 (gMov p7)
 (step0 p39 (gMov p6)
 (step0 p40 (gP (iInt fAdd 63 p38 p39))
 (step0 p41 (gMov p8)
 (step0 p42 (gMov p2)
 (step0 p43 (gCall 276 [p36, p37, p40, p41, p42])
 endG)))))))))
 (cSeq (cReg (step0 p44 (gMov p8)
 (step0 p7 (gMov p44)
 endG)))
 (cReg (step0 p45 (gMov p8)
 (step0 p46 (gMov p6)
 (step0 p47 (gP (iInt fMul 63 (.c (.int 63 2)) p46))
 (step0 p48 (gP (iInt fAdd 63 p45 p47))
 (step0 p8 (gMov p48)
 endG))))))))))
noncomputable def b260_2 : CEv := (cSeq (cSeq (cReg (step0 p28 (gMov p6)
 (step0 p29 (gMov p1)
 (step0 p30 (gP (iInt fLss 63 p28 p29))
 endG))))
 (cCond p30 cSkip
 (cExit 2)))
 (cBlock 3 (cSeq (cReg (step0 p31 (gMov p6)
 (step0 p32 (gP (iInt fMul 63 (.c (.int 63 2)) p31))
 (step0 p7 (gMov (.c (.int 63 0)))
 (step0 p8 (gMov p32)
 endG)))))
 (cSeq (cBlock 4 (cLoop b260_1))
 (cSeq (cSeq (cReg (step0 p49 (gMov p7)
 (step0 p50 (gMov p6)
 (step0 p51 (gP (iInt fAdd 63 p49 p50))
 (step0 p9 (gMov p51)
 endG)))))
 (cSeq (cReg (step0 p52 (gMov p9)
 (step0 p53 (gMov p1)
 (step0 p54 (gP (iInt fLss 63 p52 p53))
 endG))))
 (cCond p54 (cReg (step0 p55 (gMov p0)
 (step0 p56 (gMov p7)
 (step0 p57 (gMov p9)
 (step0 p58 (gMov p1)
 (step0 p59 (gMov p2)
 (step0 p60 (gCall 276 [p55, p56, p57, p58, p59])
 endG)))))))
 cSkip)))
 (cReg (step0 p61 (gMov p6)
 (step0 p62 (gP (iInt fMul 63 p61 (.c (.int 63 2))))
 (step0 p6 (gMov p62)
 endG)))))))))
noncomputable def c260_4 : CEv := (cBlock 2 (cLoop b260_2))
noncomputable def sh260 : Fs := .mk []
 (cSeq c260_0
 (cSeq c260_1
 (cSeq c260_2
 (cSeq c260_3
 c260_4))))
noncomputable def c262_0 : CEv := (cReg (step0 p4 (gMov (.c (.int 63 0)))
 endG))
noncomputable def c262_1 : CEv := (cReg (step0 p6 (gMov p0)
 (step0 p7 (gP (iLenL p6))
 (step0 p8 (gMov (.c (.int 63 0)))
 endG))))
noncomputable def d262_0 : CEv := (cSeq (cReg (step0 p10 (gMov p8)
 (step0 p5 (gMov p10)
 endG)))
 (cSeq (cReg (step0 p11 (gMov p1)
 (step0 p12 (gMov p0)
 (step0 p13 (gMov p5)
 (step0 p14 (gP (iIad 1 p12 p13))
 (step0 p15 (gP (iLoad false 1 p14))
 (step0 p16 (gDyn p11 [p15])
 endG)))))))
 (cCond p16 (cSeq (cReg (step0 p17 (gMov p5)
 (step0 p4 (gMov p17)
 endG)))
 cRet)
 cSkip)))
noncomputable def b262_0 : CEv := (cSeq (cReg (step0 p9 (gP (iInt fLss 63 p8 p7))
 endG))
 (cSeq (cCond p9 cSkip
 (cExit 0))
 (cSeq (cBlock 1 d262_0)
 (cReg (step0 p18 (gP (iInt fAdd 63 p8 (.c (.int 63 1))))
 (step0 p8 (gMov p18)
 endG))))))
noncomputable def c262_2 : CEv := (cBlock 0 (cLoop b262_0))
noncomputable def c262_3 : CEv := (cReg (step0 p4 (gMov (.c (.int 63 (-1))))
 endG))
noncomputable def sh262 : Fs := .mk [p4]
 (cSeq c262_0
 (cSeq (cSeq c262_1
 c262_2)
 (cSeq c262_3
 cRet)))
noncomputable def c264_0 : CEv := (cReg (step0 p4 (gMov (.c (.int 63 0)))
 endG))
noncomputable def c264_1 : CEv := (cReg (step0 p5 (gMov p0)
 (step0 p6 (gMov p1)
 (step0 p7 (gCall 279 [p5, p6])
 (step0 p4 (gMov p7)
 endG)))))
noncomputable def sh264 : Fs := .mk [p4]
 (cSeq c264_0
 (cSeq c264_1
 cRet))
noncomputable def c268_0 : CEv := (cReg (step0 p6 (gMov (.c (.int 64 0)))
 (step0 p7 (gMov (.c (.ref 7 0 0 0 0 false)))
 endG)))
noncomputable def c268_1 : CEv := (cReg (step0 p18 (gMov p0)
 (step0 p19 (gP (iStr sEql p18 (.c (.str []))))
 endG)))
noncomputable def c268_2 : CEv := (cCond p19 (cSeq (cReg (step0 p20 (gP (iMki 318 (.c (.int 63 2))))
 (step0 p6 (gMov (.c (.int 64 0)))
 (step0 p7 (gMov p20)
 endG))))
 cRet)
 cSkip)
noncomputable def c268_3 : CEv := (cReg (step0 p21 (gMov p1)
 (step0 p22 (gP (iInt fEql 63 p21 (.c (.int 63 0))))
 (step0 p8 (gMov p22)
 endG))))
noncomputable def c268_4 : CEv := (cReg (step0 p23 (gMov p0)
 (step0 p9 (gMov p23)
 endG)))
noncomputable def c268_5 : CEv := (cBlock 0 (cSeq (cReg (step0 p26 (gMov p1)
 (step0 p27 (gP (iInt fLeq 63 (.c (.int 63 2)) p26))
 (step0 p28 (gMov p27)
 (stepG p29 (gMov p1) (p28, true)
 (stepG p30 (gP (iInt fLeq 63 p29 (.c (.int 63 36)))) (p28, true)
 (step0 p31 (gP (iPick p28 p30 (.c (.bool false))))
 (step0 p25 (gMov p31)
 endG))))))))
 (cCond p25 cSkip
 (cSeq (cReg (step0 p33 (gMov p1)
 (step0 p34 (gP (iInt fEql 63 p33 (.c (.int 63 0))))
 (step0 p32 (gMov p34)
 endG))))
 (cCond p32 (cSeq (cReg (step0 p1 (gMov (.c (.int 63 10)))
 endG))
 (cSeq (cReg (step0 p35 (gMov p0)
 (step0 p36 (gP (iIxs p35 (.c (.int 63 0))))
 (step0 p37 (gP (iInt fEql 8 p36 (.c (.int 8 48))))
 endG))))
 (cCond p37 (cBlock 1 (cSeq (cReg (step0 p41 (gMov p0)
 (step0 p42 (gP (iLenS p41))
 (step0 p43 (gP (iInt fGeq 63 p42 (.c (.int 63 3))))
 (step0 p44 (gMov p43)
 (stepG p45 (gMov p0) (p44, true)
 (stepG p46 (gP (iIxs p45 (.c (.int 63 1)))) (p44, true)
 (stepG p47 (gCall 280 [p46]) (p44, true)
 (stepG p48 (gP (iInt fEql 8 p47 (.c (.int 8 98)))) (p44, true)
 (step0 p49 (gP (iPick p44 p48 (.c (.bool false))))
 (step0 p40 (gMov p49)
 endG)))))))))))
 (cCond p40 (cSeq (cReg (step0 p1 (gMov (.c (.int 63 2)))
 endG))
 (cReg (step0 p50 (gMov p0)
 (step0 p51 (gP (iSls p50 (some (.c (.int 63 2))) none))
 (step0 p0 (gMov p51)
 endG)))))
 (cSeq (cReg (step0 p53 (gMov p0)
 (step0 p54 (gP (iLenS p53))
 (step0 p55 (gP (iInt fGeq 63 p54 (.c (.int 63 3))))
 (step0 p56 (gMov p55)
 (stepG p57 (gMov p0) (p56, true)
 (stepG p58 (gP (iIxs p57 (.c (.int 63 1)))) (p56, true)
 (stepG p59 (gCall 280 [p58]) (p56, true)
 (stepG p60 (gP (iInt fEql 8 p59 (.c (.int 8 111)))) (p56, true)
 (step0 p61 (gP (iPick p56 p60 (.c (.bool false))))
 (step0 p52 (gMov p61)
 endG)))))))))))
 (cCond p52 (cSeq (cReg (step0 p1 (gMov (.c (.int 63 8)))
 endG))
 (cReg (step0 p62 (gMov p0)
 (step0 p63 (gP (iSls p62 (some (.c (.int 63 2))) none))
 (step0 p0 (gMov p63)
 endG)))))
 (cSeq (cReg (step0 p65 (gMov p0)
 (step0 p66 (gP (iLenS p65))
 (step0 p67 (gP (iInt fGeq 63 p66 (.c (.int 63 3))))
 (step0 p68 (gMov p67)
 (stepG p69 (gMov p0) (p68, true)
 (stepG p70 (gP (iIxs p69 (.c (.int 63 1)))) (p68, true)
 (stepG p71 (gCall 280 [p70]) (p68, true)
 (stepG p72 (gP (iInt fEql 8 p71 (.c (.int 8 120)))) (p68, true)
 (step0 p73 (gP (iPick p68 p72 (.c (.bool false))))
 (step0 p64 (gMov p73)
 endG)))))))))))
 (cCond p64 (cSeq (cReg (step0 p1 (gMov (.c (.int 63 16)))
 endG))
 (cReg (step0 p74 (gMov p0)
 (step0 p75 (gP (iSls p74 (some (.c (.int 63 2))) none))
 (step0 p0 (gMov p75)
 endG)))))
 (cSeq (cReg (step0 p1 (gMov (.c (.int 63 8)))
 endG))
 (cReg (step0 p38 (gMov p0)
 (step0 p39 (gP (iSls p38 (some (.c (.int 63 1))) none))
 (step0 p0 (gMov p39)
 endG))))))))))))
 cSkip)))
 (cSeq (cReg (step0 p24 (gP (iMki 318 (.c (.int 63 3))))
 (step0 p6 (gMov (.c (.int 64 0)))
 (step0 p7 (gMov p24)
 endG))))
 cRet))))))
noncomputable def c268_6 : CEv := (cReg (step0 p76 (gMov p2)
 (step0 p77 (gP (iInt fEql 63 p76 (.c (.int 63 0))))
 endG)))
noncomputable def c268_7 : CEv := (cCond p77 (cReg (step0 p2 (gMov (.c (.int 63 64)))
 endG))
 (cSeq (cReg (step0 p78 (gMov p2)
 (step0 p79 (gP (iInt fLss 63 p78 (.c (.int 63 0))))
 (step0 p80 (gMov p79)
 (stepG p81 (gMov p2) (p80, false)
 (stepG p82 (gP (iInt fGtr 63 p81 (.c (.int 63 64)))) (p80, false)
 (step0 p83 (gP (iPick p80 (.c (.bool true)) p82))
 endG)))))))
 (cCond p83 (cSeq (cReg (step0 p84 (gP (iMki 318 (.c (.int 63 4))))
 (step0 p6 (gMov (.c (.int 64 0)))
 (step0 p7 (gMov p84)
 endG))))
 cRet)
 cSkip)))
noncomputable def c268_8 : CEv := (cReg (step0 p10 (gMov (.c (.int 64 0)))
 endG))
noncomputable def c268_9 : CEv := (cReg (step0 p85 (gMov p1)
 endG))
noncomputable def c268_10 : CEv := (cBlock 2 (cSeq (cReg (step0 p91 (gP (iInt fEql 63 p85 (.c (.int 63 10))))
 (step0 p90 (gMov p91)
 endG)))
 (cCond p90 (cReg (step0 p10 (gMov (.c (.int 64 1844674407370955162)))
 endG))
 (cSeq (cReg (step0 p93 (gP (iInt fEql 63 p85 (.c (.int 63 16))))
 (step0 p92 (gMov p93)
 endG)))
 (cCond p92 (cReg (step0 p10 (gMov (.c (.int 64 1152921504606846976)))
 endG))
 (cReg (step0 p86 (gMov p1)
 (step0 p87 (gP (iCvi 64 p86))
 (step0 p88 (gP (iInt fQuo 64 (.c (.int 64 18446744073709551615)) p87))
 (step0 p89 (gP (iInt fAdd 64 p88 (.c (.int 64 1))))
 (step0 p10 (gMov p89)
 endG)))))))))))
noncomputable def c268_11 : CEv := (cReg (step0 p94 (gMov p2)
 (step0 p95 (gP (iCvi 64 p94))
 (step0 p96 (gP (iSh fShl 64 (.c (.int 64 1)) p95))
 (step0 p97 (gP (iInt fSub 64 p96 (.c (.int 64 1))))
 (step0 p11 (gMov p97)
 endG))))))
noncomputable def c268_12 : CEv := (cReg (step0 p12 (gMov (.c (.bool false)))
 endG))
noncomputable def c268_13 : CEv := (cReg (step0 p13 (gMov (.c (.int 64 0)))
 endG))
noncomputable def c268_14 : CEv := (cReg (step0 p98 (gMov p0)
 (step0 p99 (gE (iCvsb 5 p98))
 (step0 p100 (gP (iLenL p99))
 (step0 p101 (gMov (.c (.int 63 0)))
 endG)))))
noncomputable def d268_0 : CEv := (cSeq (cReg (step0 p103 (gP (iIad 1 p99 p101))
 (step0 p104 (gP (iLoad false 1 p103))
 (step0 p15 (gMov p104)
 endG))))
 (cSeq (cReg (step0 p16 (gMov (.c (.int 8 0)))
 endG))
 (cSeq (cBlock 5 (cSeq (cReg (step0 p107 (gMov p15)
 (step0 p108 (gP (iInt fEql 8 p107 (.c (.int 8 95))))
 (step0 p109 (gMov p108)
 (stepG p110 (gMov p8) (p109, true)
 (step0 p111 (gP (iPick p109 p110 (.c (.bool false))))
 (step0 p106 (gMov p111)
 endG)))))))
 (cCond p106 (cSeq (cReg (step0 p12 (gMov (.c (.bool true)))
 endG))
 (cExit 4))
 (cSeq (cReg (step0 p113 (gMov p15)
 (step0 p114 (gP (iInt fLeq 8 (.c (.int 8 48)) p113))
 (step0 p115 (gMov p114)
 (stepG p116 (gMov p15) (p115, true)
 (stepG p117 (gP (iInt fLeq 8 p116 (.c (.int 8 57)))) (p115, true)
 (step0 p118 (gP (iPick p115 p117 (.c (.bool false))))
 (step0 p112 (gMov p118)
 endG))))))))
 (cCond p112 (cReg (step0 p119 (gMov p15)
 (step0 p120 (gP (iInt fSub 8 p119 (.c (.int 8 48))))
 (step0 p16 (gMov p120)
 endG))))
 (cSeq (cReg (step0 p122 (gMov p15)
 (step0 p123 (gCall 280 [p122])
 (step0 p124 (gP (iInt fLeq 8 (.c (.int 8 97)) p123))
 (step0 p125 (gMov p124)
 (stepG p126 (gMov p15) (p125, true)
 (stepG p127 (gCall 280 [p126]) (p125, true)
 (stepG p128 (gP (iInt fLeq 8 p127 (.c (.int 8 122)))) (p125, true)
 (step0 p129 (gP (iPick p125 p128 (.c (.bool false))))
 (step0 p121 (gMov p129)
 endG))))))))))
 (cCond p121 (cReg (step0 p130 (gMov p15)
 (step0 p131 (gCall 280 [p130])
 (step0 p132 (gP (iInt fSub 8 p131 (.c (.int 8 97))))
 (step0 p133 (gP (iInt fAdd 8 p132 (.c (.int 8 10))))
 (step0 p16 (gMov p133)
 endG))))))
 (cSeq (cReg (step0 p105 (gP (iMki 318 (.c (.int 63 2))))
 (step0 p6 (gMov (.c (.int 64 0)))
 (step0 p7 (gMov p105)
 endG))))
 cRet))))))))
 (cSeq (cSeq (cReg (step0 p134 (gMov p16)
 (step0 p135 (gMov p1)
 (step0 p136 (gP (iCvi 8 p135))
 (step0 p137 (gP (iInt fGeq 8 p134 p136))
 endG)))))
 (cCond p137 (cSeq (cReg (step0 p138 (gP (iMki 318 (.c (.int 63 2))))
 (step0 p6 (gMov (.c (.int 64 0)))
 (step0 p7 (gMov p138)
 endG))))
 cRet)
 cSkip))
 (cSeq (cSeq (cReg (step0 p139 (gMov p13)
 (step0 p140 (gMov p10)
 (step0 p141 (gP (iInt fGeq 64 p139 p140))
 endG))))
 (cCond p141 (cSeq (cReg (step0 p142 (gMov p11)
 (step0 p143 (gP (iMki 318 (.c (.int 63 1))))
 (step0 p6 (gMov p142)
 (step0 p7 (gMov p143)
 endG)))))
 cRet)
 cSkip))
 (cSeq (cReg (step0 p144 (gMov p13)
 (step0 p145 (gMov p1)
 (step0 p146 (gP (iCvi 64 p145))
 (step0 p147 (gP (iInt fMul 64 p144 p146))
 (step0 p13 (gMov p147)
 endG))))))
 (cSeq (cReg (step0 p148 (gMov p13)
 (step0 p149 (gMov p16)
 (step0 p150 (gP (iCvi 64 p149))
 (step0 p151 (gP (iInt fAdd 64 p148 p150))
 (step0 p17 (gMov p151)
 endG))))))
 (cSeq (cSeq (cReg (step0 p152 (gMov p17)
 (step0 p153 (gMov p13)
 (step0 p154 (gP (iInt fLss 64 p152 p153))
 (step0 p155 (gMov p154)
 (stepG p156 (gMov p17) (p155, false)
 (stepG p157 (gMov p11) (p155, false)
 (stepG p158 (gP (iInt fGtr 64 p156 p157)) (p155, false)
 (step0 p159 (gP (iPick p155 (.c (.bool true)) p158))
 endG)))))))))
 (cCond p159 (cSeq (cReg (step0 p160 (gMov p11)
 (step0 p161 (gP (iMki 318 (.c (.int 63 1))))
 (step0 p6 (gMov p160)
 (step0 p7 (gMov p161)
 endG)))))
 cRet)
 cSkip))
 (cReg (step0 p162 (gMov p17)
 (step0 p13 (gMov p162)
 endG)))))))))))
noncomputable def b268_0 : CEv := (cSeq (cReg (step0 p102 (gP (iInt fLss 63 p101 p100))
 endG))
 (cSeq (cCond p102 cSkip
 (cExit 3))
 (cSeq (cBlock 4 d268_0)
 (cReg (step0 p163 (gP (iInt fAdd 63 p101 (.c (.int 63 1))))
 (step0 p101 (gMov p163)
 endG))))))
noncomputable def c268_15 : CEv := (cBlock 3 (cLoop b268_0))
noncomputable def c268_16 : CEv := (cReg (step0 p164 (gMov p12)
 (step0 p165 (gMov p164)
 (stepG p166 (gMov p9) (p165, true)
 (stepG p167 (gCall 281 [p166]) (p165, true)
 (stepG p168 (gP (iNot p167)) (p165, true)
 (step0 p169 (gP (iPick p165 p168 (.c (.bool false))))
 endG)))))))
noncomputable def c268_17 : CEv := (cCond p169 (cSeq (cReg (step0 p170 (gP (iMki 318 (.c (.int 63 2))))
 (step0 p6 (gMov (.c (.int 64 0)))
 (step0 p7 (gMov p170)
 endG))))
 cRet)
 cSkip)
noncomputable def c268_18 : CEv := (cReg (step0 p171 (gMov p13)
 (step0 p6 (gMov p171)
 (step0 p7 (gMov (.c (.ref 7 0 0 0 0 false)))
 endG))))
noncomputable def sh268 : Fs := .mk [p6, p7]
 (cSeq c268_0
 (cSeq (cSeq c268_1
 c268_2)
 (cSeq c268_3
 (cSeq c268_4
 (cSeq c268_5
 (cSeq (cSeq c268_6
 c268_7)
 (cSeq c268_8
 (cSeq (cSeq c268_9
 c268_10)
 (cSeq c268_11
 (cSeq c268_12
 (cSeq c268_13
 (cSeq (cSeq c268_14
 c268_15)
 (cSeq (cSeq c268_16
 c268_17)
 (cSeq c268_18
 cRet))))))))))))))
noncomputable def c275_0 : CEv := (cReg (step0 p10 (gMov p1)
 (step0 p11 (gP (iInt fAdd 63 p10 (.c (.int 63 1))))
 (step0 p8 (gMov p11)
 endG))))
noncomputable def b275_0 : CEv := (cSeq (cSeq (cDraw [p18, p19, p20, p21, p22, p23, p24, p25, p26, p27, p28, p29, p30, p31, p32, p33, p34] (stepR [p9] p18 (gMov p9) none
 (stepR [p1] p19 (gMov p1) none
 (stepR [p18, p19] p20 (gP (iInt fGtr 63 p18 p19)) none
 (stepR [p20] p21 (gMov p20) none
 (stepR [p3, p21] p22 (gMov p3) (p21, true)
 (stepR [p0, p21] p23 (gMov p0) (p21, true)
 (stepR [p9, p21] p24 (gMov p9) (p21, true)
 (stepR [p23, p24, p21] p25 (gP (iIad 1 p23 p24)) (p21, true)
 (stepR [p25, p21] p26 (gP (iLoad false 1 p25)) (p21, true)
 (stepR [p0, p21] p27 (gMov p0) (p21, true)
 (stepR [p9, p21] p28 (gMov p9) (p21, true)
 (stepR [p28, p21] p29 (gP (iInt fSub 63 p28 (.c (.int 63 1)))) (p21, true)
 (stepR [p27, p29, p21] p30 (gP (iIad 1 p27 p29)) (p21, true)
 (stepR [p30, p21] p31 (gP (iLoad false 1 p30)) (p21, true)
 (stepL [p22, p26, p31, p21] p32 (gDyn p22 [p26, p31]) (p21, true)
 (stepR [p32, p21] p33 (gP (iInt fLss 63 p32 (.c (.int 63 0)))) (p21, true)
 (stepR [p21, p33] p34 (gP (iPick p21 p33 (.c (.bool false)))) none
 endD))))))))))))))))))
 (cCond p34 cSkip
 (cExit 2)))
 (cSeq (cBlock 3 (cDraw [p37, p38, p39, p40, p41, p42, p43, p44, p45, p46, p47, p48, p49, p50, p51, p52] (stepR [p0] p37 (gMov p0) none
 (stepR [p9] p38 (gMov p9) none
 (stepR [p0] p39 (gMov p0) none
 (stepR [p9] p40 (gMov p9) none
 (stepR [p40] p41 (gP (iInt fSub 63 p40 (.c (.int 63 1)))) none
 (stepR [p0] p42 (gMov p0) none
 (stepR [p9] p43 (gMov p9) none
 (stepR [p43] p44 (gP (iInt fSub 63 p43 (.c (.int 63 1)))) none
 (stepR [p42, p44] p45 (gP (iIad 1 p42 p44)) none
 (stepR [p45] p46 (gP (iLoad false 1 p45)) none
 (stepR [p0] p47 (gMov p0) none
 (stepR [p9] p48 (gMov p9) none
 (stepR [p47, p48] p49 (gP (iIad 1 p47 p48)) none
 (stepR [p49] p50 (gP (iLoad false 1 p49)) none
 (stepR [p37, p38] p51 (gP (iIad 1 p37 p38)) none
 (stepL [p51, p46] none (gE (iStore 1 p51 p46)) none
 (stepR [p39, p41] p52 (gP (iIad 1 p39 p41)) none
 (stepL [p52, p50] none (gE (iStore 1 p52 p50)) none
 endD))))))))))))))))))))
 (cReg (step0 p35 (gMov p9)
 (step0 p36 (gP (iInt fSub 63 p35 (.c (.int 63 1))))
 (step0 p9 (gMov p36)
 endG))))))
noncomputable def b275_1 : CEv := (cSeq (cSeq (cReg (step0 p12 (gMov p8)
 (step0 p13 (gMov p2)
 (step0 p14 (gP (iInt fLss 63 p12 p13))
 endG))))
 (cCond p14 cSkip
 (cExit 0)))
 (cSeq (cBlock 1 (cSeq (cReg (step0 p17 (gMov p8)
 (step0 p9 (gMov p17)
 endG)))
 (cBlock 2 (cLoop b275_0))))
 (cReg (step0 p15 (gMov p8)
 (step0 p16 (gP (iInt fAdd 63 p15 (.c (.int 63 1))))
 (step0 p8 (gMov p16)
 endG))))))
noncomputable def c275_1 : CEv := (cBlock 0 (cLoop b275_1))
noncomputable def sh275 : Fs := .mk []
 (cSeq c275_0
 c275_1)
noncomputable def c276_0 : CEv := (cReg (step0 p25 (gMov p2)
 (step0 p26 (gMov p1)
 (step0 p27 (gP (iInt fSub 63 p25 p26))
 (step0 p28 (gP (iInt fEql 63 p27 (.c (.int 63 1))))
 endG)))))
noncomputable def b276_0 : CEv := (cSeq (cSeq (cReg (step0 p31 (gMov p10)
 (step0 p32 (gMov p11)
 (step0 p33 (gP (iInt fLss 63 p31 p32))
 endG))))
 (cCond p33 cSkip
 (cExit 0)))
 (cBlock 1 (cSeq (cReg (step0 p34 (gMov p10)
 (step0 p35 (gMov p11)
 (step0 p36 (gP (iInt fAdd 63 p34 p35))
 (step0 p37 (gP (iCvi 64 p36))
 (step0 p38 (gP (iSh fShr 64 p37 (.c (.int 64 1))))
 (step0 p39 (gP (iCvi 63 p38))
 (step0 p12 (gMov p39)
 endG))))))))
 (cSeq (cDraw [p40, p41, p42, p43, p44, p45, p46, p47, p48, p49, p50] (stepR [p4] p40 (gMov p4) none
 (stepR [p0] p41 (gMov p0) none
 (stepR [p12] p42 (gMov p12) none
 (stepR [p41, p42] p43 (gP (iIad 1 p41 p42)) none
 (stepR [p43] p44 (gP (iLoad false 1 p43)) none
 (stepR [p0] p45 (gMov p0) none
 (stepR [p1] p46 (gMov p1) none
 (stepR [p45, p46] p47 (gP (iIad 1 p45 p46)) none
 (stepR [p47] p48 (gP (iLoad false 1 p47)) none
 (stepL [p40, p44, p48] p49 (gDyn p40 [p44, p48]) none
 (stepR [p49] p50 (gP (iInt fLss 63 p49 (.c (.int 63 0)))) none
 endD))))))))))))
 (cCond p50 (cReg (step0 p51 (gMov p12)
 (step0 p52 (gP (iInt fAdd 63 p51 (.c (.int 63 1))))
 (step0 p10 (gMov p52)
 endG))))
 (cReg (step0 p53 (gMov p12)
 (step0 p11 (gMov p53)
 endG))))))))
noncomputable def b276_1 : CEv := (cSeq (cSeq (cReg (step0 p55 (gMov p13)
 (step0 p56 (gMov p10)
 (step0 p57 (gP (iInt fSub 63 p56 (.c (.int 63 1))))
 (step0 p58 (gP (iInt fLss 63 p55 p57))
 endG)))))
 (cCond p58 cSkip
 (cExit 2)))
 (cSeq (cBlock 3 (cDraw [p61, p62, p63, p64, p65, p66, p67, p68, p69, p70, p71, p72, p73, p74, p75, p76] (stepR [p0] p61 (gMov p0) none
 (stepR [p13] p62 (gMov p13) none
 (stepR [p0] p63 (gMov p0) none
 (stepR [p13] p64 (gMov p13) none
 (stepR [p64] p65 (gP (iInt fAdd 63 p64 (.c (.int 63 1)))) none
 (stepR [p0] p66 (gMov p0) none
 (stepR [p13] p67 (gMov p13) none
 (stepR [p67] p68 (gP (iInt fAdd 63 p67 (.c (.int 63 1)))) none
 (stepR [p66, p68] p69 (gP (iIad 1 p66 p68)) none
 (stepR [p69] p70 (gP (iLoad false 1 p69)) none
 (stepR [p0] p71 (gMov p0) none
 (stepR [p13] p72 (gMov p13) none
 (stepR [p71, p72] p73 (gP (iIad 1 p71 p72)) none
 (stepR [p73] p74 (gP (iLoad false 1 p73)) none
 (stepR [p61, p62] p75 (gP (iIad 1 p61 p62)) none
 (stepL [p75, p70] none (gE (iStore 1 p75 p70)) none
 (stepR [p63, p65] p76 (gP (iIad 1 p63 p65)) none
 (stepL [p76, p74] none (gE (iStore 1 p76 p74)) none
 endD))))))))))))))))))))
 (cReg (step0 p59 (gMov p13)
 (step0 p60 (gP (iInt fAdd 63 p59 (.c (.int 63 1))))
 (step0 p13 (gMov p60)
 endG))))))
noncomputable def c276_1 : CEv := (cCond p28 (cSeq (cReg (step0 p29 (gMov p2)
 (step0 p10 (gMov p29)
 endG)))
 (cSeq (cReg (step0 p30 (gMov p3)
 (step0 p11 (gMov p30)
 endG)))
 (cSeq (cBlock 0 (cLoop b276_0))
 (cSeq (cSeq (cReg (step0 p54 (gMov p1)
 (step0 p13 (gMov p54)
 endG)))
 (cBlock 2 (cLoop b276_1)))
 cRet))))
 cSkip)
noncomputable def c276_2 : CEv := (cReg (step0 p77 (gMov p3)
 (step0 p78 (gMov p2)
 (step0 p79 (gP (iInt fSub 63 p77 p78))
 (step0 p80 (gP (iInt fEql 63 p79 (.c (.int 63 1))))
 endG)))))
noncomputable def b276_2 : CEv := (cSeq (cSeq (cReg (step0 p83 (gMov p14)
 (step0 p84 (gMov p15)
 (step0 p85 (gP (iInt fLss 63 p83 p84))
 endG))))
 (cCond p85 cSkip
 (cExit 4)))
 (cBlock 5 (cSeq (cReg (step0 p86 (gMov p14)
 (step0 p87 (gMov p15)
 (step0 p88 (gP (iInt fAdd 63 p86 p87))
 (step0 p89 (gP (iCvi 64 p88))
 (step0 p90 (gP (iSh fShr 64 p89 (.c (.int 64 1))))
 (step0 p91 (gP (iCvi 63 p90))
 (step0 p16 (gMov p91)
 endG))))))))
 (cSeq (cDraw [p92, p93, p94, p95, p96, p97, p98, p99, p100, p101, p102, p103] (stepR [p4] p92 (gMov p4) none
 (stepR [p0] p93 (gMov p0) none
 (stepR [p2] p94 (gMov p2) none
 (stepR [p93, p94] p95 (gP (iIad 1 p93 p94)) none
 (stepR [p95] p96 (gP (iLoad false 1 p95)) none
 (stepR [p0] p97 (gMov p0) none
 (stepR [p16] p98 (gMov p16) none
 (stepR [p97, p98] p99 (gP (iIad 1 p97 p98)) none
 (stepR [p99] p100 (gP (iLoad false 1 p99)) none
 (stepL [p92, p96, p100] p101 (gDyn p92 [p96, p100]) none
 (stepR [p101] p102 (gP (iInt fLss 63 p101 (.c (.int 63 0)))) none
 (stepR [p102] p103 (gP (iNot p102)) none
 endD)))))))))))))
 (cCond p103 (cReg (step0 p104 (gMov p16)
 (step0 p105 (gP (iInt fAdd 63 p104 (.c (.int 63 1))))
 (step0 p14 (gMov p105)
 endG))))
 (cReg (step0 p106 (gMov p16)
 (step0 p15 (gMov p106)
 endG))))))))
noncomputable def b276_3 : CEv := (cSeq (cSeq (cReg (step0 p108 (gMov p17)
 (step0 p109 (gMov p14)
 (step0 p110 (gP (iInt fGtr 63 p108 p109))
 endG))))
 (cCond p110 cSkip
 (cExit 6)))
 (cSeq (cBlock 7 (cDraw [p113, p114, p115, p116, p117, p118, p119, p120, p121, p122, p123, p124, p125, p126, p127, p128] (stepR [p0] p113 (gMov p0) none
 (stepR [p17] p114 (gMov p17) none
 (stepR [p0] p115 (gMov p0) none
 (stepR [p17] p116 (gMov p17) none
 (stepR [p116] p117 (gP (iInt fSub 63 p116 (.c (.int 63 1)))) none
 (stepR [p0] p118 (gMov p0) none
 (stepR [p17] p119 (gMov p17) none
 (stepR [p119] p120 (gP (iInt fSub 63 p119 (.c (.int 63 1)))) none
 (stepR [p118, p120] p121 (gP (iIad 1 p118 p120)) none
 (stepR [p121] p122 (gP (iLoad false 1 p121)) none
 (stepR [p0] p123 (gMov p0) none
 (stepR [p17] p124 (gMov p17) none
 (stepR [p123, p124] p125 (gP (iIad 1 p123 p124)) none
 (stepR [p125] p126 (gP (iLoad false 1 p125)) none
 (stepR [p113, p114] p127 (gP (iIad 1 p113 p114)) none
 (stepL [p127, p122] none (gE (iStore 1 p127 p122)) none
 (stepR [p115, p117] p128 (gP (iIad 1 p115 p117)) none
 (stepL [p128, p126] none (gE (iStore 1 p128 p126)) none
 endD))))))))))))))))))))
 (cReg (step0 p111 (gMov p17)
 (step0 p112 (gP (iInt fSub 63 p111 (.c (.int 63 1))))
 (step0 p17 (gMov p112)
 endG))))))
noncomputable def c276_3 : CEv := (cCond p80 (cSeq (cReg (step0 p81 (gMov p1)
 (step0 p14 (gMov p81)
 endG)))
 (cSeq (cReg (step0 p82 (gMov p2)
 (step0 p15 (gMov p82)
 endG)))
 (cSeq (cBlock 4 (cLoop b276_2))
 (cSeq (cSeq (cReg (step0 p107 (gMov p2)
 (step0 p17 (gMov p107)
 endG)))
 (cBlock 6 (cLoop b276_3)))
 cRet))))
 cSkip)
noncomputable def c276_4 : CEv := (cReg (step0 p129 (gMov p1)
 (step0 p130 (gMov p3)
 (step0 p131 (gP (iInt fAdd 63 p129 p130))
 (step0 p132 (gP (iCvi 64 p131))
 (step0 p133 (gP (iSh fShr 64 p132 (.c (.int 64 1))))
 (step0 p134 (gP (iCvi 63 p133))
 (step0 p18 (gMov p134)
 endG))))))))
noncomputable def c276_5 : CEv := (cReg (step0 p135 (gMov p18)
 (step0 p136 (gMov p2)
 (step0 p137 (gP (iInt fAdd 63 p135 p136))
 (step0 p19 (gMov p137)
 endG)))))
noncomputable def c276_6 : CEv := (cReg (step0 p20 (gMov (.c (.int 63 0)))
 (step0 p21 (gMov (.c (.int 63 0)))
 endG)))
noncomputable def c276_7 : CEv := (cReg (step0 p138 (gMov p2)
 (step0 p139 (gMov p18)
 (step0 p140 (gP (iInt fGtr 63 p138 p139))
 endG))))
noncomputable def c276_8 : CEv := (cCond p140 (cSeq (cReg (step0 p141 (gMov p19)
 (step0 p142 (gMov p3)
 (step0 p143 (gP (iInt fSub 63 p141 p142))
 (step0 p20 (gMov p143)
 endG)))))
 (cReg (step0 p144 (gMov p18)
 (step0 p21 (gMov p144)
 endG))))
 (cSeq (cReg (step0 p145 (gMov p1)
 (step0 p20 (gMov p145)
 endG)))
 (cReg (step0 p146 (gMov p2)
 (step0 p21 (gMov p146)
 endG)))))
noncomputable def c276_9 : CEv := (cReg (step0 p147 (gMov p19)
 (step0 p148 (gP (iInt fSub 63 p147 (.c (.int 63 1))))
 (step0 p22 (gMov p148)
 endG))))
noncomputable def b276_4 : CEv := (cSeq (cSeq (cReg (step0 p149 (gMov p20)
 (step0 p150 (gMov p21)
 (step0 p151 (gP (iInt fLss 63 p149 p150))
 endG))))
 (cCond p151 cSkip
 (cExit 8)))
 (cBlock 9 (cSeq (cReg (step0 p152 (gMov p20)
 (step0 p153 (gMov p21)
 (step0 p154 (gP (iInt fAdd 63 p152 p153))
 (step0 p155 (gP (iCvi 64 p154))
 (step0 p156 (gP (iSh fShr 64 p155 (.c (.int 64 1))))
 (step0 p157 (gP (iCvi 63 p156))
 (step0 p23 (gMov p157)
 endG))))))))
 (cSeq (cDraw [p158, p159, p160, p161, p162, p163, p164, p165, p166, p167, p168, p169, p170, p171] (stepR [p4] p158 (gMov p4) none
 (stepR [p0] p159 (gMov p0) none
 (stepR [p22] p160 (gMov p22) none
 (stepR [p23] p161 (gMov p23) none
 (stepR [p160, p161] p162 (gP (iInt fSub 63 p160 p161)) none
 (stepR [p159, p162] p163 (gP (iIad 1 p159 p162)) none
 (stepR [p163] p164 (gP (iLoad false 1 p163)) none
 (stepR [p0] p165 (gMov p0) none
 (stepR [p23] p166 (gMov p23) none
 (stepR [p165, p166] p167 (gP (iIad 1 p165 p166)) none
 (stepR [p167] p168 (gP (iLoad false 1 p167)) none
 (stepL [p158, p164, p168] p169 (gDyn p158 [p164, p168]) none
 (stepR [p169] p170 (gP (iInt fLss 63 p169 (.c (.int 63 0)))) none
 (stepR [p170] p171 (gP (iNot p170)) none
 endD)))))))))))))))
 (cCond p171 (cReg (step0 p172 (gMov p23)
 (step0 p173 (gP (iInt fAdd 63 p172 (.c (.int 63 1))))
 (step0 p20 (gMov p173)
 endG))))
 (cReg (step0 p174 (gMov p23)
 (step0 p21 (gMov p174)
 endG))))))))
noncomputable def c276_10 : CEv := (cBlock 8 (cLoop b276_4))
noncomputable def c276_11 : CEv := (cReg (step0 p175 (gMov p19)
 (step0 p176 (gMov p20)
 (step0 p177 (gP (iInt fSub 63 p175 p176))
 (step0 p24 (gMov p177)
 endG)))))
noncomputable def c276_12 : CEv := (cReg (step0 p178 (gMov p20)
 (step0 p179 (gMov p2)
 (step0 p180 (gP (iInt fLss 63 p178 p179))
 (step0 p181 (gMov p180)
 (stepG p182 (gMov p2) (p181, true)
 (stepG p183 (gMov p24) (p181, true)
 (stepG p184 (gP (iInt fLss 63 p182 p183)) (p181, true)
 (step0 p185 (gP (iPick p181 p184 (.c (.bool false))))
 endG)))))))))
noncomputable def c276_13 : CEv := (cCond p185 (cReg (step0 p186 (gMov p0)
 (step0 p187 (gMov p20)
 (step0 p188 (gMov p2)
 (step0 p189 (gMov p24)
 (step0 p190 (gMov p4)
 (step0 p191 (gCall 285 [p186, p187, p188, p189, p190])
 endG)))))))
 cSkip)
noncomputable def c276_14 : CEv := (cReg (step0 p192 (gMov p1)
 (step0 p193 (gMov p20)
 (step0 p194 (gP (iInt fLss 63 p192 p193))
 (step0 p195 (gMov p194)
 (stepG p196 (gMov p20) (p195, true)
 (stepG p197 (gMov p18) (p195, true)
 (stepG p198 (gP (iInt fLss 63 p196 p197)) (p195, true)
 (step0 p199 (gP (iPick p195 p198 (.c (.bool false))))
 endG)))))))))
noncomputable def c276_15 : CEv := (cCond p199 (cReg (step0 p200 (gMov p0)
 (step0 p201 (gMov p1)
 (step0 p202 (gMov p20)
 (step0 p203 (gMov p18)
 (step0 p204 (gMov p4)
 (step0 p205 (gCall 276 [p200, p201, p202, p203, p204])
 endG)))))))
 cSkip)
noncomputable def c276_16 : CEv := (cReg (step0 p206 (gMov p18)
 (step0 p207 (gMov p24)
 (step0 p208 (gP (iInt fLss 63 p206 p207))
 (step0 p209 (gMov p208)
 (stepG p210 (gMov p24) (p209, true)
 (stepG p211 (gMov p3) (p209, true)
 (stepG p212 (gP (iInt fLss 63 p210 p211)) (p209, true)
 (step0 p213 (gP (iPick p209 p212 (.c (.bool false))))
 endG)))))))))
noncomputable def c276_17 : CEv := (cCond p213 (cReg (step0 p214 (gMov p0)
 (step0 p215 (gMov p18)
 (step0 p216 (gMov p24)
 (step0 p217 (gMov p3)
 (step0 p218 (gMov p4)
 (step0 p219 (gCall 276 [p214, p215, p216, p217, p218])
 endG)))))))
 cSkip)
noncomputable def sh276 : Fs := .mk []
 (cSeq (cSeq c276_0
 c276_1)
 (cSeq (cSeq c276_2
 c276_3)
 (cSeq c276_4
 (cSeq c276_5
 (cSeq c276_6
 (cSeq (cSeq c276_7
 c276_8)
 (cSeq c276_9
 (cSeq c276_10
 (cSeq c276_11
 (cSeq (cSeq c276_12
 c276_13)
 (cSeq (cSeq c276_14
 c276_15)
 (cSeq c276_16
 c276_17))))))))))))
noncomputable def c279_0 : CEv := (cReg (step0 p4 (gMov (.c (.int 63 0)))
 endG))
noncomputable def c279_1 : CEv := (cReg (step0 p5 (gMov p0)
 (step0 p6 (gMov p1)
 (step0 p7 (gCall 288 [p5, p6])
 (step0 p4 (gMov p7)
 endG)))))
noncomputable def sh279 : Fs := .mk [p4]
 (cSeq c279_0
 (cSeq c279_1
 cRet))
noncomputable def c285_0 : CEv := (cReg (step0 p12 (gMov p2)
 (step0 p13 (gMov p1)
 (step0 p14 (gP (iInt fSub 63 p12 p13))
 (step0 p10 (gMov p14)
 endG)))))
noncomputable def c285_1 : CEv := (cReg (step0 p15 (gMov p3)
 (step0 p16 (gMov p2)
 (step0 p17 (gP (iInt fSub 63 p15 p16))
 (step0 p11 (gMov p17)
 endG)))))
noncomputable def b285_0 : CEv := (cSeq (cSeq (cReg (step0 p18 (gMov p10)
 (step0 p19 (gMov p11)
 (step0 p20 (gP (iInt fNeq 63 p18 p19))
 endG))))
 (cCond p20 cSkip
 (cExit 0)))
 (cBlock 1 (cSeq (cReg (step0 p21 (gMov p10)
 (step0 p22 (gMov p11)
 (step0 p23 (gP (iInt fGtr 63 p21 p22))
 endG))))
 (cCond p23 (cSeq (cReg (step0 p24 (gMov p0)
 (step0 p25 (gMov p2)
 (step0 p26 (gMov p10)
 (step0 p27 (gP (iInt fSub 63 p25 p26))
 (step0 p28 (gMov p2)
 (step0 p29 (gMov p11)
 (step0 p30 (gMov p4)
 (step0 p31 (gCall 291 [p24, p27, p28, p29, p30])
 endG)))))))))
 (cReg (step0 p32 (gMov p10)
 (step0 p33 (gMov p11)
 (step0 p34 (gP (iInt fSub 63 p32 p33))
 (step0 p10 (gMov p34)
 endG))))))
 (cSeq (cReg (step0 p35 (gMov p0)
 (step0 p36 (gMov p2)
 (step0 p37 (gMov p10)
 (step0 p38 (gP (iInt fSub 63 p36 p37))
 (step0 p39 (gMov p2)
 (step0 p40 (gMov p11)
 (step0 p41 (gP (iInt fAdd 63 p39 p40))
 (step0 p42 (gMov p10)
 (step0 p43 (gP (iInt fSub 63 p41 p42))
 (step0 p44 (gMov p10)
 (step0 p45 (gMov p4)
 (step0 p46 (gCall 291 [p35, p38, p43, p44, p45])
 endG)))))))))))))
 (cReg (step0 p47 (gMov p11)
 (step0 p48 (gMov p10)
 (step0 p49 (gP (iInt fSub 63 p47 p48))
 (step0 p11 (gMov p49)
 endG))))))))))
noncomputable def c285_2 : CEv := (cBlock 0 (cLoop b285_0))
noncomputable def c285_3 : CEv := (cReg (step0 p50 (gMov p0)
 (step0 p51 (gMov p2)
 (step0 p52 (gMov p10)
 (step0 p53 (gP (iInt fSub 63 p51 p52))
 (step0 p54 (gMov p2)
 (step0 p55 (gMov p10)
 (step0 p56 (gMov p4)
 (step0 p57 (gCall 291 [p50, p53, p54, p55, p56])
 endG)))))))))
noncomputable def sh285 : Fs := .mk []
 (cSeq c285_0
 (cSeq c285_1
 (cSeq c285_2
 c285_3)))
def sh288 : Fs := .ext 0
noncomputable def c291_0 : CEv := (cReg (step0 p10 (gMov (.c (.int 63 0)))
 endG))
noncomputable def b291_0 : CEv := (cSeq (cSeq (cReg (step0 p11 (gMov p10)
 (step0 p12 (gMov p3)
 (step0 p13 (gP (iInt fLss 63 p11 p12))
 endG))))
 (cCond p13 cSkip
 (cExit 0)))
 (cSeq (cBlock 1 (cDraw [p16, p17, p18, p19, p20, p21, p22, p23, p24, p25, p26, p27, p28, p29, p30, p31, p32, p33, p34, p35, p36, p37] (stepR [p0] p16 (gMov p0) none
 (stepR [p1] p17 (gMov p1) none
 (stepR [p10] p18 (gMov p10) none
 (stepR [p17, p18] p19 (gP (iInt fAdd 63 p17 p18)) none
 (stepR [p0] p20 (gMov p0) none
 (stepR [p2] p21 (gMov p2) none
 (stepR [p10] p22 (gMov p10) none
 (stepR [p21, p22] p23 (gP (iInt fAdd 63 p21 p22)) none
 (stepR [p0] p24 (gMov p0) none
 (stepR [p2] p25 (gMov p2) none
 (stepR [p10] p26 (gMov p10) none
 (stepR [p25, p26] p27 (gP (iInt fAdd 63 p25 p26)) none
 (stepR [p24, p27] p28 (gP (iIad 1 p24 p27)) none
 (stepR [p28] p29 (gP (iLoad false 1 p28)) none
 (stepR [p0] p30 (gMov p0) none
 (stepR [p1] p31 (gMov p1) none
 (stepR [p10] p32 (gMov p10) none
 (stepR [p31, p32] p33 (gP (iInt fAdd 63 p31 p32)) none
 (stepR [p30, p33] p34 (gP (iIad 1 p30 p33)) none
 (stepR [p34] p35 (gP (iLoad false 1 p34)) none
 (stepR [p16, p19] p36 (gP (iIad 1 p16 p19)) none
 (stepL [p36, p29] none (gE (iStore 1 p36 p29)) none
 (stepR [p20, p23] p37 (gP (iIad 1 p20 p23)) none
 (stepL [p37, p35] none (gE (iStore 1 p37 p35)) none
 endD))))))))))))))))))))))))))
 (cReg (step0 p14 (gMov p10)
 (step0 p15 (gP (iInt fAdd 63 p14 (.c (.int 63 1))))
 (step0 p10 (gMov p15)
 endG))))))
noncomputable def c291_1 : CEv := (cBlock 0 (cLoop b291_0))
noncomputable def sh291 : Fs := .mk []
 (cSeq c291_0
 c291_1)
end Go.Proofs.YtnccejmggcjaoaaGreatDoor.Av
