/-
  THE PROGRAM's FUNCTIONS AS THE ABSTRACT MACHINE RUNS THEM, printed by a program of this session's own out of what 'compF' makes of them.
-/
import Derived.Test.YtnjjkomopkgidaaDoorIcP
namespace Go.Proofs.YtnjjkomopkgidaaDoor.Av
set_option maxRecDepth 100000
noncomputable def c53_0 : CEv := (cReg (step0 (some p4) (gMov (.c (.bool false)))
   endG))
noncomputable def c53_1 : CEv := (cReg (step0 (some p11) (gMov (.t p0))
   (step0 (some p12) (gP (iLenL (.t p11)))
   (step0 (some p13) (gP (iInt fLeq 63 (.t p12) (.c (.int 63 18))))
   endG))))
noncomputable def b53_0 : CEv := (cSeq (cReg (step0 (some p17) (gP (iInt fLss 63 (.t p16) (.t p15)))
   endG))
  (cSeq (cCond (.t p17) cSkip
  (cExit 0))
  (cSeq (cBlock 1 (cSeq (cReg (step0 (some p18) (gMov (.t p16))
   (step0 (some p5) (gMov (.t p18))
   endG)))
  (cSeq (cReg (step0 (some p19) (gMov (.t p0))
   (step0 (some p20) (gMov (.t p5))
   (step0 (some p21) (gP (iIad 3 (.t p19) (.t p20)))
   (step0 (some p6) (gMov (.t p21))
   endG)))))
  (cSeq (cSeq (cReg (step0 (some p22) (gMov (.t p1))
   (step0 (some p23) (gMov (.t p6))
   (step0 (some p24) (gP (iNck (.t p23)))
   (step0 (some p25) (gP (iFad 0 (.t p24)))
   (step0 (some p26) (gP (iLoad false 1 (.t p25)))
   (step0 (some p27) (gP (iInt fLss 32 (.t p22) (.t p26)))
   endG)))))))
  (cCond (.t p27) (cSeq (cReg (step0 (some p4) (gMov (.c (.bool false)))
   endG))
  cRet)
  cSkip))
  (cSeq (cReg (step0 (some p28) (gMov (.t p1))
   (step0 (some p29) (gMov (.t p6))
   (step0 (some p30) (gP (iNck (.t p29)))
   (step0 (some p31) (gP (iFad 1 (.t p30)))
   (step0 (some p32) (gP (iLoad false 1 (.t p31)))
   (step0 (some p33) (gP (iInt fLeq 32 (.t p28) (.t p32)))
   endG)))))))
  (cCond (.t p33) (cSeq (cDraw [p34, p35, p36, p37, p38, p39, p40, p41, p42, p43, p44, p45, p46, p47, p48, p49, p50, p51, p52, p4] (stepR [p6] (some p34) (gMov (.t p6)) none
   (stepR [p34] (some p35) (gP (iNck (.t p34))) none
   (stepR [p35] (some p36) (gP (iFad 2 (.t p35))) none
   (stepR [p36] (some p37) (gP (iLoad false 1 (.t p36))) none
   (stepR [p37] (some p38) (gP (iInt fEql 32 (.t p37) (.c (.int 32 1)))) none
   (stepR [p38] (some p39) (gMov (.t p38)) none
   (stepR [p1, p39] (some p40) (gMov (.t p1)) (some (p39, false))
   (stepR [p6, p39] (some p41) (gMov (.t p6)) (some (p39, false))
   (stepR [p41, p39] (some p42) (gP (iNck (.t p41))) (some (p39, false))
   (stepR [p42, p39] (some p43) (gP (iFad 0 (.t p42))) (some (p39, false))
   (stepR [p43, p39] (some p44) (gP (iLoad false 1 (.t p43))) (some (p39, false))
   (stepR [p40, p44, p39] (some p45) (gP (iInt fSub 32 (.t p40) (.t p44))) (some (p39, false))
   (stepR [p6, p39] (some p46) (gMov (.t p6)) (some (p39, false))
   (stepR [p46, p39] (some p47) (gP (iNck (.t p46))) (some (p39, false))
   (stepR [p47, p39] (some p48) (gP (iFad 2 (.t p47))) (some (p39, false))
   (stepR [p48, p39] (some p49) (gP (iLoad false 1 (.t p48))) (some (p39, false))
   (stepR [p45, p49, p39] (some p50) (gP (iInt fRem 32 (.t p45) (.t p49))) (some (p39, false))
   (stepR [p50, p39] (some p51) (gP (iInt fEql 32 (.t p50) (.c (.int 32 0)))) (some (p39, false))
   (stepR [p39, p51] (some p52) (gP (iPick (.t p39) (.c (.bool true)) (.t p51))) none
   (stepR [p52] (some p4) (gMov (.t p52)) none
   endD)))))))))))))))))))))
  cRet)
  cSkip))))))
  (cReg (step0 (some p53) (gP (iInt fAdd 63 (.t p16) (.c (.int 63 1))))
   (step0 (some p16) (gMov (.t p53))
   endG))))))
noncomputable def c53_2 : CEv := (cCond (.t p13) (cSeq (cSeq (cReg (step0 (some p14) (gMov (.t p0))
   (step0 (some p15) (gP (iLenL (.t p14)))
   (step0 (some p16) (gMov (.c (.int 63 0)))
   endG))))
  (cBlock 0 (cLoop b53_0)))
  (cSeq (cReg (step0 (some p4) (gMov (.c (.bool false)))
   endG))
  cRet))
  cSkip)
noncomputable def c53_3 : CEv := (cReg (step0 (some p7) (gMov (.c (.int 63 0)))
   endG))
noncomputable def c53_4 : CEv := (cReg (step0 (some p54) (gMov (.t p0))
   (step0 (some p55) (gP (iLenL (.t p54)))
   (step0 (some p8) (gMov (.t p55))
   endG))))
noncomputable def b53_1 : CEv := (cSeq (cSeq (cReg (step0 (some p56) (gMov (.t p7))
   (step0 (some p57) (gMov (.t p8))
   (step0 (some p58) (gP (iInt fLss 63 (.t p56) (.t p57)))
   endG))))
  (cCond (.t p58) cSkip
  (cExit 2)))
  (cBlock 3 (cSeq (cReg (step0 (some p59) (gMov (.t p7))
   (step0 (some p60) (gMov (.t p8))
   (step0 (some p61) (gP (iInt fAdd 63 (.t p59) (.t p60)))
   (step0 (some p62) (gP (iCvi 64 (.t p61)))
   (step0 (some p63) (gP (iSh fShr 64 (.t p62) (.c (.int 64 1))))
   (step0 (some p64) (gP (iCvi 63 (.t p63)))
   (step0 (some p9) (gMov (.t p64))
   endG))))))))
  (cSeq (cReg (step0 (some p65) (gMov (.t p0))
   (step0 (some p66) (gMov (.t p9))
   (step0 (some p67) (gP (iIad 3 (.t p65) (.t p66)))
   (step0 (some p68) (gP (iLoad true 3 (.t p67)))
   (step0 (some p10) (gE (iAlloc 93 [(.int 32 0), (.int 32 0), (.int 32 0)]))
   (step0 none (gE (iStore 3 (.t p10) (.t p68)))
   endG)))))))
  (cSeq (cSeq (cReg (step0 (some p69) (gP (iFad 0 (.t p10)))
   (step0 (some p70) (gP (iLoad false 1 (.t p69)))
   (step0 (some p71) (gMov (.t p1))
   (step0 (some p72) (gP (iInt fLeq 32 (.t p70) (.t p71)))
   (step0 (some p73) (gMov (.t p72))
   (stepG (some p74) (gMov (.t p1)) (some (p73, true))
   (stepG (some p75) (gP (iFad 1 (.t p10))) (some (p73, true))
   (stepG (some p76) (gP (iLoad false 1 (.t p75))) (some (p73, true))
   (stepG (some p77) (gP (iInt fLeq 32 (.t p74) (.t p76))) (some (p73, true))
   (step0 (some p78) (gP (iPick (.t p73) (.t p77) (.c (.bool false))))
   endG)))))))))))
  (cCond (.t p78) (cSeq (cReg (step0 (some p79) (gP (iFad 2 (.t p10)))
   (step0 (some p80) (gP (iLoad false 1 (.t p79)))
   (step0 (some p81) (gP (iInt fEql 32 (.t p80) (.c (.int 32 1))))
   (step0 (some p82) (gMov (.t p81))
   (stepG (some p83) (gMov (.t p1)) (some (p82, false))
   (stepG (some p84) (gP (iFad 0 (.t p10))) (some (p82, false))
   (stepG (some p85) (gP (iLoad false 1 (.t p84))) (some (p82, false))
   (stepG (some p86) (gP (iInt fSub 32 (.t p83) (.t p85))) (some (p82, false))
   (stepG (some p87) (gP (iFad 2 (.t p10))) (some (p82, false))
   (stepG (some p88) (gP (iLoad false 1 (.t p87))) (some (p82, false))
   (stepG (some p89) (gP (iInt fRem 32 (.t p86) (.t p88))) (some (p82, false))
   (stepG (some p90) (gP (iInt fEql 32 (.t p89) (.c (.int 32 0)))) (some (p82, false))
   (step0 (some p91) (gP (iPick (.t p82) (.c (.bool true)) (.t p90)))
   (step0 (some p4) (gMov (.t p91))
   endG)))))))))))))))
  cRet)
  cSkip))
  (cSeq (cReg (step0 (some p92) (gMov (.t p1))
   (step0 (some p93) (gP (iFad 0 (.t p10)))
   (step0 (some p94) (gP (iLoad false 1 (.t p93)))
   (step0 (some p95) (gP (iInt fLss 32 (.t p92) (.t p94)))
   endG)))))
  (cCond (.t p95) (cReg (step0 (some p96) (gMov (.t p9))
   (step0 (some p8) (gMov (.t p96))
   endG)))
  (cReg (step0 (some p97) (gMov (.t p9))
   (step0 (some p98) (gP (iInt fAdd 63 (.t p97) (.c (.int 63 1))))
   (step0 (some p7) (gMov (.t p98))
   endG)))))))))))
noncomputable def c53_5 : CEv := (cBlock 2 (cLoop b53_1))
noncomputable def c53_6 : CEv := (cReg (step0 (some p4) (gMov (.c (.bool false)))
   endG))
noncomputable def sh53 : Fs := .mk [(.t p4)]
  (cSeq c53_0
  (cSeq (cSeq c53_1
  c53_2)
  (cSeq c53_3
  (cSeq c53_4
  (cSeq c53_5
  (cSeq c53_6
  cRet))))))
noncomputable def c54_0 : CEv := (cReg (step0 (some p4) (gMov (.c (.int 63 0)))
   endG))
noncomputable def c54_1 : CEv := (cReg (step0 (some p5) (gMov (.t p0))
   (step0 (some p6) (gMov (.t p1))
   (step0 (some p7) (gCall 69 [(.t p5), (.t p6)])
   (step0 (some p4) (gMov (.t p7))
   endG)))))
noncomputable def sh54 : Fs := .mk [(.t p4)]
  (cSeq c54_0
  (cSeq c54_1
  cRet))
noncomputable def c55_0 : CEv := (cReg (step0 (some p2) (gMov (.c (.bool false)))
   endG))
noncomputable def c55_1 : CEv := (cBlock 0 (cSeq (cReg (step0 (some p4) (gMov (.t p0))
   (step0 (some p5) (gP (iInt fLeq 31 (.c (.int 31 0)) (.t p4)))
   (step0 (some p6) (gMov (.t p5))
   (stepG (some p7) (gMov (.t p0)) (some (p6, true))
   (stepG (some p8) (gP (iInt fLss 31 (.t p7) (.c (.int 31 55296)))) (some (p6, true))
   (step0 (some p9) (gP (iPick (.t p6) (.t p8) (.c (.bool false))))
   (step0 (some p3) (gMov (.t p9))
   endG))))))))
  (cCond (.t p3) (cSeq (cReg (step0 (some p2) (gMov (.c (.bool true)))
   endG))
  cRet)
  (cSeq (cReg (step0 (some p11) (gMov (.t p0))
   (step0 (some p12) (gP (iInt fLss 31 (.c (.int 31 57343)) (.t p11)))
   (step0 (some p13) (gMov (.t p12))
   (stepG (some p14) (gMov (.t p0)) (some (p13, true))
   (stepG (some p15) (gP (iInt fLeq 31 (.t p14) (.c (.int 31 1114111)))) (some (p13, true))
   (step0 (some p16) (gP (iPick (.t p13) (.t p15) (.c (.bool false))))
   (step0 (some p10) (gMov (.t p16))
   endG))))))))
  (cCond (.t p10) (cSeq (cReg (step0 (some p2) (gMov (.c (.bool true)))
   endG))
  cRet)
  cSkip)))))
noncomputable def c55_2 : CEv := (cReg (step0 (some p2) (gMov (.c (.bool false)))
   endG))
noncomputable def sh55 : Fs := .mk [(.t p2)]
  (cSeq c55_0
  (cSeq c55_1
  (cSeq c55_2
  cRet)))
noncomputable def c56_0 : CEv := (cReg (step0 (some p2) (gMov (.c (.int 63 0)))
   endG))
noncomputable def c56_1 : CEv := (cReg (step0 (some p3) (gMov (.t p0))
   (step0 (some p4) (gP (iInt fAdd 63 (.t p3) (.c (.int 63 16))))
   (step0 (some p5) (gP (iInt fQuo 63 (.t p4) (.c (.int 63 8))))
   (step0 (some p2) (gMov (.t p5))
   endG)))))
noncomputable def sh56 : Fs := .mk [(.t p2)]
  (cSeq c56_0
  (cSeq c56_1
  cRet))
noncomputable def c58_0 : CEv := (cReg (step0 (some p6) (gMov (.c (.int 64 0)))
   (step0 (some p7) (gMov (.c (.ref 7 0 0 0 0 false)))
   endG)))
noncomputable def c58_1 : CEv := (cReg (step0 (some p18) (gMov (.t p0))
   (step0 (some p19) (gP (iStr sEql (.t p18) (.c (.str []))))
   endG)))
noncomputable def c58_2 : CEv := (cCond (.t p19) (cSeq (cReg (step0 (some p20) (gP (iMki 97 (.c (.int 63 2))))
   (step0 (some p6) (gMov (.c (.int 64 0)))
   (step0 (some p7) (gMov (.t p20))
   endG))))
  cRet)
  cSkip)
noncomputable def c58_3 : CEv := (cReg (step0 (some p21) (gMov (.t p1))
   (step0 (some p22) (gP (iInt fEql 63 (.t p21) (.c (.int 63 0))))
   (step0 (some p8) (gMov (.t p22))
   endG))))
noncomputable def c58_4 : CEv := (cReg (step0 (some p23) (gMov (.t p0))
   (step0 (some p9) (gMov (.t p23))
   endG)))
noncomputable def c58_5 : CEv := (cBlock 0 (cSeq (cReg (step0 (some p26) (gMov (.t p1))
   (step0 (some p27) (gP (iInt fLeq 63 (.c (.int 63 2)) (.t p26)))
   (step0 (some p28) (gMov (.t p27))
   (stepG (some p29) (gMov (.t p1)) (some (p28, true))
   (stepG (some p30) (gP (iInt fLeq 63 (.t p29) (.c (.int 63 36)))) (some (p28, true))
   (step0 (some p31) (gP (iPick (.t p28) (.t p30) (.c (.bool false))))
   (step0 (some p25) (gMov (.t p31))
   endG))))))))
  (cCond (.t p25) cSkip
  (cSeq (cReg (step0 (some p33) (gMov (.t p1))
   (step0 (some p34) (gP (iInt fEql 63 (.t p33) (.c (.int 63 0))))
   (step0 (some p32) (gMov (.t p34))
   endG))))
  (cCond (.t p32) (cSeq (cReg (step0 (some p1) (gMov (.c (.int 63 10)))
   endG))
  (cSeq (cReg (step0 (some p35) (gMov (.t p0))
   (step0 (some p36) (gP (iIxs (.t p35) (.c (.int 63 0))))
   (step0 (some p37) (gP (iInt fEql 8 (.t p36) (.c (.int 8 48))))
   endG))))
  (cCond (.t p37) (cBlock 1 (cSeq (cReg (step0 (some p41) (gMov (.t p0))
   (step0 (some p42) (gP (iLenS (.t p41)))
   (step0 (some p43) (gP (iInt fGeq 63 (.t p42) (.c (.int 63 3))))
   (step0 (some p44) (gMov (.t p43))
   (stepG (some p45) (gMov (.t p0)) (some (p44, true))
   (stepG (some p46) (gP (iIxs (.t p45) (.c (.int 63 1)))) (some (p44, true))
   (stepG (some p47) (gCall 70 [(.t p46)]) (some (p44, true))
   (stepG (some p48) (gP (iInt fEql 8 (.t p47) (.c (.int 8 98)))) (some (p44, true))
   (step0 (some p49) (gP (iPick (.t p44) (.t p48) (.c (.bool false))))
   (step0 (some p40) (gMov (.t p49))
   endG)))))))))))
  (cCond (.t p40) (cSeq (cReg (step0 (some p1) (gMov (.c (.int 63 2)))
   endG))
  (cReg (step0 (some p50) (gMov (.t p0))
   (step0 (some p51) (gP (iSls (.t p50) (some (.c (.int 63 2))) none))
   (step0 (some p0) (gMov (.t p51))
   endG)))))
  (cSeq (cReg (step0 (some p53) (gMov (.t p0))
   (step0 (some p54) (gP (iLenS (.t p53)))
   (step0 (some p55) (gP (iInt fGeq 63 (.t p54) (.c (.int 63 3))))
   (step0 (some p56) (gMov (.t p55))
   (stepG (some p57) (gMov (.t p0)) (some (p56, true))
   (stepG (some p58) (gP (iIxs (.t p57) (.c (.int 63 1)))) (some (p56, true))
   (stepG (some p59) (gCall 70 [(.t p58)]) (some (p56, true))
   (stepG (some p60) (gP (iInt fEql 8 (.t p59) (.c (.int 8 111)))) (some (p56, true))
   (step0 (some p61) (gP (iPick (.t p56) (.t p60) (.c (.bool false))))
   (step0 (some p52) (gMov (.t p61))
   endG)))))))))))
  (cCond (.t p52) (cSeq (cReg (step0 (some p1) (gMov (.c (.int 63 8)))
   endG))
  (cReg (step0 (some p62) (gMov (.t p0))
   (step0 (some p63) (gP (iSls (.t p62) (some (.c (.int 63 2))) none))
   (step0 (some p0) (gMov (.t p63))
   endG)))))
  (cSeq (cReg (step0 (some p65) (gMov (.t p0))
   (step0 (some p66) (gP (iLenS (.t p65)))
   (step0 (some p67) (gP (iInt fGeq 63 (.t p66) (.c (.int 63 3))))
   (step0 (some p68) (gMov (.t p67))
   (stepG (some p69) (gMov (.t p0)) (some (p68, true))
   (stepG (some p70) (gP (iIxs (.t p69) (.c (.int 63 1)))) (some (p68, true))
   (stepG (some p71) (gCall 70 [(.t p70)]) (some (p68, true))
   (stepG (some p72) (gP (iInt fEql 8 (.t p71) (.c (.int 8 120)))) (some (p68, true))
   (step0 (some p73) (gP (iPick (.t p68) (.t p72) (.c (.bool false))))
   (step0 (some p64) (gMov (.t p73))
   endG)))))))))))
  (cCond (.t p64) (cSeq (cReg (step0 (some p1) (gMov (.c (.int 63 16)))
   endG))
  (cReg (step0 (some p74) (gMov (.t p0))
   (step0 (some p75) (gP (iSls (.t p74) (some (.c (.int 63 2))) none))
   (step0 (some p0) (gMov (.t p75))
   endG)))))
  (cSeq (cReg (step0 (some p1) (gMov (.c (.int 63 8)))
   endG))
  (cReg (step0 (some p38) (gMov (.t p0))
   (step0 (some p39) (gP (iSls (.t p38) (some (.c (.int 63 1))) none))
   (step0 (some p0) (gMov (.t p39))
   endG))))))))))))
  cSkip)))
  (cSeq (cReg (step0 (some p24) (gP (iMki 97 (.c (.int 63 3))))
   (step0 (some p6) (gMov (.c (.int 64 0)))
   (step0 (some p7) (gMov (.t p24))
   endG))))
  cRet))))))
noncomputable def c58_6 : CEv := (cReg (step0 (some p76) (gMov (.t p2))
   (step0 (some p77) (gP (iInt fEql 63 (.t p76) (.c (.int 63 0))))
   endG)))
noncomputable def c58_7 : CEv := (cCond (.t p77) (cReg (step0 (some p2) (gMov (.c (.int 63 64)))
   endG))
  (cSeq (cReg (step0 (some p78) (gMov (.t p2))
   (step0 (some p79) (gP (iInt fLss 63 (.t p78) (.c (.int 63 0))))
   (step0 (some p80) (gMov (.t p79))
   (stepG (some p81) (gMov (.t p2)) (some (p80, false))
   (stepG (some p82) (gP (iInt fGtr 63 (.t p81) (.c (.int 63 64)))) (some (p80, false))
   (step0 (some p83) (gP (iPick (.t p80) (.c (.bool true)) (.t p82)))
   endG)))))))
  (cCond (.t p83) (cSeq (cReg (step0 (some p84) (gP (iMki 97 (.c (.int 63 4))))
   (step0 (some p6) (gMov (.c (.int 64 0)))
   (step0 (some p7) (gMov (.t p84))
   endG))))
  cRet)
  cSkip)))
noncomputable def c58_8 : CEv := (cReg (step0 (some p10) (gMov (.c (.int 64 0)))
   endG))
noncomputable def c58_9 : CEv := (cReg (step0 (some p85) (gMov (.t p1))
   endG))
noncomputable def c58_10 : CEv := (cBlock 2 (cSeq (cReg (step0 (some p91) (gP (iInt fEql 63 (.t p85) (.c (.int 63 10))))
   (step0 (some p90) (gMov (.t p91))
   endG)))
  (cCond (.t p90) (cReg (step0 (some p10) (gMov (.c (.int 64 1844674407370955162)))
   endG))
  (cSeq (cReg (step0 (some p93) (gP (iInt fEql 63 (.t p85) (.c (.int 63 16))))
   (step0 (some p92) (gMov (.t p93))
   endG)))
  (cCond (.t p92) (cReg (step0 (some p10) (gMov (.c (.int 64 1152921504606846976)))
   endG))
  (cReg (step0 (some p86) (gMov (.t p1))
   (step0 (some p87) (gP (iCvi 64 (.t p86)))
   (step0 (some p88) (gP (iInt fQuo 64 (.c (.int 64 18446744073709551615)) (.t p87)))
   (step0 (some p89) (gP (iInt fAdd 64 (.t p88) (.c (.int 64 1))))
   (step0 (some p10) (gMov (.t p89))
   endG)))))))))))
noncomputable def c58_11 : CEv := (cReg (step0 (some p94) (gMov (.t p2))
   (step0 (some p95) (gP (iCvi 64 (.t p94)))
   (step0 (some p96) (gP (iSh fShl 64 (.c (.int 64 1)) (.t p95)))
   (step0 (some p97) (gP (iInt fSub 64 (.t p96) (.c (.int 64 1))))
   (step0 (some p11) (gMov (.t p97))
   endG))))))
noncomputable def c58_12 : CEv := (cReg (step0 (some p12) (gMov (.c (.bool false)))
   endG))
noncomputable def c58_13 : CEv := (cReg (step0 (some p13) (gMov (.c (.int 64 0)))
   endG))
noncomputable def c58_14 : CEv := (cReg (step0 (some p98) (gMov (.t p0))
   (step0 (some p99) (gE (iCvsb 5 (.t p98)))
   (step0 (some p100) (gP (iLenL (.t p99)))
   (step0 (some p101) (gMov (.c (.int 63 0)))
   endG)))))
noncomputable def b58_0 : CEv := (cSeq (cReg (step0 (some p102) (gP (iInt fLss 63 (.t p101) (.t p100)))
   endG))
  (cSeq (cCond (.t p102) cSkip
  (cExit 3))
  (cSeq (cBlock 4 (cSeq (cReg (step0 (some p103) (gP (iIad 1 (.t p99) (.t p101)))
   (step0 (some p104) (gP (iLoad false 1 (.t p103)))
   (step0 (some p15) (gMov (.t p104))
   endG))))
  (cSeq (cReg (step0 (some p16) (gMov (.c (.int 8 0)))
   endG))
  (cSeq (cBlock 5 (cSeq (cReg (step0 (some p107) (gMov (.t p15))
   (step0 (some p108) (gP (iInt fEql 8 (.t p107) (.c (.int 8 95))))
   (step0 (some p109) (gMov (.t p108))
   (stepG (some p110) (gMov (.t p8)) (some (p109, true))
   (step0 (some p111) (gP (iPick (.t p109) (.t p110) (.c (.bool false))))
   (step0 (some p106) (gMov (.t p111))
   endG)))))))
  (cCond (.t p106) (cSeq (cReg (step0 (some p12) (gMov (.c (.bool true)))
   endG))
  (cExit 4))
  (cSeq (cReg (step0 (some p113) (gMov (.t p15))
   (step0 (some p114) (gP (iInt fLeq 8 (.c (.int 8 48)) (.t p113)))
   (step0 (some p115) (gMov (.t p114))
   (stepG (some p116) (gMov (.t p15)) (some (p115, true))
   (stepG (some p117) (gP (iInt fLeq 8 (.t p116) (.c (.int 8 57)))) (some (p115, true))
   (step0 (some p118) (gP (iPick (.t p115) (.t p117) (.c (.bool false))))
   (step0 (some p112) (gMov (.t p118))
   endG))))))))
  (cCond (.t p112) (cReg (step0 (some p119) (gMov (.t p15))
   (step0 (some p120) (gP (iInt fSub 8 (.t p119) (.c (.int 8 48))))
   (step0 (some p16) (gMov (.t p120))
   endG))))
  (cSeq (cReg (step0 (some p122) (gMov (.t p15))
   (step0 (some p123) (gCall 70 [(.t p122)])
   (step0 (some p124) (gP (iInt fLeq 8 (.c (.int 8 97)) (.t p123)))
   (step0 (some p125) (gMov (.t p124))
   (stepG (some p126) (gMov (.t p15)) (some (p125, true))
   (stepG (some p127) (gCall 70 [(.t p126)]) (some (p125, true))
   (stepG (some p128) (gP (iInt fLeq 8 (.t p127) (.c (.int 8 122)))) (some (p125, true))
   (step0 (some p129) (gP (iPick (.t p125) (.t p128) (.c (.bool false))))
   (step0 (some p121) (gMov (.t p129))
   endG))))))))))
  (cCond (.t p121) (cReg (step0 (some p130) (gMov (.t p15))
   (step0 (some p131) (gCall 70 [(.t p130)])
   (step0 (some p132) (gP (iInt fSub 8 (.t p131) (.c (.int 8 97))))
   (step0 (some p133) (gP (iInt fAdd 8 (.t p132) (.c (.int 8 10))))
   (step0 (some p16) (gMov (.t p133))
   endG))))))
  (cSeq (cReg (step0 (some p105) (gP (iMki 97 (.c (.int 63 2))))
   (step0 (some p6) (gMov (.c (.int 64 0)))
   (step0 (some p7) (gMov (.t p105))
   endG))))
  cRet))))))))
  (cSeq (cSeq (cReg (step0 (some p134) (gMov (.t p16))
   (step0 (some p135) (gMov (.t p1))
   (step0 (some p136) (gP (iCvi 8 (.t p135)))
   (step0 (some p137) (gP (iInt fGeq 8 (.t p134) (.t p136)))
   endG)))))
  (cCond (.t p137) (cSeq (cReg (step0 (some p138) (gP (iMki 97 (.c (.int 63 2))))
   (step0 (some p6) (gMov (.c (.int 64 0)))
   (step0 (some p7) (gMov (.t p138))
   endG))))
  cRet)
  cSkip))
  (cSeq (cSeq (cReg (step0 (some p139) (gMov (.t p13))
   (step0 (some p140) (gMov (.t p10))
   (step0 (some p141) (gP (iInt fGeq 64 (.t p139) (.t p140)))
   endG))))
  (cCond (.t p141) (cSeq (cReg (step0 (some p142) (gMov (.t p11))
   (step0 (some p143) (gP (iMki 97 (.c (.int 63 1))))
   (step0 (some p6) (gMov (.t p142))
   (step0 (some p7) (gMov (.t p143))
   endG)))))
  cRet)
  cSkip))
  (cSeq (cReg (step0 (some p144) (gMov (.t p13))
   (step0 (some p145) (gMov (.t p1))
   (step0 (some p146) (gP (iCvi 64 (.t p145)))
   (step0 (some p147) (gP (iInt fMul 64 (.t p144) (.t p146)))
   (step0 (some p13) (gMov (.t p147))
   endG))))))
  (cSeq (cReg (step0 (some p148) (gMov (.t p13))
   (step0 (some p149) (gMov (.t p16))
   (step0 (some p150) (gP (iCvi 64 (.t p149)))
   (step0 (some p151) (gP (iInt fAdd 64 (.t p148) (.t p150)))
   (step0 (some p17) (gMov (.t p151))
   endG))))))
  (cSeq (cSeq (cReg (step0 (some p152) (gMov (.t p17))
   (step0 (some p153) (gMov (.t p13))
   (step0 (some p154) (gP (iInt fLss 64 (.t p152) (.t p153)))
   (step0 (some p155) (gMov (.t p154))
   (stepG (some p156) (gMov (.t p17)) (some (p155, false))
   (stepG (some p157) (gMov (.t p11)) (some (p155, false))
   (stepG (some p158) (gP (iInt fGtr 64 (.t p156) (.t p157))) (some (p155, false))
   (step0 (some p159) (gP (iPick (.t p155) (.c (.bool true)) (.t p158)))
   endG)))))))))
  (cCond (.t p159) (cSeq (cReg (step0 (some p160) (gMov (.t p11))
   (step0 (some p161) (gP (iMki 97 (.c (.int 63 1))))
   (step0 (some p6) (gMov (.t p160))
   (step0 (some p7) (gMov (.t p161))
   endG)))))
  cRet)
  cSkip))
  (cReg (step0 (some p162) (gMov (.t p17))
   (step0 (some p13) (gMov (.t p162))
   endG))))))))))))
  (cReg (step0 (some p163) (gP (iInt fAdd 63 (.t p101) (.c (.int 63 1))))
   (step0 (some p101) (gMov (.t p163))
   endG))))))
noncomputable def c58_15 : CEv := (cBlock 3 (cLoop b58_0))
noncomputable def c58_16 : CEv := (cReg (step0 (some p164) (gMov (.t p12))
   (step0 (some p165) (gMov (.t p164))
   (stepG (some p166) (gMov (.t p9)) (some (p165, true))
   (stepG (some p167) (gCall 71 [(.t p166)]) (some (p165, true))
   (stepG (some p168) (gP (iNot (.t p167))) (some (p165, true))
   (step0 (some p169) (gP (iPick (.t p165) (.t p168) (.c (.bool false))))
   endG)))))))
noncomputable def c58_17 : CEv := (cCond (.t p169) (cSeq (cReg (step0 (some p170) (gP (iMki 97 (.c (.int 63 2))))
   (step0 (some p6) (gMov (.c (.int 64 0)))
   (step0 (some p7) (gMov (.t p170))
   endG))))
  cRet)
  cSkip)
noncomputable def c58_18 : CEv := (cReg (step0 (some p171) (gMov (.t p13))
   (step0 (some p6) (gMov (.t p171))
   (step0 (some p7) (gMov (.c (.ref 7 0 0 0 0 false)))
   endG))))
noncomputable def sh58 : Fs := .mk [(.t p6), (.t p7)]
  (cSeq c58_0
  (cSeq (cSeq c58_1
  c58_2)
  (cSeq c58_3
  (cSeq c58_4
  (cSeq c58_5
  (cSeq (cSeq c58_6
  c58_7)
  (cSeq c58_8
  (cSeq (cSeq c58_9
  c58_10)
  (cSeq c58_11
  (cSeq c58_12
  (cSeq c58_13
  (cSeq (cSeq c58_14
  c58_15)
  (cSeq (cSeq c58_16
  c58_17)
  (cSeq c58_18
  cRet))))))))))))))
noncomputable def c59_0 : CEv := (cReg (step0 (some p4) (gMov (.c (.ref 0 0 0 0 0 false)))
   endG))
noncomputable def c59_1 : CEv := (cDraw [p5, p6, p7, p8, p9, p10, p4] (stepR [p0] (some p5) (gMov (.t p0)) none
   (stepR [p1] (some p6) (gMov (.t p1)) none
   (stepQ 3 [] (some p8) (gP (iLoad false 1 (.c (.ref 1 5 0 0 0 false)))) none
   (stepC [3] [p6] (some p7) (gCall 72 [(.t p6)]) none
   (stepR [p5, p7, p8] (some p9) (gP (iBuild [(.str []), (.str []), (.ref 7 0 0 0 0 false)] [(0, (1, (.t p5))), (1, (1, (.t p7))), (2, (1, (.t p8)))])) none
   (stepL [p9] (some p10) (gE (iBox 116 (.t p9))) none
   (stepR [p10] (some p4) (gMov (.t p10)) none
   endD))))))))
noncomputable def sh59 : Fs := .mk [(.t p4)]
  (cSeq c59_0
  (cSeq c59_1
  cRet))
noncomputable def c60_0 : CEv := (cReg (step0 (some p4) (gMov (.c (.ref 0 0 0 0 0 false)))
   endG))
noncomputable def c60_1 : CEv := (cDraw [p5, p6, p7, p8, p9, p10, p4] (stepR [p0] (some p5) (gMov (.t p0)) none
   (stepR [p1] (some p6) (gMov (.t p1)) none
   (stepQ 3 [] (some p8) (gP (iLoad false 1 (.c (.ref 1 6 0 0 0 false)))) none
   (stepC [3] [p6] (some p7) (gCall 72 [(.t p6)]) none
   (stepR [p5, p7, p8] (some p9) (gP (iBuild [(.str []), (.str []), (.ref 7 0 0 0 0 false)] [(0, (1, (.t p5))), (1, (1, (.t p7))), (2, (1, (.t p8)))])) none
   (stepL [p9] (some p10) (gE (iBox 116 (.t p9))) none
   (stepR [p10] (some p4) (gMov (.t p10)) none
   endD))))))))
noncomputable def sh60 : Fs := .mk [(.t p4)]
  (cSeq c60_0
  (cSeq c60_1
  cRet))
noncomputable def c61_0 : CEv := (cReg (step0 (some p6) (gMov (.c (.ref 0 0 0 0 0 false)))
   endG))
noncomputable def c61_1 : CEv := (cReg (step0 (some p7) (gMov (.t p0))
   (step0 (some p8) (gMov (.t p1))
   (step0 (some p9) (gCall 72 [(.t p8)])
   (step0 (some p10) (gMov (.t p2))
   (step0 (some p11) (gCall 74 [(.t p10)])
   (step0 (some p12) (gP (iStr sAdd (.c (.str [105, 110, 118, 97, 108, 105, 100, 32, 98, 97, 115, 101, 32])) (.t p11)))
   (step0 (some p13) (gCall 73 [(.t p12)])
   (step0 (some p14) (gP (iBuild [(.str []), (.str []), (.ref 7 0 0 0 0 false)] [(0, (1, (.t p7))), (1, (1, (.t p9))), (2, (1, (.t p13)))]))
   (step0 (some p15) (gE (iBox 116 (.t p14)))
   (step0 (some p6) (gMov (.t p15))
   endG)))))))))))
noncomputable def sh61 : Fs := .mk [(.t p6)]
  (cSeq c61_0
  (cSeq c61_1
  cRet))
noncomputable def c62_0 : CEv := (cReg (step0 (some p6) (gMov (.c (.ref 0 0 0 0 0 false)))
   endG))
noncomputable def c62_1 : CEv := (cReg (step0 (some p7) (gMov (.t p0))
   (step0 (some p8) (gMov (.t p1))
   (step0 (some p9) (gCall 72 [(.t p8)])
   (step0 (some p10) (gMov (.t p2))
   (step0 (some p11) (gCall 74 [(.t p10)])
   (step0 (some p12) (gP (iStr sAdd (.c (.str [105, 110, 118, 97, 108, 105, 100, 32, 98, 105, 116, 32, 115, 105, 122, 101, 32])) (.t p11)))
   (step0 (some p13) (gCall 73 [(.t p12)])
   (step0 (some p14) (gP (iBuild [(.str []), (.str []), (.ref 7 0 0 0 0 false)] [(0, (1, (.t p7))), (1, (1, (.t p9))), (2, (1, (.t p13)))]))
   (step0 (some p15) (gE (iBox 116 (.t p14)))
   (step0 (some p6) (gMov (.t p15))
   endG)))))))))))
noncomputable def sh62 : Fs := .mk [(.t p6)]
  (cSeq c62_0
  (cSeq c62_1
  cRet))
noncomputable def c63_0 : CEv := (cReg (step0 (some p2) (gMov (.c (.str [])))
   endG))
noncomputable def c63_1 : CEv := (cReg (step0 (some p3) (gMov (.t p0))
   (step0 (some p4) (gP (iInt fLss 63 (.t p3) (.c (.int 63 10))))
   endG)))
noncomputable def c63_2 : CEv := (cCond (.t p4) (cSeq (cReg (step0 (some p5) (gMov (.t p0))
   (step0 (some p6) (gMov (.t p0))
   (step0 (some p7) (gP (iInt fAdd 63 (.t p6) (.c (.int 63 1))))
   (step0 (some p8) (gP (iSls (.c (.str [48, 49, 50, 51, 52, 53, 54, 55, 56, 57, 97, 98, 99, 100, 101, 102, 103, 104, 105, 106, 107, 108, 109, 110, 111, 112, 113, 114, 115, 116, 117, 118, 119, 120, 121, 122])) (some (.t p5)) (some (.t p7))))
   (step0 (some p2) (gMov (.t p8))
   endG))))))
  cRet)
  cSkip)
noncomputable def c63_3 : CEv := (cReg (step0 (some p9) (gMov (.t p0))
   (step0 (some p10) (gP (iInt fMul 63 (.t p9) (.c (.int 63 2))))
   (step0 (some p11) (gMov (.t p0))
   (step0 (some p12) (gP (iInt fMul 63 (.t p11) (.c (.int 63 2))))
   (step0 (some p13) (gP (iInt fAdd 63 (.t p12) (.c (.int 63 2))))
   (step0 (some p14) (gP (iSls (.c (.str [48, 48, 48, 49, 48, 50, 48, 51, 48, 52, 48, 53, 48, 54, 48, 55, 48, 56, 48, 57, 49, 48, 49, 49, 49, 50, 49, 51, 49, 52, 49, 53, 49, 54, 49, 55, 49, 56, 49, 57, 50, 48, 50, 49, 50, 50, 50, 51, 50, 52, 50, 53, 50, 54, 50, 55, 50, 56, 50, 57, 51, 48, 51, 49, 51, 50, 51, 51, 51, 52, 51, 53, 51, 54, 51, 55, 51, 56, 51, 57, 52, 48, 52, 49, 52, 50, 52, 51, 52, 52, 52, 53, 52, 54, 52, 55, 52, 56, 52, 57, 53, 48, 53, 49, 53, 50, 53, 51, 53, 52, 53, 53, 53, 54, 53, 55, 53, 56, 53, 57, 54, 48, 54, 49, 54, 50, 54, 51, 54, 52, 54, 53, 54, 54, 54, 55, 54, 56, 54, 57, 55, 48, 55, 49, 55, 50, 55, 51, 55, 52, 55, 53, 55, 54, 55, 55, 55, 56, 55, 57, 56, 48, 56, 49, 56, 50, 56, 51, 56, 52, 56, 53, 56, 54, 56, 55, 56, 56, 56, 57, 57, 48, 57, 49, 57, 50, 57, 51, 57, 52, 57, 53, 57, 54, 57, 55, 57, 56, 57, 57])) (some (.t p10)) (some (.t p13))))
   (step0 (some p2) (gMov (.t p14))
   endG))))))))
noncomputable def sh63 : Fs := .mk [(.t p2)]
  (cSeq c63_0
  (cSeq (cSeq c63_1
  c63_2)
  (cSeq c63_3
  cRet)))
noncomputable def c64_0 : CEv := (cReg (step0 (some p2) (gMov (.c (.int 63 0)))
   endG))
noncomputable def c64_1 : CEv := (cReg (step0 (some p4) (gMov (.t p0))
   (step0 (some p5) (gCall 76 [(.t p4)])
   (step0 (some p6) (gCall 75 [(.t p5)])
   (step0 (some p3) (gMov (.t p6))
   endG)))))
noncomputable def c64_2 : CEv := (cReg (step0 (some p7) (gMov (.t p3))
   (step0 (some p8) (gMov (.t p0))
   (step0 (some p9) (gMov (.t p3))
   (step0 (some p10) (gP (iIaa 20 1 (.c (.ref 1 7 0 0 0 false)) (.t p9)))
   (step0 (some p11) (gP (iLoad false 1 (.t p10)))
   (step0 (some p12) (gP (iInt fGeq 64 (.t p8) (.t p11)))
   (step0 (some p13) (gCall 77 [(.t p12)])
   (step0 (some p14) (gP (iInt fAdd 63 (.t p7) (.t p13)))
   (step0 (some p2) (gMov (.t p14))
   endG))))))))))
noncomputable def sh64 : Fs := .mk [(.t p2)]
  (cSeq c64_0
  (cSeq c64_1
  (cSeq c64_2
  cRet)))
noncomputable def c65_0 : CEv := (cReg (step0 (some p17) (gMov (.t p0))
   (step0 (some p18) (gP (iLenL (.t p17)))
   (step0 (some p4) (gMov (.t p18))
   endG))))
noncomputable def b65_0 : CEv := (cSeq (cSeq (cReg (step0 (some p19) (gMov (.t p4))
   (step0 (some p20) (gP (iInt fGeq 63 (.t p19) (.c (.int 63 8))))
   endG)))
  (cCond (.t p20) cSkip
  (cExit 0)))
  (cBlock 1 (cSeq (cReg (step0 (some p21) (gMov (.t p1))
   (step0 (some p22) (gP (iInt fRem 64 (.t p21) (.c (.int 64 100000000))))
   (step0 (some p23) (gP (iCvi 32 (.t p22)))
   (step0 (some p5) (gMov (.t p23))
   endG)))))
  (cSeq (cReg (step0 (some p24) (gMov (.t p1))
   (step0 (some p25) (gP (iInt fQuo 64 (.t p24) (.c (.int 64 100000000))))
   (step0 (some p1) (gMov (.t p25))
   endG))))
  (cSeq (cReg (step0 (some p26) (gMov (.t p5))
   (step0 (some p27) (gP (iInt fQuo 32 (.t p26) (.c (.int 32 10000))))
   (step0 (some p28) (gMov (.t p5))
   (step0 (some p29) (gP (iInt fRem 32 (.t p28) (.c (.int 32 10000))))
   (step0 (some p6) (gMov (.t p27))
   (step0 (some p7) (gMov (.t p29))
   endG)))))))
  (cSeq (cReg (step0 (some p30) (gMov (.t p7))
   (step0 (some p31) (gP (iInt fQuo 32 (.t p30) (.c (.int 32 100))))
   (step0 (some p32) (gP (iInt fMul 32 (.t p31) (.c (.int 32 2))))
   (step0 (some p33) (gMov (.t p7))
   (step0 (some p34) (gP (iInt fRem 32 (.t p33) (.c (.int 32 100))))
   (step0 (some p35) (gP (iInt fMul 32 (.t p34) (.c (.int 32 2))))
   (step0 (some p8) (gMov (.t p32))
   (step0 (some p9) (gMov (.t p35))
   endG)))))))))
  (cSeq (cReg (step0 (some p36) (gMov (.t p6))
   (step0 (some p37) (gP (iInt fQuo 32 (.t p36) (.c (.int 32 100))))
   (step0 (some p38) (gP (iInt fMul 32 (.t p37) (.c (.int 32 2))))
   (step0 (some p39) (gMov (.t p6))
   (step0 (some p40) (gP (iInt fRem 32 (.t p39) (.c (.int 32 100))))
   (step0 (some p41) (gP (iInt fMul 32 (.t p40) (.c (.int 32 2))))
   (step0 (some p10) (gMov (.t p38))
   (step0 (some p11) (gMov (.t p41))
   endG)))))))))
  (cSeq (cDraw [p42, p43, p44, p45, p46, p47, p48, p49, p50, p51, p52, p53, p54] (stepR [p0] (some p42) (gMov (.t p0)) none
   (stepR [p4] (some p43) (gMov (.t p4)) none
   (stepR [p43] (some p44) (gP (iInt fSub 63 (.t p43) (.c (.int 63 1)))) none
   (stepR [p0] (some p45) (gMov (.t p0)) none
   (stepR [p4] (some p46) (gMov (.t p4)) none
   (stepR [p46] (some p47) (gP (iInt fSub 63 (.t p46) (.c (.int 63 2)))) none
   (stepR [p9] (some p48) (gMov (.t p9)) none
   (stepR [p48] (some p49) (gP (iInt fAdd 32 (.t p48) (.c (.int 32 1)))) none
   (stepR [p49] (some p50) (gP (iIxs (.c (.str [48, 48, 48, 49, 48, 50, 48, 51, 48, 52, 48, 53, 48, 54, 48, 55, 48, 56, 48, 57, 49, 48, 49, 49, 49, 50, 49, 51, 49, 52, 49, 53, 49, 54, 49, 55, 49, 56, 49, 57, 50, 48, 50, 49, 50, 50, 50, 51, 50, 52, 50, 53, 50, 54, 50, 55, 50, 56, 50, 57, 51, 48, 51, 49, 51, 50, 51, 51, 51, 52, 51, 53, 51, 54, 51, 55, 51, 56, 51, 57, 52, 48, 52, 49, 52, 50, 52, 51, 52, 52, 52, 53, 52, 54, 52, 55, 52, 56, 52, 57, 53, 48, 53, 49, 53, 50, 53, 51, 53, 52, 53, 53, 53, 54, 53, 55, 53, 56, 53, 57, 54, 48, 54, 49, 54, 50, 54, 51, 54, 52, 54, 53, 54, 54, 54, 55, 54, 56, 54, 57, 55, 48, 55, 49, 55, 50, 55, 51, 55, 52, 55, 53, 55, 54, 55, 55, 55, 56, 55, 57, 56, 48, 56, 49, 56, 50, 56, 51, 56, 52, 56, 53, 56, 54, 56, 55, 56, 56, 56, 57, 57, 48, 57, 49, 57, 50, 57, 51, 57, 52, 57, 53, 57, 54, 57, 55, 57, 56, 57, 57])) (.t p49))) none
   (stepR [p9] (some p51) (gMov (.t p9)) none
   (stepR [p51] (some p52) (gP (iIxs (.c (.str [48, 48, 48, 49, 48, 50, 48, 51, 48, 52, 48, 53, 48, 54, 48, 55, 48, 56, 48, 57, 49, 48, 49, 49, 49, 50, 49, 51, 49, 52, 49, 53, 49, 54, 49, 55, 49, 56, 49, 57, 50, 48, 50, 49, 50, 50, 50, 51, 50, 52, 50, 53, 50, 54, 50, 55, 50, 56, 50, 57, 51, 48, 51, 49, 51, 50, 51, 51, 51, 52, 51, 53, 51, 54, 51, 55, 51, 56, 51, 57, 52, 48, 52, 49, 52, 50, 52, 51, 52, 52, 52, 53, 52, 54, 52, 55, 52, 56, 52, 57, 53, 48, 53, 49, 53, 50, 53, 51, 53, 52, 53, 53, 53, 54, 53, 55, 53, 56, 53, 57, 54, 48, 54, 49, 54, 50, 54, 51, 54, 52, 54, 53, 54, 54, 54, 55, 54, 56, 54, 57, 55, 48, 55, 49, 55, 50, 55, 51, 55, 52, 55, 53, 55, 54, 55, 55, 55, 56, 55, 57, 56, 48, 56, 49, 56, 50, 56, 51, 56, 52, 56, 53, 56, 54, 56, 55, 56, 56, 56, 57, 57, 48, 57, 49, 57, 50, 57, 51, 57, 52, 57, 53, 57, 54, 57, 55, 57, 56, 57, 57])) (.t p51))) none
   (stepR [p42, p44] (some p53) (gP (iIad 1 (.t p42) (.t p44))) none
   (stepL [p53, p50] none (gE (iStore 1 (.t p53) (.t p50))) none
   (stepR [p45, p47] (some p54) (gP (iIad 1 (.t p45) (.t p47))) none
   (stepL [p54, p52] none (gE (iStore 1 (.t p54) (.t p52))) none
   endD))))))))))))))))
  (cSeq (cDraw [p55, p56, p57, p58, p59, p60, p61, p62, p63, p64, p65, p66, p67] (stepR [p0] (some p55) (gMov (.t p0)) none
   (stepR [p4] (some p56) (gMov (.t p4)) none
   (stepR [p56] (some p57) (gP (iInt fSub 63 (.t p56) (.c (.int 63 3)))) none
   (stepR [p0] (some p58) (gMov (.t p0)) none
   (stepR [p4] (some p59) (gMov (.t p4)) none
   (stepR [p59] (some p60) (gP (iInt fSub 63 (.t p59) (.c (.int 63 4)))) none
   (stepR [p8] (some p61) (gMov (.t p8)) none
   (stepR [p61] (some p62) (gP (iInt fAdd 32 (.t p61) (.c (.int 32 1)))) none
   (stepR [p62] (some p63) (gP (iIxs (.c (.str [48, 48, 48, 49, 48, 50, 48, 51, 48, 52, 48, 53, 48, 54, 48, 55, 48, 56, 48, 57, 49, 48, 49, 49, 49, 50, 49, 51, 49, 52, 49, 53, 49, 54, 49, 55, 49, 56, 49, 57, 50, 48, 50, 49, 50, 50, 50, 51, 50, 52, 50, 53, 50, 54, 50, 55, 50, 56, 50, 57, 51, 48, 51, 49, 51, 50, 51, 51, 51, 52, 51, 53, 51, 54, 51, 55, 51, 56, 51, 57, 52, 48, 52, 49, 52, 50, 52, 51, 52, 52, 52, 53, 52, 54, 52, 55, 52, 56, 52, 57, 53, 48, 53, 49, 53, 50, 53, 51, 53, 52, 53, 53, 53, 54, 53, 55, 53, 56, 53, 57, 54, 48, 54, 49, 54, 50, 54, 51, 54, 52, 54, 53, 54, 54, 54, 55, 54, 56, 54, 57, 55, 48, 55, 49, 55, 50, 55, 51, 55, 52, 55, 53, 55, 54, 55, 55, 55, 56, 55, 57, 56, 48, 56, 49, 56, 50, 56, 51, 56, 52, 56, 53, 56, 54, 56, 55, 56, 56, 56, 57, 57, 48, 57, 49, 57, 50, 57, 51, 57, 52, 57, 53, 57, 54, 57, 55, 57, 56, 57, 57])) (.t p62))) none
   (stepR [p8] (some p64) (gMov (.t p8)) none
   (stepR [p64] (some p65) (gP (iIxs (.c (.str [48, 48, 48, 49, 48, 50, 48, 51, 48, 52, 48, 53, 48, 54, 48, 55, 48, 56, 48, 57, 49, 48, 49, 49, 49, 50, 49, 51, 49, 52, 49, 53, 49, 54, 49, 55, 49, 56, 49, 57, 50, 48, 50, 49, 50, 50, 50, 51, 50, 52, 50, 53, 50, 54, 50, 55, 50, 56, 50, 57, 51, 48, 51, 49, 51, 50, 51, 51, 51, 52, 51, 53, 51, 54, 51, 55, 51, 56, 51, 57, 52, 48, 52, 49, 52, 50, 52, 51, 52, 52, 52, 53, 52, 54, 52, 55, 52, 56, 52, 57, 53, 48, 53, 49, 53, 50, 53, 51, 53, 52, 53, 53, 53, 54, 53, 55, 53, 56, 53, 57, 54, 48, 54, 49, 54, 50, 54, 51, 54, 52, 54, 53, 54, 54, 54, 55, 54, 56, 54, 57, 55, 48, 55, 49, 55, 50, 55, 51, 55, 52, 55, 53, 55, 54, 55, 55, 55, 56, 55, 57, 56, 48, 56, 49, 56, 50, 56, 51, 56, 52, 56, 53, 56, 54, 56, 55, 56, 56, 56, 57, 57, 48, 57, 49, 57, 50, 57, 51, 57, 52, 57, 53, 57, 54, 57, 55, 57, 56, 57, 57])) (.t p64))) none
   (stepR [p55, p57] (some p66) (gP (iIad 1 (.t p55) (.t p57))) none
   (stepL [p66, p63] none (gE (iStore 1 (.t p66) (.t p63))) none
   (stepR [p58, p60] (some p67) (gP (iIad 1 (.t p58) (.t p60))) none
   (stepL [p67, p65] none (gE (iStore 1 (.t p67) (.t p65))) none
   endD))))))))))))))))
  (cSeq (cDraw [p68, p69, p70, p71, p72, p73, p74, p75, p76, p77, p78, p79, p80] (stepR [p0] (some p68) (gMov (.t p0)) none
   (stepR [p4] (some p69) (gMov (.t p4)) none
   (stepR [p69] (some p70) (gP (iInt fSub 63 (.t p69) (.c (.int 63 5)))) none
   (stepR [p0] (some p71) (gMov (.t p0)) none
   (stepR [p4] (some p72) (gMov (.t p4)) none
   (stepR [p72] (some p73) (gP (iInt fSub 63 (.t p72) (.c (.int 63 6)))) none
   (stepR [p11] (some p74) (gMov (.t p11)) none
   (stepR [p74] (some p75) (gP (iInt fAdd 32 (.t p74) (.c (.int 32 1)))) none
   (stepR [p75] (some p76) (gP (iIxs (.c (.str [48, 48, 48, 49, 48, 50, 48, 51, 48, 52, 48, 53, 48, 54, 48, 55, 48, 56, 48, 57, 49, 48, 49, 49, 49, 50, 49, 51, 49, 52, 49, 53, 49, 54, 49, 55, 49, 56, 49, 57, 50, 48, 50, 49, 50, 50, 50, 51, 50, 52, 50, 53, 50, 54, 50, 55, 50, 56, 50, 57, 51, 48, 51, 49, 51, 50, 51, 51, 51, 52, 51, 53, 51, 54, 51, 55, 51, 56, 51, 57, 52, 48, 52, 49, 52, 50, 52, 51, 52, 52, 52, 53, 52, 54, 52, 55, 52, 56, 52, 57, 53, 48, 53, 49, 53, 50, 53, 51, 53, 52, 53, 53, 53, 54, 53, 55, 53, 56, 53, 57, 54, 48, 54, 49, 54, 50, 54, 51, 54, 52, 54, 53, 54, 54, 54, 55, 54, 56, 54, 57, 55, 48, 55, 49, 55, 50, 55, 51, 55, 52, 55, 53, 55, 54, 55, 55, 55, 56, 55, 57, 56, 48, 56, 49, 56, 50, 56, 51, 56, 52, 56, 53, 56, 54, 56, 55, 56, 56, 56, 57, 57, 48, 57, 49, 57, 50, 57, 51, 57, 52, 57, 53, 57, 54, 57, 55, 57, 56, 57, 57])) (.t p75))) none
   (stepR [p11] (some p77) (gMov (.t p11)) none
   (stepR [p77] (some p78) (gP (iIxs (.c (.str [48, 48, 48, 49, 48, 50, 48, 51, 48, 52, 48, 53, 48, 54, 48, 55, 48, 56, 48, 57, 49, 48, 49, 49, 49, 50, 49, 51, 49, 52, 49, 53, 49, 54, 49, 55, 49, 56, 49, 57, 50, 48, 50, 49, 50, 50, 50, 51, 50, 52, 50, 53, 50, 54, 50, 55, 50, 56, 50, 57, 51, 48, 51, 49, 51, 50, 51, 51, 51, 52, 51, 53, 51, 54, 51, 55, 51, 56, 51, 57, 52, 48, 52, 49, 52, 50, 52, 51, 52, 52, 52, 53, 52, 54, 52, 55, 52, 56, 52, 57, 53, 48, 53, 49, 53, 50, 53, 51, 53, 52, 53, 53, 53, 54, 53, 55, 53, 56, 53, 57, 54, 48, 54, 49, 54, 50, 54, 51, 54, 52, 54, 53, 54, 54, 54, 55, 54, 56, 54, 57, 55, 48, 55, 49, 55, 50, 55, 51, 55, 52, 55, 53, 55, 54, 55, 55, 55, 56, 55, 57, 56, 48, 56, 49, 56, 50, 56, 51, 56, 52, 56, 53, 56, 54, 56, 55, 56, 56, 56, 57, 57, 48, 57, 49, 57, 50, 57, 51, 57, 52, 57, 53, 57, 54, 57, 55, 57, 56, 57, 57])) (.t p77))) none
   (stepR [p68, p70] (some p79) (gP (iIad 1 (.t p68) (.t p70))) none
   (stepL [p79, p76] none (gE (iStore 1 (.t p79) (.t p76))) none
   (stepR [p71, p73] (some p80) (gP (iIad 1 (.t p71) (.t p73))) none
   (stepL [p80, p78] none (gE (iStore 1 (.t p80) (.t p78))) none
   endD))))))))))))))))
  (cSeq (cDraw [p81, p82, p83, p84, p85, p86, p87, p88, p89, p90, p91, p92, p93] (stepR [p0] (some p81) (gMov (.t p0)) none
   (stepR [p4] (some p82) (gMov (.t p4)) none
   (stepR [p82] (some p83) (gP (iInt fSub 63 (.t p82) (.c (.int 63 7)))) none
   (stepR [p0] (some p84) (gMov (.t p0)) none
   (stepR [p4] (some p85) (gMov (.t p4)) none
   (stepR [p85] (some p86) (gP (iInt fSub 63 (.t p85) (.c (.int 63 8)))) none
   (stepR [p10] (some p87) (gMov (.t p10)) none
   (stepR [p87] (some p88) (gP (iInt fAdd 32 (.t p87) (.c (.int 32 1)))) none
   (stepR [p88] (some p89) (gP (iIxs (.c (.str [48, 48, 48, 49, 48, 50, 48, 51, 48, 52, 48, 53, 48, 54, 48, 55, 48, 56, 48, 57, 49, 48, 49, 49, 49, 50, 49, 51, 49, 52, 49, 53, 49, 54, 49, 55, 49, 56, 49, 57, 50, 48, 50, 49, 50, 50, 50, 51, 50, 52, 50, 53, 50, 54, 50, 55, 50, 56, 50, 57, 51, 48, 51, 49, 51, 50, 51, 51, 51, 52, 51, 53, 51, 54, 51, 55, 51, 56, 51, 57, 52, 48, 52, 49, 52, 50, 52, 51, 52, 52, 52, 53, 52, 54, 52, 55, 52, 56, 52, 57, 53, 48, 53, 49, 53, 50, 53, 51, 53, 52, 53, 53, 53, 54, 53, 55, 53, 56, 53, 57, 54, 48, 54, 49, 54, 50, 54, 51, 54, 52, 54, 53, 54, 54, 54, 55, 54, 56, 54, 57, 55, 48, 55, 49, 55, 50, 55, 51, 55, 52, 55, 53, 55, 54, 55, 55, 55, 56, 55, 57, 56, 48, 56, 49, 56, 50, 56, 51, 56, 52, 56, 53, 56, 54, 56, 55, 56, 56, 56, 57, 57, 48, 57, 49, 57, 50, 57, 51, 57, 52, 57, 53, 57, 54, 57, 55, 57, 56, 57, 57])) (.t p88))) none
   (stepR [p10] (some p90) (gMov (.t p10)) none
   (stepR [p90] (some p91) (gP (iIxs (.c (.str [48, 48, 48, 49, 48, 50, 48, 51, 48, 52, 48, 53, 48, 54, 48, 55, 48, 56, 48, 57, 49, 48, 49, 49, 49, 50, 49, 51, 49, 52, 49, 53, 49, 54, 49, 55, 49, 56, 49, 57, 50, 48, 50, 49, 50, 50, 50, 51, 50, 52, 50, 53, 50, 54, 50, 55, 50, 56, 50, 57, 51, 48, 51, 49, 51, 50, 51, 51, 51, 52, 51, 53, 51, 54, 51, 55, 51, 56, 51, 57, 52, 48, 52, 49, 52, 50, 52, 51, 52, 52, 52, 53, 52, 54, 52, 55, 52, 56, 52, 57, 53, 48, 53, 49, 53, 50, 53, 51, 53, 52, 53, 53, 53, 54, 53, 55, 53, 56, 53, 57, 54, 48, 54, 49, 54, 50, 54, 51, 54, 52, 54, 53, 54, 54, 54, 55, 54, 56, 54, 57, 55, 48, 55, 49, 55, 50, 55, 51, 55, 52, 55, 53, 55, 54, 55, 55, 55, 56, 55, 57, 56, 48, 56, 49, 56, 50, 56, 51, 56, 52, 56, 53, 56, 54, 56, 55, 56, 56, 56, 57, 57, 48, 57, 49, 57, 50, 57, 51, 57, 52, 57, 53, 57, 54, 57, 55, 57, 56, 57, 57])) (.t p90))) none
   (stepR [p81, p83] (some p92) (gP (iIad 1 (.t p81) (.t p83))) none
   (stepL [p92, p89] none (gE (iStore 1 (.t p92) (.t p89))) none
   (stepR [p84, p86] (some p93) (gP (iIad 1 (.t p84) (.t p86))) none
   (stepL [p93, p91] none (gE (iStore 1 (.t p93) (.t p91))) none
   endD))))))))))))))))
  (cReg (step0 (some p94) (gMov (.t p4))
   (step0 (some p95) (gP (iInt fSub 63 (.t p94) (.c (.int 63 8))))
   (step0 (some p4) (gMov (.t p95))
   endG)))))))))))))))
noncomputable def c65_1 : CEv := (cBlock 0 (cLoop b65_0))
noncomputable def c65_2 : CEv := (cReg (step0 (some p96) (gMov (.t p1))
   (step0 (some p97) (gP (iCvi 32 (.t p96)))
   (step0 (some p12) (gMov (.t p97))
   endG))))
noncomputable def c65_3 : CEv := (cReg (step0 (some p98) (gMov (.t p4))
   (step0 (some p99) (gP (iInt fGeq 63 (.t p98) (.c (.int 63 4))))
   endG)))
noncomputable def c65_4 : CEv := (cCond (.t p99) (cSeq (cReg (step0 (some p100) (gMov (.t p12))
   (step0 (some p101) (gP (iInt fRem 32 (.t p100) (.c (.int 32 10000))))
   (step0 (some p13) (gMov (.t p101))
   endG))))
  (cSeq (cReg (step0 (some p102) (gMov (.t p12))
   (step0 (some p103) (gP (iInt fQuo 32 (.t p102) (.c (.int 32 10000))))
   (step0 (some p12) (gMov (.t p103))
   endG))))
  (cSeq (cReg (step0 (some p104) (gMov (.t p13))
   (step0 (some p105) (gP (iInt fQuo 32 (.t p104) (.c (.int 32 100))))
   (step0 (some p106) (gP (iInt fMul 32 (.t p105) (.c (.int 32 2))))
   (step0 (some p107) (gMov (.t p13))
   (step0 (some p108) (gP (iInt fRem 32 (.t p107) (.c (.int 32 100))))
   (step0 (some p109) (gP (iInt fMul 32 (.t p108) (.c (.int 32 2))))
   (step0 (some p14) (gMov (.t p106))
   (step0 (some p15) (gMov (.t p109))
   endG)))))))))
  (cSeq (cDraw [p110, p111, p112, p113, p114, p115, p116, p117, p118, p119, p120, p121, p122] (stepR [p0] (some p110) (gMov (.t p0)) none
   (stepR [p4] (some p111) (gMov (.t p4)) none
   (stepR [p111] (some p112) (gP (iInt fSub 63 (.t p111) (.c (.int 63 1)))) none
   (stepR [p0] (some p113) (gMov (.t p0)) none
   (stepR [p4] (some p114) (gMov (.t p4)) none
   (stepR [p114] (some p115) (gP (iInt fSub 63 (.t p114) (.c (.int 63 2)))) none
   (stepR [p15] (some p116) (gMov (.t p15)) none
   (stepR [p116] (some p117) (gP (iInt fAdd 32 (.t p116) (.c (.int 32 1)))) none
   (stepR [p117] (some p118) (gP (iIxs (.c (.str [48, 48, 48, 49, 48, 50, 48, 51, 48, 52, 48, 53, 48, 54, 48, 55, 48, 56, 48, 57, 49, 48, 49, 49, 49, 50, 49, 51, 49, 52, 49, 53, 49, 54, 49, 55, 49, 56, 49, 57, 50, 48, 50, 49, 50, 50, 50, 51, 50, 52, 50, 53, 50, 54, 50, 55, 50, 56, 50, 57, 51, 48, 51, 49, 51, 50, 51, 51, 51, 52, 51, 53, 51, 54, 51, 55, 51, 56, 51, 57, 52, 48, 52, 49, 52, 50, 52, 51, 52, 52, 52, 53, 52, 54, 52, 55, 52, 56, 52, 57, 53, 48, 53, 49, 53, 50, 53, 51, 53, 52, 53, 53, 53, 54, 53, 55, 53, 56, 53, 57, 54, 48, 54, 49, 54, 50, 54, 51, 54, 52, 54, 53, 54, 54, 54, 55, 54, 56, 54, 57, 55, 48, 55, 49, 55, 50, 55, 51, 55, 52, 55, 53, 55, 54, 55, 55, 55, 56, 55, 57, 56, 48, 56, 49, 56, 50, 56, 51, 56, 52, 56, 53, 56, 54, 56, 55, 56, 56, 56, 57, 57, 48, 57, 49, 57, 50, 57, 51, 57, 52, 57, 53, 57, 54, 57, 55, 57, 56, 57, 57])) (.t p117))) none
   (stepR [p15] (some p119) (gMov (.t p15)) none
   (stepR [p119] (some p120) (gP (iIxs (.c (.str [48, 48, 48, 49, 48, 50, 48, 51, 48, 52, 48, 53, 48, 54, 48, 55, 48, 56, 48, 57, 49, 48, 49, 49, 49, 50, 49, 51, 49, 52, 49, 53, 49, 54, 49, 55, 49, 56, 49, 57, 50, 48, 50, 49, 50, 50, 50, 51, 50, 52, 50, 53, 50, 54, 50, 55, 50, 56, 50, 57, 51, 48, 51, 49, 51, 50, 51, 51, 51, 52, 51, 53, 51, 54, 51, 55, 51, 56, 51, 57, 52, 48, 52, 49, 52, 50, 52, 51, 52, 52, 52, 53, 52, 54, 52, 55, 52, 56, 52, 57, 53, 48, 53, 49, 53, 50, 53, 51, 53, 52, 53, 53, 53, 54, 53, 55, 53, 56, 53, 57, 54, 48, 54, 49, 54, 50, 54, 51, 54, 52, 54, 53, 54, 54, 54, 55, 54, 56, 54, 57, 55, 48, 55, 49, 55, 50, 55, 51, 55, 52, 55, 53, 55, 54, 55, 55, 55, 56, 55, 57, 56, 48, 56, 49, 56, 50, 56, 51, 56, 52, 56, 53, 56, 54, 56, 55, 56, 56, 56, 57, 57, 48, 57, 49, 57, 50, 57, 51, 57, 52, 57, 53, 57, 54, 57, 55, 57, 56, 57, 57])) (.t p119))) none
   (stepR [p110, p112] (some p121) (gP (iIad 1 (.t p110) (.t p112))) none
   (stepL [p121, p118] none (gE (iStore 1 (.t p121) (.t p118))) none
   (stepR [p113, p115] (some p122) (gP (iIad 1 (.t p113) (.t p115))) none
   (stepL [p122, p120] none (gE (iStore 1 (.t p122) (.t p120))) none
   endD))))))))))))))))
  (cSeq (cDraw [p123, p124, p125, p126, p127, p128, p129, p130, p131, p132, p133, p134, p135] (stepR [p0] (some p123) (gMov (.t p0)) none
   (stepR [p4] (some p124) (gMov (.t p4)) none
   (stepR [p124] (some p125) (gP (iInt fSub 63 (.t p124) (.c (.int 63 3)))) none
   (stepR [p0] (some p126) (gMov (.t p0)) none
   (stepR [p4] (some p127) (gMov (.t p4)) none
   (stepR [p127] (some p128) (gP (iInt fSub 63 (.t p127) (.c (.int 63 4)))) none
   (stepR [p14] (some p129) (gMov (.t p14)) none
   (stepR [p129] (some p130) (gP (iInt fAdd 32 (.t p129) (.c (.int 32 1)))) none
   (stepR [p130] (some p131) (gP (iIxs (.c (.str [48, 48, 48, 49, 48, 50, 48, 51, 48, 52, 48, 53, 48, 54, 48, 55, 48, 56, 48, 57, 49, 48, 49, 49, 49, 50, 49, 51, 49, 52, 49, 53, 49, 54, 49, 55, 49, 56, 49, 57, 50, 48, 50, 49, 50, 50, 50, 51, 50, 52, 50, 53, 50, 54, 50, 55, 50, 56, 50, 57, 51, 48, 51, 49, 51, 50, 51, 51, 51, 52, 51, 53, 51, 54, 51, 55, 51, 56, 51, 57, 52, 48, 52, 49, 52, 50, 52, 51, 52, 52, 52, 53, 52, 54, 52, 55, 52, 56, 52, 57, 53, 48, 53, 49, 53, 50, 53, 51, 53, 52, 53, 53, 53, 54, 53, 55, 53, 56, 53, 57, 54, 48, 54, 49, 54, 50, 54, 51, 54, 52, 54, 53, 54, 54, 54, 55, 54, 56, 54, 57, 55, 48, 55, 49, 55, 50, 55, 51, 55, 52, 55, 53, 55, 54, 55, 55, 55, 56, 55, 57, 56, 48, 56, 49, 56, 50, 56, 51, 56, 52, 56, 53, 56, 54, 56, 55, 56, 56, 56, 57, 57, 48, 57, 49, 57, 50, 57, 51, 57, 52, 57, 53, 57, 54, 57, 55, 57, 56, 57, 57])) (.t p130))) none
   (stepR [p14] (some p132) (gMov (.t p14)) none
   (stepR [p132] (some p133) (gP (iIxs (.c (.str [48, 48, 48, 49, 48, 50, 48, 51, 48, 52, 48, 53, 48, 54, 48, 55, 48, 56, 48, 57, 49, 48, 49, 49, 49, 50, 49, 51, 49, 52, 49, 53, 49, 54, 49, 55, 49, 56, 49, 57, 50, 48, 50, 49, 50, 50, 50, 51, 50, 52, 50, 53, 50, 54, 50, 55, 50, 56, 50, 57, 51, 48, 51, 49, 51, 50, 51, 51, 51, 52, 51, 53, 51, 54, 51, 55, 51, 56, 51, 57, 52, 48, 52, 49, 52, 50, 52, 51, 52, 52, 52, 53, 52, 54, 52, 55, 52, 56, 52, 57, 53, 48, 53, 49, 53, 50, 53, 51, 53, 52, 53, 53, 53, 54, 53, 55, 53, 56, 53, 57, 54, 48, 54, 49, 54, 50, 54, 51, 54, 52, 54, 53, 54, 54, 54, 55, 54, 56, 54, 57, 55, 48, 55, 49, 55, 50, 55, 51, 55, 52, 55, 53, 55, 54, 55, 55, 55, 56, 55, 57, 56, 48, 56, 49, 56, 50, 56, 51, 56, 52, 56, 53, 56, 54, 56, 55, 56, 56, 56, 57, 57, 48, 57, 49, 57, 50, 57, 51, 57, 52, 57, 53, 57, 54, 57, 55, 57, 56, 57, 57])) (.t p132))) none
   (stepR [p123, p125] (some p134) (gP (iIad 1 (.t p123) (.t p125))) none
   (stepL [p134, p131] none (gE (iStore 1 (.t p134) (.t p131))) none
   (stepR [p126, p128] (some p135) (gP (iIad 1 (.t p126) (.t p128))) none
   (stepL [p135, p133] none (gE (iStore 1 (.t p135) (.t p133))) none
   endD))))))))))))))))
  (cReg (step0 (some p136) (gMov (.t p4))
   (step0 (some p137) (gP (iInt fSub 63 (.t p136) (.c (.int 63 4))))
   (step0 (some p4) (gMov (.t p137))
   endG)))))))))
  cSkip)
noncomputable def c65_5 : CEv := (cReg (step0 (some p138) (gMov (.t p4))
   (step0 (some p139) (gP (iInt fGeq 63 (.t p138) (.c (.int 63 2))))
   endG)))
noncomputable def c65_6 : CEv := (cCond (.t p139) (cSeq (cReg (step0 (some p140) (gMov (.t p12))
   (step0 (some p141) (gP (iInt fRem 32 (.t p140) (.c (.int 32 100))))
   (step0 (some p142) (gP (iInt fMul 32 (.t p141) (.c (.int 32 2))))
   (step0 (some p16) (gMov (.t p142))
   endG)))))
  (cSeq (cReg (step0 (some p143) (gMov (.t p12))
   (step0 (some p144) (gP (iInt fQuo 32 (.t p143) (.c (.int 32 100))))
   (step0 (some p12) (gMov (.t p144))
   endG))))
  (cSeq (cDraw [p145, p146, p147, p148, p149, p150, p151, p152, p153, p154, p155, p156, p157] (stepR [p0] (some p145) (gMov (.t p0)) none
   (stepR [p4] (some p146) (gMov (.t p4)) none
   (stepR [p146] (some p147) (gP (iInt fSub 63 (.t p146) (.c (.int 63 1)))) none
   (stepR [p0] (some p148) (gMov (.t p0)) none
   (stepR [p4] (some p149) (gMov (.t p4)) none
   (stepR [p149] (some p150) (gP (iInt fSub 63 (.t p149) (.c (.int 63 2)))) none
   (stepR [p16] (some p151) (gMov (.t p16)) none
   (stepR [p151] (some p152) (gP (iInt fAdd 32 (.t p151) (.c (.int 32 1)))) none
   (stepR [p152] (some p153) (gP (iIxs (.c (.str [48, 48, 48, 49, 48, 50, 48, 51, 48, 52, 48, 53, 48, 54, 48, 55, 48, 56, 48, 57, 49, 48, 49, 49, 49, 50, 49, 51, 49, 52, 49, 53, 49, 54, 49, 55, 49, 56, 49, 57, 50, 48, 50, 49, 50, 50, 50, 51, 50, 52, 50, 53, 50, 54, 50, 55, 50, 56, 50, 57, 51, 48, 51, 49, 51, 50, 51, 51, 51, 52, 51, 53, 51, 54, 51, 55, 51, 56, 51, 57, 52, 48, 52, 49, 52, 50, 52, 51, 52, 52, 52, 53, 52, 54, 52, 55, 52, 56, 52, 57, 53, 48, 53, 49, 53, 50, 53, 51, 53, 52, 53, 53, 53, 54, 53, 55, 53, 56, 53, 57, 54, 48, 54, 49, 54, 50, 54, 51, 54, 52, 54, 53, 54, 54, 54, 55, 54, 56, 54, 57, 55, 48, 55, 49, 55, 50, 55, 51, 55, 52, 55, 53, 55, 54, 55, 55, 55, 56, 55, 57, 56, 48, 56, 49, 56, 50, 56, 51, 56, 52, 56, 53, 56, 54, 56, 55, 56, 56, 56, 57, 57, 48, 57, 49, 57, 50, 57, 51, 57, 52, 57, 53, 57, 54, 57, 55, 57, 56, 57, 57])) (.t p152))) none
   (stepR [p16] (some p154) (gMov (.t p16)) none
   (stepR [p154] (some p155) (gP (iIxs (.c (.str [48, 48, 48, 49, 48, 50, 48, 51, 48, 52, 48, 53, 48, 54, 48, 55, 48, 56, 48, 57, 49, 48, 49, 49, 49, 50, 49, 51, 49, 52, 49, 53, 49, 54, 49, 55, 49, 56, 49, 57, 50, 48, 50, 49, 50, 50, 50, 51, 50, 52, 50, 53, 50, 54, 50, 55, 50, 56, 50, 57, 51, 48, 51, 49, 51, 50, 51, 51, 51, 52, 51, 53, 51, 54, 51, 55, 51, 56, 51, 57, 52, 48, 52, 49, 52, 50, 52, 51, 52, 52, 52, 53, 52, 54, 52, 55, 52, 56, 52, 57, 53, 48, 53, 49, 53, 50, 53, 51, 53, 52, 53, 53, 53, 54, 53, 55, 53, 56, 53, 57, 54, 48, 54, 49, 54, 50, 54, 51, 54, 52, 54, 53, 54, 54, 54, 55, 54, 56, 54, 57, 55, 48, 55, 49, 55, 50, 55, 51, 55, 52, 55, 53, 55, 54, 55, 55, 55, 56, 55, 57, 56, 48, 56, 49, 56, 50, 56, 51, 56, 52, 56, 53, 56, 54, 56, 55, 56, 56, 56, 57, 57, 48, 57, 49, 57, 50, 57, 51, 57, 52, 57, 53, 57, 54, 57, 55, 57, 56, 57, 57])) (.t p154))) none
   (stepR [p145, p147] (some p156) (gP (iIad 1 (.t p145) (.t p147))) none
   (stepL [p156, p153] none (gE (iStore 1 (.t p156) (.t p153))) none
   (stepR [p148, p150] (some p157) (gP (iIad 1 (.t p148) (.t p150))) none
   (stepL [p157, p155] none (gE (iStore 1 (.t p157) (.t p155))) none
   endD))))))))))))))))
  (cReg (step0 (some p158) (gMov (.t p4))
   (step0 (some p159) (gP (iInt fSub 63 (.t p158) (.c (.int 63 2))))
   (step0 (some p4) (gMov (.t p159))
   endG)))))))
  cSkip)
noncomputable def c65_7 : CEv := (cReg (step0 (some p160) (gMov (.t p4))
   (step0 (some p161) (gP (iInt fGtr 63 (.t p160) (.c (.int 63 0))))
   endG)))
noncomputable def c65_8 : CEv := (cCond (.t p161) (cReg (step0 (some p162) (gMov (.t p0))
   (step0 (some p163) (gMov (.t p12))
   (step0 (some p164) (gP (iInt fAdd 32 (.c (.int 32 48)) (.t p163)))
   (step0 (some p165) (gP (iCvi 8 (.t p164)))
   (step0 (some p166) (gP (iIad 1 (.t p162) (.c (.int 63 0))))
   (step0 none (gE (iStore 1 (.t p166) (.t p165)))
   endG)))))))
  cSkip)
noncomputable def sh65 : Fs := .mk []
  (cSeq c65_0
  (cSeq c65_1
  (cSeq c65_2
  (cSeq (cSeq c65_3
  c65_4)
  (cSeq (cSeq c65_5
  c65_6)
  (cSeq c65_7
  c65_8))))))
noncomputable def c66_0 : CEv := (cReg (step0 (some p10) (gMov (.c (.ref 2 0 0 0 0 false)))
   (step0 (some p11) (gMov (.c (.str [])))
   endG)))
noncomputable def c66_1 : CEv := (cReg (step0 (some p19) (gMov (.t p2))
   (step0 (some p20) (gP (iInt fLss 63 (.t p19) (.c (.int 63 2))))
   (step0 (some p21) (gMov (.t p20))
   (stepG (some p22) (gMov (.t p2)) (some (p21, false))
   (stepG (some p23) (gP (iInt fEql 63 (.t p22) (.c (.int 63 10)))) (some (p21, false))
   (step0 (some p24) (gP (iPick (.t p21) (.c (.bool true)) (.t p23)))
   (step0 (some p25) (gMov (.t p24))
   (stepG (some p26) (gMov (.t p2)) (some (p25, false))
   (stepG (some p27) (gP (iInt fGtr 63 (.t p26) (.c (.int 63 36)))) (some (p25, false))
   (step0 (some p28) (gP (iPick (.t p25) (.c (.bool true)) (.t p27)))
   endG)))))))))))
noncomputable def c66_2 : CEv := (cCond (.t p28) (cReg (step0 (some p29) (gP (iMki 9 (.c (.str [115, 116, 114, 99, 111, 110, 118, 58, 32, 105, 108, 108, 101, 103, 97, 108, 32, 65, 112, 112, 101, 110, 100, 73, 110, 116, 47, 70, 111, 114, 109, 97, 116, 73, 110, 116, 32, 98, 97, 115, 101]))))
   (step0 none (gPan (.t p29))
   endG)))
  cSkip)
noncomputable def c66_3 : CEv := (cReg (step0 (some p12) (gE (iAlloc 120 [(.int 8 0), (.int 8 0), (.int 8 0), (.int 8 0), (.int 8 0), (.int 8 0), (.int 8 0), (.int 8 0), (.int 8 0), (.int 8 0), (.int 8 0), (.int 8 0), (.int 8 0), (.int 8 0), (.int 8 0), (.int 8 0), (.int 8 0), (.int 8 0), (.int 8 0), (.int 8 0), (.int 8 0), (.int 8 0), (.int 8 0), (.int 8 0), (.int 8 0), (.int 8 0), (.int 8 0), (.int 8 0), (.int 8 0), (.int 8 0), (.int 8 0), (.int 8 0), (.int 8 0), (.int 8 0), (.int 8 0), (.int 8 0), (.int 8 0), (.int 8 0), (.int 8 0), (.int 8 0), (.int 8 0), (.int 8 0), (.int 8 0), (.int 8 0), (.int 8 0), (.int 8 0), (.int 8 0), (.int 8 0), (.int 8 0), (.int 8 0), (.int 8 0), (.int 8 0), (.int 8 0), (.int 8 0), (.int 8 0), (.int 8 0), (.int 8 0), (.int 8 0), (.int 8 0), (.int 8 0), (.int 8 0), (.int 8 0), (.int 8 0), (.int 8 0), (.int 8 0)]))
   endG))
noncomputable def c66_4 : CEv := (cReg (step0 (some p13) (gMov (.c (.int 63 65)))
   endG))
noncomputable def c66_5 : CEv := (cReg (step0 (some p30) (gMov (.t p3))
   endG))
noncomputable def c66_6 : CEv := (cCond (.t p30) (cReg (step0 (some p31) (gMov (.t p1))
   (step0 (some p32) (gP (iNeg 64 (.t p31)))
   (step0 (some p1) (gMov (.t p32))
   endG))))
  cSkip)
noncomputable def c66_7 : CEv := (cReg (step0 (some p33) (gMov (.t p2))
   (step0 (some p34) (gCall 78 [(.t p33)])
   endG)))
noncomputable def b66_0 : CEv := (cSeq (cSeq (cReg (step0 (some p44) (gMov (.t p1))
   (step0 (some p45) (gMov (.t p15))
   (step0 (some p46) (gP (iInt fGeq 64 (.t p44) (.t p45)))
   endG))))
  (cCond (.t p46) cSkip
  (cExit 0)))
  (cBlock 1 (cSeq (cReg (step0 (some p47) (gMov (.t p13))
   (step0 (some p48) (gP (iInt fSub 63 (.t p47) (.c (.int 63 1))))
   (step0 (some p13) (gMov (.t p48))
   endG))))
  (cSeq (cReg (step0 (some p49) (gMov (.t p13))
   (step0 (some p50) (gMov (.t p1))
   (step0 (some p51) (gMov (.t p16))
   (step0 (some p52) (gP (iInt fAnd 64 (.t p50) (.t p51)))
   (step0 (some p53) (gP (iIxs (.c (.str [48, 49, 50, 51, 52, 53, 54, 55, 56, 57, 97, 98, 99, 100, 101, 102, 103, 104, 105, 106, 107, 108, 109, 110, 111, 112, 113, 114, 115, 116, 117, 118, 119, 120, 121, 122])) (.t p52)))
   (step0 (some p54) (gP (iIaa 65 1 (.t p12) (.t p49)))
   (step0 none (gE (iStore 1 (.t p54) (.t p53)))
   endG))))))))
  (cReg (step0 (some p55) (gMov (.t p1))
   (step0 (some p56) (gMov (.t p14))
   (step0 (some p57) (gP (iSh fShr 64 (.t p55) (.t p56)))
   (step0 (some p1) (gMov (.t p57))
   endG)))))))))
noncomputable def b66_1 : CEv := (cSeq (cSeq (cReg (step0 (some p66) (gMov (.t p1))
   (step0 (some p67) (gMov (.t p17))
   (step0 (some p68) (gP (iInt fGeq 64 (.t p66) (.t p67)))
   endG))))
  (cCond (.t p68) cSkip
  (cExit 2)))
  (cBlock 3 (cSeq (cReg (step0 (some p69) (gMov (.t p13))
   (step0 (some p70) (gP (iInt fSub 63 (.t p69) (.c (.int 63 1))))
   (step0 (some p13) (gMov (.t p70))
   endG))))
  (cSeq (cReg (step0 (some p71) (gMov (.t p1))
   (step0 (some p72) (gMov (.t p17))
   (step0 (some p73) (gP (iInt fQuo 64 (.t p71) (.t p72)))
   (step0 (some p18) (gMov (.t p73))
   endG)))))
  (cSeq (cReg (step0 (some p74) (gMov (.t p13))
   (step0 (some p75) (gMov (.t p1))
   (step0 (some p76) (gMov (.t p18))
   (step0 (some p77) (gMov (.t p17))
   (step0 (some p78) (gP (iInt fMul 64 (.t p76) (.t p77)))
   (step0 (some p79) (gP (iInt fSub 64 (.t p75) (.t p78)))
   (step0 (some p80) (gP (iIxs (.c (.str [48, 49, 50, 51, 52, 53, 54, 55, 56, 57, 97, 98, 99, 100, 101, 102, 103, 104, 105, 106, 107, 108, 109, 110, 111, 112, 113, 114, 115, 116, 117, 118, 119, 120, 121, 122])) (.t p79)))
   (step0 (some p81) (gP (iIaa 65 1 (.t p12) (.t p74)))
   (step0 none (gE (iStore 1 (.t p81) (.t p80)))
   endG))))))))))
  (cReg (step0 (some p82) (gMov (.t p18))
   (step0 (some p1) (gMov (.t p82))
   endG))))))))
noncomputable def c66_8 : CEv := (cCond (.t p34) (cSeq (cReg (step0 (some p35) (gMov (.t p2))
   (step0 (some p36) (gP (iCvi 64 (.t p35)))
   (step0 (some p37) (gCall 79 [(.t p36)])
   (step0 (some p38) (gP (iCvi 64 (.t p37)))
   (step0 (some p14) (gMov (.t p38))
   endG))))))
  (cSeq (cReg (step0 (some p39) (gMov (.t p2))
   (step0 (some p40) (gP (iCvi 64 (.t p39)))
   (step0 (some p15) (gMov (.t p40))
   endG))))
  (cSeq (cReg (step0 (some p41) (gMov (.t p2))
   (step0 (some p42) (gP (iCvi 64 (.t p41)))
   (step0 (some p43) (gP (iInt fSub 64 (.t p42) (.c (.int 64 1))))
   (step0 (some p16) (gMov (.t p43))
   endG)))))
  (cSeq (cBlock 0 (cLoop b66_0))
  (cSeq (cReg (step0 (some p58) (gMov (.t p13))
   (step0 (some p59) (gP (iInt fSub 63 (.t p58) (.c (.int 63 1))))
   (step0 (some p13) (gMov (.t p59))
   endG))))
  (cReg (step0 (some p60) (gMov (.t p13))
   (step0 (some p61) (gMov (.t p1))
   (step0 (some p62) (gP (iIxs (.c (.str [48, 49, 50, 51, 52, 53, 54, 55, 56, 57, 97, 98, 99, 100, 101, 102, 103, 104, 105, 106, 107, 108, 109, 110, 111, 112, 113, 114, 115, 116, 117, 118, 119, 120, 121, 122])) (.t p61)))
   (step0 (some p63) (gP (iIaa 65 1 (.t p12) (.t p60)))
   (step0 none (gE (iStore 1 (.t p63) (.t p62)))
   endG)))))))))))
  (cSeq (cReg (step0 (some p64) (gMov (.t p2))
   (step0 (some p65) (gP (iCvi 64 (.t p64)))
   (step0 (some p17) (gMov (.t p65))
   endG))))
  (cSeq (cBlock 2 (cLoop b66_1))
  (cSeq (cReg (step0 (some p83) (gMov (.t p13))
   (step0 (some p84) (gP (iInt fSub 63 (.t p83) (.c (.int 63 1))))
   (step0 (some p13) (gMov (.t p84))
   endG))))
  (cReg (step0 (some p85) (gMov (.t p13))
   (step0 (some p86) (gMov (.t p1))
   (step0 (some p87) (gP (iIxs (.c (.str [48, 49, 50, 51, 52, 53, 54, 55, 56, 57, 97, 98, 99, 100, 101, 102, 103, 104, 105, 106, 107, 108, 109, 110, 111, 112, 113, 114, 115, 116, 117, 118, 119, 120, 121, 122])) (.t p86)))
   (step0 (some p88) (gP (iIaa 65 1 (.t p12) (.t p85)))
   (step0 none (gE (iStore 1 (.t p88) (.t p87)))
   endG))))))))))
noncomputable def c66_9 : CEv := (cReg (step0 (some p89) (gMov (.t p3))
   endG))
noncomputable def c66_10 : CEv := (cCond (.t p89) (cSeq (cReg (step0 (some p90) (gMov (.t p13))
   (step0 (some p91) (gP (iInt fSub 63 (.t p90) (.c (.int 63 1))))
   (step0 (some p13) (gMov (.t p91))
   endG))))
  (cReg (step0 (some p92) (gMov (.t p13))
   (step0 (some p93) (gP (iIaa 65 1 (.t p12) (.t p92)))
   (step0 none (gE (iStore 1 (.t p93) (.c (.int 8 45))))
   endG)))))
  cSkip)
noncomputable def c66_11 : CEv := (cReg (step0 (some p94) (gMov (.t p4))
   endG))
noncomputable def c66_12 : CEv := (cCond (.t p94) (cSeq (cReg (step0 (some p95) (gMov (.t p0))
   (step0 (some p96) (gMov (.t p13))
   (step0 (some p97) (gP (iSla 65 1 (.t p12) (some (.t p96)) none none))
   (step0 (some p98) (gE (iApp false 5 1 1 (.t p95) (.t p97)))
   (step0 (some p10) (gMov (.t p98))
   endG))))))
  cRet)
  cSkip)
noncomputable def c66_13 : CEv := (cReg (step0 (some p99) (gMov (.t p13))
   (step0 (some p100) (gP (iSla 65 1 (.t p12) (some (.t p99)) none none))
   (step0 (some p101) (gP (iCvbs (.t p100)))
   (step0 (some p11) (gMov (.t p101))
   endG)))))
noncomputable def sh66 : Fs := .mk [(.t p10), (.t p11)]
  (cSeq c66_0
  (cSeq (cSeq c66_1
  c66_2)
  (cSeq c66_3
  (cSeq c66_4
  (cSeq (cSeq c66_5
  c66_6)
  (cSeq (cSeq c66_7
  c66_8)
  (cSeq (cSeq c66_9
  c66_10)
  (cSeq (cSeq c66_11
  c66_12)
  (cSeq c66_13
  cRet)))))))))
noncomputable def c67_0 : CEv := (cReg (step0 (some p10) (gMov (.t p1))
   (step0 (some p11) (gP (iInt fAdd 63 (.t p10) (.c (.int 63 1))))
   (step0 (some p8) (gMov (.t p11))
   endG))))
noncomputable def b67_0 : CEv := (cSeq (cSeq (cDraw [p18, p19, p20, p21, p22, p23, p24, p25, p26, p27, p28, p29, p30, p31, p32, p33, p34] (stepR [p9] (some p18) (gMov (.t p9)) none
   (stepR [p1] (some p19) (gMov (.t p1)) none
   (stepR [p18, p19] (some p20) (gP (iInt fGtr 63 (.t p18) (.t p19))) none
   (stepR [p20] (some p21) (gMov (.t p20)) none
   (stepR [p3, p21] (some p22) (gMov (.t p3)) (some (p21, true))
   (stepR [p0, p21] (some p23) (gMov (.t p0)) (some (p21, true))
   (stepR [p9, p21] (some p24) (gMov (.t p9)) (some (p21, true))
   (stepR [p23, p24, p21] (some p25) (gP (iIad 1 (.t p23) (.t p24))) (some (p21, true))
   (stepR [p25, p21] (some p26) (gP (iLoad false 1 (.t p25))) (some (p21, true))
   (stepR [p0, p21] (some p27) (gMov (.t p0)) (some (p21, true))
   (stepR [p9, p21] (some p28) (gMov (.t p9)) (some (p21, true))
   (stepR [p28, p21] (some p29) (gP (iInt fSub 63 (.t p28) (.c (.int 63 1)))) (some (p21, true))
   (stepR [p27, p29, p21] (some p30) (gP (iIad 1 (.t p27) (.t p29))) (some (p21, true))
   (stepR [p30, p21] (some p31) (gP (iLoad false 1 (.t p30))) (some (p21, true))
   (stepL [p22, p26, p31, p21] (some p32) (gDyn (.t p22) [(.t p26), (.t p31)]) (some (p21, true))
   (stepR [p32, p21] (some p33) (gP (iInt fLss 63 (.t p32) (.c (.int 63 0)))) (some (p21, true))
   (stepR [p21, p33] (some p34) (gP (iPick (.t p21) (.t p33) (.c (.bool false)))) none
   endD))))))))))))))))))
  (cCond (.t p34) cSkip
  (cExit 2)))
  (cSeq (cBlock 3 (cDraw [p37, p38, p39, p40, p41, p42, p43, p44, p45, p46, p47, p48, p49, p50, p51, p52] (stepR [p0] (some p37) (gMov (.t p0)) none
   (stepR [p9] (some p38) (gMov (.t p9)) none
   (stepR [p0] (some p39) (gMov (.t p0)) none
   (stepR [p9] (some p40) (gMov (.t p9)) none
   (stepR [p40] (some p41) (gP (iInt fSub 63 (.t p40) (.c (.int 63 1)))) none
   (stepR [p0] (some p42) (gMov (.t p0)) none
   (stepR [p9] (some p43) (gMov (.t p9)) none
   (stepR [p43] (some p44) (gP (iInt fSub 63 (.t p43) (.c (.int 63 1)))) none
   (stepR [p42, p44] (some p45) (gP (iIad 1 (.t p42) (.t p44))) none
   (stepR [p45] (some p46) (gP (iLoad false 1 (.t p45))) none
   (stepR [p0] (some p47) (gMov (.t p0)) none
   (stepR [p9] (some p48) (gMov (.t p9)) none
   (stepR [p47, p48] (some p49) (gP (iIad 1 (.t p47) (.t p48))) none
   (stepR [p49] (some p50) (gP (iLoad false 1 (.t p49))) none
   (stepR [p37, p38] (some p51) (gP (iIad 1 (.t p37) (.t p38))) none
   (stepL [p51, p46] none (gE (iStore 1 (.t p51) (.t p46))) none
   (stepR [p39, p41] (some p52) (gP (iIad 1 (.t p39) (.t p41))) none
   (stepL [p52, p50] none (gE (iStore 1 (.t p52) (.t p50))) none
   endD))))))))))))))))))))
  (cReg (step0 (some p35) (gMov (.t p9))
   (step0 (some p36) (gP (iInt fSub 63 (.t p35) (.c (.int 63 1))))
   (step0 (some p9) (gMov (.t p36))
   endG))))))
noncomputable def b67_1 : CEv := (cSeq (cSeq (cReg (step0 (some p12) (gMov (.t p8))
   (step0 (some p13) (gMov (.t p2))
   (step0 (some p14) (gP (iInt fLss 63 (.t p12) (.t p13)))
   endG))))
  (cCond (.t p14) cSkip
  (cExit 0)))
  (cSeq (cBlock 1 (cSeq (cReg (step0 (some p17) (gMov (.t p8))
   (step0 (some p9) (gMov (.t p17))
   endG)))
  (cBlock 2 (cLoop b67_0))))
  (cReg (step0 (some p15) (gMov (.t p8))
   (step0 (some p16) (gP (iInt fAdd 63 (.t p15) (.c (.int 63 1))))
   (step0 (some p8) (gMov (.t p16))
   endG))))))
noncomputable def c67_1 : CEv := (cBlock 0 (cLoop b67_1))
noncomputable def sh67 : Fs := .mk []
  (cSeq c67_0
  c67_1)
noncomputable def c68_0 : CEv := (cReg (step0 (some p25) (gMov (.t p2))
   (step0 (some p26) (gMov (.t p1))
   (step0 (some p27) (gP (iInt fSub 63 (.t p25) (.t p26)))
   (step0 (some p28) (gP (iInt fEql 63 (.t p27) (.c (.int 63 1))))
   endG)))))
noncomputable def b68_0 : CEv := (cSeq (cSeq (cReg (step0 (some p31) (gMov (.t p10))
   (step0 (some p32) (gMov (.t p11))
   (step0 (some p33) (gP (iInt fLss 63 (.t p31) (.t p32)))
   endG))))
  (cCond (.t p33) cSkip
  (cExit 0)))
  (cBlock 1 (cSeq (cReg (step0 (some p34) (gMov (.t p10))
   (step0 (some p35) (gMov (.t p11))
   (step0 (some p36) (gP (iInt fAdd 63 (.t p34) (.t p35)))
   (step0 (some p37) (gP (iCvi 64 (.t p36)))
   (step0 (some p38) (gP (iSh fShr 64 (.t p37) (.c (.int 64 1))))
   (step0 (some p39) (gP (iCvi 63 (.t p38)))
   (step0 (some p12) (gMov (.t p39))
   endG))))))))
  (cSeq (cDraw [p40, p41, p42, p43, p44, p45, p46, p47, p48, p49, p50] (stepR [p4] (some p40) (gMov (.t p4)) none
   (stepR [p0] (some p41) (gMov (.t p0)) none
   (stepR [p12] (some p42) (gMov (.t p12)) none
   (stepR [p41, p42] (some p43) (gP (iIad 1 (.t p41) (.t p42))) none
   (stepR [p43] (some p44) (gP (iLoad false 1 (.t p43))) none
   (stepR [p0] (some p45) (gMov (.t p0)) none
   (stepR [p1] (some p46) (gMov (.t p1)) none
   (stepR [p45, p46] (some p47) (gP (iIad 1 (.t p45) (.t p46))) none
   (stepR [p47] (some p48) (gP (iLoad false 1 (.t p47))) none
   (stepL [p40, p44, p48] (some p49) (gDyn (.t p40) [(.t p44), (.t p48)]) none
   (stepR [p49] (some p50) (gP (iInt fLss 63 (.t p49) (.c (.int 63 0)))) none
   endD))))))))))))
  (cCond (.t p50) (cReg (step0 (some p51) (gMov (.t p12))
   (step0 (some p52) (gP (iInt fAdd 63 (.t p51) (.c (.int 63 1))))
   (step0 (some p10) (gMov (.t p52))
   endG))))
  (cReg (step0 (some p53) (gMov (.t p12))
   (step0 (some p11) (gMov (.t p53))
   endG))))))))
noncomputable def b68_1 : CEv := (cSeq (cSeq (cReg (step0 (some p55) (gMov (.t p13))
   (step0 (some p56) (gMov (.t p10))
   (step0 (some p57) (gP (iInt fSub 63 (.t p56) (.c (.int 63 1))))
   (step0 (some p58) (gP (iInt fLss 63 (.t p55) (.t p57)))
   endG)))))
  (cCond (.t p58) cSkip
  (cExit 2)))
  (cSeq (cBlock 3 (cDraw [p61, p62, p63, p64, p65, p66, p67, p68, p69, p70, p71, p72, p73, p74, p75, p76] (stepR [p0] (some p61) (gMov (.t p0)) none
   (stepR [p13] (some p62) (gMov (.t p13)) none
   (stepR [p0] (some p63) (gMov (.t p0)) none
   (stepR [p13] (some p64) (gMov (.t p13)) none
   (stepR [p64] (some p65) (gP (iInt fAdd 63 (.t p64) (.c (.int 63 1)))) none
   (stepR [p0] (some p66) (gMov (.t p0)) none
   (stepR [p13] (some p67) (gMov (.t p13)) none
   (stepR [p67] (some p68) (gP (iInt fAdd 63 (.t p67) (.c (.int 63 1)))) none
   (stepR [p66, p68] (some p69) (gP (iIad 1 (.t p66) (.t p68))) none
   (stepR [p69] (some p70) (gP (iLoad false 1 (.t p69))) none
   (stepR [p0] (some p71) (gMov (.t p0)) none
   (stepR [p13] (some p72) (gMov (.t p13)) none
   (stepR [p71, p72] (some p73) (gP (iIad 1 (.t p71) (.t p72))) none
   (stepR [p73] (some p74) (gP (iLoad false 1 (.t p73))) none
   (stepR [p61, p62] (some p75) (gP (iIad 1 (.t p61) (.t p62))) none
   (stepL [p75, p70] none (gE (iStore 1 (.t p75) (.t p70))) none
   (stepR [p63, p65] (some p76) (gP (iIad 1 (.t p63) (.t p65))) none
   (stepL [p76, p74] none (gE (iStore 1 (.t p76) (.t p74))) none
   endD))))))))))))))))))))
  (cReg (step0 (some p59) (gMov (.t p13))
   (step0 (some p60) (gP (iInt fAdd 63 (.t p59) (.c (.int 63 1))))
   (step0 (some p13) (gMov (.t p60))
   endG))))))
noncomputable def c68_1 : CEv := (cCond (.t p28) (cSeq (cReg (step0 (some p29) (gMov (.t p2))
   (step0 (some p10) (gMov (.t p29))
   endG)))
  (cSeq (cReg (step0 (some p30) (gMov (.t p3))
   (step0 (some p11) (gMov (.t p30))
   endG)))
  (cSeq (cBlock 0 (cLoop b68_0))
  (cSeq (cSeq (cReg (step0 (some p54) (gMov (.t p1))
   (step0 (some p13) (gMov (.t p54))
   endG)))
  (cBlock 2 (cLoop b68_1)))
  cRet))))
  cSkip)
noncomputable def c68_2 : CEv := (cReg (step0 (some p77) (gMov (.t p3))
   (step0 (some p78) (gMov (.t p2))
   (step0 (some p79) (gP (iInt fSub 63 (.t p77) (.t p78)))
   (step0 (some p80) (gP (iInt fEql 63 (.t p79) (.c (.int 63 1))))
   endG)))))
noncomputable def b68_2 : CEv := (cSeq (cSeq (cReg (step0 (some p83) (gMov (.t p14))
   (step0 (some p84) (gMov (.t p15))
   (step0 (some p85) (gP (iInt fLss 63 (.t p83) (.t p84)))
   endG))))
  (cCond (.t p85) cSkip
  (cExit 4)))
  (cBlock 5 (cSeq (cReg (step0 (some p86) (gMov (.t p14))
   (step0 (some p87) (gMov (.t p15))
   (step0 (some p88) (gP (iInt fAdd 63 (.t p86) (.t p87)))
   (step0 (some p89) (gP (iCvi 64 (.t p88)))
   (step0 (some p90) (gP (iSh fShr 64 (.t p89) (.c (.int 64 1))))
   (step0 (some p91) (gP (iCvi 63 (.t p90)))
   (step0 (some p16) (gMov (.t p91))
   endG))))))))
  (cSeq (cDraw [p92, p93, p94, p95, p96, p97, p98, p99, p100, p101, p102, p103] (stepR [p4] (some p92) (gMov (.t p4)) none
   (stepR [p0] (some p93) (gMov (.t p0)) none
   (stepR [p2] (some p94) (gMov (.t p2)) none
   (stepR [p93, p94] (some p95) (gP (iIad 1 (.t p93) (.t p94))) none
   (stepR [p95] (some p96) (gP (iLoad false 1 (.t p95))) none
   (stepR [p0] (some p97) (gMov (.t p0)) none
   (stepR [p16] (some p98) (gMov (.t p16)) none
   (stepR [p97, p98] (some p99) (gP (iIad 1 (.t p97) (.t p98))) none
   (stepR [p99] (some p100) (gP (iLoad false 1 (.t p99))) none
   (stepL [p92, p96, p100] (some p101) (gDyn (.t p92) [(.t p96), (.t p100)]) none
   (stepR [p101] (some p102) (gP (iInt fLss 63 (.t p101) (.c (.int 63 0)))) none
   (stepR [p102] (some p103) (gP (iNot (.t p102))) none
   endD)))))))))))))
  (cCond (.t p103) (cReg (step0 (some p104) (gMov (.t p16))
   (step0 (some p105) (gP (iInt fAdd 63 (.t p104) (.c (.int 63 1))))
   (step0 (some p14) (gMov (.t p105))
   endG))))
  (cReg (step0 (some p106) (gMov (.t p16))
   (step0 (some p15) (gMov (.t p106))
   endG))))))))
noncomputable def b68_3 : CEv := (cSeq (cSeq (cReg (step0 (some p108) (gMov (.t p17))
   (step0 (some p109) (gMov (.t p14))
   (step0 (some p110) (gP (iInt fGtr 63 (.t p108) (.t p109)))
   endG))))
  (cCond (.t p110) cSkip
  (cExit 6)))
  (cSeq (cBlock 7 (cDraw [p113, p114, p115, p116, p117, p118, p119, p120, p121, p122, p123, p124, p125, p126, p127, p128] (stepR [p0] (some p113) (gMov (.t p0)) none
   (stepR [p17] (some p114) (gMov (.t p17)) none
   (stepR [p0] (some p115) (gMov (.t p0)) none
   (stepR [p17] (some p116) (gMov (.t p17)) none
   (stepR [p116] (some p117) (gP (iInt fSub 63 (.t p116) (.c (.int 63 1)))) none
   (stepR [p0] (some p118) (gMov (.t p0)) none
   (stepR [p17] (some p119) (gMov (.t p17)) none
   (stepR [p119] (some p120) (gP (iInt fSub 63 (.t p119) (.c (.int 63 1)))) none
   (stepR [p118, p120] (some p121) (gP (iIad 1 (.t p118) (.t p120))) none
   (stepR [p121] (some p122) (gP (iLoad false 1 (.t p121))) none
   (stepR [p0] (some p123) (gMov (.t p0)) none
   (stepR [p17] (some p124) (gMov (.t p17)) none
   (stepR [p123, p124] (some p125) (gP (iIad 1 (.t p123) (.t p124))) none
   (stepR [p125] (some p126) (gP (iLoad false 1 (.t p125))) none
   (stepR [p113, p114] (some p127) (gP (iIad 1 (.t p113) (.t p114))) none
   (stepL [p127, p122] none (gE (iStore 1 (.t p127) (.t p122))) none
   (stepR [p115, p117] (some p128) (gP (iIad 1 (.t p115) (.t p117))) none
   (stepL [p128, p126] none (gE (iStore 1 (.t p128) (.t p126))) none
   endD))))))))))))))))))))
  (cReg (step0 (some p111) (gMov (.t p17))
   (step0 (some p112) (gP (iInt fSub 63 (.t p111) (.c (.int 63 1))))
   (step0 (some p17) (gMov (.t p112))
   endG))))))
noncomputable def c68_3 : CEv := (cCond (.t p80) (cSeq (cReg (step0 (some p81) (gMov (.t p1))
   (step0 (some p14) (gMov (.t p81))
   endG)))
  (cSeq (cReg (step0 (some p82) (gMov (.t p2))
   (step0 (some p15) (gMov (.t p82))
   endG)))
  (cSeq (cBlock 4 (cLoop b68_2))
  (cSeq (cSeq (cReg (step0 (some p107) (gMov (.t p2))
   (step0 (some p17) (gMov (.t p107))
   endG)))
  (cBlock 6 (cLoop b68_3)))
  cRet))))
  cSkip)
noncomputable def c68_4 : CEv := (cReg (step0 (some p129) (gMov (.t p1))
   (step0 (some p130) (gMov (.t p3))
   (step0 (some p131) (gP (iInt fAdd 63 (.t p129) (.t p130)))
   (step0 (some p132) (gP (iCvi 64 (.t p131)))
   (step0 (some p133) (gP (iSh fShr 64 (.t p132) (.c (.int 64 1))))
   (step0 (some p134) (gP (iCvi 63 (.t p133)))
   (step0 (some p18) (gMov (.t p134))
   endG))))))))
noncomputable def c68_5 : CEv := (cReg (step0 (some p135) (gMov (.t p18))
   (step0 (some p136) (gMov (.t p2))
   (step0 (some p137) (gP (iInt fAdd 63 (.t p135) (.t p136)))
   (step0 (some p19) (gMov (.t p137))
   endG)))))
noncomputable def c68_6 : CEv := (cReg (step0 (some p20) (gMov (.c (.int 63 0)))
   (step0 (some p21) (gMov (.c (.int 63 0)))
   endG)))
noncomputable def c68_7 : CEv := (cReg (step0 (some p138) (gMov (.t p2))
   (step0 (some p139) (gMov (.t p18))
   (step0 (some p140) (gP (iInt fGtr 63 (.t p138) (.t p139)))
   endG))))
noncomputable def c68_8 : CEv := (cCond (.t p140) (cSeq (cReg (step0 (some p141) (gMov (.t p19))
   (step0 (some p142) (gMov (.t p3))
   (step0 (some p143) (gP (iInt fSub 63 (.t p141) (.t p142)))
   (step0 (some p20) (gMov (.t p143))
   endG)))))
  (cReg (step0 (some p144) (gMov (.t p18))
   (step0 (some p21) (gMov (.t p144))
   endG))))
  (cSeq (cReg (step0 (some p145) (gMov (.t p1))
   (step0 (some p20) (gMov (.t p145))
   endG)))
  (cReg (step0 (some p146) (gMov (.t p2))
   (step0 (some p21) (gMov (.t p146))
   endG)))))
noncomputable def c68_9 : CEv := (cReg (step0 (some p147) (gMov (.t p19))
   (step0 (some p148) (gP (iInt fSub 63 (.t p147) (.c (.int 63 1))))
   (step0 (some p22) (gMov (.t p148))
   endG))))
noncomputable def b68_4 : CEv := (cSeq (cSeq (cReg (step0 (some p149) (gMov (.t p20))
   (step0 (some p150) (gMov (.t p21))
   (step0 (some p151) (gP (iInt fLss 63 (.t p149) (.t p150)))
   endG))))
  (cCond (.t p151) cSkip
  (cExit 8)))
  (cBlock 9 (cSeq (cReg (step0 (some p152) (gMov (.t p20))
   (step0 (some p153) (gMov (.t p21))
   (step0 (some p154) (gP (iInt fAdd 63 (.t p152) (.t p153)))
   (step0 (some p155) (gP (iCvi 64 (.t p154)))
   (step0 (some p156) (gP (iSh fShr 64 (.t p155) (.c (.int 64 1))))
   (step0 (some p157) (gP (iCvi 63 (.t p156)))
   (step0 (some p23) (gMov (.t p157))
   endG))))))))
  (cSeq (cDraw [p158, p159, p160, p161, p162, p163, p164, p165, p166, p167, p168, p169, p170, p171] (stepR [p4] (some p158) (gMov (.t p4)) none
   (stepR [p0] (some p159) (gMov (.t p0)) none
   (stepR [p22] (some p160) (gMov (.t p22)) none
   (stepR [p23] (some p161) (gMov (.t p23)) none
   (stepR [p160, p161] (some p162) (gP (iInt fSub 63 (.t p160) (.t p161))) none
   (stepR [p159, p162] (some p163) (gP (iIad 1 (.t p159) (.t p162))) none
   (stepR [p163] (some p164) (gP (iLoad false 1 (.t p163))) none
   (stepR [p0] (some p165) (gMov (.t p0)) none
   (stepR [p23] (some p166) (gMov (.t p23)) none
   (stepR [p165, p166] (some p167) (gP (iIad 1 (.t p165) (.t p166))) none
   (stepR [p167] (some p168) (gP (iLoad false 1 (.t p167))) none
   (stepL [p158, p164, p168] (some p169) (gDyn (.t p158) [(.t p164), (.t p168)]) none
   (stepR [p169] (some p170) (gP (iInt fLss 63 (.t p169) (.c (.int 63 0)))) none
   (stepR [p170] (some p171) (gP (iNot (.t p170))) none
   endD)))))))))))))))
  (cCond (.t p171) (cReg (step0 (some p172) (gMov (.t p23))
   (step0 (some p173) (gP (iInt fAdd 63 (.t p172) (.c (.int 63 1))))
   (step0 (some p20) (gMov (.t p173))
   endG))))
  (cReg (step0 (some p174) (gMov (.t p23))
   (step0 (some p21) (gMov (.t p174))
   endG))))))))
noncomputable def c68_10 : CEv := (cBlock 8 (cLoop b68_4))
noncomputable def c68_11 : CEv := (cReg (step0 (some p175) (gMov (.t p19))
   (step0 (some p176) (gMov (.t p20))
   (step0 (some p177) (gP (iInt fSub 63 (.t p175) (.t p176)))
   (step0 (some p24) (gMov (.t p177))
   endG)))))
noncomputable def c68_12 : CEv := (cReg (step0 (some p178) (gMov (.t p20))
   (step0 (some p179) (gMov (.t p2))
   (step0 (some p180) (gP (iInt fLss 63 (.t p178) (.t p179)))
   (step0 (some p181) (gMov (.t p180))
   (stepG (some p182) (gMov (.t p2)) (some (p181, true))
   (stepG (some p183) (gMov (.t p24)) (some (p181, true))
   (stepG (some p184) (gP (iInt fLss 63 (.t p182) (.t p183))) (some (p181, true))
   (step0 (some p185) (gP (iPick (.t p181) (.t p184) (.c (.bool false))))
   endG)))))))))
noncomputable def c68_13 : CEv := (cCond (.t p185) (cReg (step0 (some p186) (gMov (.t p0))
   (step0 (some p187) (gMov (.t p20))
   (step0 (some p188) (gMov (.t p2))
   (step0 (some p189) (gMov (.t p24))
   (step0 (some p190) (gMov (.t p4))
   (step0 (some p191) (gCall 80 [(.t p186), (.t p187), (.t p188), (.t p189), (.t p190)])
   endG)))))))
  cSkip)
noncomputable def c68_14 : CEv := (cReg (step0 (some p192) (gMov (.t p1))
   (step0 (some p193) (gMov (.t p20))
   (step0 (some p194) (gP (iInt fLss 63 (.t p192) (.t p193)))
   (step0 (some p195) (gMov (.t p194))
   (stepG (some p196) (gMov (.t p20)) (some (p195, true))
   (stepG (some p197) (gMov (.t p18)) (some (p195, true))
   (stepG (some p198) (gP (iInt fLss 63 (.t p196) (.t p197))) (some (p195, true))
   (step0 (some p199) (gP (iPick (.t p195) (.t p198) (.c (.bool false))))
   endG)))))))))
noncomputable def c68_15 : CEv := (cCond (.t p199) (cReg (step0 (some p200) (gMov (.t p0))
   (step0 (some p201) (gMov (.t p1))
   (step0 (some p202) (gMov (.t p20))
   (step0 (some p203) (gMov (.t p18))
   (step0 (some p204) (gMov (.t p4))
   (step0 (some p205) (gCall 68 [(.t p200), (.t p201), (.t p202), (.t p203), (.t p204)])
   endG)))))))
  cSkip)
noncomputable def c68_16 : CEv := (cReg (step0 (some p206) (gMov (.t p18))
   (step0 (some p207) (gMov (.t p24))
   (step0 (some p208) (gP (iInt fLss 63 (.t p206) (.t p207)))
   (step0 (some p209) (gMov (.t p208))
   (stepG (some p210) (gMov (.t p24)) (some (p209, true))
   (stepG (some p211) (gMov (.t p3)) (some (p209, true))
   (stepG (some p212) (gP (iInt fLss 63 (.t p210) (.t p211))) (some (p209, true))
   (step0 (some p213) (gP (iPick (.t p209) (.t p212) (.c (.bool false))))
   endG)))))))))
noncomputable def c68_17 : CEv := (cCond (.t p213) (cReg (step0 (some p214) (gMov (.t p0))
   (step0 (some p215) (gMov (.t p18))
   (step0 (some p216) (gMov (.t p24))
   (step0 (some p217) (gMov (.t p3))
   (step0 (some p218) (gMov (.t p4))
   (step0 (some p219) (gCall 68 [(.t p214), (.t p215), (.t p216), (.t p217), (.t p218)])
   endG)))))))
  cSkip)
noncomputable def sh68 : Fs := .mk []
  (cSeq (cSeq c68_0
  c68_1)
  (cSeq (cSeq c68_2
  c68_3)
  (cSeq c68_4
  (cSeq c68_5
  (cSeq c68_6
  (cSeq (cSeq c68_7
  c68_8)
  (cSeq c68_9
  (cSeq c68_10
  (cSeq c68_11
  (cSeq (cSeq c68_12
  c68_13)
  (cSeq (cSeq c68_14
  c68_15)
  (cSeq c68_16
  c68_17))))))))))))
noncomputable def c69_0 : CEv := (cReg (step0 (some p4) (gMov (.c (.int 63 0)))
   endG))
noncomputable def c69_1 : CEv := (cReg (step0 (some p5) (gMov (.t p0))
   (step0 (some p6) (gMov (.t p1))
   (step0 (some p7) (gCall 81 [(.t p5), (.t p6)])
   (step0 (some p4) (gMov (.t p7))
   endG)))))
noncomputable def sh69 : Fs := .mk [(.t p4)]
  (cSeq c69_0
  (cSeq c69_1
  cRet))
noncomputable def c70_0 : CEv := (cReg (step0 (some p2) (gMov (.c (.int 8 0)))
   endG))
noncomputable def c70_1 : CEv := (cReg (step0 (some p3) (gMov (.t p0))
   (step0 (some p4) (gP (iInt fOr 8 (.t p3) (.c (.int 8 32))))
   (step0 (some p2) (gMov (.t p4))
   endG))))
noncomputable def sh70 : Fs := .mk [(.t p2)]
  (cSeq c70_0
  (cSeq c70_1
  cRet))
noncomputable def c71_0 : CEv := (cReg (step0 (some p2) (gMov (.c (.bool false)))
   endG))
noncomputable def c71_1 : CEv := (cReg (step0 (some p3) (gMov (.c (.int 31 94)))
   endG))
noncomputable def c71_2 : CEv := (cReg (step0 (some p4) (gMov (.c (.int 63 0)))
   endG))
noncomputable def c71_3 : CEv := (cReg (step0 (some p6) (gMov (.t p0))
   (step0 (some p7) (gP (iLenS (.t p6)))
   (step0 (some p8) (gP (iInt fGeq 63 (.t p7) (.c (.int 63 1))))
   (step0 (some p9) (gMov (.t p8))
   (stepG (some p10) (gMov (.t p0)) (some (p9, true))
   (stepG (some p11) (gP (iIxs (.t p10) (.c (.int 63 0)))) (some (p9, true))
   (stepG (some p12) (gP (iInt fEql 8 (.t p11) (.c (.int 8 45)))) (some (p9, true))
   (stepG (some p13) (gMov (.t p12)) (some (p9, true))
   (stepG (some p14) (gMov (.t p0)) (some (p13, false))
   (stepG (some p15) (gP (iIxs (.t p14) (.c (.int 63 0)))) (some (p13, false))
   (stepG (some p16) (gP (iInt fEql 8 (.t p15) (.c (.int 8 43)))) (some (p13, false))
   (stepG (some p17) (gP (iPick (.t p13) (.c (.bool true)) (.t p16))) (some (p9, true))
   (step0 (some p18) (gP (iPick (.t p9) (.t p17) (.c (.bool false))))
   endG))))))))))))))
noncomputable def c71_4 : CEv := (cCond (.t p18) (cReg (step0 (some p19) (gMov (.t p0))
   (step0 (some p20) (gP (iSls (.t p19) (some (.c (.int 63 1))) none))
   (step0 (some p0) (gMov (.t p20))
   endG))))
  cSkip)
noncomputable def c71_5 : CEv := (cReg (step0 (some p5) (gMov (.c (.bool false)))
   endG))
noncomputable def c71_6 : CEv := (cReg (step0 (some p21) (gMov (.t p0))
   (step0 (some p22) (gP (iLenS (.t p21)))
   (step0 (some p23) (gP (iInt fGeq 63 (.t p22) (.c (.int 63 2))))
   (step0 (some p24) (gMov (.t p23))
   (stepG (some p25) (gMov (.t p0)) (some (p24, true))
   (stepG (some p26) (gP (iIxs (.t p25) (.c (.int 63 0)))) (some (p24, true))
   (stepG (some p27) (gP (iInt fEql 8 (.t p26) (.c (.int 8 48)))) (some (p24, true))
   (step0 (some p28) (gP (iPick (.t p24) (.t p27) (.c (.bool false))))
   (step0 (some p29) (gMov (.t p28))
   (stepG (some p30) (gMov (.t p0)) (some (p29, true))
   (stepG (some p31) (gP (iIxs (.t p30) (.c (.int 63 1)))) (some (p29, true))
   (stepG (some p32) (gCall 70 [(.t p31)]) (some (p29, true))
   (stepG (some p33) (gP (iInt fEql 8 (.t p32) (.c (.int 8 98)))) (some (p29, true))
   (stepG (some p34) (gMov (.t p33)) (some (p29, true))
   (stepG (some p35) (gMov (.t p0)) (some (p34, false))
   (stepG (some p36) (gP (iIxs (.t p35) (.c (.int 63 1)))) (some (p34, false))
   (stepG (some p37) (gCall 70 [(.t p36)]) (some (p34, false))
   (stepG (some p38) (gP (iInt fEql 8 (.t p37) (.c (.int 8 111)))) (some (p34, false))
   (stepG (some p39) (gP (iPick (.t p34) (.c (.bool true)) (.t p38))) (some (p29, true))
   (stepG (some p40) (gMov (.t p39)) (some (p29, true))
   (stepG (some p41) (gMov (.t p0)) (some (p40, false))
   (stepG (some p42) (gP (iIxs (.t p41) (.c (.int 63 1)))) (some (p40, false))
   (stepG (some p43) (gCall 70 [(.t p42)]) (some (p40, false))
   (stepG (some p44) (gP (iInt fEql 8 (.t p43) (.c (.int 8 120)))) (some (p40, false))
   (stepG (some p45) (gP (iPick (.t p40) (.c (.bool true)) (.t p44))) (some (p29, true))
   (step0 (some p46) (gP (iPick (.t p29) (.t p45) (.c (.bool false))))
   endG)))))))))))))))))))))))))))
noncomputable def c71_7 : CEv := (cCond (.t p46) (cSeq (cReg (step0 (some p4) (gMov (.c (.int 63 2)))
   endG))
  (cSeq (cReg (step0 (some p3) (gMov (.c (.int 31 48)))
   endG))
  (cReg (step0 (some p47) (gMov (.t p0))
   (step0 (some p48) (gP (iIxs (.t p47) (.c (.int 63 1))))
   (step0 (some p49) (gCall 70 [(.t p48)])
   (step0 (some p50) (gP (iInt fEql 8 (.t p49) (.c (.int 8 120))))
   (step0 (some p5) (gMov (.t p50))
   endG))))))))
  cSkip)
noncomputable def b71_0 : CEv := (cSeq (cSeq (cReg (step0 (some p51) (gMov (.t p4))
   (step0 (some p52) (gMov (.t p0))
   (step0 (some p53) (gP (iLenS (.t p52)))
   (step0 (some p54) (gP (iInt fLss 63 (.t p51) (.t p53)))
   endG)))))
  (cCond (.t p54) cSkip
  (cExit 0)))
  (cSeq (cBlock 1 (cSeq (cSeq (cReg (step0 (some p57) (gMov (.t p0))
   (step0 (some p58) (gMov (.t p4))
   (step0 (some p59) (gP (iIxs (.t p57) (.t p58)))
   (step0 (some p60) (gP (iInt fLeq 8 (.c (.int 8 48)) (.t p59)))
   (step0 (some p61) (gMov (.t p60))
   (stepG (some p62) (gMov (.t p0)) (some (p61, true))
   (stepG (some p63) (gMov (.t p4)) (some (p61, true))
   (stepG (some p64) (gP (iIxs (.t p62) (.t p63))) (some (p61, true))
   (stepG (some p65) (gP (iInt fLeq 8 (.t p64) (.c (.int 8 57)))) (some (p61, true))
   (step0 (some p66) (gP (iPick (.t p61) (.t p65) (.c (.bool false))))
   (step0 (some p67) (gMov (.t p66))
   (stepG (some p68) (gMov (.t p5)) (some (p67, false))
   (stepG (some p69) (gMov (.t p68)) (some (p67, false))
   (stepG (some p70) (gMov (.t p0)) (some (p69, true))
   (stepG (some p71) (gMov (.t p4)) (some (p69, true))
   (stepG (some p72) (gP (iIxs (.t p70) (.t p71))) (some (p69, true))
   (stepG (some p73) (gCall 70 [(.t p72)]) (some (p69, true))
   (stepG (some p74) (gP (iInt fLeq 8 (.c (.int 8 97)) (.t p73))) (some (p69, true))
   (stepG (some p75) (gP (iPick (.t p69) (.t p74) (.c (.bool false)))) (some (p67, false))
   (stepG (some p76) (gMov (.t p75)) (some (p67, false))
   (stepG (some p77) (gMov (.t p0)) (some (p76, true))
   (stepG (some p78) (gMov (.t p4)) (some (p76, true))
   (stepG (some p79) (gP (iIxs (.t p77) (.t p78))) (some (p76, true))
   (stepG (some p80) (gCall 70 [(.t p79)]) (some (p76, true))
   (stepG (some p81) (gP (iInt fLeq 8 (.t p80) (.c (.int 8 102)))) (some (p76, true))
   (stepG (some p82) (gP (iPick (.t p76) (.t p81) (.c (.bool false)))) (some (p67, false))
   (step0 (some p83) (gP (iPick (.t p67) (.c (.bool true)) (.t p82)))
   endG))))))))))))))))))))))))))))
  (cCond (.t p83) (cSeq (cReg (step0 (some p3) (gMov (.c (.int 31 48)))
   endG))
  (cExit 1))
  cSkip))
  (cSeq (cSeq (cReg (step0 (some p84) (gMov (.t p0))
   (step0 (some p85) (gMov (.t p4))
   (step0 (some p86) (gP (iIxs (.t p84) (.t p85)))
   (step0 (some p87) (gP (iInt fEql 8 (.t p86) (.c (.int 8 95))))
   endG)))))
  (cCond (.t p87) (cSeq (cSeq (cReg (step0 (some p88) (gMov (.t p3))
   (step0 (some p89) (gP (iInt fNeq 31 (.t p88) (.c (.int 31 48))))
   endG)))
  (cCond (.t p89) (cSeq (cReg (step0 (some p2) (gMov (.c (.bool false)))
   endG))
  cRet)
  cSkip))
  (cSeq (cReg (step0 (some p3) (gMov (.c (.int 31 95)))
   endG))
  (cExit 1)))
  cSkip))
  (cSeq (cSeq (cReg (step0 (some p90) (gMov (.t p3))
   (step0 (some p91) (gP (iInt fEql 31 (.t p90) (.c (.int 31 95))))
   endG)))
  (cCond (.t p91) (cSeq (cReg (step0 (some p2) (gMov (.c (.bool false)))
   endG))
  cRet)
  cSkip))
  (cReg (step0 (some p3) (gMov (.c (.int 31 33)))
   endG))))))
  (cReg (step0 (some p55) (gMov (.t p4))
   (step0 (some p56) (gP (iInt fAdd 63 (.t p55) (.c (.int 63 1))))
   (step0 (some p4) (gMov (.t p56))
   endG))))))
noncomputable def c71_8 : CEv := (cBlock 0 (cLoop b71_0))
noncomputable def c71_9 : CEv := (cReg (step0 (some p92) (gMov (.t p3))
   (step0 (some p93) (gP (iInt fNeq 31 (.t p92) (.c (.int 31 95))))
   (step0 (some p2) (gMov (.t p93))
   endG))))
noncomputable def sh71 : Fs := .mk [(.t p2)]
  (cSeq c71_0
  (cSeq c71_1
  (cSeq c71_2
  (cSeq (cSeq c71_3
  c71_4)
  (cSeq c71_5
  (cSeq (cSeq c71_6
  c71_7)
  (cSeq c71_8
  (cSeq c71_9
  cRet))))))))
noncomputable def c72_0 : CEv := (cReg (step0 (some p2) (gMov (.c (.str [])))
   endG))
noncomputable def c72_1 : CEv := (cReg (step0 (some p4) (gMov (.t p0))
   (step0 (some p5) (gP (iLenS (.t p4)))
   (step0 (some p6) (gP (iInt fEql 63 (.t p5) (.c (.int 63 0))))
   endG))))
noncomputable def c72_2 : CEv := (cCond (.t p6) (cSeq (cReg (step0 (some p2) (gMov (.c (.str [])))
   endG))
  cRet)
  cSkip)
noncomputable def c72_3 : CEv := (cReg (step0 (some p7) (gMov (.t p0))
   (step0 (some p8) (gP (iLenS (.t p7)))
   (step0 (some p9) (gE (iMks 5 1 [(.int 8 0)] (.t p8) (.t p8)))
   (step0 (some p3) (gMov (.t p9))
   endG)))))
noncomputable def c72_4 : CEv := (cReg (step0 (some p10) (gMov (.t p3))
   (step0 (some p11) (gMov (.t p0))
   (step0 (some p12) (gE (iCpy true 1 (.t p10) (.t p11)))
   endG))))
noncomputable def c72_5 : CEv := (cReg (step0 (some p13) (gMov (.t p3))
   (step0 (some p14) (gP (iIad 1 (.t p13) (.c (.int 63 0))))
   (step0 (some p15) (gMov (.t p3))
   (step0 (some p16) (gP (iLenL (.t p15)))
   (step0 (some p17) gNo
   (step0 (some p2) (gMov (.t p17))
   endG)))))))
noncomputable def sh72 : Fs := .mk [(.t p2)]
  (cSeq c72_0
  (cSeq (cSeq c72_1
  c72_2)
  (cSeq c72_3
  (cSeq c72_4
  (cSeq c72_5
  cRet)))))
noncomputable def c73_0 : CEv := (cReg (step0 (some p2) (gMov (.c (.ref 7 0 0 0 0 false)))
   endG))
noncomputable def c73_1 : CEv := (cReg (step0 (some p3) (gMov (.t p0))
   (step0 (some p4) (gP (iBuild [(.str [])] [(0, (1, (.t p3)))]))
   (step0 (some p5) (gE (iBox 126 (.t p4)))
   (step0 (some p6) (gP (iMki 124 (.t p5)))
   (step0 (some p2) (gMov (.t p6))
   endG))))))
noncomputable def sh73 : Fs := .mk [(.t p2)]
  (cSeq c73_0
  (cSeq c73_1
  cRet))
noncomputable def c74_0 : CEv := (cReg (step0 (some p2) (gMov (.c (.str [])))
   endG))
noncomputable def c74_1 : CEv := (cReg (step0 (some p3) (gMov (.t p0))
   (step0 (some p4) (gCall 82 [(.t p3)])
   (step0 (some p2) (gMov (.t p4))
   endG))))
noncomputable def sh74 : Fs := .mk [(.t p2)]
  (cSeq c74_0
  (cSeq c74_1
  cRet))
noncomputable def c75_0 : CEv := (cReg (step0 (some p2) (gMov (.c (.int 63 0)))
   endG))
noncomputable def c75_1 : CEv := (cReg (step0 (some p3) (gMov (.t p0))
   (step0 (some p4) (gP (iInt fMul 63 (.t p3) (.c (.int 63 78913))))
   (step0 (some p5) (gP (iSh fShr 63 (.t p4) (.c (.int 64 18))))
   (step0 (some p2) (gMov (.t p5))
   endG)))))
noncomputable def sh75 : Fs := .mk [(.t p2)]
  (cSeq c75_0
  (cSeq c75_1
  cRet))
noncomputable def c76_0 : CEv := (cReg (step0 (some p2) (gMov (.c (.int 63 0)))
   endG))
noncomputable def c76_1 : CEv := (cReg (step0 (some p3) (gMov (.t p0))
   (step0 (some p4) (gP (iInt fGeq 64 (.t p3) (.c (.int 64 4294967296))))
   endG)))
noncomputable def c76_2 : CEv := (cCond (.t p4) (cSeq (cReg (step0 (some p5) (gMov (.t p0))
   (step0 (some p6) (gP (iSh fShr 64 (.t p5) (.c (.int 64 32))))
   (step0 (some p0) (gMov (.t p6))
   endG))))
  (cReg (step0 (some p2) (gMov (.c (.int 63 32)))
   endG)))
  cSkip)
noncomputable def c76_3 : CEv := (cReg (step0 (some p7) (gMov (.t p0))
   (step0 (some p8) (gP (iInt fGeq 64 (.t p7) (.c (.int 64 65536))))
   endG)))
noncomputable def c76_4 : CEv := (cCond (.t p8) (cSeq (cReg (step0 (some p9) (gMov (.t p0))
   (step0 (some p10) (gP (iSh fShr 64 (.t p9) (.c (.int 64 16))))
   (step0 (some p0) (gMov (.t p10))
   endG))))
  (cReg (step0 (some p11) (gMov (.t p2))
   (step0 (some p12) (gP (iInt fAdd 63 (.t p11) (.c (.int 63 16))))
   (step0 (some p2) (gMov (.t p12))
   endG)))))
  cSkip)
noncomputable def c76_5 : CEv := (cReg (step0 (some p13) (gMov (.t p0))
   (step0 (some p14) (gP (iInt fGeq 64 (.t p13) (.c (.int 64 256))))
   endG)))
noncomputable def c76_6 : CEv := (cCond (.t p14) (cSeq (cReg (step0 (some p15) (gMov (.t p0))
   (step0 (some p16) (gP (iSh fShr 64 (.t p15) (.c (.int 64 8))))
   (step0 (some p0) (gMov (.t p16))
   endG))))
  (cReg (step0 (some p17) (gMov (.t p2))
   (step0 (some p18) (gP (iInt fAdd 63 (.t p17) (.c (.int 63 8))))
   (step0 (some p2) (gMov (.t p18))
   endG)))))
  cSkip)
noncomputable def c76_7 : CEv := (cReg (step0 (some p19) (gMov (.t p2))
   (step0 (some p20) (gMov (.t p0))
   (step0 (some p21) (gP (iCvi 8 (.t p20)))
   (step0 (some p22) (gP (iIxs (.c (.str [0, 1, 2, 2, 3, 3, 3, 3, 4, 4, 4, 4, 4, 4, 4, 4, 5, 5, 5, 5, 5, 5, 5, 5, 5, 5, 5, 5, 5, 5, 5, 5, 6, 6, 6, 6, 6, 6, 6, 6, 6, 6, 6, 6, 6, 6, 6, 6, 6, 6, 6, 6, 6, 6, 6, 6, 6, 6, 6, 6, 6, 6, 6, 6, 7, 7, 7, 7, 7, 7, 7, 7, 7, 7, 7, 7, 7, 7, 7, 7, 7, 7, 7, 7, 7, 7, 7, 7, 7, 7, 7, 7, 7, 7, 7, 7, 7, 7, 7, 7, 7, 7, 7, 7, 7, 7, 7, 7, 7, 7, 7, 7, 7, 7, 7, 7, 7, 7, 7, 7, 7, 7, 7, 7, 7, 7, 7, 7, 8, 8, 8, 8, 8, 8, 8, 8, 8, 8, 8, 8, 8, 8, 8, 8, 8, 8, 8, 8, 8, 8, 8, 8, 8, 8, 8, 8, 8, 8, 8, 8, 8, 8, 8, 8, 8, 8, 8, 8, 8, 8, 8, 8, 8, 8, 8, 8, 8, 8, 8, 8, 8, 8, 8, 8, 8, 8, 8, 8, 8, 8, 8, 8, 8, 8, 8, 8, 8, 8, 8, 8, 8, 8, 8, 8, 8, 8, 8, 8, 8, 8, 8, 8, 8, 8, 8, 8, 8, 8, 8, 8, 8, 8, 8, 8, 8, 8, 8, 8, 8, 8, 8, 8, 8, 8, 8, 8, 8, 8, 8, 8, 8, 8, 8, 8, 8, 8, 8, 8, 8, 8, 8, 8, 8, 8, 8, 8])) (.t p21)))
   (step0 (some p23) (gP (iCvi 63 (.t p22)))
   (step0 (some p24) (gP (iInt fAdd 63 (.t p19) (.t p23)))
   (step0 (some p2) (gMov (.t p24))
   endG))))))))
noncomputable def sh76 : Fs := .mk [(.t p2)]
  (cSeq c76_0
  (cSeq (cSeq c76_1
  c76_2)
  (cSeq (cSeq c76_3
  c76_4)
  (cSeq (cSeq c76_5
  c76_6)
  (cSeq c76_7
  cRet)))))
noncomputable def c77_0 : CEv := (cReg (step0 (some p2) (gMov (.c (.int 63 0)))
   endG))
noncomputable def c77_1 : CEv := (cReg (step0 (some p3) (gMov (.t p0))
   endG))
noncomputable def c77_2 : CEv := (cCond (.t p3) (cSeq (cReg (step0 (some p2) (gMov (.c (.int 63 1)))
   endG))
  cRet)
  cSkip)
noncomputable def c77_3 : CEv := (cReg (step0 (some p2) (gMov (.c (.int 63 0)))
   endG))
noncomputable def sh77 : Fs := .mk [(.t p2)]
  (cSeq c77_0
  (cSeq (cSeq c77_1
  c77_2)
  (cSeq c77_3
  cRet)))
noncomputable def c78_0 : CEv := (cReg (step0 (some p2) (gMov (.c (.bool false)))
   endG))
noncomputable def c78_1 : CEv := (cReg (step0 (some p3) (gMov (.t p0))
   (step0 (some p4) (gMov (.t p0))
   (step0 (some p5) (gP (iInt fSub 63 (.t p4) (.c (.int 63 1))))
   (step0 (some p6) (gP (iInt fAnd 63 (.t p3) (.t p5)))
   (step0 (some p7) (gP (iInt fEql 63 (.t p6) (.c (.int 63 0))))
   (step0 (some p2) (gMov (.t p7))
   endG)))))))
noncomputable def sh78 : Fs := .mk [(.t p2)]
  (cSeq c78_0
  (cSeq c78_1
  cRet))
noncomputable def c79_0 : CEv := (cReg (step0 (some p2) (gMov (.c (.int 63 0)))
   endG))
noncomputable def c79_1 : CEv := (cCond (.c (.bool false)) (cSeq (cReg (step0 (some p3) (gMov (.t p0))
   (step0 (some p4) (gP (iCvi 32 (.t p3)))
   (step0 (some p5) (gCall 83 [(.t p4)])
   (step0 (some p2) (gMov (.t p5))
   endG)))))
  cRet)
  cSkip)
noncomputable def c79_2 : CEv := (cReg (step0 (some p6) (gMov (.t p0))
   (step0 (some p7) (gCall 84 [(.t p6)])
   (step0 (some p2) (gMov (.t p7))
   endG))))
noncomputable def sh79 : Fs := .mk [(.t p2)]
  (cSeq c79_0
  (cSeq c79_1
  (cSeq c79_2
  cRet)))
noncomputable def c80_0 : CEv := (cReg (step0 (some p12) (gMov (.t p2))
   (step0 (some p13) (gMov (.t p1))
   (step0 (some p14) (gP (iInt fSub 63 (.t p12) (.t p13)))
   (step0 (some p10) (gMov (.t p14))
   endG)))))
noncomputable def c80_1 : CEv := (cReg (step0 (some p15) (gMov (.t p3))
   (step0 (some p16) (gMov (.t p2))
   (step0 (some p17) (gP (iInt fSub 63 (.t p15) (.t p16)))
   (step0 (some p11) (gMov (.t p17))
   endG)))))
noncomputable def b80_0 : CEv := (cSeq (cSeq (cReg (step0 (some p18) (gMov (.t p10))
   (step0 (some p19) (gMov (.t p11))
   (step0 (some p20) (gP (iInt fNeq 63 (.t p18) (.t p19)))
   endG))))
  (cCond (.t p20) cSkip
  (cExit 0)))
  (cBlock 1 (cSeq (cReg (step0 (some p21) (gMov (.t p10))
   (step0 (some p22) (gMov (.t p11))
   (step0 (some p23) (gP (iInt fGtr 63 (.t p21) (.t p22)))
   endG))))
  (cCond (.t p23) (cSeq (cReg (step0 (some p24) (gMov (.t p0))
   (step0 (some p25) (gMov (.t p2))
   (step0 (some p26) (gMov (.t p10))
   (step0 (some p27) (gP (iInt fSub 63 (.t p25) (.t p26)))
   (step0 (some p28) (gMov (.t p2))
   (step0 (some p29) (gMov (.t p11))
   (step0 (some p30) (gMov (.t p4))
   (step0 (some p31) (gCall 85 [(.t p24), (.t p27), (.t p28), (.t p29), (.t p30)])
   endG)))))))))
  (cReg (step0 (some p32) (gMov (.t p10))
   (step0 (some p33) (gMov (.t p11))
   (step0 (some p34) (gP (iInt fSub 63 (.t p32) (.t p33)))
   (step0 (some p10) (gMov (.t p34))
   endG))))))
  (cSeq (cReg (step0 (some p35) (gMov (.t p0))
   (step0 (some p36) (gMov (.t p2))
   (step0 (some p37) (gMov (.t p10))
   (step0 (some p38) (gP (iInt fSub 63 (.t p36) (.t p37)))
   (step0 (some p39) (gMov (.t p2))
   (step0 (some p40) (gMov (.t p11))
   (step0 (some p41) (gP (iInt fAdd 63 (.t p39) (.t p40)))
   (step0 (some p42) (gMov (.t p10))
   (step0 (some p43) (gP (iInt fSub 63 (.t p41) (.t p42)))
   (step0 (some p44) (gMov (.t p10))
   (step0 (some p45) (gMov (.t p4))
   (step0 (some p46) (gCall 85 [(.t p35), (.t p38), (.t p43), (.t p44), (.t p45)])
   endG)))))))))))))
  (cReg (step0 (some p47) (gMov (.t p11))
   (step0 (some p48) (gMov (.t p10))
   (step0 (some p49) (gP (iInt fSub 63 (.t p47) (.t p48)))
   (step0 (some p11) (gMov (.t p49))
   endG))))))))))
noncomputable def c80_2 : CEv := (cBlock 0 (cLoop b80_0))
noncomputable def c80_3 : CEv := (cReg (step0 (some p50) (gMov (.t p0))
   (step0 (some p51) (gMov (.t p2))
   (step0 (some p52) (gMov (.t p10))
   (step0 (some p53) (gP (iInt fSub 63 (.t p51) (.t p52)))
   (step0 (some p54) (gMov (.t p2))
   (step0 (some p55) (gMov (.t p10))
   (step0 (some p56) (gMov (.t p4))
   (step0 (some p57) (gCall 85 [(.t p50), (.t p53), (.t p54), (.t p55), (.t p56)])
   endG)))))))))
noncomputable def sh80 : Fs := .mk []
  (cSeq c80_0
  (cSeq c80_1
  (cSeq c80_2
  c80_3)))
def sh81 : Fs := .ext 0
noncomputable def c82_0 : CEv := (cReg (step0 (some p2) (gMov (.c (.str [])))
   endG))
noncomputable def c82_1 : CEv := (cReg (step0 (some p3) (gMov (.t p0))
   (step0 (some p4) (gCall 50 [(.t p3), (.c (.int 63 10))])
   (step0 (some p2) (gMov (.t p4))
   endG))))
noncomputable def sh82 : Fs := .mk [(.t p2)]
  (cSeq c82_0
  (cSeq c82_1
  cRet))
noncomputable def c83_0 : CEv := (cReg (step0 (some p2) (gMov (.c (.int 63 0)))
   endG))
noncomputable def c83_1 : CEv := (cReg (step0 (some p3) (gMov (.t p0))
   (step0 (some p4) (gP (iInt fEql 32 (.t p3) (.c (.int 32 0))))
   endG)))
noncomputable def c83_2 : CEv := (cCond (.t p4) (cSeq (cReg (step0 (some p2) (gMov (.c (.int 63 32)))
   endG))
  cRet)
  cSkip)
noncomputable def c83_3 : CEv := (cReg (step0 (some p5) (gMov (.t p0))
   (step0 (some p6) (gMov (.t p0))
   (step0 (some p7) (gP (iNeg 32 (.t p6)))
   (step0 (some p8) (gP (iInt fAnd 32 (.t p5) (.t p7)))
   (step0 (some p9) (gP (iInt fMul 32 (.t p8) (.c (.int 32 125613361))))
   (step0 (some p10) (gP (iSh fShr 32 (.t p9) (.c (.int 64 27))))
   (step0 (some p11) (gP (iIaa 32 1 (.c (.ref 1 8 0 0 0 false)) (.t p10)))
   (step0 (some p12) (gP (iLoad false 1 (.t p11)))
   (step0 (some p13) (gP (iCvi 63 (.t p12)))
   (step0 (some p2) (gMov (.t p13))
   endG)))))))))))
noncomputable def sh83 : Fs := .mk [(.t p2)]
  (cSeq c83_0
  (cSeq (cSeq c83_1
  c83_2)
  (cSeq c83_3
  cRet)))
noncomputable def c84_0 : CEv := (cReg (step0 (some p2) (gMov (.c (.int 63 0)))
   endG))
noncomputable def c84_1 : CEv := (cReg (step0 (some p3) (gMov (.t p0))
   (step0 (some p4) (gP (iInt fEql 64 (.t p3) (.c (.int 64 0))))
   endG)))
noncomputable def c84_2 : CEv := (cCond (.t p4) (cSeq (cReg (step0 (some p2) (gMov (.c (.int 63 64)))
   endG))
  cRet)
  cSkip)
noncomputable def c84_3 : CEv := (cReg (step0 (some p5) (gMov (.t p0))
   (step0 (some p6) (gMov (.t p0))
   (step0 (some p7) (gP (iNeg 64 (.t p6)))
   (step0 (some p8) (gP (iInt fAnd 64 (.t p5) (.t p7)))
   (step0 (some p9) (gP (iInt fMul 64 (.t p8) (.c (.int 64 285870213051353865))))
   (step0 (some p10) (gP (iSh fShr 64 (.t p9) (.c (.int 64 58))))
   (step0 (some p11) (gP (iIaa 64 1 (.c (.ref 1 9 0 0 0 false)) (.t p10)))
   (step0 (some p12) (gP (iLoad false 1 (.t p11)))
   (step0 (some p13) (gP (iCvi 63 (.t p12)))
   (step0 (some p2) (gMov (.t p13))
   endG)))))))))))
noncomputable def sh84 : Fs := .mk [(.t p2)]
  (cSeq c84_0
  (cSeq (cSeq c84_1
  c84_2)
  (cSeq c84_3
  cRet)))
noncomputable def c85_0 : CEv := (cReg (step0 (some p10) (gMov (.c (.int 63 0)))
   endG))
noncomputable def b85_0 : CEv := (cSeq (cSeq (cReg (step0 (some p11) (gMov (.t p10))
   (step0 (some p12) (gMov (.t p3))
   (step0 (some p13) (gP (iInt fLss 63 (.t p11) (.t p12)))
   endG))))
  (cCond (.t p13) cSkip
  (cExit 0)))
  (cSeq (cBlock 1 (cDraw [p16, p17, p18, p19, p20, p21, p22, p23, p24, p25, p26, p27, p28, p29, p30, p31, p32, p33, p34, p35, p36, p37] (stepR [p0] (some p16) (gMov (.t p0)) none
   (stepR [p1] (some p17) (gMov (.t p1)) none
   (stepR [p10] (some p18) (gMov (.t p10)) none
   (stepR [p17, p18] (some p19) (gP (iInt fAdd 63 (.t p17) (.t p18))) none
   (stepR [p0] (some p20) (gMov (.t p0)) none
   (stepR [p2] (some p21) (gMov (.t p2)) none
   (stepR [p10] (some p22) (gMov (.t p10)) none
   (stepR [p21, p22] (some p23) (gP (iInt fAdd 63 (.t p21) (.t p22))) none
   (stepR [p0] (some p24) (gMov (.t p0)) none
   (stepR [p2] (some p25) (gMov (.t p2)) none
   (stepR [p10] (some p26) (gMov (.t p10)) none
   (stepR [p25, p26] (some p27) (gP (iInt fAdd 63 (.t p25) (.t p26))) none
   (stepR [p24, p27] (some p28) (gP (iIad 1 (.t p24) (.t p27))) none
   (stepR [p28] (some p29) (gP (iLoad false 1 (.t p28))) none
   (stepR [p0] (some p30) (gMov (.t p0)) none
   (stepR [p1] (some p31) (gMov (.t p1)) none
   (stepR [p10] (some p32) (gMov (.t p10)) none
   (stepR [p31, p32] (some p33) (gP (iInt fAdd 63 (.t p31) (.t p32))) none
   (stepR [p30, p33] (some p34) (gP (iIad 1 (.t p30) (.t p33))) none
   (stepR [p34] (some p35) (gP (iLoad false 1 (.t p34))) none
   (stepR [p16, p19] (some p36) (gP (iIad 1 (.t p16) (.t p19))) none
   (stepL [p36, p29] none (gE (iStore 1 (.t p36) (.t p29))) none
   (stepR [p20, p23] (some p37) (gP (iIad 1 (.t p20) (.t p23))) none
   (stepL [p37, p35] none (gE (iStore 1 (.t p37) (.t p35))) none
   endD))))))))))))))))))))))))))
  (cReg (step0 (some p14) (gMov (.t p10))
   (step0 (some p15) (gP (iInt fAdd 63 (.t p14) (.c (.int 63 1))))
   (step0 (some p10) (gMov (.t p15))
   endG))))))
noncomputable def c85_1 : CEv := (cBlock 0 (cLoop b85_0))
noncomputable def sh85 : Fs := .mk []
  (cSeq c85_0
  c85_1)
end Go.Proofs.YtnjjkomopkgidaaDoor.Av
