/-
 THE SLOTS' NAMES, printed by a program of this session's own.
-/
import Derived.Test.YtnebopkgnkemiaaGreatDoorMacA
namespace Go.Proofs.YtnebopkgnkemiaaGreatDoor.Av
def plains : List (Nat × Nat) := [(10, 100), (11, 100), (153, 63), (194, 8)]
def p0 : Pa := .h
theorem q0 : p0 = pa 0 := rfl
def p1 : Pa := (.l .h)
theorem q1 : p1 = pa 1 := rfl
def p2 : Pa := (.r .h)
theorem q2 : p2 = pa 2 := rfl
def p3 : Pa := (.l (.l .h))
theorem q3 : p3 = pa 3 := rfl
def p4 : Pa := (.r (.l .h))
theorem q4 : p4 = pa 4 := rfl
def p5 : Pa := (.l (.r .h))
theorem q5 : p5 = pa 5 := rfl
def p6 : Pa := (.r (.r .h))
theorem q6 : p6 = pa 6 := rfl
def p7 : Pa := (.l (.l (.l .h)))
theorem q7 : p7 = pa 7 := rfl
def p8 : Pa := (.r (.l (.l .h)))
theorem q8 : p8 = pa 8 := rfl
def p9 : Pa := (.l (.r (.l .h)))
theorem q9 : p9 = pa 9 := rfl
def p10 : Pa := (.r (.r (.l .h)))
theorem q10 : p10 = pa 10 := rfl
def p11 : Pa := (.l (.l (.r .h)))
theorem q11 : p11 = pa 11 := rfl
def p12 : Pa := (.r (.l (.r .h)))
theorem q12 : p12 = pa 12 := rfl
def p13 : Pa := (.l (.r (.r .h)))
theorem q13 : p13 = pa 13 := rfl
def p14 : Pa := (.r (.r (.r .h)))
theorem q14 : p14 = pa 14 := rfl
def p15 : Pa := (.l (.l (.l (.l .h))))
theorem q15 : p15 = pa 15 := rfl
def p16 : Pa := (.r (.l (.l (.l .h))))
theorem q16 : p16 = pa 16 := rfl
def p17 : Pa := (.l (.r (.l (.l .h))))
theorem q17 : p17 = pa 17 := rfl
def p18 : Pa := (.r (.r (.l (.l .h))))
theorem q18 : p18 = pa 18 := rfl
def p19 : Pa := (.l (.l (.r (.l .h))))
theorem q19 : p19 = pa 19 := rfl
def p20 : Pa := (.r (.l (.r (.l .h))))
theorem q20 : p20 = pa 20 := rfl
def p21 : Pa := (.l (.r (.r (.l .h))))
theorem q21 : p21 = pa 21 := rfl
def p22 : Pa := (.r (.r (.r (.l .h))))
theorem q22 : p22 = pa 22 := rfl
def p23 : Pa := (.l (.l (.l (.r .h))))
theorem q23 : p23 = pa 23 := rfl
def p24 : Pa := (.r (.l (.l (.r .h))))
theorem q24 : p24 = pa 24 := rfl
def p25 : Pa := (.l (.r (.l (.r .h))))
theorem q25 : p25 = pa 25 := rfl
def p26 : Pa := (.r (.r (.l (.r .h))))
theorem q26 : p26 = pa 26 := rfl
def p27 : Pa := (.l (.l (.r (.r .h))))
theorem q27 : p27 = pa 27 := rfl
def p28 : Pa := (.r (.l (.r (.r .h))))
theorem q28 : p28 = pa 28 := rfl
def p29 : Pa := (.l (.r (.r (.r .h))))
theorem q29 : p29 = pa 29 := rfl
def p30 : Pa := (.r (.r (.r (.r .h))))
theorem q30 : p30 = pa 30 := rfl
def p31 : Pa := (.l (.l (.l (.l (.l .h)))))
theorem q31 : p31 = pa 31 := rfl
def p32 : Pa := (.r (.l (.l (.l (.l .h)))))
theorem q32 : p32 = pa 32 := rfl
def p33 : Pa := (.l (.r (.l (.l (.l .h)))))
theorem q33 : p33 = pa 33 := rfl
def p34 : Pa := (.r (.r (.l (.l (.l .h)))))
theorem q34 : p34 = pa 34 := rfl
def p35 : Pa := (.l (.l (.r (.l (.l .h)))))
theorem q35 : p35 = pa 35 := rfl
def p36 : Pa := (.r (.l (.r (.l (.l .h)))))
theorem q36 : p36 = pa 36 := rfl
def p37 : Pa := (.l (.r (.r (.l (.l .h)))))
theorem q37 : p37 = pa 37 := rfl
def p38 : Pa := (.r (.r (.r (.l (.l .h)))))
theorem q38 : p38 = pa 38 := rfl
def p39 : Pa := (.l (.l (.l (.r (.l .h)))))
theorem q39 : p39 = pa 39 := rfl
def p40 : Pa := (.r (.l (.l (.r (.l .h)))))
theorem q40 : p40 = pa 40 := rfl
def p41 : Pa := (.l (.r (.l (.r (.l .h)))))
theorem q41 : p41 = pa 41 := rfl
def p42 : Pa := (.r (.r (.l (.r (.l .h)))))
theorem q42 : p42 = pa 42 := rfl
def p43 : Pa := (.l (.l (.r (.r (.l .h)))))
theorem q43 : p43 = pa 43 := rfl
def p44 : Pa := (.r (.l (.r (.r (.l .h)))))
theorem q44 : p44 = pa 44 := rfl
def p45 : Pa := (.l (.r (.r (.r (.l .h)))))
theorem q45 : p45 = pa 45 := rfl
def p46 : Pa := (.r (.r (.r (.r (.l .h)))))
theorem q46 : p46 = pa 46 := rfl
def p47 : Pa := (.l (.l (.l (.l (.r .h)))))
theorem q47 : p47 = pa 47 := rfl
def p48 : Pa := (.r (.l (.l (.l (.r .h)))))
theorem q48 : p48 = pa 48 := rfl
def p49 : Pa := (.l (.r (.l (.l (.r .h)))))
theorem q49 : p49 = pa 49 := rfl
def p50 : Pa := (.r (.r (.l (.l (.r .h)))))
theorem q50 : p50 = pa 50 := rfl
def p51 : Pa := (.l (.l (.r (.l (.r .h)))))
theorem q51 : p51 = pa 51 := rfl
def p52 : Pa := (.r (.l (.r (.l (.r .h)))))
theorem q52 : p52 = pa 52 := rfl
def p53 : Pa := (.l (.r (.r (.l (.r .h)))))
theorem q53 : p53 = pa 53 := rfl
def p54 : Pa := (.r (.r (.r (.l (.r .h)))))
theorem q54 : p54 = pa 54 := rfl
def p55 : Pa := (.l (.l (.l (.r (.r .h)))))
theorem q55 : p55 = pa 55 := rfl
def p56 : Pa := (.r (.l (.l (.r (.r .h)))))
theorem q56 : p56 = pa 56 := rfl
def p57 : Pa := (.l (.r (.l (.r (.r .h)))))
theorem q57 : p57 = pa 57 := rfl
def p58 : Pa := (.r (.r (.l (.r (.r .h)))))
theorem q58 : p58 = pa 58 := rfl
def p59 : Pa := (.l (.l (.r (.r (.r .h)))))
theorem q59 : p59 = pa 59 := rfl
def p60 : Pa := (.r (.l (.r (.r (.r .h)))))
theorem q60 : p60 = pa 60 := rfl
def p61 : Pa := (.l (.r (.r (.r (.r .h)))))
theorem q61 : p61 = pa 61 := rfl
def p62 : Pa := (.r (.r (.r (.r (.r .h)))))
theorem q62 : p62 = pa 62 := rfl
def p63 : Pa := (.l (.l (.l (.l (.l (.l .h))))))
theorem q63 : p63 = pa 63 := rfl
def p64 : Pa := (.r (.l (.l (.l (.l (.l .h))))))
theorem q64 : p64 = pa 64 := rfl
def p65 : Pa := (.l (.r (.l (.l (.l (.l .h))))))
theorem q65 : p65 = pa 65 := rfl
def p66 : Pa := (.r (.r (.l (.l (.l (.l .h))))))
theorem q66 : p66 = pa 66 := rfl
def p67 : Pa := (.l (.l (.r (.l (.l (.l .h))))))
theorem q67 : p67 = pa 67 := rfl
def p68 : Pa := (.r (.l (.r (.l (.l (.l .h))))))
theorem q68 : p68 = pa 68 := rfl
def p69 : Pa := (.l (.r (.r (.l (.l (.l .h))))))
theorem q69 : p69 = pa 69 := rfl
def p70 : Pa := (.r (.r (.r (.l (.l (.l .h))))))
theorem q70 : p70 = pa 70 := rfl
def p71 : Pa := (.l (.l (.l (.r (.l (.l .h))))))
theorem q71 : p71 = pa 71 := rfl
def p72 : Pa := (.r (.l (.l (.r (.l (.l .h))))))
theorem q72 : p72 = pa 72 := rfl
def p73 : Pa := (.l (.r (.l (.r (.l (.l .h))))))
theorem q73 : p73 = pa 73 := rfl
def p74 : Pa := (.r (.r (.l (.r (.l (.l .h))))))
theorem q74 : p74 = pa 74 := rfl
def p75 : Pa := (.l (.l (.r (.r (.l (.l .h))))))
theorem q75 : p75 = pa 75 := rfl
def p76 : Pa := (.r (.l (.r (.r (.l (.l .h))))))
theorem q76 : p76 = pa 76 := rfl
def p77 : Pa := (.l (.r (.r (.r (.l (.l .h))))))
theorem q77 : p77 = pa 77 := rfl
def p78 : Pa := (.r (.r (.r (.r (.l (.l .h))))))
theorem q78 : p78 = pa 78 := rfl
def p79 : Pa := (.l (.l (.l (.l (.r (.l .h))))))
theorem q79 : p79 = pa 79 := rfl
def p80 : Pa := (.r (.l (.l (.l (.r (.l .h))))))
theorem q80 : p80 = pa 80 := rfl
def p81 : Pa := (.l (.r (.l (.l (.r (.l .h))))))
theorem q81 : p81 = pa 81 := rfl
def p82 : Pa := (.r (.r (.l (.l (.r (.l .h))))))
theorem q82 : p82 = pa 82 := rfl
def p83 : Pa := (.l (.l (.r (.l (.r (.l .h))))))
theorem q83 : p83 = pa 83 := rfl
def p84 : Pa := (.r (.l (.r (.l (.r (.l .h))))))
theorem q84 : p84 = pa 84 := rfl
def p85 : Pa := (.l (.r (.r (.l (.r (.l .h))))))
theorem q85 : p85 = pa 85 := rfl
def p86 : Pa := (.r (.r (.r (.l (.r (.l .h))))))
theorem q86 : p86 = pa 86 := rfl
def p87 : Pa := (.l (.l (.l (.r (.r (.l .h))))))
theorem q87 : p87 = pa 87 := rfl
def p88 : Pa := (.r (.l (.l (.r (.r (.l .h))))))
theorem q88 : p88 = pa 88 := rfl
def p89 : Pa := (.l (.r (.l (.r (.r (.l .h))))))
theorem q89 : p89 = pa 89 := rfl
def p90 : Pa := (.r (.r (.l (.r (.r (.l .h))))))
theorem q90 : p90 = pa 90 := rfl
def p91 : Pa := (.l (.l (.r (.r (.r (.l .h))))))
theorem q91 : p91 = pa 91 := rfl
def p92 : Pa := (.r (.l (.r (.r (.r (.l .h))))))
theorem q92 : p92 = pa 92 := rfl
def p93 : Pa := (.l (.r (.r (.r (.r (.l .h))))))
theorem q93 : p93 = pa 93 := rfl
def p94 : Pa := (.r (.r (.r (.r (.r (.l .h))))))
theorem q94 : p94 = pa 94 := rfl
def p95 : Pa := (.l (.l (.l (.l (.l (.r .h))))))
theorem q95 : p95 = pa 95 := rfl
def p96 : Pa := (.r (.l (.l (.l (.l (.r .h))))))
theorem q96 : p96 = pa 96 := rfl
def p97 : Pa := (.l (.r (.l (.l (.l (.r .h))))))
theorem q97 : p97 = pa 97 := rfl
def p98 : Pa := (.r (.r (.l (.l (.l (.r .h))))))
theorem q98 : p98 = pa 98 := rfl
def p99 : Pa := (.l (.l (.r (.l (.l (.r .h))))))
theorem q99 : p99 = pa 99 := rfl
def p100 : Pa := (.r (.l (.r (.l (.l (.r .h))))))
theorem q100 : p100 = pa 100 := rfl
def p101 : Pa := (.l (.r (.r (.l (.l (.r .h))))))
theorem q101 : p101 = pa 101 := rfl
def p102 : Pa := (.r (.r (.r (.l (.l (.r .h))))))
theorem q102 : p102 = pa 102 := rfl
def p103 : Pa := (.l (.l (.l (.r (.l (.r .h))))))
theorem q103 : p103 = pa 103 := rfl
def p104 : Pa := (.r (.l (.l (.r (.l (.r .h))))))
theorem q104 : p104 = pa 104 := rfl
def p105 : Pa := (.l (.r (.l (.r (.l (.r .h))))))
theorem q105 : p105 = pa 105 := rfl
def p106 : Pa := (.r (.r (.l (.r (.l (.r .h))))))
theorem q106 : p106 = pa 106 := rfl
def p107 : Pa := (.l (.l (.r (.r (.l (.r .h))))))
theorem q107 : p107 = pa 107 := rfl
def p108 : Pa := (.r (.l (.r (.r (.l (.r .h))))))
theorem q108 : p108 = pa 108 := rfl
def p109 : Pa := (.l (.r (.r (.r (.l (.r .h))))))
theorem q109 : p109 = pa 109 := rfl
def p110 : Pa := (.r (.r (.r (.r (.l (.r .h))))))
theorem q110 : p110 = pa 110 := rfl
def p111 : Pa := (.l (.l (.l (.l (.r (.r .h))))))
theorem q111 : p111 = pa 111 := rfl
def p112 : Pa := (.r (.l (.l (.l (.r (.r .h))))))
theorem q112 : p112 = pa 112 := rfl
def p113 : Pa := (.l (.r (.l (.l (.r (.r .h))))))
theorem q113 : p113 = pa 113 := rfl
def p114 : Pa := (.r (.r (.l (.l (.r (.r .h))))))
theorem q114 : p114 = pa 114 := rfl
def p115 : Pa := (.l (.l (.r (.l (.r (.r .h))))))
theorem q115 : p115 = pa 115 := rfl
def p116 : Pa := (.r (.l (.r (.l (.r (.r .h))))))
theorem q116 : p116 = pa 116 := rfl
def p117 : Pa := (.l (.r (.r (.l (.r (.r .h))))))
theorem q117 : p117 = pa 117 := rfl
def p118 : Pa := (.r (.r (.r (.l (.r (.r .h))))))
theorem q118 : p118 = pa 118 := rfl
def p119 : Pa := (.l (.l (.l (.r (.r (.r .h))))))
theorem q119 : p119 = pa 119 := rfl
def p120 : Pa := (.r (.l (.l (.r (.r (.r .h))))))
theorem q120 : p120 = pa 120 := rfl
def p121 : Pa := (.l (.r (.l (.r (.r (.r .h))))))
theorem q121 : p121 = pa 121 := rfl
def p122 : Pa := (.r (.r (.l (.r (.r (.r .h))))))
theorem q122 : p122 = pa 122 := rfl
def p123 : Pa := (.l (.l (.r (.r (.r (.r .h))))))
theorem q123 : p123 = pa 123 := rfl
def p124 : Pa := (.r (.l (.r (.r (.r (.r .h))))))
theorem q124 : p124 = pa 124 := rfl
def p125 : Pa := (.l (.r (.r (.r (.r (.r .h))))))
theorem q125 : p125 = pa 125 := rfl
def p126 : Pa := (.r (.r (.r (.r (.r (.r .h))))))
theorem q126 : p126 = pa 126 := rfl
def p127 : Pa := (.l (.l (.l (.l (.l (.l (.l .h)))))))
theorem q127 : p127 = pa 127 := rfl
def p128 : Pa := (.r (.l (.l (.l (.l (.l (.l .h)))))))
theorem q128 : p128 = pa 128 := rfl
def p129 : Pa := (.l (.r (.l (.l (.l (.l (.l .h)))))))
theorem q129 : p129 = pa 129 := rfl
def p130 : Pa := (.r (.r (.l (.l (.l (.l (.l .h)))))))
theorem q130 : p130 = pa 130 := rfl
def p131 : Pa := (.l (.l (.r (.l (.l (.l (.l .h)))))))
theorem q131 : p131 = pa 131 := rfl
def p132 : Pa := (.r (.l (.r (.l (.l (.l (.l .h)))))))
theorem q132 : p132 = pa 132 := rfl
def p133 : Pa := (.l (.r (.r (.l (.l (.l (.l .h)))))))
theorem q133 : p133 = pa 133 := rfl
def p134 : Pa := (.r (.r (.r (.l (.l (.l (.l .h)))))))
theorem q134 : p134 = pa 134 := rfl
def p135 : Pa := (.l (.l (.l (.r (.l (.l (.l .h)))))))
theorem q135 : p135 = pa 135 := rfl
def p136 : Pa := (.r (.l (.l (.r (.l (.l (.l .h)))))))
theorem q136 : p136 = pa 136 := rfl
def p137 : Pa := (.l (.r (.l (.r (.l (.l (.l .h)))))))
theorem q137 : p137 = pa 137 := rfl
def p138 : Pa := (.r (.r (.l (.r (.l (.l (.l .h)))))))
theorem q138 : p138 = pa 138 := rfl
def p139 : Pa := (.l (.l (.r (.r (.l (.l (.l .h)))))))
theorem q139 : p139 = pa 139 := rfl
def p140 : Pa := (.r (.l (.r (.r (.l (.l (.l .h)))))))
theorem q140 : p140 = pa 140 := rfl
def p141 : Pa := (.l (.r (.r (.r (.l (.l (.l .h)))))))
theorem q141 : p141 = pa 141 := rfl
def p142 : Pa := (.r (.r (.r (.r (.l (.l (.l .h)))))))
theorem q142 : p142 = pa 142 := rfl
def p143 : Pa := (.l (.l (.l (.l (.r (.l (.l .h)))))))
theorem q143 : p143 = pa 143 := rfl
def p144 : Pa := (.r (.l (.l (.l (.r (.l (.l .h)))))))
theorem q144 : p144 = pa 144 := rfl
def p145 : Pa := (.l (.r (.l (.l (.r (.l (.l .h)))))))
theorem q145 : p145 = pa 145 := rfl
def p146 : Pa := (.r (.r (.l (.l (.r (.l (.l .h)))))))
theorem q146 : p146 = pa 146 := rfl
def p147 : Pa := (.l (.l (.r (.l (.r (.l (.l .h)))))))
theorem q147 : p147 = pa 147 := rfl
def p148 : Pa := (.r (.l (.r (.l (.r (.l (.l .h)))))))
theorem q148 : p148 = pa 148 := rfl
def p149 : Pa := (.l (.r (.r (.l (.r (.l (.l .h)))))))
theorem q149 : p149 = pa 149 := rfl
def p150 : Pa := (.r (.r (.r (.l (.r (.l (.l .h)))))))
theorem q150 : p150 = pa 150 := rfl
def p151 : Pa := (.l (.l (.l (.r (.r (.l (.l .h)))))))
theorem q151 : p151 = pa 151 := rfl
def p152 : Pa := (.r (.l (.l (.r (.r (.l (.l .h)))))))
theorem q152 : p152 = pa 152 := rfl
def p153 : Pa := (.l (.r (.l (.r (.r (.l (.l .h)))))))
theorem q153 : p153 = pa 153 := rfl
def p154 : Pa := (.r (.r (.l (.r (.r (.l (.l .h)))))))
theorem q154 : p154 = pa 154 := rfl
def p155 : Pa := (.l (.l (.r (.r (.r (.l (.l .h)))))))
theorem q155 : p155 = pa 155 := rfl
def p156 : Pa := (.r (.l (.r (.r (.r (.l (.l .h)))))))
theorem q156 : p156 = pa 156 := rfl
def p157 : Pa := (.l (.r (.r (.r (.r (.l (.l .h)))))))
theorem q157 : p157 = pa 157 := rfl
def p158 : Pa := (.r (.r (.r (.r (.r (.l (.l .h)))))))
theorem q158 : p158 = pa 158 := rfl
def p159 : Pa := (.l (.l (.l (.l (.l (.r (.l .h)))))))
theorem q159 : p159 = pa 159 := rfl
def p160 : Pa := (.r (.l (.l (.l (.l (.r (.l .h)))))))
theorem q160 : p160 = pa 160 := rfl
def p161 : Pa := (.l (.r (.l (.l (.l (.r (.l .h)))))))
theorem q161 : p161 = pa 161 := rfl
def p162 : Pa := (.r (.r (.l (.l (.l (.r (.l .h)))))))
theorem q162 : p162 = pa 162 := rfl
def p163 : Pa := (.l (.l (.r (.l (.l (.r (.l .h)))))))
theorem q163 : p163 = pa 163 := rfl
def p164 : Pa := (.r (.l (.r (.l (.l (.r (.l .h)))))))
theorem q164 : p164 = pa 164 := rfl
def p165 : Pa := (.l (.r (.r (.l (.l (.r (.l .h)))))))
theorem q165 : p165 = pa 165 := rfl
def p166 : Pa := (.r (.r (.r (.l (.l (.r (.l .h)))))))
theorem q166 : p166 = pa 166 := rfl
def p167 : Pa := (.l (.l (.l (.r (.l (.r (.l .h)))))))
theorem q167 : p167 = pa 167 := rfl
def p168 : Pa := (.r (.l (.l (.r (.l (.r (.l .h)))))))
theorem q168 : p168 = pa 168 := rfl
def p169 : Pa := (.l (.r (.l (.r (.l (.r (.l .h)))))))
theorem q169 : p169 = pa 169 := rfl
def p170 : Pa := (.r (.r (.l (.r (.l (.r (.l .h)))))))
theorem q170 : p170 = pa 170 := rfl
def p171 : Pa := (.l (.l (.r (.r (.l (.r (.l .h)))))))
theorem q171 : p171 = pa 171 := rfl
def p172 : Pa := (.r (.l (.r (.r (.l (.r (.l .h)))))))
theorem q172 : p172 = pa 172 := rfl
def p173 : Pa := (.l (.r (.r (.r (.l (.r (.l .h)))))))
theorem q173 : p173 = pa 173 := rfl
def p174 : Pa := (.r (.r (.r (.r (.l (.r (.l .h)))))))
theorem q174 : p174 = pa 174 := rfl
def p175 : Pa := (.l (.l (.l (.l (.r (.r (.l .h)))))))
theorem q175 : p175 = pa 175 := rfl
def p176 : Pa := (.r (.l (.l (.l (.r (.r (.l .h)))))))
theorem q176 : p176 = pa 176 := rfl
def p177 : Pa := (.l (.r (.l (.l (.r (.r (.l .h)))))))
theorem q177 : p177 = pa 177 := rfl
def p178 : Pa := (.r (.r (.l (.l (.r (.r (.l .h)))))))
theorem q178 : p178 = pa 178 := rfl
def p179 : Pa := (.l (.l (.r (.l (.r (.r (.l .h)))))))
theorem q179 : p179 = pa 179 := rfl
def p180 : Pa := (.r (.l (.r (.l (.r (.r (.l .h)))))))
theorem q180 : p180 = pa 180 := rfl
def p181 : Pa := (.l (.r (.r (.l (.r (.r (.l .h)))))))
theorem q181 : p181 = pa 181 := rfl
def p182 : Pa := (.r (.r (.r (.l (.r (.r (.l .h)))))))
theorem q182 : p182 = pa 182 := rfl
def p183 : Pa := (.l (.l (.l (.r (.r (.r (.l .h)))))))
theorem q183 : p183 = pa 183 := rfl
def p184 : Pa := (.r (.l (.l (.r (.r (.r (.l .h)))))))
theorem q184 : p184 = pa 184 := rfl
def p185 : Pa := (.l (.r (.l (.r (.r (.r (.l .h)))))))
theorem q185 : p185 = pa 185 := rfl
def p186 : Pa := (.r (.r (.l (.r (.r (.r (.l .h)))))))
theorem q186 : p186 = pa 186 := rfl
end Go.Proofs.YtnebopkgnkemiaaGreatDoor.Av
