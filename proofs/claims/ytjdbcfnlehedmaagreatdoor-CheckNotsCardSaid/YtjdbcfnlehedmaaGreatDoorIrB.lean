/-
  THE PROGRAM's FUNCTIONS AS THE ABSTRACT MACHINE's CODE (irN), and as it runs them (shN), printed by a program of this session's own out of what 'compF' makes of them.
-/
import Derived.Test.YtjdbcfnlehedmaaGreatDoorIrP
namespace Go.Proofs.YtjdbcfnlehedmaaGreatDoor.Av
set_option maxRecDepth 100000
def ir41 : Fn := ⟨169, [(.t p2)], (.seq (.reg [⟨(some p2), (.mov (.c (.bool false))), none⟩]) (.seq (.block 0 (.loop (.seq (.seq (.reg [⟨(some p7), (.mov (.t p0)), none⟩, ⟨(some p8), (.len 0 (.t p7)), none⟩, ⟨(some p9), (.bin .gtr 63 (.t p8) (.c (.int 63 0))), none⟩]) (.cond (.t p9) .skip (.exit 0))) (.block 1 (.seq (.reg [⟨(some p10), (.mov (.t p0)), none⟩, ⟨(some p11), (.ixs (.t p10) (.c (.int 63 0))), none⟩, ⟨(some p3), (.mov (.t p11)), none⟩]) (.seq (.seq (.reg [⟨(some p12), (.mov (.t p3)), none⟩, ⟨(some p13), (.bin .lss 8 (.t p12) (.c (.int 8 128))), none⟩]) (.cond (.t p13) (.seq (.reg [⟨(some p14), (.mov (.t p0)), none⟩, ⟨(some p15), (.sls (.t p14) (some (.c (.int 63 1))) none), none⟩, ⟨(some p0), (.mov (.t p15)), none⟩]) (.seq (.seq (.reg [⟨(some p16), (.mov (.t p0)), none⟩, ⟨(some p17), (.len 0 (.t p16)), none⟩, ⟨(some p18), (.bin .gtr 63 (.t p17) (.c (.int 63 8))), none⟩, ⟨(some p19), (.mov (.t p18)), none⟩, ⟨(some p20), (.mov (.t p0)), (some (p19, true))⟩, ⟨(some p21), (.call 62 [(.t p20)]), (some (p19, true))⟩, ⟨(some p22), (.bin .and 64 (.t p21) (.c (.int 64 9259542123273814144))), (some (p19, true))⟩, ⟨(some p23), (.bin .eql 64 (.t p22) (.c (.int 64 0))), (some (p19, true))⟩, ⟨(some p24), (.pick (.t p19) (.t p23) (.c (.bool false))), none⟩]) (.cond (.t p24) (.seq (.reg [⟨(some p25), (.mov (.t p0)), none⟩, ⟨(some p26), (.sls (.t p25) (some (.c (.int 63 8))) none), none⟩, ⟨(some p0), (.mov (.t p26)), none⟩]) (.seq (.draw [p27, p28, p29, p30, p31, p32, p33, p34, p35, p36, p37, p38, p39] [⟨0, 0, [], [p0], ⟨(some p27), (.mov (.t p0)), none⟩⟩, ⟨0, 1, [], [p27], ⟨(some p28), (.len 0 (.t p27)), none⟩⟩, ⟨0, 2, [], [p28], ⟨(some p29), (.bin .gtr 63 (.t p28) (.c (.int 63 16))), none⟩⟩, ⟨0, 3, [], [p29], ⟨(some p30), (.mov (.t p29)), none⟩⟩, ⟨0, 4, [], [p0, p30], ⟨(some p31), (.mov (.t p0)), (some (p30, true))⟩⟩, ⟨0, 6, [], [p0, p30], ⟨(some p33), (.mov (.t p0)), (some (p30, true))⟩⟩, ⟨0, 7, [], [p33, p30], ⟨(some p34), (.sls (.t p33) (some (.c (.int 63 8))) none), (some (p30, true))⟩⟩, ⟨2, 5, [], [p31, p30], ⟨(some p32), (.call 62 [(.t p31)]), (some (p30, true))⟩⟩, ⟨2, 8, [], [p34, p30], ⟨(some p35), (.call 62 [(.t p34)]), (some (p30, true))⟩⟩, ⟨0, 9, [], [p32, p35, p30], ⟨(some p36), (.bin .or 64 (.t p32) (.t p35)), (some (p30, true))⟩⟩, ⟨0, 10, [], [p36, p30], ⟨(some p37), (.bin .and 64 (.t p36) (.c (.int 64 9259542123273814144))), (some (p30, true))⟩⟩, ⟨0, 11, [], [p37, p30], ⟨(some p38), (.bin .eql 64 (.t p37) (.c (.int 64 0))), (some (p30, true))⟩⟩, ⟨0, 12, [], [p30, p38], ⟨(some p39), (.pick (.t p30) (.t p38) (.c (.bool false))), none⟩⟩]) (.cond (.t p39) (.seq (.reg [⟨(some p40), (.mov (.t p0)), none⟩, ⟨(some p41), (.sls (.t p40) (some (.c (.int 63 16))) none), none⟩, ⟨(some p0), (.mov (.t p41)), none⟩]) (.block 2 (.loop (.seq (.seq (.draw [p42, p43, p44, p45, p46, p47, p48, p49, p50, p51, p52, p53, p54, p55, p56, p57, p58, p59, p60, p61, p62] [⟨0, 0, [], [p0], ⟨(some p42), (.mov (.t p0)), none⟩⟩, ⟨0, 1, [], [p42], ⟨(some p43), (.len 0 (.t p42)), none⟩⟩, ⟨0, 2, [], [p43], ⟨(some p44), (.bin .gtr 63 (.t p43) (.c (.int 63 32))), none⟩⟩, ⟨0, 3, [], [p44], ⟨(some p45), (.mov (.t p44)), none⟩⟩, ⟨0, 4, [], [p0, p45], ⟨(some p46), (.mov (.t p0)), (some (p45, true))⟩⟩, ⟨0, 6, [], [p0, p45], ⟨(some p48), (.mov (.t p0)), (some (p45, true))⟩⟩, ⟨0, 7, [], [p48, p45], ⟨(some p49), (.sls (.t p48) (some (.c (.int 63 8))) none), (some (p45, true))⟩⟩, ⟨0, 10, [], [p0, p45], ⟨(some p52), (.mov (.t p0)), (some (p45, true))⟩⟩, ⟨0, 11, [], [p52, p45], ⟨(some p53), (.sls (.t p52) (some (.c (.int 63 16))) none), (some (p45, true))⟩⟩, ⟨0, 13, [], [p0, p45], ⟨(some p55), (.mov (.t p0)), (some (p45, true))⟩⟩, ⟨0, 14, [], [p55, p45], ⟨(some p56), (.sls (.t p55) (some (.c (.int 63 24))) none), (some (p45, true))⟩⟩, ⟨2, 5, [], [p46, p45], ⟨(some p47), (.call 62 [(.t p46)]), (some (p45, true))⟩⟩, ⟨2, 8, [], [p49, p45], ⟨(some p50), (.call 62 [(.t p49)]), (some (p45, true))⟩⟩, ⟨0, 9, [], [p47, p50, p45], ⟨(some p51), (.bin .or 64 (.t p47) (.t p50)), (some (p45, true))⟩⟩, ⟨2, 12, [], [p53, p45], ⟨(some p54), (.call 62 [(.t p53)]), (some (p45, true))⟩⟩, ⟨2, 15, [], [p56, p45], ⟨(some p57), (.call 62 [(.t p56)]), (some (p45, true))⟩⟩, ⟨0, 16, [], [p54, p57, p45], ⟨(some p58), (.bin .or 64 (.t p54) (.t p57)), (some (p45, true))⟩⟩, ⟨0, 17, [], [p51, p58, p45], ⟨(some p59), (.bin .or 64 (.t p51) (.t p58)), (some (p45, true))⟩⟩, ⟨0, 18, [], [p59, p45], ⟨(some p60), (.bin .and 64 (.t p59) (.c (.int 64 9259542123273814144))), (some (p45, true))⟩⟩, ⟨0, 19, [], [p60, p45], ⟨(some p61), (.bin .eql 64 (.t p60) (.c (.int 64 0))), (some (p45, true))⟩⟩, ⟨0, 20, [], [p45, p61], ⟨(some p62), (.pick (.t p45) (.t p61) (.c (.bool false))), none⟩⟩]) (.cond (.t p62) .skip (.exit 2))) (.block 3 (.reg [⟨(some p63), (.mov (.t p0)), none⟩, ⟨(some p64), (.sls (.t p63) (some (.c (.int 63 32))) none), none⟩, ⟨(some p0), (.mov (.t p64)), none⟩])))))) .skip))) .skip)) (.exit 1))) .skip)) (.seq (.reg [⟨(some p65), (.mov (.t p3)), none⟩, ⟨(some p66), (.iaa 256 1 (.c (.ref 1 0 0 0 0 false)) (.t p65)), none⟩, ⟨(some p67), (.load false 1 (.t p66)), none⟩, ⟨(some p4), (.mov (.t p67)), none⟩]) (.seq (.reg [⟨(some p68), (.mov (.t p4)), none⟩, ⟨(some p69), (.bin .and 8 (.t p68) (.c (.int 8 7))), none⟩, ⟨(some p70), (.cvi 63 (.t p69)), none⟩, ⟨(some p5), (.mov (.t p70)), none⟩]) (.seq (.reg [⟨(some p71), (.mov (.t p4)), none⟩, ⟨(some p72), (.bin .shr 8 (.t p71) (.c (.int 64 4))), none⟩, ⟨(some p73), (.iaa 16 2 (.c (.ref 1 1 0 0 0 false)) (.t p72)), none⟩, ⟨(some p74), (.load true 2 (.t p73)), none⟩, ⟨(some p6), (.alloc 105 [(.int 8 0), (.int 8 0)]), none⟩, ⟨none, (.store 2 (.t p6) (.t p74)), none⟩]) (.seq (.reg [⟨(some p75), (.mov (.t p5)), none⟩]) (.block 4 (.seq (.reg [⟨(some p77), (.bin .eql 63 (.t p75) (.c (.int 63 2))), none⟩, ⟨(some p76), (.mov (.t p77)), none⟩]) (.cond (.t p76) (.seq (.seq (.draw [p78, p79, p80, p81, p82, p83, p84, p85, p86, p87, p88, p89, p90, p91, p92, p93, p94] [⟨0, 0, [], [p0], ⟨(some p78), (.mov (.t p0)), none⟩⟩, ⟨0, 1, [], [p78], ⟨(some p79), (.len 0 (.t p78)), none⟩⟩, ⟨0, 2, [], [p79], ⟨(some p80), (.bin .lss 63 (.t p79) (.c (.int 63 2))), none⟩⟩, ⟨0, 3, [], [p80], ⟨(some p81), (.mov (.t p80)), none⟩⟩, ⟨0, 4, [], [p0, p81], ⟨(some p82), (.mov (.t p0)), (some (p81, false))⟩⟩, ⟨0, 5, [], [p82, p81], ⟨(some p83), (.ixs (.t p82) (.c (.int 63 1))), (some (p81, false))⟩⟩, ⟨0, 6, [], [p6, p81], ⟨(some p84), (.fad 0 (.t p6)), (some (p81, false))⟩⟩, ⟨0, 7, [], [p84, p81], ⟨(some p85), (.load false 1 (.t p84)), (some (p81, false))⟩⟩, ⟨0, 8, [], [p83, p85, p81], ⟨(some p86), (.bin .lss 8 (.t p83) (.t p85)), (some (p81, false))⟩⟩, ⟨0, 9, [], [p81, p86], ⟨(some p87), (.pick (.t p81) (.c (.bool true)) (.t p86)), none⟩⟩, ⟨0, 10, [], [p87], ⟨(some p88), (.mov (.t p87)), none⟩⟩, ⟨0, 11, [], [p6, p88], ⟨(some p89), (.fad 1 (.t p6)), (some (p88, false))⟩⟩, ⟨0, 12, [], [p89, p88], ⟨(some p90), (.load false 1 (.t p89)), (some (p88, false))⟩⟩, ⟨0, 13, [12], [p0, p88], ⟨(some p91), (.mov (.t p0)), (some (p88, false))⟩⟩, ⟨0, 14, [12], [p91, p88], ⟨(some p92), (.ixs (.t p91) (.c (.int 63 1))), (some (p88, false))⟩⟩, ⟨0, 15, [], [p90, p92, p88], ⟨(some p93), (.bin .lss 8 (.t p90) (.t p92)), (some (p88, false))⟩⟩, ⟨0, 16, [], [p88, p93], ⟨(some p94), (.pick (.t p88) (.c (.bool true)) (.t p93)), none⟩⟩]) (.cond (.t p94) (.seq (.reg [⟨(some p2), (.mov (.c (.bool false))), none⟩]) .ret) .skip)) (.reg [⟨(some p95), (.mov (.t p0)), none⟩, ⟨(some p96), (.sls (.t p95) (some (.c (.int 63 2))) none), none⟩, ⟨(some p0), (.mov (.t p96)), none⟩])) (.seq (.reg [⟨(some p98), (.bin .eql 63 (.t p75) (.c (.int 63 3))), none⟩, ⟨(some p97), (.mov (.t p98)), none⟩]) (.cond (.t p97) (.seq (.seq (.draw [p99, p100, p101, p102, p103, p104, p105, p106, p107, p108, p109, p110, p111, p112, p113, p114, p115, p116, p117, p118, p119, p120, p121, p122, p123, p124, p125] [⟨0, 0, [], [p0], ⟨(some p99), (.mov (.t p0)), none⟩⟩, ⟨0, 1, [], [p99], ⟨(some p100), (.len 0 (.t p99)), none⟩⟩, ⟨0, 2, [], [p100], ⟨(some p101), (.bin .lss 63 (.t p100) (.c (.int 63 3))), none⟩⟩, ⟨0, 3, [], [p101], ⟨(some p102), (.mov (.t p101)), none⟩⟩, ⟨0, 4, [], [p0, p102], ⟨(some p103), (.mov (.t p0)), (some (p102, false))⟩⟩, ⟨0, 5, [], [p103, p102], ⟨(some p104), (.ixs (.t p103) (.c (.int 63 1))), (some (p102, false))⟩⟩, ⟨0, 6, [], [p6, p102], ⟨(some p105), (.fad 0 (.t p6)), (some (p102, false))⟩⟩, ⟨0, 7, [], [p105, p102], ⟨(some p106), (.load false 1 (.t p105)), (some (p102, false))⟩⟩, ⟨0, 8, [], [p104, p106, p102], ⟨(some p107), (.bin .lss 8 (.t p104) (.t p106)), (some (p102, false))⟩⟩, ⟨0, 9, [], [p102, p107], ⟨(some p108), (.pick (.t p102) (.c (.bool true)) (.t p107)), none⟩⟩, ⟨0, 10, [], [p108], ⟨(some p109), (.mov (.t p108)), none⟩⟩, ⟨0, 11, [], [p6, p109], ⟨(some p110), (.fad 1 (.t p6)), (some (p109, false))⟩⟩, ⟨0, 12, [], [p110, p109], ⟨(some p111), (.load false 1 (.t p110)), (some (p109, false))⟩⟩, ⟨0, 13, [12], [p0, p109], ⟨(some p112), (.mov (.t p0)), (some (p109, false))⟩⟩, ⟨0, 14, [12], [p112, p109], ⟨(some p113), (.ixs (.t p112) (.c (.int 63 1))), (some (p109, false))⟩⟩, ⟨0, 15, [], [p111, p113, p109], ⟨(some p114), (.bin .lss 8 (.t p111) (.t p113)), (some (p109, false))⟩⟩, ⟨0, 16, [], [p109, p114], ⟨(some p115), (.pick (.t p109) (.c (.bool true)) (.t p114)), none⟩⟩, ⟨0, 17, [], [p115], ⟨(some p116), (.mov (.t p115)), none⟩⟩, ⟨0, 18, [], [p0, p116], ⟨(some p117), (.mov (.t p0)), (some (p116, false))⟩⟩, ⟨0, 19, [], [p117, p116], ⟨(some p118), (.ixs (.t p117) (.c (.int 63 2))), (some (p116, false))⟩⟩, ⟨0, 20, [], [p118, p116], ⟨(some p119), (.bin .lss 8 (.t p118) (.c (.int 8 128))), (some (p116, false))⟩⟩, ⟨0, 21, [], [p116, p119], ⟨(some p120), (.pick (.t p116) (.c (.bool true)) (.t p119)), none⟩⟩, ⟨0, 22, [], [p120], ⟨(some p121), (.mov (.t p120)), none⟩⟩, ⟨0, 23, [], [p0, p121], ⟨(some p122), (.mov (.t p0)), (some (p121, false))⟩⟩, ⟨0, 24, [], [p122, p121], ⟨(some p123), (.ixs (.t p122) (.c (.int 63 2))), (some (p121, false))⟩⟩, ⟨0, 25, [], [p123, p121], ⟨(some p124), (.bin .lss 8 (.c (.int 8 191)) (.t p123)), (some (p121, false))⟩⟩, ⟨0, 26, [], [p121, p124], ⟨(some p125), (.pick (.t p121) (.c (.bool true)) (.t p124)), none⟩⟩]) (.cond (.t p125) (.seq (.reg [⟨(some p2), (.mov (.c (.bool false))), none⟩]) .ret) .skip)) (.reg [⟨(some p126), (.mov (.t p0)), none⟩, ⟨(some p127), (.sls (.t p126) (some (.c (.int 63 3))) none), none⟩, ⟨(some p0), (.mov (.t p127)), none⟩])) (.seq (.reg [⟨(some p129), (.bin .eql 63 (.t p75) (.c (.int 63 4))), none⟩, ⟨(some p128), (.mov (.t p129)), none⟩]) (.cond (.t p128) (.seq (.seq (.draw [p130, p131, p132, p133, p134, p135, p136, p137, p138, p139, p140, p141, p142, p143, p144, p145, p146, p147, p148, p149, p150, p151, p152, p153, p154, p155, p156, p157, p158, p159, p160, p161, p162, p163, p164, p165, p166] [⟨0, 0, [], [p0], ⟨(some p130), (.mov (.t p0)), none⟩⟩, ⟨0, 1, [], [p130], ⟨(some p131), (.len 0 (.t p130)), none⟩⟩, ⟨0, 2, [], [p131], ⟨(some p132), (.bin .lss 63 (.t p131) (.c (.int 63 4))), none⟩⟩, ⟨0, 3, [], [p132], ⟨(some p133), (.mov (.t p132)), none⟩⟩, ⟨0, 4, [], [p0, p133], ⟨(some p134), (.mov (.t p0)), (some (p133, false))⟩⟩, ⟨0, 5, [], [p134, p133], ⟨(some p135), (.ixs (.t p134) (.c (.int 63 1))), (some (p133, false))⟩⟩, ⟨0, 6, [], [p6, p133], ⟨(some p136), (.fad 0 (.t p6)), (some (p133, false))⟩⟩, ⟨0, 7, [], [p136, p133], ⟨(some p137), (.load false 1 (.t p136)), (some (p133, false))⟩⟩, ⟨0, 8, [], [p135, p137, p133], ⟨(some p138), (.bin .lss 8 (.t p135) (.t p137)), (some (p133, false))⟩⟩, ⟨0, 9, [], [p133, p138], ⟨(some p139), (.pick (.t p133) (.c (.bool true)) (.t p138)), none⟩⟩, ⟨0, 10, [], [p139], ⟨(some p140), (.mov (.t p139)), none⟩⟩, ⟨0, 11, [], [p6, p140], ⟨(some p141), (.fad 1 (.t p6)), (some (p140, false))⟩⟩, ⟨0, 12, [], [p141, p140], ⟨(some p142), (.load false 1 (.t p141)), (some (p140, false))⟩⟩, ⟨0, 13, [12], [p0, p140], ⟨(some p143), (.mov (.t p0)), (some (p140, false))⟩⟩, ⟨0, 14, [12], [p143, p140], ⟨(some p144), (.ixs (.t p143) (.c (.int 63 1))), (some (p140, false))⟩⟩, ⟨0, 15, [], [p142, p144, p140], ⟨(some p145), (.bin .lss 8 (.t p142) (.t p144)), (some (p140, false))⟩⟩, ⟨0, 16, [], [p140, p145], ⟨(some p146), (.pick (.t p140) (.c (.bool true)) (.t p145)), none⟩⟩, ⟨0, 17, [], [p146], ⟨(some p147), (.mov (.t p146)), none⟩⟩, ⟨0, 18, [], [p0, p147], ⟨(some p148), (.mov (.t p0)), (some (p147, false))⟩⟩, ⟨0, 19, [], [p148, p147], ⟨(some p149), (.ixs (.t p148) (.c (.int 63 2))), (some (p147, false))⟩⟩, ⟨0, 20, [], [p149, p147], ⟨(some p150), (.bin .lss 8 (.t p149) (.c (.int 8 128))), (some (p147, false))⟩⟩, ⟨0, 21, [], [p147, p150], ⟨(some p151), (.pick (.t p147) (.c (.bool true)) (.t p150)), none⟩⟩, ⟨0, 22, [], [p151], ⟨(some p152), (.mov (.t p151)), none⟩⟩, ⟨0, 23, [], [p0, p152], ⟨(some p153), (.mov (.t p0)), (some (p152, false))⟩⟩, ⟨0, 24, [], [p153, p152], ⟨(some p154), (.ixs (.t p153) (.c (.int 63 2))), (some (p152, false))⟩⟩, ⟨0, 25, [], [p154, p152], ⟨(some p155), (.bin .lss 8 (.c (.int 8 191)) (.t p154)), (some (p152, false))⟩⟩, ⟨0, 26, [], [p152, p155], ⟨(some p156), (.pick (.t p152) (.c (.bool true)) (.t p155)), none⟩⟩, ⟨0, 27, [], [p156], ⟨(some p157), (.mov (.t p156)), none⟩⟩, ⟨0, 28, [], [p0, p157], ⟨(some p158), (.mov (.t p0)), (some (p157, false))⟩⟩, ⟨0, 29, [], [p158, p157], ⟨(some p159), (.ixs (.t p158) (.c (.int 63 3))), (some (p157, false))⟩⟩, ⟨0, 30, [], [p159, p157], ⟨(some p160), (.bin .lss 8 (.t p159) (.c (.int 8 128))), (some (p157, false))⟩⟩, ⟨0, 31, [], [p157, p160], ⟨(some p161), (.pick (.t p157) (.c (.bool true)) (.t p160)), none⟩⟩, ⟨0, 32, [], [p161], ⟨(some p162), (.mov (.t p161)), none⟩⟩, ⟨0, 33, [], [p0, p162], ⟨(some p163), (.mov (.t p0)), (some (p162, false))⟩⟩, ⟨0, 34, [], [p163, p162], ⟨(some p164), (.ixs (.t p163) (.c (.int 63 3))), (some (p162, false))⟩⟩, ⟨0, 35, [], [p164, p162], ⟨(some p165), (.bin .lss 8 (.c (.int 8 191)) (.t p164)), (some (p162, false))⟩⟩, ⟨0, 36, [], [p162, p165], ⟨(some p166), (.pick (.t p162) (.c (.bool true)) (.t p165)), none⟩⟩]) (.cond (.t p166) (.seq (.reg [⟨(some p2), (.mov (.c (.bool false))), none⟩]) .ret) .skip)) (.reg [⟨(some p167), (.mov (.t p0)), none⟩, ⟨(some p168), (.sls (.t p167) (some (.c (.int 63 4))) none), none⟩, ⟨(some p0), (.mov (.t p168)), none⟩])) (.seq (.reg [⟨(some p2), (.mov (.c (.bool false))), none⟩]) .ret)))))))))))))))))) (.seq (.reg [⟨(some p2), (.mov (.c (.bool true))), none⟩]) .ret)))⟩
noncomputable def c41_0 : CEv := (cReg (step0 (some p2) (gMov (.c (.bool false)))
   endG))
noncomputable def b41_0 : CEv := (cSeq (cSeq (cDraw [p42, p43, p44, p45, p46, p47, p48, p49, p50, p51, p52, p53, p54, p55, p56, p57, p58, p59, p60, p61, p62] (stepR [p0] (some p42) (gMov (.t p0)) none
   (stepR [p42] (some p43) (gP (iLenS (.t p42))) none
   (stepR [p43] (some p44) (gP (iInt fGtr 63 (.t p43) (.c (.int 63 32)))) none
   (stepR [p44] (some p45) (gMov (.t p44)) none
   (stepR [p0, p45] (some p46) (gMov (.t p0)) (some (p45, true))
   (stepR [p0, p45] (some p48) (gMov (.t p0)) (some (p45, true))
   (stepR [p48, p45] (some p49) (gP (iSls (.t p48) (some (.c (.int 63 8))) none)) (some (p45, true))
   (stepR [p0, p45] (some p52) (gMov (.t p0)) (some (p45, true))
   (stepR [p52, p45] (some p53) (gP (iSls (.t p52) (some (.c (.int 63 16))) none)) (some (p45, true))
   (stepR [p0, p45] (some p55) (gMov (.t p0)) (some (p45, true))
   (stepR [p55, p45] (some p56) (gP (iSls (.t p55) (some (.c (.int 63 24))) none)) (some (p45, true))
   (stepL [p46, p45] (some p47) (gCall 62 [(.t p46)]) (some (p45, true))
   (stepL [p49, p45] (some p50) (gCall 62 [(.t p49)]) (some (p45, true))
   (stepR [p47, p50, p45] (some p51) (gP (iInt fOr 64 (.t p47) (.t p50))) (some (p45, true))
   (stepL [p53, p45] (some p54) (gCall 62 [(.t p53)]) (some (p45, true))
   (stepL [p56, p45] (some p57) (gCall 62 [(.t p56)]) (some (p45, true))
   (stepR [p54, p57, p45] (some p58) (gP (iInt fOr 64 (.t p54) (.t p57))) (some (p45, true))
   (stepR [p51, p58, p45] (some p59) (gP (iInt fOr 64 (.t p51) (.t p58))) (some (p45, true))
   (stepR [p59, p45] (some p60) (gP (iInt fAnd 64 (.t p59) (.c (.int 64 9259542123273814144)))) (some (p45, true))
   (stepR [p60, p45] (some p61) (gP (iInt fEql 64 (.t p60) (.c (.int 64 0)))) (some (p45, true))
   (stepR [p45, p61] (some p62) (gP (iPick (.t p45) (.t p61) (.c (.bool false)))) none
   endD))))))))))))))))))))))
  (cCond (.t p62) cSkip
  (cExit 2)))
  (cBlock 3 (cReg (step0 (some p63) (gMov (.t p0))
   (step0 (some p64) (gP (iSls (.t p63) (some (.c (.int 63 32))) none))
   (step0 (some p0) (gMov (.t p64))
   endG))))))
noncomputable def b41_1 : CEv := (cSeq (cSeq (cReg (step0 (some p7) (gMov (.t p0))
   (step0 (some p8) (gP (iLenS (.t p7)))
   (step0 (some p9) (gP (iInt fGtr 63 (.t p8) (.c (.int 63 0))))
   endG))))
  (cCond (.t p9) cSkip
  (cExit 0)))
  (cBlock 1 (cSeq (cReg (step0 (some p10) (gMov (.t p0))
   (step0 (some p11) (gP (iIxs (.t p10) (.c (.int 63 0))))
   (step0 (some p3) (gMov (.t p11))
   endG))))
  (cSeq (cSeq (cReg (step0 (some p12) (gMov (.t p3))
   (step0 (some p13) (gP (iInt fLss 8 (.t p12) (.c (.int 8 128))))
   endG)))
  (cCond (.t p13) (cSeq (cReg (step0 (some p14) (gMov (.t p0))
   (step0 (some p15) (gP (iSls (.t p14) (some (.c (.int 63 1))) none))
   (step0 (some p0) (gMov (.t p15))
   endG))))
  (cSeq (cSeq (cReg (step0 (some p16) (gMov (.t p0))
   (step0 (some p17) (gP (iLenS (.t p16)))
   (step0 (some p18) (gP (iInt fGtr 63 (.t p17) (.c (.int 63 8))))
   (step0 (some p19) (gMov (.t p18))
   (stepG (some p20) (gMov (.t p0)) (some (p19, true))
   (stepG (some p21) (gCall 62 [(.t p20)]) (some (p19, true))
   (stepG (some p22) (gP (iInt fAnd 64 (.t p21) (.c (.int 64 9259542123273814144)))) (some (p19, true))
   (stepG (some p23) (gP (iInt fEql 64 (.t p22) (.c (.int 64 0)))) (some (p19, true))
   (step0 (some p24) (gP (iPick (.t p19) (.t p23) (.c (.bool false))))
   endG))))))))))
  (cCond (.t p24) (cSeq (cReg (step0 (some p25) (gMov (.t p0))
   (step0 (some p26) (gP (iSls (.t p25) (some (.c (.int 63 8))) none))
   (step0 (some p0) (gMov (.t p26))
   endG))))
  (cSeq (cDraw [p27, p28, p29, p30, p31, p32, p33, p34, p35, p36, p37, p38, p39] (stepR [p0] (some p27) (gMov (.t p0)) none
   (stepR [p27] (some p28) (gP (iLenS (.t p27))) none
   (stepR [p28] (some p29) (gP (iInt fGtr 63 (.t p28) (.c (.int 63 16)))) none
   (stepR [p29] (some p30) (gMov (.t p29)) none
   (stepR [p0, p30] (some p31) (gMov (.t p0)) (some (p30, true))
   (stepR [p0, p30] (some p33) (gMov (.t p0)) (some (p30, true))
   (stepR [p33, p30] (some p34) (gP (iSls (.t p33) (some (.c (.int 63 8))) none)) (some (p30, true))
   (stepL [p31, p30] (some p32) (gCall 62 [(.t p31)]) (some (p30, true))
   (stepL [p34, p30] (some p35) (gCall 62 [(.t p34)]) (some (p30, true))
   (stepR [p32, p35, p30] (some p36) (gP (iInt fOr 64 (.t p32) (.t p35))) (some (p30, true))
   (stepR [p36, p30] (some p37) (gP (iInt fAnd 64 (.t p36) (.c (.int 64 9259542123273814144)))) (some (p30, true))
   (stepR [p37, p30] (some p38) (gP (iInt fEql 64 (.t p37) (.c (.int 64 0)))) (some (p30, true))
   (stepR [p30, p38] (some p39) (gP (iPick (.t p30) (.t p38) (.c (.bool false)))) none
   endD))))))))))))))
  (cCond (.t p39) (cSeq (cReg (step0 (some p40) (gMov (.t p0))
   (step0 (some p41) (gP (iSls (.t p40) (some (.c (.int 63 16))) none))
   (step0 (some p0) (gMov (.t p41))
   endG))))
  (cBlock 2 (cLoop b41_0)))
  cSkip)))
  cSkip))
  (cExit 1)))
  cSkip))
  (cSeq (cReg (step0 (some p65) (gMov (.t p3))
   (step0 (some p66) (gP (iIaa 256 1 (.c (.ref 1 0 0 0 0 false)) (.t p65)))
   (step0 (some p67) (gP (iLoad false 1 (.t p66)))
   (step0 (some p4) (gMov (.t p67))
   endG)))))
  (cSeq (cReg (step0 (some p68) (gMov (.t p4))
   (step0 (some p69) (gP (iInt fAnd 8 (.t p68) (.c (.int 8 7))))
   (step0 (some p70) (gP (iCvi 63 (.t p69)))
   (step0 (some p5) (gMov (.t p70))
   endG)))))
  (cSeq (cReg (step0 (some p71) (gMov (.t p4))
   (step0 (some p72) (gP (iSh fShr 8 (.t p71) (.c (.int 64 4))))
   (step0 (some p73) (gP (iIaa 16 2 (.c (.ref 1 1 0 0 0 false)) (.t p72)))
   (step0 (some p74) (gP (iLoad true 2 (.t p73)))
   (step0 (some p6) (gE (iAlloc 105 [(.int 8 0), (.int 8 0)]))
   (step0 none (gE (iStore 2 (.t p6) (.t p74)))
   endG)))))))
  (cSeq (cReg (step0 (some p75) (gMov (.t p5))
   endG))
  (cBlock 4 (cSeq (cReg (step0 (some p77) (gP (iInt fEql 63 (.t p75) (.c (.int 63 2))))
   (step0 (some p76) (gMov (.t p77))
   endG)))
  (cCond (.t p76) (cSeq (cSeq (cDraw [p78, p79, p80, p81, p82, p83, p84, p85, p86, p87, p88, p89, p90, p91, p92, p93, p94] (stepR [p0] (some p78) (gMov (.t p0)) none
   (stepR [p78] (some p79) (gP (iLenS (.t p78))) none
   (stepR [p79] (some p80) (gP (iInt fLss 63 (.t p79) (.c (.int 63 2)))) none
   (stepR [p80] (some p81) (gMov (.t p80)) none
   (stepR [p0, p81] (some p82) (gMov (.t p0)) (some (p81, false))
   (stepR [p82, p81] (some p83) (gP (iIxs (.t p82) (.c (.int 63 1)))) (some (p81, false))
   (stepR [p6, p81] (some p84) (gP (iFad 0 (.t p6))) (some (p81, false))
   (stepR [p84, p81] (some p85) (gP (iLoad false 1 (.t p84))) (some (p81, false))
   (stepR [p83, p85, p81] (some p86) (gP (iInt fLss 8 (.t p83) (.t p85))) (some (p81, false))
   (stepR [p81, p86] (some p87) (gP (iPick (.t p81) (.c (.bool true)) (.t p86))) none
   (stepR [p87] (some p88) (gMov (.t p87)) none
   (stepR [p6, p88] (some p89) (gP (iFad 1 (.t p6))) (some (p88, false))
   (stepR [p89, p88] (some p90) (gP (iLoad false 1 (.t p89))) (some (p88, false))
   (stepR [p0, p88] (some p91) (gMov (.t p0)) (some (p88, false))
   (stepR [p91, p88] (some p92) (gP (iIxs (.t p91) (.c (.int 63 1)))) (some (p88, false))
   (stepR [p90, p92, p88] (some p93) (gP (iInt fLss 8 (.t p90) (.t p92))) (some (p88, false))
   (stepR [p88, p93] (some p94) (gP (iPick (.t p88) (.c (.bool true)) (.t p93))) none
   endD))))))))))))))))))
  (cCond (.t p94) (cSeq (cReg (step0 (some p2) (gMov (.c (.bool false)))
   endG))
  cRet)
  cSkip))
  (cReg (step0 (some p95) (gMov (.t p0))
   (step0 (some p96) (gP (iSls (.t p95) (some (.c (.int 63 2))) none))
   (step0 (some p0) (gMov (.t p96))
   endG)))))
  (cSeq (cReg (step0 (some p98) (gP (iInt fEql 63 (.t p75) (.c (.int 63 3))))
   (step0 (some p97) (gMov (.t p98))
   endG)))
  (cCond (.t p97) (cSeq (cSeq (cDraw [p99, p100, p101, p102, p103, p104, p105, p106, p107, p108, p109, p110, p111, p112, p113, p114, p115, p116, p117, p118, p119, p120, p121, p122, p123, p124, p125] (stepR [p0] (some p99) (gMov (.t p0)) none
   (stepR [p99] (some p100) (gP (iLenS (.t p99))) none
   (stepR [p100] (some p101) (gP (iInt fLss 63 (.t p100) (.c (.int 63 3)))) none
   (stepR [p101] (some p102) (gMov (.t p101)) none
   (stepR [p0, p102] (some p103) (gMov (.t p0)) (some (p102, false))
   (stepR [p103, p102] (some p104) (gP (iIxs (.t p103) (.c (.int 63 1)))) (some (p102, false))
   (stepR [p6, p102] (some p105) (gP (iFad 0 (.t p6))) (some (p102, false))
   (stepR [p105, p102] (some p106) (gP (iLoad false 1 (.t p105))) (some (p102, false))
   (stepR [p104, p106, p102] (some p107) (gP (iInt fLss 8 (.t p104) (.t p106))) (some (p102, false))
   (stepR [p102, p107] (some p108) (gP (iPick (.t p102) (.c (.bool true)) (.t p107))) none
   (stepR [p108] (some p109) (gMov (.t p108)) none
   (stepR [p6, p109] (some p110) (gP (iFad 1 (.t p6))) (some (p109, false))
   (stepR [p110, p109] (some p111) (gP (iLoad false 1 (.t p110))) (some (p109, false))
   (stepR [p0, p109] (some p112) (gMov (.t p0)) (some (p109, false))
   (stepR [p112, p109] (some p113) (gP (iIxs (.t p112) (.c (.int 63 1)))) (some (p109, false))
   (stepR [p111, p113, p109] (some p114) (gP (iInt fLss 8 (.t p111) (.t p113))) (some (p109, false))
   (stepR [p109, p114] (some p115) (gP (iPick (.t p109) (.c (.bool true)) (.t p114))) none
   (stepR [p115] (some p116) (gMov (.t p115)) none
   (stepR [p0, p116] (some p117) (gMov (.t p0)) (some (p116, false))
   (stepR [p117, p116] (some p118) (gP (iIxs (.t p117) (.c (.int 63 2)))) (some (p116, false))
   (stepR [p118, p116] (some p119) (gP (iInt fLss 8 (.t p118) (.c (.int 8 128)))) (some (p116, false))
   (stepR [p116, p119] (some p120) (gP (iPick (.t p116) (.c (.bool true)) (.t p119))) none
   (stepR [p120] (some p121) (gMov (.t p120)) none
   (stepR [p0, p121] (some p122) (gMov (.t p0)) (some (p121, false))
   (stepR [p122, p121] (some p123) (gP (iIxs (.t p122) (.c (.int 63 2)))) (some (p121, false))
   (stepR [p123, p121] (some p124) (gP (iInt fLss 8 (.c (.int 8 191)) (.t p123))) (some (p121, false))
   (stepR [p121, p124] (some p125) (gP (iPick (.t p121) (.c (.bool true)) (.t p124))) none
   endD))))))))))))))))))))))))))))
  (cCond (.t p125) (cSeq (cReg (step0 (some p2) (gMov (.c (.bool false)))
   endG))
  cRet)
  cSkip))
  (cReg (step0 (some p126) (gMov (.t p0))
   (step0 (some p127) (gP (iSls (.t p126) (some (.c (.int 63 3))) none))
   (step0 (some p0) (gMov (.t p127))
   endG)))))
  (cSeq (cReg (step0 (some p129) (gP (iInt fEql 63 (.t p75) (.c (.int 63 4))))
   (step0 (some p128) (gMov (.t p129))
   endG)))
  (cCond (.t p128) (cSeq (cSeq (cDraw [p130, p131, p132, p133, p134, p135, p136, p137, p138, p139, p140, p141, p142, p143, p144, p145, p146, p147, p148, p149, p150, p151, p152, p153, p154, p155, p156, p157, p158, p159, p160, p161, p162, p163, p164, p165, p166] (stepR [p0] (some p130) (gMov (.t p0)) none
   (stepR [p130] (some p131) (gP (iLenS (.t p130))) none
   (stepR [p131] (some p132) (gP (iInt fLss 63 (.t p131) (.c (.int 63 4)))) none
   (stepR [p132] (some p133) (gMov (.t p132)) none
   (stepR [p0, p133] (some p134) (gMov (.t p0)) (some (p133, false))
   (stepR [p134, p133] (some p135) (gP (iIxs (.t p134) (.c (.int 63 1)))) (some (p133, false))
   (stepR [p6, p133] (some p136) (gP (iFad 0 (.t p6))) (some (p133, false))
   (stepR [p136, p133] (some p137) (gP (iLoad false 1 (.t p136))) (some (p133, false))
   (stepR [p135, p137, p133] (some p138) (gP (iInt fLss 8 (.t p135) (.t p137))) (some (p133, false))
   (stepR [p133, p138] (some p139) (gP (iPick (.t p133) (.c (.bool true)) (.t p138))) none
   (stepR [p139] (some p140) (gMov (.t p139)) none
   (stepR [p6, p140] (some p141) (gP (iFad 1 (.t p6))) (some (p140, false))
   (stepR [p141, p140] (some p142) (gP (iLoad false 1 (.t p141))) (some (p140, false))
   (stepR [p0, p140] (some p143) (gMov (.t p0)) (some (p140, false))
   (stepR [p143, p140] (some p144) (gP (iIxs (.t p143) (.c (.int 63 1)))) (some (p140, false))
   (stepR [p142, p144, p140] (some p145) (gP (iInt fLss 8 (.t p142) (.t p144))) (some (p140, false))
   (stepR [p140, p145] (some p146) (gP (iPick (.t p140) (.c (.bool true)) (.t p145))) none
   (stepR [p146] (some p147) (gMov (.t p146)) none
   (stepR [p0, p147] (some p148) (gMov (.t p0)) (some (p147, false))
   (stepR [p148, p147] (some p149) (gP (iIxs (.t p148) (.c (.int 63 2)))) (some (p147, false))
   (stepR [p149, p147] (some p150) (gP (iInt fLss 8 (.t p149) (.c (.int 8 128)))) (some (p147, false))
   (stepR [p147, p150] (some p151) (gP (iPick (.t p147) (.c (.bool true)) (.t p150))) none
   (stepR [p151] (some p152) (gMov (.t p151)) none
   (stepR [p0, p152] (some p153) (gMov (.t p0)) (some (p152, false))
   (stepR [p153, p152] (some p154) (gP (iIxs (.t p153) (.c (.int 63 2)))) (some (p152, false))
   (stepR [p154, p152] (some p155) (gP (iInt fLss 8 (.c (.int 8 191)) (.t p154))) (some (p152, false))
   (stepR [p152, p155] (some p156) (gP (iPick (.t p152) (.c (.bool true)) (.t p155))) none
   (stepR [p156] (some p157) (gMov (.t p156)) none
   (stepR [p0, p157] (some p158) (gMov (.t p0)) (some (p157, false))
   (stepR [p158, p157] (some p159) (gP (iIxs (.t p158) (.c (.int 63 3)))) (some (p157, false))
   (stepR [p159, p157] (some p160) (gP (iInt fLss 8 (.t p159) (.c (.int 8 128)))) (some (p157, false))
   (stepR [p157, p160] (some p161) (gP (iPick (.t p157) (.c (.bool true)) (.t p160))) none
   (stepR [p161] (some p162) (gMov (.t p161)) none
   (stepR [p0, p162] (some p163) (gMov (.t p0)) (some (p162, false))
   (stepR [p163, p162] (some p164) (gP (iIxs (.t p163) (.c (.int 63 3)))) (some (p162, false))
   (stepR [p164, p162] (some p165) (gP (iInt fLss 8 (.c (.int 8 191)) (.t p164))) (some (p162, false))
   (stepR [p162, p165] (some p166) (gP (iPick (.t p162) (.c (.bool true)) (.t p165))) none
   endD))))))))))))))))))))))))))))))))))))))
  (cCond (.t p166) (cSeq (cReg (step0 (some p2) (gMov (.c (.bool false)))
   endG))
  cRet)
  cSkip))
  (cReg (step0 (some p167) (gMov (.t p0))
   (step0 (some p168) (gP (iSls (.t p167) (some (.c (.int 63 4))) none))
   (step0 (some p0) (gMov (.t p168))
   endG)))))
  (cSeq (cReg (step0 (some p2) (gMov (.c (.bool false)))
   endG))
  cRet))))))))))))))))
noncomputable def c41_1 : CEv := (cBlock 0 (cLoop b41_1))
noncomputable def c41_2 : CEv := (cReg (step0 (some p2) (gMov (.c (.bool true)))
   endG))
noncomputable def sh41 : Fs := .mk [(.t p2)]
  (cSeq c41_0
  (cSeq c41_1
  (cSeq c41_2
  cRet)))
def ir42 : Fn := ⟨25, [(.t p2)], (.seq (.reg [⟨(some p2), (.mov (.c (.bool false))), none⟩]) (.seq (.reg [⟨(some p3), (.mov (.t p0)), none⟩, ⟨(some p4), (.bin .geq 31 (.t p3) (.c (.int 31 97))), none⟩, ⟨(some p5), (.mov (.t p4)), none⟩, ⟨(some p6), (.mov (.t p0)), (some (p5, true))⟩, ⟨(some p7), (.bin .leq 31 (.t p6) (.c (.int 31 122))), (some (p5, true))⟩, ⟨(some p8), (.pick (.t p5) (.t p7) (.c (.bool false))), none⟩, ⟨(some p9), (.mov (.t p8)), none⟩, ⟨(some p10), (.mov (.t p0)), (some (p9, false))⟩, ⟨(some p11), (.bin .geq 31 (.t p10) (.c (.int 31 65))), (some (p9, false))⟩, ⟨(some p12), (.mov (.t p11)), (some (p9, false))⟩, ⟨(some p13), (.mov (.t p0)), (some (p12, true))⟩, ⟨(some p14), (.bin .leq 31 (.t p13) (.c (.int 31 90))), (some (p12, true))⟩, ⟨(some p15), (.pick (.t p12) (.t p14) (.c (.bool false))), (some (p9, false))⟩, ⟨(some p16), (.pick (.t p9) (.c (.bool true)) (.t p15)), none⟩, ⟨(some p17), (.mov (.t p16)), none⟩, ⟨(some p18), (.mov (.t p0)), (some (p17, false))⟩, ⟨(some p19), (.bin .eql 31 (.t p18) (.c (.int 31 95))), (some (p17, false))⟩, ⟨(some p20), (.pick (.t p17) (.c (.bool true)) (.t p19)), none⟩, ⟨(some p21), (.mov (.t p20)), none⟩, ⟨(some p22), (.mov (.t p0)), (some (p21, false))⟩, ⟨(some p23), (.bin .geq 31 (.t p22) (.c (.int 31 128))), (some (p21, false))⟩, ⟨(some p24), (.pick (.t p21) (.c (.bool true)) (.t p23)), none⟩, ⟨(some p2), (.mov (.t p24)), none⟩]) .ret))⟩
noncomputable def c42_0 : CEv := (cReg (step0 (some p2) (gMov (.c (.bool false)))
   endG))
noncomputable def c42_1 : CEv := (cReg (step0 (some p3) (gMov (.t p0))
   (step0 (some p4) (gP (iInt fGeq 31 (.t p3) (.c (.int 31 97))))
   (step0 (some p5) (gMov (.t p4))
   (stepG (some p6) (gMov (.t p0)) (some (p5, true))
   (stepG (some p7) (gP (iInt fLeq 31 (.t p6) (.c (.int 31 122)))) (some (p5, true))
   (step0 (some p8) (gP (iPick (.t p5) (.t p7) (.c (.bool false))))
   (step0 (some p9) (gMov (.t p8))
   (stepG (some p10) (gMov (.t p0)) (some (p9, false))
   (stepG (some p11) (gP (iInt fGeq 31 (.t p10) (.c (.int 31 65)))) (some (p9, false))
   (stepG (some p12) (gMov (.t p11)) (some (p9, false))
   (stepG (some p13) (gMov (.t p0)) (some (p12, true))
   (stepG (some p14) (gP (iInt fLeq 31 (.t p13) (.c (.int 31 90)))) (some (p12, true))
   (stepG (some p15) (gP (iPick (.t p12) (.t p14) (.c (.bool false)))) (some (p9, false))
   (step0 (some p16) (gP (iPick (.t p9) (.c (.bool true)) (.t p15)))
   (step0 (some p17) (gMov (.t p16))
   (stepG (some p18) (gMov (.t p0)) (some (p17, false))
   (stepG (some p19) (gP (iInt fEql 31 (.t p18) (.c (.int 31 95)))) (some (p17, false))
   (step0 (some p20) (gP (iPick (.t p17) (.c (.bool true)) (.t p19)))
   (step0 (some p21) (gMov (.t p20))
   (stepG (some p22) (gMov (.t p0)) (some (p21, false))
   (stepG (some p23) (gP (iInt fGeq 31 (.t p22) (.c (.int 31 128)))) (some (p21, false))
   (step0 (some p24) (gP (iPick (.t p21) (.c (.bool true)) (.t p23)))
   (step0 (some p2) (gMov (.t p24))
   endG))))))))))))))))))))))))
noncomputable def sh42 : Fs := .mk [(.t p2)]
  (cSeq c42_0
  (cSeq c42_1
  cRet))
def ir43 : Fn := ⟨9, [(.t p2)], (.seq (.reg [⟨(some p2), (.mov (.c (.bool false))), none⟩]) (.seq (.reg [⟨(some p3), (.mov (.t p0)), none⟩, ⟨(some p4), (.bin .geq 31 (.t p3) (.c (.int 31 48))), none⟩, ⟨(some p5), (.mov (.t p4)), none⟩, ⟨(some p6), (.mov (.t p0)), (some (p5, true))⟩, ⟨(some p7), (.bin .leq 31 (.t p6) (.c (.int 31 57))), (some (p5, true))⟩, ⟨(some p8), (.pick (.t p5) (.t p7) (.c (.bool false))), none⟩, ⟨(some p2), (.mov (.t p8)), none⟩]) .ret))⟩
noncomputable def c43_0 : CEv := (cReg (step0 (some p2) (gMov (.c (.bool false)))
   endG))
noncomputable def c43_1 : CEv := (cReg (step0 (some p3) (gMov (.t p0))
   (step0 (some p4) (gP (iInt fGeq 31 (.t p3) (.c (.int 31 48))))
   (step0 (some p5) (gMov (.t p4))
   (stepG (some p6) (gMov (.t p0)) (some (p5, true))
   (stepG (some p7) (gP (iInt fLeq 31 (.t p6) (.c (.int 31 57)))) (some (p5, true))
   (step0 (some p8) (gP (iPick (.t p5) (.t p7) (.c (.bool false))))
   (step0 (some p2) (gMov (.t p8))
   endG))))))))
noncomputable def sh43 : Fs := .mk [(.t p2)]
  (cSeq c43_0
  (cSeq c43_1
  cRet))
def ir44 : Fn := ⟨19, [(.t p4)], (.seq (.reg [⟨(some p4), (.mov (.c (.int 63 0))), none⟩]) (.seq (.seq (.reg [⟨(some p6), (.mov (.t p0)), none⟩, ⟨(some p7), (.len 1 (.t p6)), none⟩, ⟨(some p8), (.mov (.c (.int 63 0))), none⟩]) (.block 0 (.loop (.seq (.reg [⟨(some p9), (.bin .lss 63 (.t p8) (.t p7)), none⟩]) (.seq (.cond (.t p9) .skip (.exit 0)) (.seq (.block 1 (.seq (.reg [⟨(some p10), (.mov (.t p8)), none⟩, ⟨(some p5), (.mov (.t p10)), none⟩]) (.seq (.reg [⟨(some p11), (.mov (.t p1)), none⟩, ⟨(some p12), (.mov (.t p0)), none⟩, ⟨(some p13), (.mov (.t p5)), none⟩, ⟨(some p14), (.iad 2 (.t p12) (.t p13)), none⟩, ⟨(some p15), (.load true 2 (.t p14)), none⟩, ⟨(some p16), (.dyn (.t p11) [(.t p15)]), none⟩]) (.cond (.t p16) (.seq (.reg [⟨(some p17), (.mov (.t p5)), none⟩, ⟨(some p4), (.mov (.t p17)), none⟩]) .ret) .skip)))) (.reg [⟨(some p18), (.bin .add 63 (.t p8) (.c (.int 63 1))), none⟩, ⟨(some p8), (.mov (.t p18)), none⟩]))))))) (.seq (.reg [⟨(some p4), (.mov (.c (.int 63 (-1)))), none⟩]) .ret)))⟩
noncomputable def c44_0 : CEv := (cReg (step0 (some p4) (gMov (.c (.int 63 0)))
   endG))
noncomputable def c44_1 : CEv := (cReg (step0 (some p6) (gMov (.t p0))
   (step0 (some p7) (gP (iLenL (.t p6)))
   (step0 (some p8) (gMov (.c (.int 63 0)))
   endG))))
noncomputable def b44_0 : CEv := (cSeq (cReg (step0 (some p9) (gP (iInt fLss 63 (.t p8) (.t p7)))
   endG))
  (cSeq (cCond (.t p9) cSkip
  (cExit 0))
  (cSeq (cBlock 1 (cSeq (cReg (step0 (some p10) (gMov (.t p8))
   (step0 (some p5) (gMov (.t p10))
   endG)))
  (cSeq (cReg (step0 (some p11) (gMov (.t p1))
   (step0 (some p12) (gMov (.t p0))
   (step0 (some p13) (gMov (.t p5))
   (step0 (some p14) (gP (iIad 2 (.t p12) (.t p13)))
   (step0 (some p15) (gP (iLoad true 2 (.t p14)))
   (step0 (some p16) (gDyn (.t p11) [(.t p15)])
   endG)))))))
  (cCond (.t p16) (cSeq (cReg (step0 (some p17) (gMov (.t p5))
   (step0 (some p4) (gMov (.t p17))
   endG)))
  cRet)
  cSkip))))
  (cReg (step0 (some p18) (gP (iInt fAdd 63 (.t p8) (.c (.int 63 1))))
   (step0 (some p8) (gMov (.t p18))
   endG))))))
noncomputable def c44_2 : CEv := (cBlock 0 (cLoop b44_0))
noncomputable def c44_3 : CEv := (cReg (step0 (some p4) (gMov (.c (.int 63 (-1))))
   endG))
noncomputable def sh44 : Fs := .mk [(.t p4)]
  (cSeq c44_0
  (cSeq (cSeq c44_1
  c44_2)
  (cSeq c44_3
  cRet)))
def ir45 : Fn := ⟨8, [(.t p3)], (.seq (.reg [⟨(some p2), (.box 55 (.t p0)), none⟩, ⟨(some p3), (.mov (.c (.bool false))), none⟩]) (.seq (.reg [⟨(some p4), (.fad 0 (.t p2)), none⟩, ⟨(some p5), (.load false 1 (.t p4)), none⟩, ⟨(some p6), (.load false 1 (.t p1)), none⟩, ⟨(some p7), (.bin .eql 100 (.t p5) (.t p6)), none⟩, ⟨(some p3), (.mov (.t p7)), none⟩]) .ret))⟩
noncomputable def c45_0 : CEv := (cReg (step0 (some p2) (gE (iBox 55 (.t p0)))
   (step0 (some p3) (gMov (.c (.bool false)))
   endG)))
noncomputable def c45_1 : CEv := (cReg (step0 (some p4) (gP (iFad 0 (.t p2)))
   (step0 (some p5) (gP (iLoad false 1 (.t p4)))
   (step0 (some p6) (gP (iLoad false 1 (.t p1)))
   (step0 (some p7) (gP (iStr sEql (.t p5) (.t p6)))
   (step0 (some p3) (gMov (.t p7))
   endG))))))
noncomputable def sh45 : Fs := .mk [(.t p3)]
  (cSeq c45_0
  (cSeq c45_1
  cRet))
def ir46 : Fn := ⟨19, [(.t p4)], (.seq (.reg [⟨(some p4), (.mov (.c (.int 63 0))), none⟩]) (.seq (.seq (.reg [⟨(some p6), (.mov (.t p0)), none⟩, ⟨(some p7), (.len 1 (.t p6)), none⟩, ⟨(some p8), (.mov (.c (.int 63 0))), none⟩]) (.block 0 (.loop (.seq (.reg [⟨(some p9), (.bin .lss 63 (.t p8) (.t p7)), none⟩]) (.seq (.cond (.t p9) .skip (.exit 0)) (.seq (.block 1 (.seq (.reg [⟨(some p10), (.mov (.t p8)), none⟩, ⟨(some p5), (.mov (.t p10)), none⟩]) (.seq (.reg [⟨(some p11), (.mov (.t p1)), none⟩, ⟨(some p12), (.mov (.t p0)), none⟩, ⟨(some p13), (.mov (.t p5)), none⟩, ⟨(some p14), (.iad 1 (.t p12) (.t p13)), none⟩, ⟨(some p15), (.load false 1 (.t p14)), none⟩, ⟨(some p16), (.bin .eql 100 (.t p11) (.t p15)), none⟩]) (.cond (.t p16) (.seq (.reg [⟨(some p17), (.mov (.t p5)), none⟩, ⟨(some p4), (.mov (.t p17)), none⟩]) .ret) .skip)))) (.reg [⟨(some p18), (.bin .add 63 (.t p8) (.c (.int 63 1))), none⟩, ⟨(some p8), (.mov (.t p18)), none⟩]))))))) (.seq (.reg [⟨(some p4), (.mov (.c (.int 63 (-1)))), none⟩]) .ret)))⟩
noncomputable def c46_0 : CEv := (cReg (step0 (some p4) (gMov (.c (.int 63 0)))
   endG))
noncomputable def c46_1 : CEv := (cReg (step0 (some p6) (gMov (.t p0))
   (step0 (some p7) (gP (iLenL (.t p6)))
   (step0 (some p8) (gMov (.c (.int 63 0)))
   endG))))
noncomputable def b46_0 : CEv := (cSeq (cReg (step0 (some p9) (gP (iInt fLss 63 (.t p8) (.t p7)))
   endG))
  (cSeq (cCond (.t p9) cSkip
  (cExit 0))
  (cSeq (cBlock 1 (cSeq (cReg (step0 (some p10) (gMov (.t p8))
   (step0 (some p5) (gMov (.t p10))
   endG)))
  (cSeq (cReg (step0 (some p11) (gMov (.t p1))
   (step0 (some p12) (gMov (.t p0))
   (step0 (some p13) (gMov (.t p5))
   (step0 (some p14) (gP (iIad 1 (.t p12) (.t p13)))
   (step0 (some p15) (gP (iLoad false 1 (.t p14)))
   (step0 (some p16) (gP (iStr sEql (.t p11) (.t p15)))
   endG)))))))
  (cCond (.t p16) (cSeq (cReg (step0 (some p17) (gMov (.t p5))
   (step0 (some p4) (gMov (.t p17))
   endG)))
  cRet)
  cSkip))))
  (cReg (step0 (some p18) (gP (iInt fAdd 63 (.t p8) (.c (.int 63 1))))
   (step0 (some p8) (gMov (.t p18))
   endG))))))
noncomputable def c46_2 : CEv := (cBlock 0 (cLoop b46_0))
noncomputable def c46_3 : CEv := (cReg (step0 (some p4) (gMov (.c (.int 63 (-1))))
   endG))
noncomputable def sh46 : Fs := .mk [(.t p4)]
  (cSeq c46_0
  (cSeq (cSeq c46_1
  c46_2)
  (cSeq c46_3
  cRet)))
def ir47 : Fn := ⟨9, [(.t p4)], (.seq (.reg [⟨(some p3), (.box 65 (.t p1)), none⟩, ⟨(some p4), (.mov (.c (.bool false))), none⟩]) (.seq (.reg [⟨(some p5), (.mov (.t p0)), none⟩, ⟨(some p6), (.mkf 63 [(.t p3)]), none⟩, ⟨(some p7), (.call 26 [(.t p5), (.t p6)]), none⟩, ⟨(some p8), (.un .not 101 (.t p7)), none⟩, ⟨(some p4), (.mov (.t p8)), none⟩]) .ret))⟩
noncomputable def c47_0 : CEv := (cReg (step0 (some p3) (gE (iBox 65 (.t p1)))
   (step0 (some p4) (gMov (.c (.bool false)))
   endG)))
noncomputable def c47_1 : CEv := (cReg (step0 (some p5) (gMov (.t p0))
   (step0 (some p6) (gP (iMkf 63 [(.t p3)]))
   (step0 (some p7) (gCall 26 [(.t p5), (.t p6)])
   (step0 (some p8) (gP (iNot (.t p7)))
   (step0 (some p4) (gMov (.t p8))
   endG))))))
noncomputable def sh47 : Fs := .mk [(.t p4)]
  (cSeq c47_0
  (cSeq c47_1
  cRet))
def ir48 : Fn := ⟨92, [(.t p2)], (.seq (.reg [⟨(some p1), (.box 28 (.t p0)), none⟩, ⟨(some p2), (.mov (.c (.bool false))), none⟩]) (.seq (.reg [⟨(some p4), (.fad 4 (.t p1)), none⟩, ⟨(some p5), (.load false 1 (.t p4)), none⟩, ⟨(some p6), (.bin .eql 63 (.t p5) (.c (.int 63 0))), none⟩, ⟨(some p7), (.mov (.t p6)), none⟩, ⟨(some p8), (.fad 5 (.t p1)), (some (p7, true))⟩, ⟨(some p9), (.load false 1 (.t p8)), (some (p7, true))⟩, ⟨(some p10), (.bin .eql 63 (.t p9) (.c (.int 63 0))), (some (p7, true))⟩, ⟨(some p11), (.pick (.t p7) (.t p10) (.c (.bool false))), none⟩, ⟨(some p3), (.mov (.t p11)), none⟩]) (.seq (.seq (.reg [⟨(some p12), (.fad 0 (.t p1)), none⟩, ⟨(some p13), (.load false 1 (.t p12)), none⟩]) (.block 0 (.seq (.reg [⟨(some p15), (.bin .eql 63 (.t p13) (.c (.int 63 3))), none⟩, ⟨(some p14), (.mov (.t p15)), none⟩]) (.cond (.t p14) (.seq (.reg [⟨(some p16), (.fad 6 (.t p1)), none⟩, ⟨(some p17), (.load false 1 (.t p16)), none⟩, ⟨(some p18), (.len 1 (.t p17)), none⟩, ⟨(some p19), (.bin .gtr 63 (.t p18) (.c (.int 63 1))), none⟩, ⟨(some p20), (.mov (.t p19)), none⟩, ⟨(some p21), (.fad 6 (.t p1)), (some (p20, true))⟩, ⟨(some p22), (.load false 1 (.t p21)), (some (p20, true))⟩, ⟨(some p23), (.call 64 [(.t p22), (.c (.cmp 0 24 []))]), (some (p20, true))⟩, ⟨(some p24), (.pick (.t p20) (.t p23) (.c (.bool false))), none⟩, ⟨(some p25), (.mov (.t p24)), none⟩, ⟨(some p26), (.fad 1 (.t p1)), (some (p25, true))⟩, ⟨(some p27), (.load false 1 (.t p26)), (some (p25, true))⟩, ⟨(some p28), (.bin .eql 100 (.t p27) (.c (.str []))), (some (p25, true))⟩, ⟨(some p29), (.pick (.t p25) (.t p28) (.c (.bool false))), none⟩, ⟨(some p30), (.mov (.t p29)), none⟩, ⟨(some p31), (.fad 2 (.t p1)), (some (p30, true))⟩, ⟨(some p32), (.load false 1 (.t p31)), (some (p30, true))⟩, ⟨(some p33), (.bin .eql 100 (.t p32) (.c (.str []))), (some (p30, true))⟩, ⟨(some p34), (.pick (.t p30) (.t p33) (.c (.bool false))), none⟩, ⟨(some p35), (.mov (.t p34)), none⟩, ⟨(some p36), (.fad 3 (.t p1)), (some (p35, true))⟩, ⟨(some p37), (.load false 1 (.t p36)), (some (p35, true))⟩, ⟨(some p38), (.len 1 (.t p37)), (some (p35, true))⟩, ⟨(some p39), (.bin .eql 63 (.t p38) (.c (.int 63 0))), (some (p35, true))⟩, ⟨(some p40), (.pick (.t p35) (.t p39) (.c (.bool false))), none⟩, ⟨(some p41), (.mov (.t p40)), none⟩, ⟨(some p42), (.mov (.t p3)), (some (p41, true))⟩, ⟨(some p43), (.pick (.t p41) (.t p42) (.c (.bool false))), none⟩, ⟨(some p2), (.mov (.t p43)), none⟩]) .ret) (.seq (.reg [⟨(some p45), (.bin .eql 63 (.t p13) (.c (.int 63 1))), none⟩, ⟨(some p44), (.mov (.t p45)), none⟩]) (.cond (.t p44) (.reg [⟨(some p46), (.fad 4 (.t p1)), none⟩, ⟨(some p47), (.load false 1 (.t p46)), none⟩, ⟨(some p48), (.bin .geq 63 (.t p47) (.c (.int 63 1))), none⟩, ⟨(some p49), (.mov (.t p48)), none⟩, ⟨(some p50), (.fad 4 (.t p1)), (some (p49, true))⟩, ⟨(some p51), (.load false 1 (.t p50)), (some (p49, true))⟩, ⟨(some p52), (.fad 5 (.t p1)), (some (p49, true))⟩, ⟨(some p53), (.load false 1 (.t p52)), (some (p49, true))⟩, ⟨(some p54), (.bin .leq 63 (.t p51) (.t p53)), (some (p49, true))⟩, ⟨(some p55), (.pick (.t p49) (.t p54) (.c (.bool false))), none⟩, ⟨(some p56), (.mov (.t p55)), none⟩, ⟨(some p57), (.fad 5 (.t p1)), (some (p56, true))⟩, ⟨(some p58), (.load false 1 (.t p57)), (some (p56, true))⟩, ⟨(some p59), (.bin .leq 63 (.t p58) (.c (.int 63 4))), (some (p56, true))⟩, ⟨(some p60), (.pick (.t p56) (.t p59) (.c (.bool false))), none⟩, ⟨(some p3), (.mov (.t p60)), none⟩]) (.seq (.seq (.reg [⟨(some p62), (.bin .eql 63 (.t p13) (.c (.int 63 0))), none⟩, ⟨(some p61), (.mov (.t p62)), none⟩]) (.cond (.t p61) .skip (.reg [⟨(some p63), (.bin .eql 63 (.t p13) (.c (.int 63 2))), none⟩, ⟨(some p61), (.mov (.t p63)), none⟩]))) (.cond (.t p61) .skip (.seq (.reg [⟨(some p2), (.mov (.c (.bool false))), none⟩]) .ret))))))))) (.seq (.reg [⟨(some p64), (.mov (.t p3)), none⟩, ⟨(some p65), (.mov (.t p64)), none⟩, ⟨(some p66), (.fad 1 (.t p1)), (some (p65, true))⟩, ⟨(some p67), (.load false 1 (.t p66)), (some (p65, true))⟩, ⟨(some p68), (.call 21 [(.t p67)]), (some (p65, true))⟩, ⟨(some p69), (.pick (.t p65) (.t p68) (.c (.bool false))), none⟩, ⟨(some p70), (.mov (.t p69)), none⟩, ⟨(some p71), (.fad 2 (.t p1)), (some (p70, true))⟩, ⟨(some p72), (.load false 1 (.t p71)), (some (p70, true))⟩, ⟨(some p73), (.call 21 [(.t p72)]), (some (p70, true))⟩, ⟨(some p74), (.pick (.t p70) (.t p73) (.c (.bool false))), none⟩, ⟨(some p75), (.mov (.t p74)), none⟩, ⟨(some p76), (.fad 3 (.t p1)), (some (p75, true))⟩, ⟨(some p77), (.load false 1 (.t p76)), (some (p75, true))⟩, ⟨(some p78), (.len 1 (.t p77)), (some (p75, true))⟩, ⟨(some p79), (.bin .leq 63 (.t p78) (.c (.int 63 1))), (some (p75, true))⟩, ⟨(some p80), (.pick (.t p75) (.t p79) (.c (.bool false))), none⟩, ⟨(some p81), (.mov (.t p80)), none⟩, ⟨(some p82), (.fad 3 (.t p1)), (some (p81, true))⟩, ⟨(some p83), (.load false 1 (.t p82)), (some (p81, true))⟩, ⟨(some p84), (.call 65 [(.t p83), (.c (.cmp 0 66 []))]), (some (p81, true))⟩, ⟨(some p85), (.pick (.t p81) (.t p84) (.c (.bool false))), none⟩, ⟨(some p86), (.mov (.t p85)), none⟩, ⟨(some p87), (.fad 6 (.t p1)), (some (p86, true))⟩, ⟨(some p88), (.load false 1 (.t p87)), (some (p86, true))⟩, ⟨(some p89), (.len 1 (.t p88)), (some (p86, true))⟩, ⟨(some p90), (.bin .eql 63 (.t p89) (.c (.int 63 0))), (some (p86, true))⟩, ⟨(some p91), (.pick (.t p86) (.t p90) (.c (.bool false))), none⟩, ⟨(some p2), (.mov (.t p91)), none⟩]) .ret))))⟩
noncomputable def c48_0 : CEv := (cReg (step0 (some p1) (gE (iBox 28 (.t p0)))
   (step0 (some p2) (gMov (.c (.bool false)))
   endG)))
noncomputable def c48_1 : CEv := (cReg (step0 (some p4) (gP (iFad 4 (.t p1)))
   (step0 (some p5) (gP (iLoad false 1 (.t p4)))
   (step0 (some p6) (gP (iInt fEql 63 (.t p5) (.c (.int 63 0))))
   (step0 (some p7) (gMov (.t p6))
   (stepG (some p8) (gP (iFad 5 (.t p1))) (some (p7, true))
   (stepG (some p9) (gP (iLoad false 1 (.t p8))) (some (p7, true))
   (stepG (some p10) (gP (iInt fEql 63 (.t p9) (.c (.int 63 0)))) (some (p7, true))
   (step0 (some p11) (gP (iPick (.t p7) (.t p10) (.c (.bool false))))
   (step0 (some p3) (gMov (.t p11))
   endG))))))))))
noncomputable def c48_2 : CEv := (cReg (step0 (some p12) (gP (iFad 0 (.t p1)))
   (step0 (some p13) (gP (iLoad false 1 (.t p12)))
   endG)))
noncomputable def c48_3 : CEv := (cBlock 0 (cSeq (cReg (step0 (some p15) (gP (iInt fEql 63 (.t p13) (.c (.int 63 3))))
   (step0 (some p14) (gMov (.t p15))
   endG)))
  (cCond (.t p14) (cSeq (cReg (step0 (some p16) (gP (iFad 6 (.t p1)))
   (step0 (some p17) (gP (iLoad false 1 (.t p16)))
   (step0 (some p18) (gP (iLenL (.t p17)))
   (step0 (some p19) (gP (iInt fGtr 63 (.t p18) (.c (.int 63 1))))
   (step0 (some p20) (gMov (.t p19))
   (stepG (some p21) (gP (iFad 6 (.t p1))) (some (p20, true))
   (stepG (some p22) (gP (iLoad false 1 (.t p21))) (some (p20, true))
   (stepG (some p23) (gCall 64 [(.t p22), (.c (.cmp 0 24 []))]) (some (p20, true))
   (step0 (some p24) (gP (iPick (.t p20) (.t p23) (.c (.bool false))))
   (step0 (some p25) (gMov (.t p24))
   (stepG (some p26) (gP (iFad 1 (.t p1))) (some (p25, true))
   (stepG (some p27) (gP (iLoad false 1 (.t p26))) (some (p25, true))
   (stepG (some p28) (gP (iStr sEql (.t p27) (.c (.str [])))) (some (p25, true))
   (step0 (some p29) (gP (iPick (.t p25) (.t p28) (.c (.bool false))))
   (step0 (some p30) (gMov (.t p29))
   (stepG (some p31) (gP (iFad 2 (.t p1))) (some (p30, true))
   (stepG (some p32) (gP (iLoad false 1 (.t p31))) (some (p30, true))
   (stepG (some p33) (gP (iStr sEql (.t p32) (.c (.str [])))) (some (p30, true))
   (step0 (some p34) (gP (iPick (.t p30) (.t p33) (.c (.bool false))))
   (step0 (some p35) (gMov (.t p34))
   (stepG (some p36) (gP (iFad 3 (.t p1))) (some (p35, true))
   (stepG (some p37) (gP (iLoad false 1 (.t p36))) (some (p35, true))
   (stepG (some p38) (gP (iLenL (.t p37))) (some (p35, true))
   (stepG (some p39) (gP (iInt fEql 63 (.t p38) (.c (.int 63 0)))) (some (p35, true))
   (step0 (some p40) (gP (iPick (.t p35) (.t p39) (.c (.bool false))))
   (step0 (some p41) (gMov (.t p40))
   (stepG (some p42) (gMov (.t p3)) (some (p41, true))
   (step0 (some p43) (gP (iPick (.t p41) (.t p42) (.c (.bool false))))
   (step0 (some p2) (gMov (.t p43))
   endG))))))))))))))))))))))))))))))
  cRet)
  (cSeq (cReg (step0 (some p45) (gP (iInt fEql 63 (.t p13) (.c (.int 63 1))))
   (step0 (some p44) (gMov (.t p45))
   endG)))
  (cCond (.t p44) (cReg (step0 (some p46) (gP (iFad 4 (.t p1)))
   (step0 (some p47) (gP (iLoad false 1 (.t p46)))
   (step0 (some p48) (gP (iInt fGeq 63 (.t p47) (.c (.int 63 1))))
   (step0 (some p49) (gMov (.t p48))
   (stepG (some p50) (gP (iFad 4 (.t p1))) (some (p49, true))
   (stepG (some p51) (gP (iLoad false 1 (.t p50))) (some (p49, true))
   (stepG (some p52) (gP (iFad 5 (.t p1))) (some (p49, true))
   (stepG (some p53) (gP (iLoad false 1 (.t p52))) (some (p49, true))
   (stepG (some p54) (gP (iInt fLeq 63 (.t p51) (.t p53))) (some (p49, true))
   (step0 (some p55) (gP (iPick (.t p49) (.t p54) (.c (.bool false))))
   (step0 (some p56) (gMov (.t p55))
   (stepG (some p57) (gP (iFad 5 (.t p1))) (some (p56, true))
   (stepG (some p58) (gP (iLoad false 1 (.t p57))) (some (p56, true))
   (stepG (some p59) (gP (iInt fLeq 63 (.t p58) (.c (.int 63 4)))) (some (p56, true))
   (step0 (some p60) (gP (iPick (.t p56) (.t p59) (.c (.bool false))))
   (step0 (some p3) (gMov (.t p60))
   endG)))))))))))))))))
  (cSeq (cSeq (cReg (step0 (some p62) (gP (iInt fEql 63 (.t p13) (.c (.int 63 0))))
   (step0 (some p61) (gMov (.t p62))
   endG)))
  (cCond (.t p61) cSkip
  (cReg (step0 (some p63) (gP (iInt fEql 63 (.t p13) (.c (.int 63 2))))
   (step0 (some p61) (gMov (.t p63))
   endG)))))
  (cCond (.t p61) cSkip
  (cSeq (cReg (step0 (some p2) (gMov (.c (.bool false)))
   endG))
  cRet))))))))
noncomputable def c48_4 : CEv := (cReg (step0 (some p64) (gMov (.t p3))
   (step0 (some p65) (gMov (.t p64))
   (stepG (some p66) (gP (iFad 1 (.t p1))) (some (p65, true))
   (stepG (some p67) (gP (iLoad false 1 (.t p66))) (some (p65, true))
   (stepG (some p68) (gCall 21 [(.t p67)]) (some (p65, true))
   (step0 (some p69) (gP (iPick (.t p65) (.t p68) (.c (.bool false))))
   (step0 (some p70) (gMov (.t p69))
   (stepG (some p71) (gP (iFad 2 (.t p1))) (some (p70, true))
   (stepG (some p72) (gP (iLoad false 1 (.t p71))) (some (p70, true))
   (stepG (some p73) (gCall 21 [(.t p72)]) (some (p70, true))
   (step0 (some p74) (gP (iPick (.t p70) (.t p73) (.c (.bool false))))
   (step0 (some p75) (gMov (.t p74))
   (stepG (some p76) (gP (iFad 3 (.t p1))) (some (p75, true))
   (stepG (some p77) (gP (iLoad false 1 (.t p76))) (some (p75, true))
   (stepG (some p78) (gP (iLenL (.t p77))) (some (p75, true))
   (stepG (some p79) (gP (iInt fLeq 63 (.t p78) (.c (.int 63 1)))) (some (p75, true))
   (step0 (some p80) (gP (iPick (.t p75) (.t p79) (.c (.bool false))))
   (step0 (some p81) (gMov (.t p80))
   (stepG (some p82) (gP (iFad 3 (.t p1))) (some (p81, true))
   (stepG (some p83) (gP (iLoad false 1 (.t p82))) (some (p81, true))
   (stepG (some p84) (gCall 65 [(.t p83), (.c (.cmp 0 66 []))]) (some (p81, true))
   (step0 (some p85) (gP (iPick (.t p81) (.t p84) (.c (.bool false))))
   (step0 (some p86) (gMov (.t p85))
   (stepG (some p87) (gP (iFad 6 (.t p1))) (some (p86, true))
   (stepG (some p88) (gP (iLoad false 1 (.t p87))) (some (p86, true))
   (stepG (some p89) (gP (iLenL (.t p88))) (some (p86, true))
   (stepG (some p90) (gP (iInt fEql 63 (.t p89) (.c (.int 63 0)))) (some (p86, true))
   (step0 (some p91) (gP (iPick (.t p86) (.t p90) (.c (.bool false))))
   (step0 (some p2) (gMov (.t p91))
   endG))))))))))))))))))))))))))))))
noncomputable def sh48 : Fs := .mk [(.t p2)]
  (cSeq c48_0
  (cSeq c48_1
  (cSeq (cSeq c48_2
  c48_3)
  (cSeq c48_4
  cRet))))
def ir49 : Fn := ⟨19, [(.t p4)], (.seq (.reg [⟨(some p4), (.mov (.c (.int 63 0))), none⟩]) (.seq (.seq (.reg [⟨(some p6), (.mov (.t p0)), none⟩, ⟨(some p7), (.len 1 (.t p6)), none⟩, ⟨(some p8), (.mov (.c (.int 63 0))), none⟩]) (.block 0 (.loop (.seq (.reg [⟨(some p9), (.bin .lss 63 (.t p8) (.t p7)), none⟩]) (.seq (.cond (.t p9) .skip (.exit 0)) (.seq (.block 1 (.seq (.reg [⟨(some p10), (.mov (.t p8)), none⟩, ⟨(some p5), (.mov (.t p10)), none⟩]) (.seq (.reg [⟨(some p11), (.mov (.t p1)), none⟩, ⟨(some p12), (.mov (.t p0)), none⟩, ⟨(some p13), (.mov (.t p5)), none⟩, ⟨(some p14), (.iad 7 (.t p12) (.t p13)), none⟩, ⟨(some p15), (.load true 7 (.t p14)), none⟩, ⟨(some p16), (.dyn (.t p11) [(.t p15)]), none⟩]) (.cond (.t p16) (.seq (.reg [⟨(some p17), (.mov (.t p5)), none⟩, ⟨(some p4), (.mov (.t p17)), none⟩]) .ret) .skip)))) (.reg [⟨(some p18), (.bin .add 63 (.t p8) (.c (.int 63 1))), none⟩, ⟨(some p8), (.mov (.t p18)), none⟩]))))))) (.seq (.reg [⟨(some p4), (.mov (.c (.int 63 (-1)))), none⟩]) .ret)))⟩
noncomputable def c49_0 : CEv := (cReg (step0 (some p4) (gMov (.c (.int 63 0)))
   endG))
noncomputable def c49_1 : CEv := (cReg (step0 (some p6) (gMov (.t p0))
   (step0 (some p7) (gP (iLenL (.t p6)))
   (step0 (some p8) (gMov (.c (.int 63 0)))
   endG))))
noncomputable def b49_0 : CEv := (cSeq (cReg (step0 (some p9) (gP (iInt fLss 63 (.t p8) (.t p7)))
   endG))
  (cSeq (cCond (.t p9) cSkip
  (cExit 0))
  (cSeq (cBlock 1 (cSeq (cReg (step0 (some p10) (gMov (.t p8))
   (step0 (some p5) (gMov (.t p10))
   endG)))
  (cSeq (cReg (step0 (some p11) (gMov (.t p1))
   (step0 (some p12) (gMov (.t p0))
   (step0 (some p13) (gMov (.t p5))
   (step0 (some p14) (gP (iIad 7 (.t p12) (.t p13)))
   (step0 (some p15) (gP (iLoad true 7 (.t p14)))
   (step0 (some p16) (gDyn (.t p11) [(.t p15)])
   endG)))))))
  (cCond (.t p16) (cSeq (cReg (step0 (some p17) (gMov (.t p5))
   (step0 (some p4) (gMov (.t p17))
   endG)))
  cRet)
  cSkip))))
  (cReg (step0 (some p18) (gP (iInt fAdd 63 (.t p8) (.c (.int 63 1))))
   (step0 (some p8) (gMov (.t p18))
   endG))))))
noncomputable def c49_2 : CEv := (cBlock 0 (cLoop b49_0))
noncomputable def c49_3 : CEv := (cReg (step0 (some p4) (gMov (.c (.int 63 (-1))))
   endG))
noncomputable def sh49 : Fs := .mk [(.t p4)]
  (cSeq c49_0
  (cSeq (cSeq c49_1
  c49_2)
  (cSeq c49_3
  cRet)))
def ir50 : Fn := ⟨19, [(.t p4)], (.seq (.reg [⟨(some p4), (.mov (.c (.int 63 0))), none⟩]) (.seq (.seq (.reg [⟨(some p6), (.mov (.t p0)), none⟩, ⟨(some p7), (.len 1 (.t p6)), none⟩, ⟨(some p8), (.mov (.c (.int 63 0))), none⟩]) (.block 0 (.loop (.seq (.reg [⟨(some p9), (.bin .lss 63 (.t p8) (.t p7)), none⟩]) (.seq (.cond (.t p9) .skip (.exit 0)) (.seq (.block 1 (.seq (.reg [⟨(some p10), (.mov (.t p8)), none⟩, ⟨(some p5), (.mov (.t p10)), none⟩]) (.seq (.reg [⟨(some p11), (.mov (.t p1)), none⟩, ⟨(some p12), (.mov (.t p0)), none⟩, ⟨(some p13), (.mov (.t p5)), none⟩, ⟨(some p14), (.iad 1 (.t p12) (.t p13)), none⟩, ⟨(some p15), (.load false 1 (.t p14)), none⟩, ⟨(some p16), (.dyn (.t p11) [(.t p15)]), none⟩]) (.cond (.t p16) (.seq (.reg [⟨(some p17), (.mov (.t p5)), none⟩, ⟨(some p4), (.mov (.t p17)), none⟩]) .ret) .skip)))) (.reg [⟨(some p18), (.bin .add 63 (.t p8) (.c (.int 63 1))), none⟩, ⟨(some p8), (.mov (.t p18)), none⟩]))))))) (.seq (.reg [⟨(some p4), (.mov (.c (.int 63 (-1)))), none⟩]) .ret)))⟩
noncomputable def c50_0 : CEv := (cReg (step0 (some p4) (gMov (.c (.int 63 0)))
   endG))
noncomputable def c50_1 : CEv := (cReg (step0 (some p6) (gMov (.t p0))
   (step0 (some p7) (gP (iLenL (.t p6)))
   (step0 (some p8) (gMov (.c (.int 63 0)))
   endG))))
noncomputable def b50_0 : CEv := (cSeq (cReg (step0 (some p9) (gP (iInt fLss 63 (.t p8) (.t p7)))
   endG))
  (cSeq (cCond (.t p9) cSkip
  (cExit 0))
  (cSeq (cBlock 1 (cSeq (cReg (step0 (some p10) (gMov (.t p8))
   (step0 (some p5) (gMov (.t p10))
   endG)))
  (cSeq (cReg (step0 (some p11) (gMov (.t p1))
   (step0 (some p12) (gMov (.t p0))
   (step0 (some p13) (gMov (.t p5))
   (step0 (some p14) (gP (iIad 1 (.t p12) (.t p13)))
   (step0 (some p15) (gP (iLoad false 1 (.t p14)))
   (step0 (some p16) (gDyn (.t p11) [(.t p15)])
   endG)))))))
  (cCond (.t p16) (cSeq (cReg (step0 (some p17) (gMov (.t p5))
   (step0 (some p4) (gMov (.t p17))
   endG)))
  cRet)
  cSkip))))
  (cReg (step0 (some p18) (gP (iInt fAdd 63 (.t p8) (.c (.int 63 1))))
   (step0 (some p8) (gMov (.t p18))
   endG))))))
noncomputable def c50_2 : CEv := (cBlock 0 (cLoop b50_0))
noncomputable def c50_3 : CEv := (cReg (step0 (some p4) (gMov (.c (.int 63 (-1))))
   endG))
noncomputable def sh50 : Fs := .mk [(.t p4)]
  (cSeq c50_0
  (cSeq (cSeq c50_1
  c50_2)
  (cSeq c50_3
  cRet)))
def ir51 : Fn := ⟨9, [(.t p4)], (.seq (.reg [⟨(some p2), (.box 55 (.t p0)), none⟩, ⟨(some p4), (.mov (.c (.int 63 0))), none⟩]) (.seq (.reg [⟨(some p5), (.fad 1 (.t p2)), none⟩, ⟨(some p6), (.load false 1 (.t p5)), none⟩, ⟨(some p7), (.mov (.t p1)), none⟩, ⟨(some p8), (.call 46 [(.t p6), (.t p7)]), none⟩, ⟨(some p4), (.mov (.t p8)), none⟩]) .ret))⟩
noncomputable def c51_0 : CEv := (cReg (step0 (some p2) (gE (iBox 55 (.t p0)))
   (step0 (some p4) (gMov (.c (.int 63 0)))
   endG)))
noncomputable def c51_1 : CEv := (cReg (step0 (some p5) (gP (iFad 1 (.t p2)))
   (step0 (some p6) (gP (iLoad false 1 (.t p5)))
   (step0 (some p7) (gMov (.t p1))
   (step0 (some p8) (gCall 46 [(.t p6), (.t p7)])
   (step0 (some p4) (gMov (.t p8))
   endG))))))
noncomputable def sh51 : Fs := .mk [(.t p4)]
  (cSeq c51_0
  (cSeq c51_1
  cRet))
def ir52 : Fn := ⟨8, [(.t p2)], (.seq (.reg [⟨(some p1), (.box 30 (.t p0)), none⟩, ⟨(some p2), (.mov (.c (.int 63 0))), none⟩]) (.seq (.seq (.reg [⟨(some p3), (.load true 6 (.t p1)), none⟩, ⟨(some p4), (.call 66 [(.t p3)]), none⟩, ⟨(some p5), (.un .not 101 (.t p4)), none⟩]) (.cond (.t p5) (.seq (.reg [⟨(some p2), (.mov (.c (.int 63 0))), none⟩]) .ret) .skip)) (.seq (.reg [⟨(some p6), (.load true 6 (.t p1)), none⟩, ⟨(some p7), (.call 67 [(.t p6)]), none⟩, ⟨(some p2), (.mov (.t p7)), none⟩]) .ret)))⟩
noncomputable def c52_0 : CEv := (cReg (step0 (some p1) (gE (iBox 30 (.t p0)))
   (step0 (some p2) (gMov (.c (.int 63 0)))
   endG)))
noncomputable def c52_1 : CEv := (cReg (step0 (some p3) (gP (iLoad true 6 (.t p1)))
   (step0 (some p4) (gCall 66 [(.t p3)])
   (step0 (some p5) (gP (iNot (.t p4)))
   endG))))
noncomputable def c52_2 : CEv := (cCond (.t p5) (cSeq (cReg (step0 (some p2) (gMov (.c (.int 63 0)))
   endG))
  cRet)
  cSkip)
noncomputable def c52_3 : CEv := (cReg (step0 (some p6) (gP (iLoad true 6 (.t p1)))
   (step0 (some p7) (gCall 67 [(.t p6)])
   (step0 (some p2) (gMov (.t p7))
   endG))))
noncomputable def sh52 : Fs := .mk [(.t p2)]
  (cSeq c52_0
  (cSeq (cSeq c52_1
  c52_2)
  (cSeq c52_3
  cRet)))
def ir53 : Fn := ⟨36, [(.t p8)], (.seq (.reg [⟨(some p4), (.box 49 (.t p0)), none⟩, ⟨(some p5), (.box 30 (.t p1)), none⟩, ⟨(some p6), (.box 9 (.t p2)), none⟩, ⟨(some p7), (.box 3 (.t p3)), none⟩, ⟨(some p8), (.mov (.c (.bool false))), none⟩]) (.seq (.seq (.reg [⟨(some p10), (.fad 0 (.t p5)), none⟩, ⟨(some p11), (.load false 1 (.t p10)), none⟩, ⟨(some p12), (.bin .neq 63 (.t p11) (.c (.int 63 1))), none⟩]) (.cond (.t p12) (.seq (.reg [⟨(some p13), (.fad 5 (.t p5)), none⟩, ⟨(some p14), (.load false 1 (.t p13)), none⟩, ⟨(some p15), (.mkf 69 [(.t p4), (.t p6), (.t p7)]), none⟩, ⟨(some p16), (.call 68 [(.t p14), (.t p15)]), none⟩, ⟨(some p17), (.un .not 101 (.t p16)), none⟩, ⟨(some p8), (.mov (.t p17)), none⟩]) .ret) .skip)) (.seq (.draw [p18, p19, p20, p21, p22, p23, p24, p9] [⟨0, 0, [], [p4], ⟨(some p18), (.load false 1 (.t p4)), none⟩⟩, ⟨0, 1, [], [p18], ⟨(some p19), (.nck (.t p18)), none⟩⟩, ⟨0, 2, [], [p19], ⟨(some p20), (.fad 2 (.t p19)), none⟩⟩, ⟨0, 3, [], [p20], ⟨(some p21), (.load false 1 (.t p20)), none⟩⟩, ⟨0, 4, [0, 3], [p5], ⟨(some p22), (.fad 3 (.t p5)), none⟩⟩, ⟨0, 5, [0, 3], [p22], ⟨(some p23), (.load false 1 (.t p22)), none⟩⟩, ⟨0, 6, [], [p21, p23], ⟨(some p24), (.lok 100 (.ref 2 0 0 0 0 false) (.t p21) (.t p23) false), none⟩⟩, ⟨0, 7, [], [p24], ⟨(some p9), (.mov (.t p24)), none⟩⟩]) (.seq (.seq (.reg [⟨(some p25), (.fad 3 (.t p5)), none⟩, ⟨(some p26), (.load false 1 (.t p25)), none⟩, ⟨(some p27), (.load false 1 (.t p6)), none⟩, ⟨(some p28), (.bin .eql 100 (.t p26) (.t p27)), none⟩]) (.cond (.t p28) (.reg [⟨(some p29), (.load false 1 (.t p7)), none⟩, ⟨(some p30), (.bsl 3 1 [(.int 63 0)] [(0, (1, (.t p29)))]), none⟩, ⟨(some p9), (.mov (.t p30)), none⟩]) .skip)) (.seq (.reg [⟨(some p31), (.load false 1 (.t p4)), none⟩, ⟨(some p32), (.mov (.t p9)), none⟩, ⟨(some p33), (.fad 4 (.t p5)), none⟩, ⟨(some p34), (.load false 1 (.t p33)), none⟩, ⟨(some p35), (.call 70 [(.t p31), (.t p32), (.t p34)]), none⟩, ⟨(some p8), (.mov (.t p35)), none⟩]) .ret)))))⟩
noncomputable def c53_0 : CEv := (cReg (step0 (some p4) (gE (iBox 49 (.t p0)))
   (step0 (some p5) (gE (iBox 30 (.t p1)))
   (step0 (some p6) (gE (iBox 9 (.t p2)))
   (step0 (some p7) (gE (iBox 3 (.t p3)))
   (step0 (some p8) (gMov (.c (.bool false)))
   endG))))))
noncomputable def c53_1 : CEv := (cReg (step0 (some p10) (gP (iFad 0 (.t p5)))
   (step0 (some p11) (gP (iLoad false 1 (.t p10)))
   (step0 (some p12) (gP (iInt fNeq 63 (.t p11) (.c (.int 63 1))))
   endG))))
noncomputable def c53_2 : CEv := (cCond (.t p12) (cSeq (cReg (step0 (some p13) (gP (iFad 5 (.t p5)))
   (step0 (some p14) (gP (iLoad false 1 (.t p13)))
   (step0 (some p15) (gP (iMkf 69 [(.t p4), (.t p6), (.t p7)]))
   (step0 (some p16) (gCall 68 [(.t p14), (.t p15)])
   (step0 (some p17) (gP (iNot (.t p16)))
   (step0 (some p8) (gMov (.t p17))
   endG)))))))
  cRet)
  cSkip)
noncomputable def c53_3 : CEv := (cDraw [p18, p19, p20, p21, p22, p23, p24, p9] (stepR [p4] (some p18) (gP (iLoad false 1 (.t p4))) none
   (stepR [p18] (some p19) (gP (iNck (.t p18))) none
   (stepR [p19] (some p20) (gP (iFad 2 (.t p19))) none
   (stepR [p20] (some p21) (gP (iLoad false 1 (.t p20))) none
   (stepR [p5] (some p22) (gP (iFad 3 (.t p5))) none
   (stepR [p22] (some p23) (gP (iLoad false 1 (.t p22))) none
   (stepR [p21, p23] (some p24) (gP (iLok 100 (.ref 2 0 0 0 0 false) (.t p21) (.t p23) false)) none
   (stepR [p24] (some p9) (gMov (.t p24)) none
   endD)))))))))
noncomputable def c53_4 : CEv := (cReg (step0 (some p25) (gP (iFad 3 (.t p5)))
   (step0 (some p26) (gP (iLoad false 1 (.t p25)))
   (step0 (some p27) (gP (iLoad false 1 (.t p6)))
   (step0 (some p28) (gP (iStr sEql (.t p26) (.t p27)))
   endG)))))
noncomputable def c53_5 : CEv := (cCond (.t p28) (cReg (step0 (some p29) (gP (iLoad false 1 (.t p7)))
   (step0 (some p30) (gE (iBsl 3 1 [(.int 63 0)] [(0, (1, (.t p29)))]))
   (step0 (some p9) (gMov (.t p30))
   endG))))
  cSkip)
noncomputable def c53_6 : CEv := (cReg (step0 (some p31) (gP (iLoad false 1 (.t p4)))
   (step0 (some p32) (gMov (.t p9))
   (step0 (some p33) (gP (iFad 4 (.t p5)))
   (step0 (some p34) (gP (iLoad false 1 (.t p33)))
   (step0 (some p35) (gCall 70 [(.t p31), (.t p32), (.t p34)])
   (step0 (some p8) (gMov (.t p35))
   endG)))))))
noncomputable def sh53 : Fs := .mk [(.t p8)]
  (cSeq c53_0
  (cSeq (cSeq c53_1
  c53_2)
  (cSeq c53_3
  (cSeq (cSeq c53_4
  c53_5)
  (cSeq c53_6
  cRet)))))
def ir54 : Fn := ⟨37, [(.t p4)], (.seq (.reg [⟨(some p4), (.mov (.c (.str []))), none⟩]) (.seq (.seq (.reg [⟨(some p7), (.mov (.t p0)), none⟩, ⟨(some p8), (.bin .eql 100 (.t p7) (.c (.str []))), none⟩, ⟨(some p9), (.mov (.t p8)), none⟩, ⟨(some p10), (.mov (.t p1)), (some (p9, false))⟩, ⟨(some p11), (.bin .eql 100 (.t p10) (.c (.str []))), (some (p9, false))⟩, ⟨(some p12), (.pick (.t p9) (.c (.bool true)) (.t p11)), none⟩]) (.cond (.t p12) (.seq (.reg [⟨(some p13), (.mov (.t p0)), none⟩, ⟨(some p4), (.mov (.t p13)), none⟩]) .ret) .skip)) (.seq (.seq (.reg [⟨(some p14), (.mov (.t p1)), none⟩, ⟨(some p15), (.len 0 (.t p14)), none⟩, ⟨(some p16), (.bin .eql 63 (.t p15) (.c (.int 63 1))), none⟩, ⟨(some p17), (.mov (.t p16)), none⟩, ⟨(some p18), (.mov (.t p1)), (some (p17, true))⟩, ⟨(some p19), (.ixs (.t p18) (.c (.int 63 0))), (some (p17, true))⟩, ⟨(some p20), (.bin .lss 8 (.t p19) (.c (.int 8 128))), (some (p17, true))⟩, ⟨(some p21), (.pick (.t p17) (.t p20) (.c (.bool false))), none⟩]) (.cond (.t p21) (.seq (.reg [⟨(some p22), (.mov (.t p0)), none⟩, ⟨(some p23), (.mov (.t p1)), none⟩, ⟨(some p24), (.ixs (.t p23) (.c (.int 63 0))), none⟩, ⟨(some p25), (.call 71 [(.t p22), (.t p24)]), none⟩, ⟨(some p4), (.mov (.t p25)), none⟩]) .ret) .skip)) (.seq (.seq (.reg [⟨(some p27), (.mov (.t p1)), none⟩, ⟨(some p28), (.call 72 [(.t p27)]), none⟩, ⟨(some p26), (.mov (.t p28)), none⟩, ⟨(some p29), (.ext (.t p26) 0), none⟩, ⟨(some p30), (.ext (.t p26) 1), none⟩, ⟨(some p5), (.alloc 114 [(.bool false), (.bool false), (.bool false), (.bool false), (.bool false), (.bool false), (.bool false), (.bool false), (.bool false), (.bool false), (.bool false), (.bool false), (.bool false), (.bool false), (.bool false), (.bool false), (.bool false), (.bool false), (.bool false), (.bool false), (.bool false), (.bool false), (.bool false), (.bool false), (.bool false), (.bool false), (.bool false), (.bool false), (.bool false), (.bool false), (.bool false), (.bool false), (.bool false), (.bool false), (.bool false), (.bool false), (.bool false), (.bool false), (.bool false), (.bool false), (.bool false), (.bool false), (.bool false), (.bool false), (.bool false), (.bool false), (.bool false), (.bool false), (.bool false), (.bool false), (.bool false), (.bool false), (.bool false), (.bool false), (.bool false), (.bool false), (.bool false), (.bool false), (.bool false), (.bool false), (.bool false), (.bool false), (.bool false), (.bool false), (.bool false), (.bool false), (.bool false), (.bool false), (.bool false), (.bool false), (.bool false), (.bool false), (.bool false), (.bool false), (.bool false), (.bool false), (.bool false), (.bool false), (.bool false), (.bool false), (.bool false), (.bool false), (.bool false), (.bool false), (.bool false), (.bool false), (.bool false), (.bool false), (.bool false), (.bool false), (.bool false), (.bool false), (.bool false), (.bool false), (.bool false), (.bool false), (.bool false), (.bool false), (.bool false), (.bool false), (.bool false), (.bool false), (.bool false), (.bool false), (.bool false), (.bool false), (.bool false), (.bool false), (.bool false), (.bool false), (.bool false), (.bool false), (.bool false), (.bool false), (.bool false), (.bool false), (.bool false), (.bool false), (.bool false), (.bool false), (.bool false), (.bool false), (.bool false), (.bool false), (.bool false), (.bool false), (.bool false), (.bool false), (.bool false), (.bool false), (.bool false), (.bool false), (.bool false), (.bool false), (.bool false), (.bool false), (.bool false), (.bool false), (.bool false), (.bool false), (.bool false), (.bool false), (.bool false), (.bool false), (.bool false), (.bool false), (.bool false), (.bool false), (.bool false), (.bool false), (.bool false), (.bool false), (.bool false), (.bool false), (.bool false), (.bool false), (.bool false), (.bool false), (.bool false), (.bool false), (.bool false), (.bool false), (.bool false), (.bool false), (.bool false), (.bool false), (.bool false), (.bool false), (.bool false), (.bool false), (.bool false), (.bool false), (.bool false), (.bool false), (.bool false), (.bool false), (.bool false), (.bool false), (.bool false), (.bool false), (.bool false), (.bool false), (.bool false), (.bool false), (.bool false), (.bool false), (.bool false), (.bool false), (.bool false), (.bool false), (.bool false), (.bool false), (.bool false), (.bool false), (.bool false), (.bool false), (.bool false), (.bool false), (.bool false), (.bool false), (.bool false), (.bool false), (.bool false), (.bool false), (.bool false), (.bool false), (.bool false), (.bool false), (.bool false), (.bool false), (.bool false), (.bool false), (.bool false), (.bool false), (.bool false), (.bool false), (.bool false), (.bool false), (.bool false), (.bool false), (.bool false), (.bool false), (.bool false), (.bool false), (.bool false), (.bool false), (.bool false), (.bool false), (.bool false), (.bool false), (.bool false), (.bool false), (.bool false), (.bool false), (.bool false), (.bool false), (.bool false), (.bool false), (.bool false), (.bool false), (.bool false), (.bool false), (.bool false), (.bool false), (.bool false), (.bool false), (.bool false), (.bool false), (.bool false), (.bool false), (.bool false), (.bool false), (.bool false), (.bool false), (.bool false), (.bool false)]), none⟩, ⟨none, (.store 256 (.t p5) (.t p29)), none⟩, ⟨(some p6), (.mov (.t p30)), none⟩]) (.seq (.reg [⟨(some p31), (.mov (.t p6)), none⟩]) (.cond (.t p31) (.seq (.reg [⟨(some p32), (.mov (.t p0)), none⟩, ⟨(some p33), (.call 73 [(.t p32), (.t p5)]), none⟩, ⟨(some p4), (.mov (.t p33)), none⟩]) .ret) .skip))) (.seq (.reg [⟨(some p34), (.mov (.t p0)), none⟩, ⟨(some p35), (.mov (.t p1)), none⟩, ⟨(some p36), (.call 74 [(.t p34), (.t p35)]), none⟩, ⟨(some p4), (.mov (.t p36)), none⟩]) .ret)))))⟩
noncomputable def c54_0 : CEv := (cReg (step0 (some p4) (gMov (.c (.str [])))
   endG))
noncomputable def c54_1 : CEv := (cReg (step0 (some p7) (gMov (.t p0))
   (step0 (some p8) (gP (iStr sEql (.t p7) (.c (.str []))))
   (step0 (some p9) (gMov (.t p8))
   (stepG (some p10) (gMov (.t p1)) (some (p9, false))
   (stepG (some p11) (gP (iStr sEql (.t p10) (.c (.str [])))) (some (p9, false))
   (step0 (some p12) (gP (iPick (.t p9) (.c (.bool true)) (.t p11)))
   endG)))))))
noncomputable def c54_2 : CEv := (cCond (.t p12) (cSeq (cReg (step0 (some p13) (gMov (.t p0))
   (step0 (some p4) (gMov (.t p13))
   endG)))
  cRet)
  cSkip)
noncomputable def c54_3 : CEv := (cReg (step0 (some p14) (gMov (.t p1))
   (step0 (some p15) (gP (iLenS (.t p14)))
   (step0 (some p16) (gP (iInt fEql 63 (.t p15) (.c (.int 63 1))))
   (step0 (some p17) (gMov (.t p16))
   (stepG (some p18) (gMov (.t p1)) (some (p17, true))
   (stepG (some p19) (gP (iIxs (.t p18) (.c (.int 63 0)))) (some (p17, true))
   (stepG (some p20) (gP (iInt fLss 8 (.t p19) (.c (.int 8 128)))) (some (p17, true))
   (step0 (some p21) (gP (iPick (.t p17) (.t p20) (.c (.bool false))))
   endG)))))))))
noncomputable def c54_4 : CEv := (cCond (.t p21) (cSeq (cReg (step0 (some p22) (gMov (.t p0))
   (step0 (some p23) (gMov (.t p1))
   (step0 (some p24) (gP (iIxs (.t p23) (.c (.int 63 0))))
   (step0 (some p25) (gCall 71 [(.t p22), (.t p24)])
   (step0 (some p4) (gMov (.t p25))
   endG))))))
  cRet)
  cSkip)
noncomputable def c54_5 : CEv := (cReg (step0 (some p27) (gMov (.t p1))
   (step0 (some p28) (gCall 72 [(.t p27)])
   (step0 (some p26) (gMov (.t p28))
   (step0 (some p29) (gP (iExt (.t p26) 0))
   (step0 (some p30) (gP (iExt (.t p26) 1))
   (step0 (some p5) (gE (iAlloc 114 [(.bool false), (.bool false), (.bool false), (.bool false), (.bool false), (.bool false), (.bool false), (.bool false), (.bool false), (.bool false), (.bool false), (.bool false), (.bool false), (.bool false), (.bool false), (.bool false), (.bool false), (.bool false), (.bool false), (.bool false), (.bool false), (.bool false), (.bool false), (.bool false), (.bool false), (.bool false), (.bool false), (.bool false), (.bool false), (.bool false), (.bool false), (.bool false), (.bool false), (.bool false), (.bool false), (.bool false), (.bool false), (.bool false), (.bool false), (.bool false), (.bool false), (.bool false), (.bool false), (.bool false), (.bool false), (.bool false), (.bool false), (.bool false), (.bool false), (.bool false), (.bool false), (.bool false), (.bool false), (.bool false), (.bool false), (.bool false), (.bool false), (.bool false), (.bool false), (.bool false), (.bool false), (.bool false), (.bool false), (.bool false), (.bool false), (.bool false), (.bool false), (.bool false), (.bool false), (.bool false), (.bool false), (.bool false), (.bool false), (.bool false), (.bool false), (.bool false), (.bool false), (.bool false), (.bool false), (.bool false), (.bool false), (.bool false), (.bool false), (.bool false), (.bool false), (.bool false), (.bool false), (.bool false), (.bool false), (.bool false), (.bool false), (.bool false), (.bool false), (.bool false), (.bool false), (.bool false), (.bool false), (.bool false), (.bool false), (.bool false), (.bool false), (.bool false), (.bool false), (.bool false), (.bool false), (.bool false), (.bool false), (.bool false), (.bool false), (.bool false), (.bool false), (.bool false), (.bool false), (.bool false), (.bool false), (.bool false), (.bool false), (.bool false), (.bool false), (.bool false), (.bool false), (.bool false), (.bool false), (.bool false), (.bool false), (.bool false), (.bool false), (.bool false), (.bool false), (.bool false), (.bool false), (.bool false), (.bool false), (.bool false), (.bool false), (.bool false), (.bool false), (.bool false), (.bool false), (.bool false), (.bool false), (.bool false), (.bool false), (.bool false), (.bool false), (.bool false), (.bool false), (.bool false), (.bool false), (.bool false), (.bool false), (.bool false), (.bool false), (.bool false), (.bool false), (.bool false), (.bool false), (.bool false), (.bool false), (.bool false), (.bool false), (.bool false), (.bool false), (.bool false), (.bool false), (.bool false), (.bool false), (.bool false), (.bool false), (.bool false), (.bool false), (.bool false), (.bool false), (.bool false), (.bool false), (.bool false), (.bool false), (.bool false), (.bool false), (.bool false), (.bool false), (.bool false), (.bool false), (.bool false), (.bool false), (.bool false), (.bool false), (.bool false), (.bool false), (.bool false), (.bool false), (.bool false), (.bool false), (.bool false), (.bool false), (.bool false), (.bool false), (.bool false), (.bool false), (.bool false), (.bool false), (.bool false), (.bool false), (.bool false), (.bool false), (.bool false), (.bool false), (.bool false), (.bool false), (.bool false), (.bool false), (.bool false), (.bool false), (.bool false), (.bool false), (.bool false), (.bool false), (.bool false), (.bool false), (.bool false), (.bool false), (.bool false), (.bool false), (.bool false), (.bool false), (.bool false), (.bool false), (.bool false), (.bool false), (.bool false), (.bool false), (.bool false), (.bool false), (.bool false), (.bool false), (.bool false), (.bool false), (.bool false), (.bool false), (.bool false), (.bool false), (.bool false), (.bool false), (.bool false), (.bool false), (.bool false), (.bool false), (.bool false), (.bool false), (.bool false), (.bool false), (.bool false), (.bool false), (.bool false), (.bool false), (.bool false)]))
   (step0 none (gE (iStore 256 (.t p5) (.t p29)))
   (step0 (some p6) (gMov (.t p30))
   endG)))))))))
noncomputable def c54_6 : CEv := (cReg (step0 (some p31) (gMov (.t p6))
   endG))
noncomputable def c54_7 : CEv := (cCond (.t p31) (cSeq (cReg (step0 (some p32) (gMov (.t p0))
   (step0 (some p33) (gCall 73 [(.t p32), (.t p5)])
   (step0 (some p4) (gMov (.t p33))
   endG))))
  cRet)
  cSkip)
noncomputable def c54_8 : CEv := (cReg (step0 (some p34) (gMov (.t p0))
   (step0 (some p35) (gMov (.t p1))
   (step0 (some p36) (gCall 74 [(.t p34), (.t p35)])
   (step0 (some p4) (gMov (.t p36))
   endG)))))
noncomputable def sh54 : Fs := .mk [(.t p4)]
  (cSeq c54_0
  (cSeq (cSeq c54_1
  c54_2)
  (cSeq (cSeq c54_3
  c54_4)
  (cSeq (cSeq c54_5
  (cSeq c54_6
  c54_7))
  (cSeq c54_8
  cRet)))))
def ir55 : Fn := ⟨24, [(.m p2 true 4), (.t p3)], (.seq (.reg [⟨(some p2), (.alloc 95 [(.int 63 0), (.str []), (.int 63 0), (.int 63 0)]), none⟩, ⟨(some p3), (.mov (.c (.bool false))), none⟩]) (.seq (.block 0 (.seq (.reg [⟨(some p5), (.mov (.t p0)), none⟩, ⟨(some p6), (.call 75 [(.t p5), (.c (.cmp 0 76 []))]), none⟩, ⟨(some p7), (.bin .gtr 63 (.t p6) (.c (.int 63 0))), none⟩, ⟨(some p4), (.mov (.t p7)), none⟩]) (.cond (.t p4) (.seq (.reg [⟨(some p8), (.mov (.t p0)), none⟩, ⟨(some p9), (.call 77 [(.t p8)]), none⟩, ⟨(some p10), (.ext (.t p9) 0), none⟩, ⟨(some p11), (.ext (.t p9) 1), none⟩, ⟨none, (.store 4 (.t p2) (.t p10)), none⟩, ⟨(some p3), (.mov (.t p11)), none⟩]) .ret) (.seq (.reg [⟨(some p13), (.mov (.t p0)), none⟩, ⟨(some p14), (.call 75 [(.t p13), (.c (.cmp 0 78 []))]), none⟩, ⟨(some p15), (.bin .gtr 63 (.t p14) (.c (.int 63 0))), none⟩, ⟨(some p12), (.mov (.t p15)), none⟩]) (.cond (.t p12) (.seq (.reg [⟨(some p16), (.mov (.t p0)), none⟩, ⟨(some p17), (.call 79 [(.t p16)]), none⟩, ⟨(some p18), (.ext (.t p17) 0), none⟩, ⟨(some p19), (.ext (.t p17) 1), none⟩, ⟨none, (.store 4 (.t p2) (.t p18)), none⟩, ⟨(some p3), (.mov (.t p19)), none⟩]) .ret) .skip))))) (.seq (.reg [⟨(some p20), (.mov (.t p0)), none⟩, ⟨(some p21), (.call 80 [(.t p20)]), none⟩, ⟨(some p22), (.ext (.t p21) 0), none⟩, ⟨(some p23), (.ext (.t p21) 1), none⟩, ⟨none, (.store 4 (.t p2) (.t p22)), none⟩, ⟨(some p3), (.mov (.t p23)), none⟩]) .ret)))⟩
noncomputable def c55_0 : CEv := (cReg (step0 (some p2) (gE (iAlloc 95 [(.int 63 0), (.str []), (.int 63 0), (.int 63 0)]))
   (step0 (some p3) (gMov (.c (.bool false)))
   endG)))
noncomputable def c55_1 : CEv := (cBlock 0 (cSeq (cReg (step0 (some p5) (gMov (.t p0))
   (step0 (some p6) (gCall 75 [(.t p5), (.c (.cmp 0 76 []))])
   (step0 (some p7) (gP (iInt fGtr 63 (.t p6) (.c (.int 63 0))))
   (step0 (some p4) (gMov (.t p7))
   endG)))))
  (cCond (.t p4) (cSeq (cReg (step0 (some p8) (gMov (.t p0))
   (step0 (some p9) (gCall 77 [(.t p8)])
   (step0 (some p10) (gP (iExt (.t p9) 0))
   (step0 (some p11) (gP (iExt (.t p9) 1))
   (step0 none (gE (iStore 4 (.t p2) (.t p10)))
   (step0 (some p3) (gMov (.t p11))
   endG)))))))
  cRet)
  (cSeq (cReg (step0 (some p13) (gMov (.t p0))
   (step0 (some p14) (gCall 75 [(.t p13), (.c (.cmp 0 78 []))])
   (step0 (some p15) (gP (iInt fGtr 63 (.t p14) (.c (.int 63 0))))
   (step0 (some p12) (gMov (.t p15))
   endG)))))
  (cCond (.t p12) (cSeq (cReg (step0 (some p16) (gMov (.t p0))
   (step0 (some p17) (gCall 79 [(.t p16)])
   (step0 (some p18) (gP (iExt (.t p17) 0))
   (step0 (some p19) (gP (iExt (.t p17) 1))
   (step0 none (gE (iStore 4 (.t p2) (.t p18)))
   (step0 (some p3) (gMov (.t p19))
   endG)))))))
  cRet)
  cSkip)))))
noncomputable def c55_2 : CEv := (cReg (step0 (some p20) (gMov (.t p0))
   (step0 (some p21) (gCall 80 [(.t p20)])
   (step0 (some p22) (gP (iExt (.t p21) 0))
   (step0 (some p23) (gP (iExt (.t p21) 1))
   (step0 none (gE (iStore 4 (.t p2) (.t p22)))
   (step0 (some p3) (gMov (.t p23))
   endG)))))))
noncomputable def sh55 : Fs := .mk [(.m p2 true 4), (.t p3)]
  (cSeq c55_0
  (cSeq c55_1
  (cSeq c55_2
  cRet)))
def ir56 : Fn := ⟨26, [], (.seq (.reg [⟨(some p5), (.mov (.t p0)), none⟩, ⟨(some p6), (.nck (.t p5)), none⟩, ⟨(some p7), (.fad 1 (.t p6)), none⟩, ⟨(some p8), (.load false 1 (.t p7)), none⟩, ⟨(some p4), (.mov (.t p8)), none⟩]) (.seq (.seq (.reg [⟨(some p9), (.mov (.t p0)), none⟩, ⟨(some p10), (.nck (.t p9)), none⟩, ⟨(some p11), (.fad 0 (.t p10)), none⟩, ⟨(some p12), (.load false 1 (.t p11)), none⟩, ⟨(some p13), (.len 1 (.t p12)), none⟩, ⟨(some p14), (.bin .gtr 63 (.t p13) (.c (.int 63 0))), none⟩]) (.cond (.t p14) (.reg [⟨(some p15), (.mov (.t p0)), none⟩, ⟨(some p16), (.nck (.t p15)), none⟩, ⟨(some p17), (.fad 0 (.t p16)), none⟩, ⟨(some p18), (.load false 1 (.t p17)), none⟩, ⟨(some p19), (.iad 4 (.t p18) (.c (.int 63 0))), none⟩, ⟨(some p20), (.fad 3 (.t p19)), none⟩, ⟨(some p21), (.load false 1 (.t p20)), none⟩, ⟨(some p4), (.mov (.t p21)), none⟩]) .skip)) (.reg [⟨(some p22), (.mov (.t p1)), none⟩, ⟨(some p23), (.mov (.t p4)), none⟩, ⟨(some p24), (.build [(.int 63 0), (.int 63 0)] [(0, (1, (.t p22))), (1, (1, (.t p23)))]), none⟩, ⟨(some p25), (.mki 73 (.t p24)), none⟩, ⟨none, (.panic (.t p25)), none⟩])))⟩
noncomputable def c56_0 : CEv := (cReg (step0 (some p5) (gMov (.t p0))
   (step0 (some p6) (gP (iNck (.t p5)))
   (step0 (some p7) (gP (iFad 1 (.t p6)))
   (step0 (some p8) (gP (iLoad false 1 (.t p7)))
   (step0 (some p4) (gMov (.t p8))
   endG))))))
noncomputable def c56_1 : CEv := (cReg (step0 (some p9) (gMov (.t p0))
   (step0 (some p10) (gP (iNck (.t p9)))
   (step0 (some p11) (gP (iFad 0 (.t p10)))
   (step0 (some p12) (gP (iLoad false 1 (.t p11)))
   (step0 (some p13) (gP (iLenL (.t p12)))
   (step0 (some p14) (gP (iInt fGtr 63 (.t p13) (.c (.int 63 0))))
   endG)))))))
noncomputable def c56_2 : CEv := (cCond (.t p14) (cReg (step0 (some p15) (gMov (.t p0))
   (step0 (some p16) (gP (iNck (.t p15)))
   (step0 (some p17) (gP (iFad 0 (.t p16)))
   (step0 (some p18) (gP (iLoad false 1 (.t p17)))
   (step0 (some p19) (gP (iIad 4 (.t p18) (.c (.int 63 0))))
   (step0 (some p20) (gP (iFad 3 (.t p19)))
   (step0 (some p21) (gP (iLoad false 1 (.t p20)))
   (step0 (some p4) (gMov (.t p21))
   endG)))))))))
  cSkip)
noncomputable def c56_3 : CEv := (cReg (step0 (some p22) (gMov (.t p1))
   (step0 (some p23) (gMov (.t p4))
   (step0 (some p24) (gP (iBuild [(.int 63 0), (.int 63 0)] [(0, (1, (.t p22))), (1, (1, (.t p23)))]))
   (step0 (some p25) (gP (iMki 73 (.t p24)))
   (step0 none (gPan (.t p25))
   endG))))))
noncomputable def sh56 : Fs := .mk []
  (cSeq c56_0
  (cSeq (cSeq c56_1
  c56_2)
  c56_3))
def ir57 : Fn := ⟨60, [(.m p2 true 7)], (.seq (.reg [⟨(some p2), (.alloc 28 [(.int 63 0), (.str []), (.str []), (.ref 2 0 0 0 0 false), (.int 63 0), (.int 63 0), (.ref 2 0 0 0 0 false)]), none⟩]) (.seq (.seq (.reg [⟨(some p4), (.mov (.t p0)), none⟩, ⟨(some p5), (.nck (.t p4)), none⟩, ⟨(some p6), (.fad 3 (.t p5)), none⟩, ⟨(some p7), (.load false 1 (.t p6)), none⟩, ⟨(some p8), (.bin .geq 63 (.t p7) (.c (.int 63 12))), none⟩]) (.cond (.t p8) (.reg [⟨(some p9), (.mov (.t p0)), none⟩, ⟨(some p10), (.call 56 [(.t p9), (.c (.int 63 4))]), none⟩]) .skip)) (.seq (.reg [⟨(some p11), (.mov (.t p0)), none⟩, ⟨(some p12), (.nck (.t p11)), none⟩, ⟨(some p13), (.fad 3 (.t p12)), none⟩, ⟨(some p14), (.load false 1 (.t p13)), none⟩, ⟨(some p15), (.bin .add 63 (.t p14) (.c (.int 63 1))), none⟩, ⟨(some p16), (.nck (.t p11)), none⟩, ⟨(some p17), (.fad 3 (.t p16)), none⟩, ⟨none, (.store 1 (.t p17) (.t p15)), none⟩]) (.seq (.seq (.reg [⟨(some p18), (.mov (.t p0)), none⟩, ⟨(some p19), (.call 37 [(.t p18), (.c (.str [40]))]), none⟩]) (.cond (.t p19) (.seq (.reg [⟨(some p20), (.mov (.t p0)), none⟩, ⟨(some p21), (.call 81 [(.t p20)]), none⟩, ⟨none, (.store 7 (.t p2) (.t p21)), none⟩]) .ret) .skip)) (.seq (.reg [⟨(some p3), (.alloc 28 [(.int 63 0), (.str []), (.str []), (.ref 2 0 0 0 0 false), (.int 63 0), (.int 63 0), (.ref 2 0 0 0 0 false)]), none⟩]) (.seq (.seq (.reg [⟨(some p22), (.mov (.t p0)), none⟩, ⟨(some p23), (.call 37 [(.t p22), (.c (.str [33]))]), none⟩]) (.cond (.t p23) (.reg [⟨(some p24), (.fad 0 (.t p3)), none⟩, ⟨none, (.store 1 (.t p24) (.c (.int 63 2))), none⟩]) .skip)) (.seq (.reg [⟨(some p25), (.mov (.t p0)), none⟩, ⟨(some p26), (.call 38 [(.t p25)]), none⟩, ⟨(some p27), (.mov (.t p0)), none⟩, ⟨(some p28), (.call 38 [(.t p27)]), none⟩, ⟨(some p29), (.fad 1 (.t p3)), none⟩, ⟨none, (.store 1 (.t p29) (.t p26)), none⟩, ⟨(some p30), (.fad 2 (.t p3)), none⟩, ⟨none, (.store 1 (.t p30) (.t p28)), none⟩]) (.seq (.seq (.reg [⟨(some p31), (.fad 0 (.t p3)), none⟩, ⟨(some p32), (.load false 1 (.t p31)), none⟩, ⟨(some p33), (.bin .eql 63 (.t p32) (.c (.int 63 0))), none⟩, ⟨(some p34), (.mov (.t p33)), none⟩, ⟨(some p35), (.mov (.t p0)), (some (p34, true))⟩, ⟨(some p36), (.call 37 [(.t p35), (.c (.str [123]))]), (some (p34, true))⟩, ⟨(some p37), (.pick (.t p34) (.t p36) (.c (.bool false))), none⟩]) (.cond (.t p37) (.seq (.reg [⟨(some p38), (.fad 0 (.t p3)), none⟩, ⟨none, (.store 1 (.t p38) (.c (.int 63 1))), none⟩]) (.seq (.reg [⟨(some p39), (.mov (.t p0)), none⟩, ⟨(some p40), (.call 36 [(.t p39), (.c (.int 63 1)), (.c (.int 63 4))]), none⟩, ⟨(some p41), (.fad 4 (.t p3)), none⟩, ⟨none, (.store 1 (.t p41) (.t p40)), none⟩]) (.seq (.reg [⟨(some p42), (.mov (.t p0)), none⟩, ⟨(some p43), (.call 35 [(.t p42), (.c (.str [44]))]), none⟩]) (.seq (.reg [⟨(some p44), (.mov (.t p0)), none⟩, ⟨(some p45), (.fad 4 (.t p3)), none⟩, ⟨(some p46), (.load false 1 (.t p45)), none⟩, ⟨(some p47), (.call 36 [(.t p44), (.t p46), (.c (.int 63 4))]), none⟩, ⟨(some p48), (.fad 5 (.t p3)), none⟩, ⟨none, (.store 1 (.t p48) (.t p47)), none⟩]) (.reg [⟨(some p49), (.mov (.t p0)), none⟩, ⟨(some p50), (.call 35 [(.t p49), (.c (.str [125]))]), none⟩]))))) .skip)) (.seq (.seq (.reg [⟨(some p51), (.mov (.t p0)), none⟩, ⟨(some p52), (.call 37 [(.t p51), (.c (.str [91]))]), none⟩]) (.cond (.t p52) (.seq (.reg [⟨(some p53), (.mov (.t p0)), none⟩, ⟨(some p54), (.call 82 [(.t p53)]), none⟩, ⟨(some p55), (.bsl 30 1 [(.int 63 0), (.str []), (.int 63 0), (.str []), (.str []), (.ref 2 0 0 0 0 false)] [(0, (6, (.t p54)))]), none⟩, ⟨(some p56), (.fad 3 (.t p3)), none⟩, ⟨none, (.store 1 (.t p56) (.t p55)), none⟩]) (.reg [⟨(some p57), (.mov (.t p0)), none⟩, ⟨(some p58), (.call 35 [(.t p57), (.c (.str [93]))]), none⟩])) .skip)) (.seq (.reg [⟨(some p59), (.load true 7 (.t p3)), none⟩, ⟨none, (.store 7 (.t p2) (.t p59)), none⟩]) .ret))))))))))⟩
noncomputable def c57_0 : CEv := (cReg (step0 (some p2) (gE (iAlloc 28 [(.int 63 0), (.str []), (.str []), (.ref 2 0 0 0 0 false), (.int 63 0), (.int 63 0), (.ref 2 0 0 0 0 false)]))
   endG))
noncomputable def c57_1 : CEv := (cReg (step0 (some p4) (gMov (.t p0))
   (step0 (some p5) (gP (iNck (.t p4)))
   (step0 (some p6) (gP (iFad 3 (.t p5)))
   (step0 (some p7) (gP (iLoad false 1 (.t p6)))
   (step0 (some p8) (gP (iInt fGeq 63 (.t p7) (.c (.int 63 12))))
   endG))))))
noncomputable def c57_2 : CEv := (cCond (.t p8) (cReg (step0 (some p9) (gMov (.t p0))
   (step0 (some p10) (gCall 56 [(.t p9), (.c (.int 63 4))])
   endG)))
  cSkip)
noncomputable def c57_3 : CEv := (cReg (step0 (some p11) (gMov (.t p0))
   (step0 (some p12) (gP (iNck (.t p11)))
   (step0 (some p13) (gP (iFad 3 (.t p12)))
   (step0 (some p14) (gP (iLoad false 1 (.t p13)))
   (step0 (some p15) (gP (iInt fAdd 63 (.t p14) (.c (.int 63 1))))
   (step0 (some p16) (gP (iNck (.t p11)))
   (step0 (some p17) (gP (iFad 3 (.t p16)))
   (step0 none (gE (iStore 1 (.t p17) (.t p15)))
   endG)))))))))
noncomputable def c57_4 : CEv := (cReg (step0 (some p18) (gMov (.t p0))
   (step0 (some p19) (gCall 37 [(.t p18), (.c (.str [40]))])
   endG)))
noncomputable def c57_5 : CEv := (cCond (.t p19) (cSeq (cReg (step0 (some p20) (gMov (.t p0))
   (step0 (some p21) (gCall 81 [(.t p20)])
   (step0 none (gE (iStore 7 (.t p2) (.t p21)))
   endG))))
  cRet)
  cSkip)
noncomputable def c57_6 : CEv := (cReg (step0 (some p3) (gE (iAlloc 28 [(.int 63 0), (.str []), (.str []), (.ref 2 0 0 0 0 false), (.int 63 0), (.int 63 0), (.ref 2 0 0 0 0 false)]))
   endG))
noncomputable def c57_7 : CEv := (cReg (step0 (some p22) (gMov (.t p0))
   (step0 (some p23) (gCall 37 [(.t p22), (.c (.str [33]))])
   endG)))
noncomputable def c57_8 : CEv := (cCond (.t p23) (cReg (step0 (some p24) (gP (iFad 0 (.t p3)))
   (step0 none (gE (iStore 1 (.t p24) (.c (.int 63 2))))
   endG)))
  cSkip)
noncomputable def c57_9 : CEv := (cReg (step0 (some p25) (gMov (.t p0))
   (step0 (some p26) (gCall 38 [(.t p25)])
   (step0 (some p27) (gMov (.t p0))
   (step0 (some p28) (gCall 38 [(.t p27)])
   (step0 (some p29) (gP (iFad 1 (.t p3)))
   (step0 none (gE (iStore 1 (.t p29) (.t p26)))
   (step0 (some p30) (gP (iFad 2 (.t p3)))
   (step0 none (gE (iStore 1 (.t p30) (.t p28)))
   endG)))))))))
noncomputable def c57_10 : CEv := (cReg (step0 (some p31) (gP (iFad 0 (.t p3)))
   (step0 (some p32) (gP (iLoad false 1 (.t p31)))
   (step0 (some p33) (gP (iInt fEql 63 (.t p32) (.c (.int 63 0))))
   (step0 (some p34) (gMov (.t p33))
   (stepG (some p35) (gMov (.t p0)) (some (p34, true))
   (stepG (some p36) (gCall 37 [(.t p35), (.c (.str [123]))]) (some (p34, true))
   (step0 (some p37) (gP (iPick (.t p34) (.t p36) (.c (.bool false))))
   endG))))))))
noncomputable def c57_11 : CEv := (cCond (.t p37) (cSeq (cReg (step0 (some p38) (gP (iFad 0 (.t p3)))
   (step0 none (gE (iStore 1 (.t p38) (.c (.int 63 1))))
   endG)))
  (cSeq (cReg (step0 (some p39) (gMov (.t p0))
   (step0 (some p40) (gCall 36 [(.t p39), (.c (.int 63 1)), (.c (.int 63 4))])
   (step0 (some p41) (gP (iFad 4 (.t p3)))
   (step0 none (gE (iStore 1 (.t p41) (.t p40)))
   endG)))))
  (cSeq (cReg (step0 (some p42) (gMov (.t p0))
   (step0 (some p43) (gCall 35 [(.t p42), (.c (.str [44]))])
   endG)))
  (cSeq (cReg (step0 (some p44) (gMov (.t p0))
   (step0 (some p45) (gP (iFad 4 (.t p3)))
   (step0 (some p46) (gP (iLoad false 1 (.t p45)))
   (step0 (some p47) (gCall 36 [(.t p44), (.t p46), (.c (.int 63 4))])
   (step0 (some p48) (gP (iFad 5 (.t p3)))
   (step0 none (gE (iStore 1 (.t p48) (.t p47)))
   endG)))))))
  (cReg (step0 (some p49) (gMov (.t p0))
   (step0 (some p50) (gCall 35 [(.t p49), (.c (.str [125]))])
   endG)))))))
  cSkip)
noncomputable def c57_12 : CEv := (cReg (step0 (some p51) (gMov (.t p0))
   (step0 (some p52) (gCall 37 [(.t p51), (.c (.str [91]))])
   endG)))
noncomputable def c57_13 : CEv := (cCond (.t p52) (cSeq (cReg (step0 (some p53) (gMov (.t p0))
   (step0 (some p54) (gCall 82 [(.t p53)])
   (step0 (some p55) (gE (iBsl 30 1 [(.int 63 0), (.str []), (.int 63 0), (.str []), (.str []), (.ref 2 0 0 0 0 false)] [(0, (6, (.t p54)))]))
   (step0 (some p56) (gP (iFad 3 (.t p3)))
   (step0 none (gE (iStore 1 (.t p56) (.t p55)))
   endG))))))
  (cReg (step0 (some p57) (gMov (.t p0))
   (step0 (some p58) (gCall 35 [(.t p57), (.c (.str [93]))])
   endG))))
  cSkip)
noncomputable def c57_14 : CEv := (cReg (step0 (some p59) (gP (iLoad true 7 (.t p3)))
   (step0 none (gE (iStore 7 (.t p2) (.t p59)))
   endG)))
noncomputable def sh57 : Fs := .mk [(.m p2 true 7)]
  (cSeq c57_0
  (cSeq (cSeq c57_1
  c57_2)
  (cSeq c57_3
  (cSeq (cSeq c57_4
  c57_5)
  (cSeq c57_6
  (cSeq (cSeq c57_7
  c57_8)
  (cSeq c57_9
  (cSeq (cSeq c57_10
  c57_11)
  (cSeq (cSeq c57_12
  c57_13)
  (cSeq c57_14
  cRet))))))))))
def ir58 : Fn := ⟨16, [(.m p2 true 4)], (.seq (.reg [⟨(some p2), (.alloc 95 [(.int 63 0), (.str []), (.int 63 0), (.int 63 0)]), none⟩]) (.seq (.seq (.reg [⟨(some p3), (.mov (.t p0)), none⟩, ⟨(some p4), (.nck (.t p3)), none⟩, ⟨(some p5), (.fad 0 (.t p4)), none⟩, ⟨(some p6), (.load false 1 (.t p5)), none⟩, ⟨(some p7), (.len 1 (.t p6)), none⟩, ⟨(some p8), (.bin .eql 63 (.t p7) (.c (.int 63 0))), none⟩]) (.cond (.t p8) (.seq (.reg [⟨(some p9), (.build [(.int 63 0), (.str []), (.int 63 0), (.int 63 0)] []), none⟩, ⟨none, (.store 4 (.t p2) (.t p9)), none⟩]) .ret) .skip)) (.seq (.reg [⟨(some p10), (.mov (.t p0)), none⟩, ⟨(some p11), (.nck (.t p10)), none⟩, ⟨(some p12), (.fad 0 (.t p11)), none⟩, ⟨(some p13), (.load false 1 (.t p12)), none⟩, ⟨(some p14), (.iad 4 (.t p13) (.c (.int 63 0))), none⟩, ⟨(some p15), (.load true 4 (.t p14)), none⟩, ⟨none, (.store 4 (.t p2) (.t p15)), none⟩]) .ret)))⟩
noncomputable def c58_0 : CEv := (cReg (step0 (some p2) (gE (iAlloc 95 [(.int 63 0), (.str []), (.int 63 0), (.int 63 0)]))
   endG))
noncomputable def c58_1 : CEv := (cReg (step0 (some p3) (gMov (.t p0))
   (step0 (some p4) (gP (iNck (.t p3)))
   (step0 (some p5) (gP (iFad 0 (.t p4)))
   (step0 (some p6) (gP (iLoad false 1 (.t p5)))
   (step0 (some p7) (gP (iLenL (.t p6)))
   (step0 (some p8) (gP (iInt fEql 63 (.t p7) (.c (.int 63 0))))
   endG)))))))
noncomputable def c58_2 : CEv := (cCond (.t p8) (cSeq (cReg (step0 (some p9) (gP (iBuild [(.int 63 0), (.str []), (.int 63 0), (.int 63 0)] []))
   (step0 none (gE (iStore 4 (.t p2) (.t p9)))
   endG)))
  cRet)
  cSkip)
noncomputable def c58_3 : CEv := (cReg (step0 (some p10) (gMov (.t p0))
   (step0 (some p11) (gP (iNck (.t p10)))
   (step0 (some p12) (gP (iFad 0 (.t p11)))
   (step0 (some p13) (gP (iLoad false 1 (.t p12)))
   (step0 (some p14) (gP (iIad 4 (.t p13) (.c (.int 63 0))))
   (step0 (some p15) (gP (iLoad true 4 (.t p14)))
   (step0 none (gE (iStore 4 (.t p2) (.t p15)))
   endG))))))))
noncomputable def sh58 : Fs := .mk [(.m p2 true 4)]
  (cSeq c58_0
  (cSeq (cSeq c58_1
  c58_2)
  (cSeq c58_3
  cRet)))
def ir59 : Fn := ⟨23, [(.m p4 true 4)], (.seq (.reg [⟨(some p4), (.alloc 95 [(.int 63 0), (.str []), (.int 63 0), (.int 63 0)]), none⟩]) (.seq (.reg [⟨(some p6), (.mov (.t p0)), none⟩, ⟨(some p7), (.call 58 [(.t p6)]), none⟩, ⟨(some p5), (.alloc 95 [(.int 63 0), (.str []), (.int 63 0), (.int 63 0)]), none⟩, ⟨none, (.store 4 (.t p5) (.t p7)), none⟩]) (.seq (.reg [⟨(some p8), (.mov (.t p0)), none⟩, ⟨(some p9), (.fad 0 (.t p5)), none⟩, ⟨(some p10), (.load false 1 (.t p9)), none⟩, ⟨(some p11), (.mov (.t p1)), none⟩, ⟨(some p12), (.bin .eql 63 (.t p10) (.t p11)), none⟩, ⟨(some p13), (.call 33 [(.t p8), (.t p12)]), none⟩]) (.seq (.reg [⟨(some p14), (.mov (.t p0)), none⟩, ⟨(some p15), (.mov (.t p0)), none⟩, ⟨(some p16), (.nck (.t p15)), none⟩, ⟨(some p17), (.fad 0 (.t p16)), none⟩, ⟨(some p18), (.load false 1 (.t p17)), none⟩, ⟨(some p19), (.sll 95 4 (.t p18) (some (.c (.int 63 1))) none none), none⟩, ⟨(some p20), (.nck (.t p14)), none⟩, ⟨(some p21), (.fad 0 (.t p20)), none⟩, ⟨none, (.store 1 (.t p21) (.t p19)), none⟩]) (.seq (.reg [⟨(some p22), (.load true 4 (.t p5)), none⟩, ⟨none, (.store 4 (.t p4) (.t p22)), none⟩]) .ret)))))⟩
noncomputable def c59_0 : CEv := (cReg (step0 (some p4) (gE (iAlloc 95 [(.int 63 0), (.str []), (.int 63 0), (.int 63 0)]))
   endG))
noncomputable def c59_1 : CEv := (cReg (step0 (some p6) (gMov (.t p0))
   (step0 (some p7) (gCall 58 [(.t p6)])
   (step0 (some p5) (gE (iAlloc 95 [(.int 63 0), (.str []), (.int 63 0), (.int 63 0)]))
   (step0 none (gE (iStore 4 (.t p5) (.t p7)))
   endG)))))
noncomputable def c59_2 : CEv := (cReg (step0 (some p8) (gMov (.t p0))
   (step0 (some p9) (gP (iFad 0 (.t p5)))
   (step0 (some p10) (gP (iLoad false 1 (.t p9)))
   (step0 (some p11) (gMov (.t p1))
   (step0 (some p12) (gP (iInt fEql 63 (.t p10) (.t p11)))
   (step0 (some p13) (gCall 33 [(.t p8), (.t p12)])
   endG)))))))
noncomputable def c59_3 : CEv := (cReg (step0 (some p14) (gMov (.t p0))
   (step0 (some p15) (gMov (.t p0))
   (step0 (some p16) (gP (iNck (.t p15)))
   (step0 (some p17) (gP (iFad 0 (.t p16)))
   (step0 (some p18) (gP (iLoad false 1 (.t p17)))
   (step0 (some p19) (gP (iSll 95 4 (.t p18) (some (.c (.int 63 1))) none none))
   (step0 (some p20) (gP (iNck (.t p14)))
   (step0 (some p21) (gP (iFad 0 (.t p20)))
   (step0 none (gE (iStore 1 (.t p21) (.t p19)))
   endG))))))))))
noncomputable def c59_4 : CEv := (cReg (step0 (some p22) (gP (iLoad true 4 (.t p5)))
   (step0 none (gE (iStore 4 (.t p4) (.t p22)))
   endG)))
noncomputable def sh59 : Fs := .mk [(.m p4 true 4)]
  (cSeq c59_0
  (cSeq c59_1
  (cSeq c59_2
  (cSeq c59_3
  (cSeq c59_4
  cRet)))))
def ir60 : Fn := ⟨22, [(.t p4)], (.seq (.reg [⟨(some p4), (.mov (.c (.bool false))), none⟩]) (.seq (.reg [⟨(some p6), (.mov (.t p0)), none⟩, ⟨(some p7), (.call 58 [(.t p6)]), none⟩, ⟨(some p5), (.alloc 95 [(.int 63 0), (.str []), (.int 63 0), (.int 63 0)]), none⟩, ⟨none, (.store 4 (.t p5) (.t p7)), none⟩]) (.seq (.reg [⟨(some p8), (.fad 0 (.t p5)), none⟩, ⟨(some p9), (.load false 1 (.t p8)), none⟩, ⟨(some p10), (.bin .eql 63 (.t p9) (.c (.int 63 3))), none⟩, ⟨(some p11), (.mov (.t p10)), none⟩, ⟨(some p12), (.fad 0 (.t p5)), (some (p11, false))⟩, ⟨(some p13), (.load false 1 (.t p12)), (some (p11, false))⟩, ⟨(some p14), (.bin .eql 63 (.t p13) (.c (.int 63 4))), (some (p11, false))⟩, ⟨(some p15), (.pick (.t p11) (.c (.bool true)) (.t p14)), none⟩, ⟨(some p16), (.mov (.t p15)), none⟩, ⟨(some p17), (.fad 1 (.t p5)), (some (p16, true))⟩, ⟨(some p18), (.load false 1 (.t p17)), (some (p16, true))⟩, ⟨(some p19), (.mov (.t p1)), (some (p16, true))⟩, ⟨(some p20), (.bin .eql 100 (.t p18) (.t p19)), (some (p16, true))⟩, ⟨(some p21), (.pick (.t p16) (.t p20) (.c (.bool false))), none⟩, ⟨(some p4), (.mov (.t p21)), none⟩]) .ret)))⟩
noncomputable def c60_0 : CEv := (cReg (step0 (some p4) (gMov (.c (.bool false)))
   endG))
noncomputable def c60_1 : CEv := (cReg (step0 (some p6) (gMov (.t p0))
   (step0 (some p7) (gCall 58 [(.t p6)])
   (step0 (some p5) (gE (iAlloc 95 [(.int 63 0), (.str []), (.int 63 0), (.int 63 0)]))
   (step0 none (gE (iStore 4 (.t p5) (.t p7)))
   endG)))))
noncomputable def c60_2 : CEv := (cReg (step0 (some p8) (gP (iFad 0 (.t p5)))
   (step0 (some p9) (gP (iLoad false 1 (.t p8)))
   (step0 (some p10) (gP (iInt fEql 63 (.t p9) (.c (.int 63 3))))
   (step0 (some p11) (gMov (.t p10))
   (stepG (some p12) (gP (iFad 0 (.t p5))) (some (p11, false))
   (stepG (some p13) (gP (iLoad false 1 (.t p12))) (some (p11, false))
   (stepG (some p14) (gP (iInt fEql 63 (.t p13) (.c (.int 63 4)))) (some (p11, false))
   (step0 (some p15) (gP (iPick (.t p11) (.c (.bool true)) (.t p14)))
   (step0 (some p16) (gMov (.t p15))
   (stepG (some p17) (gP (iFad 1 (.t p5))) (some (p16, true))
   (stepG (some p18) (gP (iLoad false 1 (.t p17))) (some (p16, true))
   (stepG (some p19) (gMov (.t p1)) (some (p16, true))
   (stepG (some p20) (gP (iStr sEql (.t p18) (.t p19))) (some (p16, true))
   (step0 (some p21) (gP (iPick (.t p16) (.t p20) (.c (.bool false))))
   (step0 (some p4) (gMov (.t p21))
   endG))))))))))))))))
noncomputable def sh60 : Fs := .mk [(.t p4)]
  (cSeq c60_0
  (cSeq c60_1
  (cSeq c60_2
  cRet)))
def ir61 : Fn := ⟨16, [], (.seq (.reg [⟨(some p2), (.mov (.t p0)), none⟩, ⟨(some p3), (.nck (.t p2)), none⟩, ⟨(some p4), (.fad 2 (.t p3)), none⟩, ⟨(some p5), (.load false 1 (.t p4)), none⟩, ⟨(some p6), (.bin .add 63 (.t p5) (.c (.int 63 1))), none⟩, ⟨(some p7), (.nck (.t p2)), none⟩, ⟨(some p8), (.fad 2 (.t p7)), none⟩, ⟨none, (.store 1 (.t p8) (.t p6)), none⟩]) (.seq (.reg [⟨(some p9), (.mov (.t p0)), none⟩, ⟨(some p10), (.nck (.t p9)), none⟩, ⟨(some p11), (.fad 2 (.t p10)), none⟩, ⟨(some p12), (.load false 1 (.t p11)), none⟩, ⟨(some p13), (.bin .gtr 63 (.t p12) (.c (.int 63 16))), none⟩]) (.cond (.t p13) (.reg [⟨(some p14), (.mov (.t p0)), none⟩, ⟨(some p15), (.call 56 [(.t p14), (.c (.int 63 4))]), none⟩]) .skip)))⟩
noncomputable def c61_0 : CEv := (cReg (step0 (some p2) (gMov (.t p0))
   (step0 (some p3) (gP (iNck (.t p2)))
   (step0 (some p4) (gP (iFad 2 (.t p3)))
   (step0 (some p5) (gP (iLoad false 1 (.t p4)))
   (step0 (some p6) (gP (iInt fAdd 63 (.t p5) (.c (.int 63 1))))
   (step0 (some p7) (gP (iNck (.t p2)))
   (step0 (some p8) (gP (iFad 2 (.t p7)))
   (step0 none (gE (iStore 1 (.t p8) (.t p6)))
   endG)))))))))
noncomputable def c61_1 : CEv := (cReg (step0 (some p9) (gMov (.t p0))
   (step0 (some p10) (gP (iNck (.t p9)))
   (step0 (some p11) (gP (iFad 2 (.t p10)))
   (step0 (some p12) (gP (iLoad false 1 (.t p11)))
   (step0 (some p13) (gP (iInt fGtr 63 (.t p12) (.c (.int 63 16))))
   endG))))))
noncomputable def c61_2 : CEv := (cCond (.t p13) (cReg (step0 (some p14) (gMov (.t p0))
   (step0 (some p15) (gCall 56 [(.t p14), (.c (.int 63 4))])
   endG)))
  cSkip)
noncomputable def sh61 : Fs := .mk []
  (cSeq c61_0
  (cSeq c61_1
  c61_2))
def ir62 : Fn := ⟨59, [(.t p2)], (.seq (.reg [⟨(some p2), (.mov (.c (.int 64 0))), none⟩]) (.seq (.cond (.c (.bool false)) (.seq (.draw [p3, p4, p5, p6, p7, p8, p9, p10, p11, p12, p13, p14, p15, p16, p17, p18, p19, p20, p2] [⟨0, 0, [], [p0], ⟨(some p3), (.mov (.t p0)), none⟩⟩, ⟨0, 1, [], [p3], ⟨(some p4), (.ixs (.t p3) (.c (.int 63 0))), none⟩⟩, ⟨0, 2, [], [p4], ⟨(some p5), (.cvi 64 (.t p4)), none⟩⟩, ⟨0, 3, [], [p0], ⟨(some p6), (.mov (.t p0)), none⟩⟩, ⟨0, 4, [], [p6], ⟨(some p7), (.ixs (.t p6) (.c (.int 63 1))), none⟩⟩, ⟨0, 5, [], [p7], ⟨(some p8), (.cvi 64 (.t p7)), none⟩⟩, ⟨0, 6, [], [p8], ⟨(some p9), (.bin .shl 64 (.t p8) (.c (.int 64 8))), none⟩⟩, ⟨0, 7, [], [p5, p9], ⟨(some p10), (.bin .or 64 (.t p5) (.t p9)), none⟩⟩, ⟨0, 8, [], [p0], ⟨(some p11), (.mov (.t p0)), none⟩⟩, ⟨0, 9, [], [p11], ⟨(some p12), (.ixs (.t p11) (.c (.int 63 2))), none⟩⟩, ⟨0, 10, [], [p12], ⟨(some p13), (.cvi 64 (.t p12)), none⟩⟩, ⟨0, 11, [], [p13], ⟨(some p14), (.bin .shl 64 (.t p13) (.c (.int 64 16))), none⟩⟩, ⟨0, 12, [], [p10, p14], ⟨(some p15), (.bin .or 64 (.t p10) (.t p14)), none⟩⟩, ⟨0, 13, [], [p0], ⟨(some p16), (.mov (.t p0)), none⟩⟩, ⟨0, 14, [], [p16], ⟨(some p17), (.ixs (.t p16) (.c (.int 63 3))), none⟩⟩, ⟨0, 15, [], [p17], ⟨(some p18), (.cvi 64 (.t p17)), none⟩⟩, ⟨0, 16, [], [p18], ⟨(some p19), (.bin .shl 64 (.t p18) (.c (.int 64 24))), none⟩⟩, ⟨0, 17, [], [p15, p19], ⟨(some p20), (.bin .or 64 (.t p15) (.t p19)), none⟩⟩, ⟨0, 18, [], [p20], ⟨(some p2), (.mov (.t p20)), none⟩⟩]) .ret) .skip) (.seq (.draw [p21, p22, p23, p24, p25, p26, p27, p28, p29, p30, p31, p32, p33, p34, p35, p36, p37, p38, p39, p40, p41, p42, p43, p44, p45, p46, p47, p48, p49, p50, p51, p52, p53, p54, p55, p56, p57, p58, p2] [⟨0, 0, [], [p0], ⟨(some p21), (.mov (.t p0)), none⟩⟩, ⟨0, 1, [], [p21], ⟨(some p22), (.ixs (.t p21) (.c (.int 63 0))), none⟩⟩, ⟨0, 2, [], [p22], ⟨(some p23), (.cvi 64 (.t p22)), none⟩⟩, ⟨0, 3, [], [p0], ⟨(some p24), (.mov (.t p0)), none⟩⟩, ⟨0, 4, [], [p24], ⟨(some p25), (.ixs (.t p24) (.c (.int 63 1))), none⟩⟩, ⟨0, 5, [], [p25], ⟨(some p26), (.cvi 64 (.t p25)), none⟩⟩, ⟨0, 6, [], [p26], ⟨(some p27), (.bin .shl 64 (.t p26) (.c (.int 64 8))), none⟩⟩, ⟨0, 7, [], [p23, p27], ⟨(some p28), (.bin .or 64 (.t p23) (.t p27)), none⟩⟩, ⟨0, 8, [], [p0], ⟨(some p29), (.mov (.t p0)), none⟩⟩, ⟨0, 9, [], [p29], ⟨(some p30), (.ixs (.t p29) (.c (.int 63 2))), none⟩⟩, ⟨0, 10, [], [p30], ⟨(some p31), (.cvi 64 (.t p30)), none⟩⟩, ⟨0, 11, [], [p31], ⟨(some p32), (.bin .shl 64 (.t p31) (.c (.int 64 16))), none⟩⟩, ⟨0, 12, [], [p28, p32], ⟨(some p33), (.bin .or 64 (.t p28) (.t p32)), none⟩⟩, ⟨0, 13, [], [p0], ⟨(some p34), (.mov (.t p0)), none⟩⟩, ⟨0, 14, [], [p34], ⟨(some p35), (.ixs (.t p34) (.c (.int 63 3))), none⟩⟩, ⟨0, 15, [], [p35], ⟨(some p36), (.cvi 64 (.t p35)), none⟩⟩, ⟨0, 16, [], [p36], ⟨(some p37), (.bin .shl 64 (.t p36) (.c (.int 64 24))), none⟩⟩, ⟨0, 17, [], [p33, p37], ⟨(some p38), (.bin .or 64 (.t p33) (.t p37)), none⟩⟩, ⟨0, 18, [], [p0], ⟨(some p39), (.mov (.t p0)), none⟩⟩, ⟨0, 19, [], [p39], ⟨(some p40), (.ixs (.t p39) (.c (.int 63 4))), none⟩⟩, ⟨0, 20, [], [p40], ⟨(some p41), (.cvi 64 (.t p40)), none⟩⟩, ⟨0, 21, [], [p41], ⟨(some p42), (.bin .shl 64 (.t p41) (.c (.int 64 32))), none⟩⟩, ⟨0, 22, [], [p38, p42], ⟨(some p43), (.bin .or 64 (.t p38) (.t p42)), none⟩⟩, ⟨0, 23, [], [p0], ⟨(some p44), (.mov (.t p0)), none⟩⟩, ⟨0, 24, [], [p44], ⟨(some p45), (.ixs (.t p44) (.c (.int 63 5))), none⟩⟩, ⟨0, 25, [], [p45], ⟨(some p46), (.cvi 64 (.t p45)), none⟩⟩, ⟨0, 26, [], [p46], ⟨(some p47), (.bin .shl 64 (.t p46) (.c (.int 64 40))), none⟩⟩, ⟨0, 27, [], [p43, p47], ⟨(some p48), (.bin .or 64 (.t p43) (.t p47)), none⟩⟩, ⟨0, 28, [], [p0], ⟨(some p49), (.mov (.t p0)), none⟩⟩, ⟨0, 29, [], [p49], ⟨(some p50), (.ixs (.t p49) (.c (.int 63 6))), none⟩⟩, ⟨0, 30, [], [p50], ⟨(some p51), (.cvi 64 (.t p50)), none⟩⟩, ⟨0, 31, [], [p51], ⟨(some p52), (.bin .shl 64 (.t p51) (.c (.int 64 48))), none⟩⟩, ⟨0, 32, [], [p48, p52], ⟨(some p53), (.bin .or 64 (.t p48) (.t p52)), none⟩⟩, ⟨0, 33, [], [p0], ⟨(some p54), (.mov (.t p0)), none⟩⟩, ⟨0, 34, [], [p54], ⟨(some p55), (.ixs (.t p54) (.c (.int 63 7))), none⟩⟩, ⟨0, 35, [], [p55], ⟨(some p56), (.cvi 64 (.t p55)), none⟩⟩, ⟨0, 36, [], [p56], ⟨(some p57), (.bin .shl 64 (.t p56) (.c (.int 64 56))), none⟩⟩, ⟨0, 37, [], [p53, p57], ⟨(some p58), (.bin .or 64 (.t p53) (.t p57)), none⟩⟩, ⟨0, 38, [], [p58], ⟨(some p2), (.mov (.t p58)), none⟩⟩]) .ret)))⟩
noncomputable def c62_0 : CEv := (cReg (step0 (some p2) (gMov (.c (.int 64 0)))
   endG))
noncomputable def c62_1 : CEv := (cCond (.c (.bool false)) (cSeq (cDraw [p3, p4, p5, p6, p7, p8, p9, p10, p11, p12, p13, p14, p15, p16, p17, p18, p19, p20, p2] (stepR [p0] (some p3) (gMov (.t p0)) none
   (stepR [p3] (some p4) (gP (iIxs (.t p3) (.c (.int 63 0)))) none
   (stepR [p4] (some p5) (gP (iCvi 64 (.t p4))) none
   (stepR [p0] (some p6) (gMov (.t p0)) none
   (stepR [p6] (some p7) (gP (iIxs (.t p6) (.c (.int 63 1)))) none
   (stepR [p7] (some p8) (gP (iCvi 64 (.t p7))) none
   (stepR [p8] (some p9) (gP (iSh fShl 64 (.t p8) (.c (.int 64 8)))) none
   (stepR [p5, p9] (some p10) (gP (iInt fOr 64 (.t p5) (.t p9))) none
   (stepR [p0] (some p11) (gMov (.t p0)) none
   (stepR [p11] (some p12) (gP (iIxs (.t p11) (.c (.int 63 2)))) none
   (stepR [p12] (some p13) (gP (iCvi 64 (.t p12))) none
   (stepR [p13] (some p14) (gP (iSh fShl 64 (.t p13) (.c (.int 64 16)))) none
   (stepR [p10, p14] (some p15) (gP (iInt fOr 64 (.t p10) (.t p14))) none
   (stepR [p0] (some p16) (gMov (.t p0)) none
   (stepR [p16] (some p17) (gP (iIxs (.t p16) (.c (.int 63 3)))) none
   (stepR [p17] (some p18) (gP (iCvi 64 (.t p17))) none
   (stepR [p18] (some p19) (gP (iSh fShl 64 (.t p18) (.c (.int 64 24)))) none
   (stepR [p15, p19] (some p20) (gP (iInt fOr 64 (.t p15) (.t p19))) none
   (stepR [p20] (some p2) (gMov (.t p20)) none
   endD))))))))))))))))))))
  cRet)
  cSkip)
noncomputable def c62_2 : CEv := (cDraw [p21, p22, p23, p24, p25, p26, p27, p28, p29, p30, p31, p32, p33, p34, p35, p36, p37, p38, p39, p40, p41, p42, p43, p44, p45, p46, p47, p48, p49, p50, p51, p52, p53, p54, p55, p56, p57, p58, p2] (stepR [p0] (some p21) (gMov (.t p0)) none
   (stepR [p21] (some p22) (gP (iIxs (.t p21) (.c (.int 63 0)))) none
   (stepR [p22] (some p23) (gP (iCvi 64 (.t p22))) none
   (stepR [p0] (some p24) (gMov (.t p0)) none
   (stepR [p24] (some p25) (gP (iIxs (.t p24) (.c (.int 63 1)))) none
   (stepR [p25] (some p26) (gP (iCvi 64 (.t p25))) none
   (stepR [p26] (some p27) (gP (iSh fShl 64 (.t p26) (.c (.int 64 8)))) none
   (stepR [p23, p27] (some p28) (gP (iInt fOr 64 (.t p23) (.t p27))) none
   (stepR [p0] (some p29) (gMov (.t p0)) none
   (stepR [p29] (some p30) (gP (iIxs (.t p29) (.c (.int 63 2)))) none
   (stepR [p30] (some p31) (gP (iCvi 64 (.t p30))) none
   (stepR [p31] (some p32) (gP (iSh fShl 64 (.t p31) (.c (.int 64 16)))) none
   (stepR [p28, p32] (some p33) (gP (iInt fOr 64 (.t p28) (.t p32))) none
   (stepR [p0] (some p34) (gMov (.t p0)) none
   (stepR [p34] (some p35) (gP (iIxs (.t p34) (.c (.int 63 3)))) none
   (stepR [p35] (some p36) (gP (iCvi 64 (.t p35))) none
   (stepR [p36] (some p37) (gP (iSh fShl 64 (.t p36) (.c (.int 64 24)))) none
   (stepR [p33, p37] (some p38) (gP (iInt fOr 64 (.t p33) (.t p37))) none
   (stepR [p0] (some p39) (gMov (.t p0)) none
   (stepR [p39] (some p40) (gP (iIxs (.t p39) (.c (.int 63 4)))) none
   (stepR [p40] (some p41) (gP (iCvi 64 (.t p40))) none
   (stepR [p41] (some p42) (gP (iSh fShl 64 (.t p41) (.c (.int 64 32)))) none
   (stepR [p38, p42] (some p43) (gP (iInt fOr 64 (.t p38) (.t p42))) none
   (stepR [p0] (some p44) (gMov (.t p0)) none
   (stepR [p44] (some p45) (gP (iIxs (.t p44) (.c (.int 63 5)))) none
   (stepR [p45] (some p46) (gP (iCvi 64 (.t p45))) none
   (stepR [p46] (some p47) (gP (iSh fShl 64 (.t p46) (.c (.int 64 40)))) none
   (stepR [p43, p47] (some p48) (gP (iInt fOr 64 (.t p43) (.t p47))) none
   (stepR [p0] (some p49) (gMov (.t p0)) none
   (stepR [p49] (some p50) (gP (iIxs (.t p49) (.c (.int 63 6)))) none
   (stepR [p50] (some p51) (gP (iCvi 64 (.t p50))) none
   (stepR [p51] (some p52) (gP (iSh fShl 64 (.t p51) (.c (.int 64 48)))) none
   (stepR [p48, p52] (some p53) (gP (iInt fOr 64 (.t p48) (.t p52))) none
   (stepR [p0] (some p54) (gMov (.t p0)) none
   (stepR [p54] (some p55) (gP (iIxs (.t p54) (.c (.int 63 7)))) none
   (stepR [p55] (some p56) (gP (iCvi 64 (.t p55))) none
   (stepR [p56] (some p57) (gP (iSh fShl 64 (.t p56) (.c (.int 64 56)))) none
   (stepR [p53, p57] (some p58) (gP (iInt fOr 64 (.t p53) (.t p57))) none
   (stepR [p58] (some p2) (gMov (.t p58)) none
   endD))))))))))))))))))))))))))))))))))))))))
noncomputable def sh62 : Fs := .mk [(.t p2)]
  (cSeq c62_0
  (cSeq c62_1
  (cSeq c62_2
  cRet)))
def ir63 : Fn := ⟨8, [(.t p3)], (.seq (.reg [⟨(some p2), (.box 28 (.t p0)), none⟩, ⟨(some p3), (.mov (.c (.bool false))), none⟩]) (.seq (.reg [⟨(some p4), (.load false 1 (.t p1)), none⟩, ⟨(some p5), (.load true 7 (.t p2)), none⟩, ⟨(some p6), (.dyn (.t p4) [(.t p5)]), none⟩, ⟨(some p7), (.un .not 101 (.t p6)), none⟩, ⟨(some p3), (.mov (.t p7)), none⟩]) .ret))⟩
noncomputable def c63_0 : CEv := (cReg (step0 (some p2) (gE (iBox 28 (.t p0)))
   (step0 (some p3) (gMov (.c (.bool false)))
   endG)))
noncomputable def c63_1 : CEv := (cReg (step0 (some p4) (gP (iLoad false 1 (.t p1)))
   (step0 (some p5) (gP (iLoad true 7 (.t p2)))
   (step0 (some p6) (gDyn (.t p4) [(.t p5)])
   (step0 (some p7) (gP (iNot (.t p6)))
   (step0 (some p3) (gMov (.t p7))
   endG))))))
noncomputable def sh63 : Fs := .mk [(.t p3)]
  (cSeq c63_0
  (cSeq c63_1
  cRet))
def ir64 : Fn := ⟨9, [(.t p4)], (.seq (.reg [⟨(some p3), (.box 48 (.t p1)), none⟩, ⟨(some p4), (.mov (.c (.bool false))), none⟩]) (.seq (.reg [⟨(some p5), (.mov (.t p0)), none⟩, ⟨(some p6), (.mkf 83 [(.t p3)]), none⟩, ⟨(some p7), (.call 28 [(.t p5), (.t p6)]), none⟩, ⟨(some p8), (.un .not 101 (.t p7)), none⟩, ⟨(some p4), (.mov (.t p8)), none⟩]) .ret))⟩
noncomputable def c64_0 : CEv := (cReg (step0 (some p3) (gE (iBox 48 (.t p1)))
   (step0 (some p4) (gMov (.c (.bool false)))
   endG)))
noncomputable def c64_1 : CEv := (cReg (step0 (some p5) (gMov (.t p0))
   (step0 (some p6) (gP (iMkf 83 [(.t p3)]))
   (step0 (some p7) (gCall 28 [(.t p5), (.t p6)])
   (step0 (some p8) (gP (iNot (.t p7)))
   (step0 (some p4) (gMov (.t p8))
   endG))))))
noncomputable def sh64 : Fs := .mk [(.t p4)]
  (cSeq c64_0
  (cSeq c64_1
  cRet))
def ir65 : Fn := ⟨9, [(.t p4)], (.seq (.reg [⟨(some p3), (.box 109 (.t p1)), none⟩, ⟨(some p4), (.mov (.c (.bool false))), none⟩]) (.seq (.reg [⟨(some p5), (.mov (.t p0)), none⟩, ⟨(some p6), (.mkf 84 [(.t p3)]), none⟩, ⟨(some p7), (.call 68 [(.t p5), (.t p6)]), none⟩, ⟨(some p8), (.un .not 101 (.t p7)), none⟩, ⟨(some p4), (.mov (.t p8)), none⟩]) .ret))⟩
noncomputable def c65_0 : CEv := (cReg (step0 (some p3) (gE (iBox 109 (.t p1)))
   (step0 (some p4) (gMov (.c (.bool false)))
   endG)))
noncomputable def c65_1 : CEv := (cReg (step0 (some p5) (gMov (.t p0))
   (step0 (some p6) (gP (iMkf 84 [(.t p3)]))
   (step0 (some p7) (gCall 68 [(.t p5), (.t p6)])
   (step0 (some p8) (gP (iNot (.t p7)))
   (step0 (some p4) (gMov (.t p8))
   endG))))))
noncomputable def sh65 : Fs := .mk [(.t p4)]
  (cSeq c65_0
  (cSeq c65_1
  cRet))
def ir66 : Fn := ⟨48, [(.t p2)], (.seq (.reg [⟨(some p1), (.box 30 (.t p0)), none⟩, ⟨(some p2), (.mov (.c (.bool false))), none⟩]) (.seq (.reg [⟨(some p6), (.load true 6 (.t p1)), none⟩, ⟨(some p7), (.call 85 [(.t p6)]), none⟩, ⟨(some p5), (.mov (.t p7)), none⟩, ⟨(some p8), (.ext (.t p5) 0), none⟩, ⟨(some p9), (.ext (.t p5) 1), none⟩, ⟨(some p3), (.alloc 122 [(.bool false), (.bool false), (.int 63 0)]), none⟩, ⟨none, (.store 3 (.t p3) (.t p8)), none⟩, ⟨(some p4), (.mov (.t p9)), none⟩]) (.seq (.reg [⟨(some p10), (.mov (.t p4)), none⟩, ⟨(some p11), (.mov (.t p10)), none⟩, ⟨(some p12), (.fad 5 (.t p1)), (some (p11, true))⟩, ⟨(some p13), (.load false 1 (.t p12)), (some (p11, true))⟩, ⟨(some p14), (.len 1 (.t p13)), (some (p11, true))⟩, ⟨(some p15), (.fad 2 (.t p3)), (some (p11, true))⟩, ⟨(some p16), (.load false 1 (.t p15)), (some (p11, true))⟩, ⟨(some p17), (.bin .eql 63 (.t p14) (.t p16)), (some (p11, true))⟩, ⟨(some p18), (.pick (.t p11) (.t p17) (.c (.bool false))), none⟩, ⟨(some p19), (.mov (.t p18)), none⟩, ⟨(some p20), (.fad 0 (.t p3)), (some (p19, true))⟩, ⟨(some p21), (.load false 1 (.t p20)), (some (p19, true))⟩, ⟨(some p22), (.mov (.t p21)), (some (p19, true))⟩, ⟨(some p23), (.fad 1 (.t p1)), (some (p22, false))⟩, ⟨(some p24), (.load false 1 (.t p23)), (some (p22, false))⟩, ⟨(some p25), (.bin .eql 100 (.t p24) (.c (.str []))), (some (p22, false))⟩, ⟨(some p26), (.pick (.t p22) (.c (.bool true)) (.t p25)), (some (p19, true))⟩, ⟨(some p27), (.pick (.t p19) (.t p26) (.c (.bool false))), none⟩, ⟨(some p28), (.mov (.t p27)), none⟩, ⟨(some p29), (.fad 1 (.t p3)), (some (p28, true))⟩, ⟨(some p30), (.load false 1 (.t p29)), (some (p28, true))⟩, ⟨(some p31), (.mov (.t p30)), (some (p28, true))⟩, ⟨(some p32), (.fad 3 (.t p1)), (some (p31, false))⟩, ⟨(some p33), (.load false 1 (.t p32)), (some (p31, false))⟩, ⟨(some p34), (.bin .eql 100 (.t p33) (.c (.str []))), (some (p31, false))⟩, ⟨(some p35), (.mov (.t p34)), (some (p31, false))⟩, ⟨(some p36), (.fad 4 (.t p1)), (some (p35, true))⟩, ⟨(some p37), (.load false 1 (.t p36)), (some (p35, true))⟩, ⟨(some p38), (.bin .eql 100 (.t p37) (.c (.str []))), (some (p35, true))⟩, ⟨(some p39), (.pick (.t p35) (.t p38) (.c (.bool false))), (some (p31, false))⟩, ⟨(some p40), (.pick (.t p31) (.c (.bool true)) (.t p39)), (some (p28, true))⟩, ⟨(some p41), (.pick (.t p28) (.t p40) (.c (.bool false))), none⟩, ⟨(some p42), (.mov (.t p41)), none⟩, ⟨(some p43), (.fad 5 (.t p1)), (some (p42, true))⟩, ⟨(some p44), (.load false 1 (.t p43)), (some (p42, true))⟩, ⟨(some p45), (.call 68 [(.t p44), (.c (.cmp 0 86 []))]), (some (p42, true))⟩, ⟨(some p46), (.un .not 101 (.t p45)), (some (p42, true))⟩, ⟨(some p47), (.pick (.t p42) (.t p46) (.c (.bool false))), none⟩, ⟨(some p2), (.mov (.t p47)), none⟩]) .ret)))⟩
noncomputable def c66_0 : CEv := (cReg (step0 (some p1) (gE (iBox 30 (.t p0)))
   (step0 (some p2) (gMov (.c (.bool false)))
   endG)))
noncomputable def c66_1 : CEv := (cReg (step0 (some p6) (gP (iLoad true 6 (.t p1)))
   (step0 (some p7) (gCall 85 [(.t p6)])
   (step0 (some p5) (gMov (.t p7))
   (step0 (some p8) (gP (iExt (.t p5) 0))
   (step0 (some p9) (gP (iExt (.t p5) 1))
   (step0 (some p3) (gE (iAlloc 122 [(.bool false), (.bool false), (.int 63 0)]))
   (step0 none (gE (iStore 3 (.t p3) (.t p8)))
   (step0 (some p4) (gMov (.t p9))
   endG)))))))))
noncomputable def c66_2 : CEv := (cReg (step0 (some p10) (gMov (.t p4))
   (step0 (some p11) (gMov (.t p10))
   (stepG (some p12) (gP (iFad 5 (.t p1))) (some (p11, true))
   (stepG (some p13) (gP (iLoad false 1 (.t p12))) (some (p11, true))
   (stepG (some p14) (gP (iLenL (.t p13))) (some (p11, true))
   (stepG (some p15) (gP (iFad 2 (.t p3))) (some (p11, true))
   (stepG (some p16) (gP (iLoad false 1 (.t p15))) (some (p11, true))
   (stepG (some p17) (gP (iInt fEql 63 (.t p14) (.t p16))) (some (p11, true))
   (step0 (some p18) (gP (iPick (.t p11) (.t p17) (.c (.bool false))))
   (step0 (some p19) (gMov (.t p18))
   (stepG (some p20) (gP (iFad 0 (.t p3))) (some (p19, true))
   (stepG (some p21) (gP (iLoad false 1 (.t p20))) (some (p19, true))
   (stepG (some p22) (gMov (.t p21)) (some (p19, true))
   (stepG (some p23) (gP (iFad 1 (.t p1))) (some (p22, false))
   (stepG (some p24) (gP (iLoad false 1 (.t p23))) (some (p22, false))
   (stepG (some p25) (gP (iStr sEql (.t p24) (.c (.str [])))) (some (p22, false))
   (stepG (some p26) (gP (iPick (.t p22) (.c (.bool true)) (.t p25))) (some (p19, true))
   (step0 (some p27) (gP (iPick (.t p19) (.t p26) (.c (.bool false))))
   (step0 (some p28) (gMov (.t p27))
   (stepG (some p29) (gP (iFad 1 (.t p3))) (some (p28, true))
   (stepG (some p30) (gP (iLoad false 1 (.t p29))) (some (p28, true))
   (stepG (some p31) (gMov (.t p30)) (some (p28, true))
   (stepG (some p32) (gP (iFad 3 (.t p1))) (some (p31, false))
   (stepG (some p33) (gP (iLoad false 1 (.t p32))) (some (p31, false))
   (stepG (some p34) (gP (iStr sEql (.t p33) (.c (.str [])))) (some (p31, false))
   (stepG (some p35) (gMov (.t p34)) (some (p31, false))
   (stepG (some p36) (gP (iFad 4 (.t p1))) (some (p35, true))
   (stepG (some p37) (gP (iLoad false 1 (.t p36))) (some (p35, true))
   (stepG (some p38) (gP (iStr sEql (.t p37) (.c (.str [])))) (some (p35, true))
   (stepG (some p39) (gP (iPick (.t p35) (.t p38) (.c (.bool false)))) (some (p31, false))
   (stepG (some p40) (gP (iPick (.t p31) (.c (.bool true)) (.t p39))) (some (p28, true))
   (step0 (some p41) (gP (iPick (.t p28) (.t p40) (.c (.bool false))))
   (step0 (some p42) (gMov (.t p41))
   (stepG (some p43) (gP (iFad 5 (.t p1))) (some (p42, true))
   (stepG (some p44) (gP (iLoad false 1 (.t p43))) (some (p42, true))
   (stepG (some p45) (gCall 68 [(.t p44), (.c (.cmp 0 86 []))]) (some (p42, true))
   (stepG (some p46) (gP (iNot (.t p45))) (some (p42, true))
   (step0 (some p47) (gP (iPick (.t p42) (.t p46) (.c (.bool false))))
   (step0 (some p2) (gMov (.t p47))
   endG))))))))))))))))))))))))))))))))))))))))
noncomputable def sh66 : Fs := .mk [(.t p2)]
  (cSeq c66_0
  (cSeq c66_1
  (cSeq c66_2
  cRet)))
def ir67 : Fn := ⟨42, [(.t p2)], (.seq (.reg [⟨(some p1), (.box 30 (.t p0)), none⟩, ⟨(some p2), (.mov (.c (.int 63 0))), none⟩]) (.seq (.reg [⟨(some p3), (.alloc 3 [(.int 63 0)]), none⟩, ⟨none, (.store 1 (.t p3) (.c (.int 63 1))), none⟩, ⟨(some p4), (.mov (.c (.int 63 1))), none⟩]) (.seq (.block 0 (.seq (.reg [⟨(some p6), (.fad 0 (.t p1)), none⟩, ⟨(some p7), (.load false 1 (.t p6)), none⟩, ⟨(some p8), (.bin .lss 63 (.t p7) (.c (.int 63 2))), none⟩, ⟨(some p5), (.mov (.t p8)), none⟩]) (.cond (.t p5) (.seq (.reg [⟨(some p2), (.mov (.c (.int 63 1))), none⟩]) .ret) (.seq (.seq (.reg [⟨(some p10), (.fad 0 (.t p1)), none⟩, ⟨(some p11), (.load false 1 (.t p10)), none⟩, ⟨(some p12), (.bin .eql 63 (.t p11) (.c (.int 63 2))), none⟩, ⟨(some p13), (.mov (.t p12)), none⟩, ⟨(some p14), (.fad 1 (.t p1)), (some (p13, true))⟩, ⟨(some p15), (.load false 1 (.t p14)), (some (p13, true))⟩, ⟨(some p16), (.bin .eql 100 (.t p15) (.c (.str [33]))), (some (p13, true))⟩, ⟨(some p17), (.pick (.t p13) (.t p16) (.c (.bool false))), none⟩, ⟨(some p9), (.mov (.t p17)), none⟩]) (.cond (.t p9) .skip (.reg [⟨(some p18), (.fad 0 (.t p1)), none⟩, ⟨(some p19), (.load false 1 (.t p18)), none⟩, ⟨(some p20), (.bin .eql 63 (.t p19) (.c (.int 63 3))), none⟩, ⟨(some p21), (.mov (.t p20)), none⟩, ⟨(some p22), (.fad 1 (.t p1)), (some (p21, true))⟩, ⟨(some p23), (.load false 1 (.t p22)), (some (p21, true))⟩, ⟨(some p24), (.call 87 [(.t p23)]), (some (p21, true))⟩, ⟨(some p25), (.bin .lss 63 (.t p24) (.c (.int 63 3))), (some (p21, true))⟩, ⟨(some p26), (.pick (.t p21) (.t p25) (.c (.bool false))), none⟩, ⟨(some p9), (.mov (.t p26)), none⟩]))) (.cond (.t p9) (.reg [⟨none, (.store 1 (.t p3) (.c (.int 63 2))), none⟩, ⟨(some p4), (.mov (.c (.int 63 2))), none⟩]) (.seq (.reg [⟨(some p28), (.fad 0 (.t p1)), none⟩, ⟨(some p29), (.load false 1 (.t p28)), none⟩, ⟨(some p30), (.bin .eql 63 (.t p29) (.c (.int 63 3))), none⟩, ⟨(some p31), (.mov (.t p30)), none⟩, ⟨(some p32), (.fad 1 (.t p1)), (some (p31, true))⟩, ⟨(some p33), (.load false 1 (.t p32)), (some (p31, true))⟩, ⟨(some p34), (.call 87 [(.t p33)]), (some (p31, true))⟩, ⟨(some p35), (.bin .lss 63 (.t p34) (.c (.int 63 5))), (some (p31, true))⟩, ⟨(some p36), (.pick (.t p31) (.t p35) (.c (.bool false))), none⟩, ⟨(some p27), (.mov (.t p36)), none⟩]) (.cond (.t p27) (.reg [⟨(some p4), (.mov (.c (.int 63 2))), none⟩]) .skip))))))) (.seq (.seq (.reg [⟨(some p37), (.fad 5 (.t p1)), none⟩, ⟨(some p38), (.load false 1 (.t p37)), none⟩, ⟨(some p39), (.mkf 88 [(.t p3)]), none⟩, ⟨(some p40), (.call 68 [(.t p38), (.t p39)]), none⟩]) (.cond (.t p40) (.seq (.reg [⟨(some p2), (.mov (.c (.int 63 0))), none⟩]) .ret) .skip)) (.seq (.reg [⟨(some p41), (.mov (.t p4)), none⟩, ⟨(some p2), (.mov (.t p41)), none⟩]) .ret)))))⟩
noncomputable def c67_0 : CEv := (cReg (step0 (some p1) (gE (iBox 30 (.t p0)))
   (step0 (some p2) (gMov (.c (.int 63 0)))
   endG)))
noncomputable def c67_1 : CEv := (cReg (step0 (some p3) (gE (iAlloc 3 [(.int 63 0)]))
   (step0 none (gE (iStore 1 (.t p3) (.c (.int 63 1))))
   (step0 (some p4) (gMov (.c (.int 63 1)))
   endG))))
noncomputable def c67_2 : CEv := (cBlock 0 (cSeq (cReg (step0 (some p6) (gP (iFad 0 (.t p1)))
   (step0 (some p7) (gP (iLoad false 1 (.t p6)))
   (step0 (some p8) (gP (iInt fLss 63 (.t p7) (.c (.int 63 2))))
   (step0 (some p5) (gMov (.t p8))
   endG)))))
  (cCond (.t p5) (cSeq (cReg (step0 (some p2) (gMov (.c (.int 63 1)))
   endG))
  cRet)
  (cSeq (cSeq (cReg (step0 (some p10) (gP (iFad 0 (.t p1)))
   (step0 (some p11) (gP (iLoad false 1 (.t p10)))
   (step0 (some p12) (gP (iInt fEql 63 (.t p11) (.c (.int 63 2))))
   (step0 (some p13) (gMov (.t p12))
   (stepG (some p14) (gP (iFad 1 (.t p1))) (some (p13, true))
   (stepG (some p15) (gP (iLoad false 1 (.t p14))) (some (p13, true))
   (stepG (some p16) (gP (iStr sEql (.t p15) (.c (.str [33])))) (some (p13, true))
   (step0 (some p17) (gP (iPick (.t p13) (.t p16) (.c (.bool false))))
   (step0 (some p9) (gMov (.t p17))
   endG))))))))))
  (cCond (.t p9) cSkip
  (cReg (step0 (some p18) (gP (iFad 0 (.t p1)))
   (step0 (some p19) (gP (iLoad false 1 (.t p18)))
   (step0 (some p20) (gP (iInt fEql 63 (.t p19) (.c (.int 63 3))))
   (step0 (some p21) (gMov (.t p20))
   (stepG (some p22) (gP (iFad 1 (.t p1))) (some (p21, true))
   (stepG (some p23) (gP (iLoad false 1 (.t p22))) (some (p21, true))
   (stepG (some p24) (gCall 87 [(.t p23)]) (some (p21, true))
   (stepG (some p25) (gP (iInt fLss 63 (.t p24) (.c (.int 63 3)))) (some (p21, true))
   (step0 (some p26) (gP (iPick (.t p21) (.t p25) (.c (.bool false))))
   (step0 (some p9) (gMov (.t p26))
   endG)))))))))))))
  (cCond (.t p9) (cReg (step0 none (gE (iStore 1 (.t p3) (.c (.int 63 2))))
   (step0 (some p4) (gMov (.c (.int 63 2)))
   endG)))
  (cSeq (cReg (step0 (some p28) (gP (iFad 0 (.t p1)))
   (step0 (some p29) (gP (iLoad false 1 (.t p28)))
   (step0 (some p30) (gP (iInt fEql 63 (.t p29) (.c (.int 63 3))))
   (step0 (some p31) (gMov (.t p30))
   (stepG (some p32) (gP (iFad 1 (.t p1))) (some (p31, true))
   (stepG (some p33) (gP (iLoad false 1 (.t p32))) (some (p31, true))
   (stepG (some p34) (gCall 87 [(.t p33)]) (some (p31, true))
   (stepG (some p35) (gP (iInt fLss 63 (.t p34) (.c (.int 63 5)))) (some (p31, true))
   (step0 (some p36) (gP (iPick (.t p31) (.t p35) (.c (.bool false))))
   (step0 (some p27) (gMov (.t p36))
   endG)))))))))))
  (cCond (.t p27) (cReg (step0 (some p4) (gMov (.c (.int 63 2)))
   endG))
  cSkip)))))))
noncomputable def c67_3 : CEv := (cReg (step0 (some p37) (gP (iFad 5 (.t p1)))
   (step0 (some p38) (gP (iLoad false 1 (.t p37)))
   (step0 (some p39) (gP (iMkf 88 [(.t p3)]))
   (step0 (some p40) (gCall 68 [(.t p38), (.t p39)])
   endG)))))
noncomputable def c67_4 : CEv := (cCond (.t p40) (cSeq (cReg (step0 (some p2) (gMov (.c (.int 63 0)))
   endG))
  cRet)
  cSkip)
noncomputable def c67_5 : CEv := (cReg (step0 (some p41) (gMov (.t p4))
   (step0 (some p2) (gMov (.t p41))
   endG)))
noncomputable def sh67 : Fs := .mk [(.t p2)]
  (cSeq c67_0
  (cSeq c67_1
  (cSeq c67_2
  (cSeq (cSeq c67_3
  c67_4)
  (cSeq c67_5
  cRet)))))
def ir68 : Fn := ⟨9, [(.t p4)], (.seq (.reg [⟨(some p4), (.mov (.c (.bool false))), none⟩]) (.seq (.reg [⟨(some p5), (.mov (.t p0)), none⟩, ⟨(some p6), (.mov (.t p1)), none⟩, ⟨(some p7), (.call 89 [(.t p5), (.t p6)]), none⟩, ⟨(some p8), (.bin .geq 63 (.t p7) (.c (.int 63 0))), none⟩, ⟨(some p4), (.mov (.t p8)), none⟩]) .ret))⟩
noncomputable def c68_0 : CEv := (cReg (step0 (some p4) (gMov (.c (.bool false)))
   endG))
noncomputable def c68_1 : CEv := (cReg (step0 (some p5) (gMov (.t p0))
   (step0 (some p6) (gMov (.t p1))
   (step0 (some p7) (gCall 89 [(.t p5), (.t p6)])
   (step0 (some p8) (gP (iInt fGeq 63 (.t p7) (.c (.int 63 0))))
   (step0 (some p4) (gMov (.t p8))
   endG))))))
noncomputable def sh68 : Fs := .mk [(.t p4)]
  (cSeq c68_0
  (cSeq c68_1
  cRet))
def ir69 : Fn := ⟨12, [(.t p5)], (.seq (.reg [⟨(some p4), (.box 30 (.t p0)), none⟩, ⟨(some p5), (.mov (.c (.bool false))), none⟩]) (.seq (.reg [⟨(some p6), (.load false 1 (.t p1)), none⟩, ⟨(some p7), (.load true 6 (.t p4)), none⟩, ⟨(some p8), (.load false 1 (.t p2)), none⟩, ⟨(some p9), (.load false 1 (.t p3)), none⟩, ⟨(some p10), (.call 53 [(.t p6), (.t p7), (.t p8), (.t p9)]), none⟩, ⟨(some p11), (.un .not 101 (.t p10)), none⟩, ⟨(some p5), (.mov (.t p11)), none⟩]) .ret))⟩
noncomputable def c69_0 : CEv := (cReg (step0 (some p4) (gE (iBox 30 (.t p0)))
   (step0 (some p5) (gMov (.c (.bool false)))
   endG)))
noncomputable def c69_1 : CEv := (cReg (step0 (some p6) (gP (iLoad false 1 (.t p1)))
   (step0 (some p7) (gP (iLoad true 6 (.t p4)))
   (step0 (some p8) (gP (iLoad false 1 (.t p2)))
   (step0 (some p9) (gP (iLoad false 1 (.t p3)))
   (step0 (some p10) (gCall 53 [(.t p6), (.t p7), (.t p8), (.t p9)])
   (step0 (some p11) (gP (iNot (.t p10)))
   (step0 (some p5) (gMov (.t p11))
   endG))))))))
noncomputable def sh69 : Fs := .mk [(.t p5)]
  (cSeq c69_0
  (cSeq c69_1
  cRet))
def ir70 : Fn := ⟨16, [(.t p6)], (.seq (.reg [⟨(some p3), (.box 49 (.t p0)), none⟩, ⟨(some p5), (.box 9 (.t p2)), none⟩, ⟨(some p6), (.mov (.c (.bool false))), none⟩]) (.seq (.reg [⟨(some p7), (.mov (.t p1)), none⟩, ⟨(some p8), (.len 1 (.t p7)), none⟩, ⟨(some p9), (.bin .gtr 63 (.t p8) (.c (.int 63 0))), none⟩, ⟨(some p10), (.mov (.t p9)), none⟩, ⟨(some p11), (.mov (.t p1)), (some (p10, true))⟩, ⟨(some p12), (.mkf 91 [(.t p3), (.t p5)]), (some (p10, true))⟩, ⟨(some p13), (.call 90 [(.t p11), (.t p12)]), (some (p10, true))⟩, ⟨(some p14), (.un .not 101 (.t p13)), (some (p10, true))⟩, ⟨(some p15), (.pick (.t p10) (.t p14) (.c (.bool false))), none⟩, ⟨(some p6), (.mov (.t p15)), none⟩]) .ret))⟩
noncomputable def c70_0 : CEv := (cReg (step0 (some p3) (gE (iBox 49 (.t p0)))
   (step0 (some p5) (gE (iBox 9 (.t p2)))
   (step0 (some p6) (gMov (.c (.bool false)))
   endG))))
noncomputable def c70_1 : CEv := (cReg (step0 (some p7) (gMov (.t p1))
   (step0 (some p8) (gP (iLenL (.t p7)))
   (step0 (some p9) (gP (iInt fGtr 63 (.t p8) (.c (.int 63 0))))
   (step0 (some p10) (gMov (.t p9))
   (stepG (some p11) (gMov (.t p1)) (some (p10, true))
   (stepG (some p12) (gP (iMkf 91 [(.t p3), (.t p5)])) (some (p10, true))
   (stepG (some p13) (gCall 90 [(.t p11), (.t p12)]) (some (p10, true))
   (stepG (some p14) (gP (iNot (.t p13))) (some (p10, true))
   (step0 (some p15) (gP (iPick (.t p10) (.t p14) (.c (.bool false))))
   (step0 (some p6) (gMov (.t p15))
   endG)))))))))))
noncomputable def sh70 : Fs := .mk [(.t p6)]
  (cSeq c70_0
  (cSeq c70_1
  cRet))
def ir71 : Fn := ⟨17, [(.t p4)], (.seq (.reg [⟨(some p4), (.mov (.c (.str []))), none⟩]) (.seq (.block 0 (.loop (.seq (.seq (.reg [⟨(some p5), (.mov (.t p0)), none⟩, ⟨(some p6), (.len 0 (.t p5)), none⟩, ⟨(some p7), (.bin .gtr 63 (.t p6) (.c (.int 63 0))), none⟩, ⟨(some p8), (.mov (.t p7)), none⟩, ⟨(some p9), (.mov (.t p0)), (some (p8, true))⟩, ⟨(some p10), (.ixs (.t p9) (.c (.int 63 0))), (some (p8, true))⟩, ⟨(some p11), (.mov (.t p1)), (some (p8, true))⟩, ⟨(some p12), (.bin .eql 8 (.t p10) (.t p11)), (some (p8, true))⟩, ⟨(some p13), (.pick (.t p8) (.t p12) (.c (.bool false))), none⟩]) (.cond (.t p13) .skip (.exit 0))) (.block 1 (.reg [⟨(some p14), (.mov (.t p0)), none⟩, ⟨(some p15), (.sls (.t p14) (some (.c (.int 63 1))) none), none⟩, ⟨(some p0), (.mov (.t p15)), none⟩]))))) (.seq (.reg [⟨(some p16), (.mov (.t p0)), none⟩, ⟨(some p4), (.mov (.t p16)), none⟩]) .ret)))⟩
noncomputable def c71_0 : CEv := (cReg (step0 (some p4) (gMov (.c (.str [])))
   endG))
noncomputable def b71_0 : CEv := (cSeq (cSeq (cReg (step0 (some p5) (gMov (.t p0))
   (step0 (some p6) (gP (iLenS (.t p5)))
   (step0 (some p7) (gP (iInt fGtr 63 (.t p6) (.c (.int 63 0))))
   (step0 (some p8) (gMov (.t p7))
   (stepG (some p9) (gMov (.t p0)) (some (p8, true))
   (stepG (some p10) (gP (iIxs (.t p9) (.c (.int 63 0)))) (some (p8, true))
   (stepG (some p11) (gMov (.t p1)) (some (p8, true))
   (stepG (some p12) (gP (iInt fEql 8 (.t p10) (.t p11))) (some (p8, true))
   (step0 (some p13) (gP (iPick (.t p8) (.t p12) (.c (.bool false))))
   endG))))))))))
  (cCond (.t p13) cSkip
  (cExit 0)))
  (cBlock 1 (cReg (step0 (some p14) (gMov (.t p0))
   (step0 (some p15) (gP (iSls (.t p14) (some (.c (.int 63 1))) none))
   (step0 (some p0) (gMov (.t p15))
   endG))))))
noncomputable def c71_1 : CEv := (cBlock 0 (cLoop b71_0))
noncomputable def c71_2 : CEv := (cReg (step0 (some p16) (gMov (.t p0))
   (step0 (some p4) (gMov (.t p16))
   endG)))
noncomputable def sh71 : Fs := .mk [(.t p4)]
  (cSeq c71_0
  (cSeq c71_1
  (cSeq c71_2
  cRet)))
def ir72 : Fn := ⟨21, [(.m p2 true 256), (.t p3)], (.seq (.reg [⟨(some p2), (.alloc 114 [(.bool false), (.bool false), (.bool false), (.bool false), (.bool false), (.bool false), (.bool false), (.bool false), (.bool false), (.bool false), (.bool false), (.bool false), (.bool false), (.bool false), (.bool false), (.bool false), (.bool false), (.bool false), (.bool false), (.bool false), (.bool false), (.bool false), (.bool false), (.bool false), (.bool false), (.bool false), (.bool false), (.bool false), (.bool false), (.bool false), (.bool false), (.bool false), (.bool false), (.bool false), (.bool false), (.bool false), (.bool false), (.bool false), (.bool false), (.bool false), (.bool false), (.bool false), (.bool false), (.bool false), (.bool false), (.bool false), (.bool false), (.bool false), (.bool false), (.bool false), (.bool false), (.bool false), (.bool false), (.bool false), (.bool false), (.bool false), (.bool false), (.bool false), (.bool false), (.bool false), (.bool false), (.bool false), (.bool false), (.bool false), (.bool false), (.bool false), (.bool false), (.bool false), (.bool false), (.bool false), (.bool false), (.bool false), (.bool false), (.bool false), (.bool false), (.bool false), (.bool false), (.bool false), (.bool false), (.bool false), (.bool false), (.bool false), (.bool false), (.bool false), (.bool false), (.bool false), (.bool false), (.bool false), (.bool false), (.bool false), (.bool false), (.bool false), (.bool false), (.bool false), (.bool false), (.bool false), (.bool false), (.bool false), (.bool false), (.bool false), (.bool false), (.bool false), (.bool false), (.bool false), (.bool false), (.bool false), (.bool false), (.bool false), (.bool false), (.bool false), (.bool false), (.bool false), (.bool false), (.bool false), (.bool false), (.bool false), (.bool false), (.bool false), (.bool false), (.bool false), (.bool false), (.bool false), (.bool false), (.bool false), (.bool false), (.bool false), (.bool false), (.bool false), (.bool false), (.bool false), (.bool false), (.bool false), (.bool false), (.bool false), (.bool false), (.bool false), (.bool false), (.bool false), (.bool false), (.bool false), (.bool false), (.bool false), (.bool false), (.bool false), (.bool false), (.bool false), (.bool false), (.bool false), (.bool false), (.bool false), (.bool false), (.bool false), (.bool false), (.bool false), (.bool false), (.bool false), (.bool false), (.bool false), (.bool false), (.bool false), (.bool false), (.bool false), (.bool false), (.bool false), (.bool false), (.bool false), (.bool false), (.bool false), (.bool false), (.bool false), (.bool false), (.bool false), (.bool false), (.bool false), (.bool false), (.bool false), (.bool false), (.bool false), (.bool false), (.bool false), (.bool false), (.bool false), (.bool false), (.bool false), (.bool false), (.bool false), (.bool false), (.bool false), (.bool false), (.bool false), (.bool false), (.bool false), (.bool false), (.bool false), (.bool false), (.bool false), (.bool false), (.bool false), (.bool false), (.bool false), (.bool false), (.bool false), (.bool false), (.bool false), (.bool false), (.bool false), (.bool false), (.bool false), (.bool false), (.bool false), (.bool false), (.bool false), (.bool false), (.bool false), (.bool false), (.bool false), (.bool false), (.bool false), (.bool false), (.bool false), (.bool false), (.bool false), (.bool false), (.bool false), (.bool false), (.bool false), (.bool false), (.bool false), (.bool false), (.bool false), (.bool false), (.bool false), (.bool false), (.bool false), (.bool false), (.bool false), (.bool false), (.bool false), (.bool false), (.bool false), (.bool false), (.bool false), (.bool false), (.bool false), (.bool false), (.bool false), (.bool false), (.bool false), (.bool false), (.bool false), (.bool false), (.bool false), (.bool false), (.bool false), (.bool false), (.bool false)]), none⟩, ⟨(some p3), (.mov (.c (.bool false))), none⟩]) (.seq (.seq (.reg [⟨(some p4), (.mov (.c (.int 63 0))), none⟩]) (.block 0 (.loop (.seq (.seq (.reg [⟨(some p6), (.mov (.t p4)), none⟩, ⟨(some p7), (.mov (.t p0)), none⟩, ⟨(some p8), (.len 0 (.t p7)), none⟩, ⟨(some p9), (.bin .lss 63 (.t p6) (.t p8)), none⟩]) (.cond (.t p9) .skip (.exit 0))) (.seq (.block 1 (.seq (.reg [⟨(some p12), (.mov (.t p0)), none⟩, ⟨(some p13), (.mov (.t p4)), none⟩, ⟨(some p14), (.ixs (.t p12) (.t p13)), none⟩, ⟨(some p5), (.mov (.t p14)), none⟩]) (.seq (.seq (.reg [⟨(some p15), (.mov (.t p5)), none⟩, ⟨(some p16), (.bin .geq 8 (.t p15) (.c (.int 8 128))), none⟩]) (.cond (.t p16) (.seq (.reg [⟨(some p17), (.load true 256 (.t p2)), none⟩, ⟨none, (.store 256 (.t p2) (.t p17)), none⟩, ⟨(some p3), (.mov (.c (.bool false))), none⟩]) .ret) .skip)) (.reg [⟨(some p18), (.mov (.t p5)), none⟩, ⟨(some p19), (.iaa 256 1 (.t p2) (.t p18)), none⟩, ⟨none, (.store 1 (.t p19) (.c (.bool true))), none⟩])))) (.reg [⟨(some p10), (.mov (.t p4)), none⟩, ⟨(some p11), (.bin .add 63 (.t p10) (.c (.int 63 1))), none⟩, ⟨(some p4), (.mov (.t p11)), none⟩])))))) (.seq (.reg [⟨(some p20), (.load true 256 (.t p2)), none⟩, ⟨none, (.store 256 (.t p2) (.t p20)), none⟩, ⟨(some p3), (.mov (.c (.bool true))), none⟩]) .ret)))⟩
noncomputable def c72_0 : CEv := (cReg (step0 (some p2) (gE (iAlloc 114 [(.bool false), (.bool false), (.bool false), (.bool false), (.bool false), (.bool false), (.bool false), (.bool false), (.bool false), (.bool false), (.bool false), (.bool false), (.bool false), (.bool false), (.bool false), (.bool false), (.bool false), (.bool false), (.bool false), (.bool false), (.bool false), (.bool false), (.bool false), (.bool false), (.bool false), (.bool false), (.bool false), (.bool false), (.bool false), (.bool false), (.bool false), (.bool false), (.bool false), (.bool false), (.bool false), (.bool false), (.bool false), (.bool false), (.bool false), (.bool false), (.bool false), (.bool false), (.bool false), (.bool false), (.bool false), (.bool false), (.bool false), (.bool false), (.bool false), (.bool false), (.bool false), (.bool false), (.bool false), (.bool false), (.bool false), (.bool false), (.bool false), (.bool false), (.bool false), (.bool false), (.bool false), (.bool false), (.bool false), (.bool false), (.bool false), (.bool false), (.bool false), (.bool false), (.bool false), (.bool false), (.bool false), (.bool false), (.bool false), (.bool false), (.bool false), (.bool false), (.bool false), (.bool false), (.bool false), (.bool false), (.bool false), (.bool false), (.bool false), (.bool false), (.bool false), (.bool false), (.bool false), (.bool false), (.bool false), (.bool false), (.bool false), (.bool false), (.bool false), (.bool false), (.bool false), (.bool false), (.bool false), (.bool false), (.bool false), (.bool false), (.bool false), (.bool false), (.bool false), (.bool false), (.bool false), (.bool false), (.bool false), (.bool false), (.bool false), (.bool false), (.bool false), (.bool false), (.bool false), (.bool false), (.bool false), (.bool false), (.bool false), (.bool false), (.bool false), (.bool false), (.bool false), (.bool false), (.bool false), (.bool false), (.bool false), (.bool false), (.bool false), (.bool false), (.bool false), (.bool false), (.bool false), (.bool false), (.bool false), (.bool false), (.bool false), (.bool false), (.bool false), (.bool false), (.bool false), (.bool false), (.bool false), (.bool false), (.bool false), (.bool false), (.bool false), (.bool false), (.bool false), (.bool false), (.bool false), (.bool false), (.bool false), (.bool false), (.bool false), (.bool false), (.bool false), (.bool false), (.bool false), (.bool false), (.bool false), (.bool false), (.bool false), (.bool false), (.bool false), (.bool false), (.bool false), (.bool false), (.bool false), (.bool false), (.bool false), (.bool false), (.bool false), (.bool false), (.bool false), (.bool false), (.bool false), (.bool false), (.bool false), (.bool false), (.bool false), (.bool false), (.bool false), (.bool false), (.bool false), (.bool false), (.bool false), (.bool false), (.bool false), (.bool false), (.bool false), (.bool false), (.bool false), (.bool false), (.bool false), (.bool false), (.bool false), (.bool false), (.bool false), (.bool false), (.bool false), (.bool false), (.bool false), (.bool false), (.bool false), (.bool false), (.bool false), (.bool false), (.bool false), (.bool false), (.bool false), (.bool false), (.bool false), (.bool false), (.bool false), (.bool false), (.bool false), (.bool false), (.bool false), (.bool false), (.bool false), (.bool false), (.bool false), (.bool false), (.bool false), (.bool false), (.bool false), (.bool false), (.bool false), (.bool false), (.bool false), (.bool false), (.bool false), (.bool false), (.bool false), (.bool false), (.bool false), (.bool false), (.bool false), (.bool false), (.bool false), (.bool false), (.bool false), (.bool false), (.bool false), (.bool false), (.bool false), (.bool false), (.bool false), (.bool false), (.bool false), (.bool false), (.bool false), (.bool false), (.bool false), (.bool false), (.bool false), (.bool false)]))
   (step0 (some p3) (gMov (.c (.bool false)))
   endG)))
noncomputable def c72_1 : CEv := (cReg (step0 (some p4) (gMov (.c (.int 63 0)))
   endG))
noncomputable def b72_0 : CEv := (cSeq (cSeq (cReg (step0 (some p6) (gMov (.t p4))
   (step0 (some p7) (gMov (.t p0))
   (step0 (some p8) (gP (iLenS (.t p7)))
   (step0 (some p9) (gP (iInt fLss 63 (.t p6) (.t p8)))
   endG)))))
  (cCond (.t p9) cSkip
  (cExit 0)))
  (cSeq (cBlock 1 (cSeq (cReg (step0 (some p12) (gMov (.t p0))
   (step0 (some p13) (gMov (.t p4))
   (step0 (some p14) (gP (iIxs (.t p12) (.t p13)))
   (step0 (some p5) (gMov (.t p14))
   endG)))))
  (cSeq (cSeq (cReg (step0 (some p15) (gMov (.t p5))
   (step0 (some p16) (gP (iInt fGeq 8 (.t p15) (.c (.int 8 128))))
   endG)))
  (cCond (.t p16) (cSeq (cReg (step0 (some p17) (gP (iLoad true 256 (.t p2)))
   (step0 none (gE (iStore 256 (.t p2) (.t p17)))
   (step0 (some p3) (gMov (.c (.bool false)))
   endG))))
  cRet)
  cSkip))
  (cReg (step0 (some p18) (gMov (.t p5))
   (step0 (some p19) (gP (iIaa 256 1 (.t p2) (.t p18)))
   (step0 none (gE (iStore 1 (.t p19) (.c (.bool true))))
   endG)))))))
  (cReg (step0 (some p10) (gMov (.t p4))
   (step0 (some p11) (gP (iInt fAdd 63 (.t p10) (.c (.int 63 1))))
   (step0 (some p4) (gMov (.t p11))
   endG))))))
noncomputable def c72_2 : CEv := (cBlock 0 (cLoop b72_0))
noncomputable def c72_3 : CEv := (cReg (step0 (some p20) (gP (iLoad true 256 (.t p2)))
   (step0 none (gE (iStore 256 (.t p2) (.t p20)))
   (step0 (some p3) (gMov (.c (.bool true)))
   endG))))
noncomputable def sh72 : Fs := .mk [(.m p2 true 256), (.t p3)]
  (cSeq c72_0
  (cSeq (cSeq c72_1
  c72_2)
  (cSeq c72_3
  cRet)))
def ir73 : Fn := ⟨16, [(.t p4)], (.seq (.reg [⟨(some p4), (.mov (.c (.str []))), none⟩]) (.seq (.block 0 (.loop (.seq (.seq (.reg [⟨(some p5), (.mov (.t p0)), none⟩, ⟨(some p6), (.len 0 (.t p5)), none⟩, ⟨(some p7), (.bin .gtr 63 (.t p6) (.c (.int 63 0))), none⟩]) (.cond (.t p7) .skip (.exit 0))) (.block 1 (.seq (.seq (.reg [⟨(some p8), (.mov (.t p1)), none⟩, ⟨(some p9), (.mov (.t p0)), none⟩, ⟨(some p10), (.ixs (.t p9) (.c (.int 63 0))), none⟩, ⟨(some p11), (.call 92 [(.t p8), (.t p10)]), none⟩, ⟨(some p12), (.un .not 101 (.t p11)), none⟩]) (.cond (.t p12) (.exit 0) .skip)) (.reg [⟨(some p13), (.mov (.t p0)), none⟩, ⟨(some p14), (.sls (.t p13) (some (.c (.int 63 1))) none), none⟩, ⟨(some p0), (.mov (.t p14)), none⟩])))))) (.seq (.reg [⟨(some p15), (.mov (.t p0)), none⟩, ⟨(some p4), (.mov (.t p15)), none⟩]) .ret)))⟩
noncomputable def c73_0 : CEv := (cReg (step0 (some p4) (gMov (.c (.str [])))
   endG))
noncomputable def b73_0 : CEv := (cSeq (cSeq (cReg (step0 (some p5) (gMov (.t p0))
   (step0 (some p6) (gP (iLenS (.t p5)))
   (step0 (some p7) (gP (iInt fGtr 63 (.t p6) (.c (.int 63 0))))
   endG))))
  (cCond (.t p7) cSkip
  (cExit 0)))
  (cBlock 1 (cSeq (cSeq (cReg (step0 (some p8) (gMov (.t p1))
   (step0 (some p9) (gMov (.t p0))
   (step0 (some p10) (gP (iIxs (.t p9) (.c (.int 63 0))))
   (step0 (some p11) (gCall 92 [(.t p8), (.t p10)])
   (step0 (some p12) (gP (iNot (.t p11)))
   endG))))))
  (cCond (.t p12) (cExit 0)
  cSkip))
  (cReg (step0 (some p13) (gMov (.t p0))
   (step0 (some p14) (gP (iSls (.t p13) (some (.c (.int 63 1))) none))
   (step0 (some p0) (gMov (.t p14))
   endG)))))))
noncomputable def c73_1 : CEv := (cBlock 0 (cLoop b73_0))
noncomputable def c73_2 : CEv := (cReg (step0 (some p15) (gMov (.t p0))
   (step0 (some p4) (gMov (.t p15))
   endG)))
noncomputable def sh73 : Fs := .mk [(.t p4)]
  (cSeq c73_0
  (cSeq c73_1
  (cSeq c73_2
  cRet)))
def ir74 : Fn := ⟨23, [(.t p4)], (.seq (.reg [⟨(some p4), (.mov (.c (.str []))), none⟩]) (.seq (.block 0 (.loop (.seq (.seq (.reg [⟨(some p7), (.mov (.t p0)), none⟩, ⟨(some p8), (.len 0 (.t p7)), none⟩, ⟨(some p9), (.bin .gtr 63 (.t p8) (.c (.int 63 0))), none⟩]) (.cond (.t p9) .skip (.exit 0))) (.block 1 (.seq (.reg [⟨(some p11), (.mov (.t p0)), none⟩, ⟨(some p12), (.call 93 [(.t p11)]), none⟩, ⟨(some p10), (.mov (.t p12)), none⟩, ⟨(some p13), (.ext (.t p10) 0), none⟩, ⟨(some p14), (.ext (.t p10) 1), none⟩, ⟨(some p5), (.mov (.t p13)), none⟩, ⟨(some p6), (.mov (.t p14)), none⟩]) (.seq (.seq (.reg [⟨(some p15), (.mov (.t p1)), none⟩, ⟨(some p16), (.mov (.t p5)), none⟩, ⟨(some p17), (.call 94 [(.t p15), (.t p16)]), none⟩, ⟨(some p18), (.un .not 101 (.t p17)), none⟩]) (.cond (.t p18) (.exit 0) .skip)) (.reg [⟨(some p19), (.mov (.t p0)), none⟩, ⟨(some p20), (.mov (.t p6)), none⟩, ⟨(some p21), (.sls (.t p19) (some (.t p20)) none), none⟩, ⟨(some p0), (.mov (.t p21)), none⟩]))))))) (.seq (.reg [⟨(some p22), (.mov (.t p0)), none⟩, ⟨(some p4), (.mov (.t p22)), none⟩]) .ret)))⟩
noncomputable def c74_0 : CEv := (cReg (step0 (some p4) (gMov (.c (.str [])))
   endG))
noncomputable def b74_0 : CEv := (cSeq (cSeq (cReg (step0 (some p7) (gMov (.t p0))
   (step0 (some p8) (gP (iLenS (.t p7)))
   (step0 (some p9) (gP (iInt fGtr 63 (.t p8) (.c (.int 63 0))))
   endG))))
  (cCond (.t p9) cSkip
  (cExit 0)))
  (cBlock 1 (cSeq (cReg (step0 (some p11) (gMov (.t p0))
   (step0 (some p12) (gCall 93 [(.t p11)])
   (step0 (some p10) (gMov (.t p12))
   (step0 (some p13) (gP (iExt (.t p10) 0))
   (step0 (some p14) (gP (iExt (.t p10) 1))
   (step0 (some p5) (gMov (.t p13))
   (step0 (some p6) (gMov (.t p14))
   endG))))))))
  (cSeq (cSeq (cReg (step0 (some p15) (gMov (.t p1))
   (step0 (some p16) (gMov (.t p5))
   (step0 (some p17) (gCall 94 [(.t p15), (.t p16)])
   (step0 (some p18) (gP (iNot (.t p17)))
   endG)))))
  (cCond (.t p18) (cExit 0)
  cSkip))
  (cReg (step0 (some p19) (gMov (.t p0))
   (step0 (some p20) (gMov (.t p6))
   (step0 (some p21) (gP (iSls (.t p19) (some (.t p20)) none))
   (step0 (some p0) (gMov (.t p21))
   endG)))))))))
noncomputable def c74_1 : CEv := (cBlock 0 (cLoop b74_0))
noncomputable def c74_2 : CEv := (cReg (step0 (some p22) (gMov (.t p0))
   (step0 (some p4) (gMov (.t p22))
   endG)))
noncomputable def sh74 : Fs := .mk [(.t p4)]
  (cSeq c74_0
  (cSeq c74_1
  (cSeq c74_2
  cRet)))
def ir75 : Fn := ⟨33, [(.t p4)], (.seq (.reg [⟨(some p4), (.mov (.c (.int 63 0))), none⟩]) (.seq (.seq (.reg [⟨(some p8), (.mov (.t p0)), none⟩, ⟨(some p9), (.rng (.t p8)), none⟩]) (.block 0 (.loop (.seq (.reg [⟨(some p10), (.nxt (.t p9)), none⟩, ⟨(some p11), (.ext (.t p10) 0), none⟩]) (.seq (.cond (.t p11) .skip (.exit 0)) (.block 1 (.seq (.reg [⟨(some p12), (.ext (.t p10) 1), none⟩, ⟨(some p13), (.ext (.t p10) 2), none⟩, ⟨(some p5), (.mov (.t p12)), none⟩, ⟨(some p6), (.mov (.t p13)), none⟩]) (.seq (.reg [⟨(some p14), (.mov (.t p6)), none⟩, ⟨(some p15), (.bin .eql 31 (.t p14) (.c (.int 31 65533))), none⟩, ⟨(some p16), (.mov (.t p15)), none⟩, ⟨(some p17), (.mov (.t p0)), (some (p16, true))⟩, ⟨(some p18), (.mov (.t p5)), (some (p16, true))⟩, ⟨(some p19), (.sls (.t p17) (some (.t p18)) none), (some (p16, true))⟩, ⟨(some p20), (.call 95 [(.t p19), (.c (.str [239, 191, 189]))]), (some (p16, true))⟩, ⟨(some p21), (.un .not 101 (.t p20)), (some (p16, true))⟩, ⟨(some p22), (.pick (.t p16) (.t p21) (.c (.bool false))), none⟩, ⟨(some p7), (.mov (.t p22)), none⟩]) (.seq (.reg [⟨(some p23), (.mov (.t p7)), none⟩, ⟨(some p24), (.mov (.t p23)), none⟩, ⟨(some p25), (.mov (.t p1)), (some (p24, false))⟩, ⟨(some p26), (.mov (.t p6)), (some (p24, false))⟩, ⟨(some p27), (.dyn (.t p25) [(.t p26)]), (some (p24, false))⟩, ⟨(some p28), (.un .not 101 (.t p27)), (some (p24, false))⟩, ⟨(some p29), (.pick (.t p24) (.c (.bool true)) (.t p28)), none⟩]) (.cond (.t p29) (.seq (.reg [⟨(some p30), (.mov (.t p5)), none⟩, ⟨(some p4), (.mov (.t p30)), none⟩]) .ret) .skip)))))))))) (.seq (.reg [⟨(some p31), (.mov (.t p0)), none⟩, ⟨(some p32), (.len 0 (.t p31)), none⟩, ⟨(some p4), (.mov (.t p32)), none⟩]) .ret)))⟩
noncomputable def c75_0 : CEv := (cReg (step0 (some p4) (gMov (.c (.int 63 0)))
   endG))
noncomputable def c75_1 : CEv := (cReg (step0 (some p8) (gMov (.t p0))
   (step0 (some p9) (gE (iRng (.t p8)))
   endG)))
noncomputable def b75_0 : CEv := (cSeq (cReg (step0 (some p10) (gE (iNxt (.t p9)))
   (step0 (some p11) (gP (iExt (.t p10) 0))
   endG)))
  (cSeq (cCond (.t p11) cSkip
  (cExit 0))
  (cBlock 1 (cSeq (cReg (step0 (some p12) (gP (iExt (.t p10) 1))
   (step0 (some p13) (gP (iExt (.t p10) 2))
   (step0 (some p5) (gMov (.t p12))
   (step0 (some p6) (gMov (.t p13))
   endG)))))
  (cSeq (cReg (step0 (some p14) (gMov (.t p6))
   (step0 (some p15) (gP (iInt fEql 31 (.t p14) (.c (.int 31 65533))))
   (step0 (some p16) (gMov (.t p15))
   (stepG (some p17) (gMov (.t p0)) (some (p16, true))
   (stepG (some p18) (gMov (.t p5)) (some (p16, true))
   (stepG (some p19) (gP (iSls (.t p17) (some (.t p18)) none)) (some (p16, true))
   (stepG (some p20) (gCall 95 [(.t p19), (.c (.str [239, 191, 189]))]) (some (p16, true))
   (stepG (some p21) (gP (iNot (.t p20))) (some (p16, true))
   (step0 (some p22) (gP (iPick (.t p16) (.t p21) (.c (.bool false))))
   (step0 (some p7) (gMov (.t p22))
   endG)))))))))))
  (cSeq (cReg (step0 (some p23) (gMov (.t p7))
   (step0 (some p24) (gMov (.t p23))
   (stepG (some p25) (gMov (.t p1)) (some (p24, false))
   (stepG (some p26) (gMov (.t p6)) (some (p24, false))
   (stepG (some p27) (gDyn (.t p25) [(.t p26)]) (some (p24, false))
   (stepG (some p28) (gP (iNot (.t p27))) (some (p24, false))
   (step0 (some p29) (gP (iPick (.t p24) (.c (.bool true)) (.t p28)))
   endG))))))))
  (cCond (.t p29) (cSeq (cReg (step0 (some p30) (gMov (.t p5))
   (step0 (some p4) (gMov (.t p30))
   endG)))
  cRet)
  cSkip)))))))
noncomputable def c75_2 : CEv := (cBlock 0 (cLoop b75_0))
noncomputable def c75_3 : CEv := (cReg (step0 (some p31) (gMov (.t p0))
   (step0 (some p32) (gP (iLenS (.t p31)))
   (step0 (some p4) (gMov (.t p32))
   endG))))
noncomputable def sh75 : Fs := .mk [(.t p4)]
  (cSeq c75_0
  (cSeq (cSeq c75_1
  c75_2)
  (cSeq c75_3
  cRet)))
def ir76 : Fn := ⟨6, [(.t p2)], (.seq (.reg [⟨(some p2), (.mov (.c (.bool false))), none⟩]) (.seq (.reg [⟨(some p3), (.mov (.t p0)), none⟩, ⟨(some p4), (.cvis (.t p3)), none⟩, ⟨(some p5), (.call 21 [(.t p4)]), none⟩, ⟨(some p2), (.mov (.t p5)), none⟩]) .ret))⟩
noncomputable def c76_0 : CEv := (cReg (step0 (some p2) (gMov (.c (.bool false)))
   endG))
noncomputable def c76_1 : CEv := (cReg (step0 (some p3) (gMov (.t p0))
   (step0 (some p4) (gP (iCvis (.t p3)))
   (step0 (some p5) (gCall 21 [(.t p4)])
   (step0 (some p2) (gMov (.t p5))
   endG)))))
noncomputable def sh76 : Fs := .mk [(.t p2)]
  (cSeq c76_0
  (cSeq c76_1
  cRet))
def ir77 : Fn := ⟨24, [(.m p2 true 4), (.t p3)], (.seq (.reg [⟨(some p2), (.alloc 95 [(.int 63 0), (.str []), (.int 63 0), (.int 63 0)]), none⟩, ⟨(some p3), (.mov (.c (.bool false))), none⟩]) (.seq (.reg [⟨(some p5), (.mov (.t p0)), none⟩, ⟨(some p6), (.mov (.t p0)), none⟩, ⟨(some p7), (.call 75 [(.t p6), (.c (.cmp 0 96 []))]), none⟩, ⟨(some p8), (.sls (.t p5) none (some (.t p7))), none⟩, ⟨(some p9), (.build [(.int 63 0), (.str []), (.int 63 0), (.int 63 0)] [(0, (1, (.c (.int 63 1)))), (1, (1, (.t p8)))]), none⟩, ⟨(some p4), (.alloc 95 [(.int 63 0), (.str []), (.int 63 0), (.int 63 0)]), none⟩, ⟨none, (.store 4 (.t p4) (.t p9)), none⟩]) (.seq (.seq (.reg [⟨(some p10), (.fad 1 (.t p4)), none⟩, ⟨(some p11), (.load false 1 (.t p10)), none⟩, ⟨(some p12), (.bin .eql 100 (.t p11) (.c (.str [87, 73, 84, 72, 73, 78]))), none⟩, ⟨(some p13), (.mov (.t p12)), none⟩, ⟨(some p14), (.fad 1 (.t p4)), (some (p13, false))⟩, ⟨(some p15), (.load false 1 (.t p14)), (some (p13, false))⟩, ⟨(some p16), (.bin .eql 100 (.t p15) (.c (.str [66, 89]))), (some (p13, false))⟩, ⟨(some p17), (.pick (.t p13) (.c (.bool true)) (.t p16)), none⟩]) (.cond (.t p17) (.seq (.reg [⟨(some p18), (.fad 0 (.t p4)), none⟩, ⟨none, (.store 1 (.t p18) (.c (.int 63 4))), none⟩]) (.seq (.reg [⟨(some p19), (.load true 4 (.t p4)), none⟩, ⟨none, (.store 4 (.t p2) (.t p19)), none⟩, ⟨(some p3), (.mov (.c (.bool true))), none⟩]) .ret)) .skip)) (.seq (.draw [p20, p21, p22, p23, p3] [⟨1, 0, [], [p4], ⟨(some p20), (.load true 4 (.t p4)), none⟩⟩, ⟨0, 1, [0], [p4], ⟨(some p21), (.fad 1 (.t p4)), none⟩⟩, ⟨0, 2, [0], [p21], ⟨(some p22), (.load false 1 (.t p21)), none⟩⟩, ⟨3, 3, [0], [p22], ⟨(some p23), (.call 21 [(.t p22)]), none⟩⟩, ⟨2, 4, [], [p2, p20], ⟨none, (.store 4 (.t p2) (.t p20)), none⟩⟩, ⟨0, 5, [], [p23], ⟨(some p3), (.mov (.t p23)), none⟩⟩]) .ret))))⟩
noncomputable def c77_0 : CEv := (cReg (step0 (some p2) (gE (iAlloc 95 [(.int 63 0), (.str []), (.int 63 0), (.int 63 0)]))
   (step0 (some p3) (gMov (.c (.bool false)))
   endG)))
noncomputable def c77_1 : CEv := (cReg (step0 (some p5) (gMov (.t p0))
   (step0 (some p6) (gMov (.t p0))
   (step0 (some p7) (gCall 75 [(.t p6), (.c (.cmp 0 96 []))])
   (step0 (some p8) (gP (iSls (.t p5) none (some (.t p7))))
   (step0 (some p9) (gP (iBuild [(.int 63 0), (.str []), (.int 63 0), (.int 63 0)] [(0, (1, (.c (.int 63 1)))), (1, (1, (.t p8)))]))
   (step0 (some p4) (gE (iAlloc 95 [(.int 63 0), (.str []), (.int 63 0), (.int 63 0)]))
   (step0 none (gE (iStore 4 (.t p4) (.t p9)))
   endG))))))))
noncomputable def c77_2 : CEv := (cReg (step0 (some p10) (gP (iFad 1 (.t p4)))
   (step0 (some p11) (gP (iLoad false 1 (.t p10)))
   (step0 (some p12) (gP (iStr sEql (.t p11) (.c (.str [87, 73, 84, 72, 73, 78]))))
   (step0 (some p13) (gMov (.t p12))
   (stepG (some p14) (gP (iFad 1 (.t p4))) (some (p13, false))
   (stepG (some p15) (gP (iLoad false 1 (.t p14))) (some (p13, false))
   (stepG (some p16) (gP (iStr sEql (.t p15) (.c (.str [66, 89])))) (some (p13, false))
   (step0 (some p17) (gP (iPick (.t p13) (.c (.bool true)) (.t p16)))
   endG)))))))))
noncomputable def c77_3 : CEv := (cCond (.t p17) (cSeq (cReg (step0 (some p18) (gP (iFad 0 (.t p4)))
   (step0 none (gE (iStore 1 (.t p18) (.c (.int 63 4))))
   endG)))
  (cSeq (cReg (step0 (some p19) (gP (iLoad true 4 (.t p4)))
   (step0 none (gE (iStore 4 (.t p2) (.t p19)))
   (step0 (some p3) (gMov (.c (.bool true)))
   endG))))
  cRet))
  cSkip)
noncomputable def c77_4 : CEv := (cDraw [p20, p21, p22, p23, p3] (stepQ 0 [p4] (some p20) (gP (iLoad true 4 (.t p4))) none
   (stepR [p4] (some p21) (gP (iFad 1 (.t p4))) none
   (stepR [p21] (some p22) (gP (iLoad false 1 (.t p21))) none
   (stepC [0] [p22] (some p23) (gCall 21 [(.t p22)]) none
   (stepL [p2, p20] none (gE (iStore 4 (.t p2) (.t p20))) none
   (stepR [p23] (some p3) (gMov (.t p23)) none
   endD)))))))
noncomputable def sh77 : Fs := .mk [(.m p2 true 4), (.t p3)]
  (cSeq c77_0
  (cSeq c77_1
  (cSeq (cSeq c77_2
  c77_3)
  (cSeq c77_4
  cRet))))
def ir78 : Fn := ⟨5, [(.t p2)], (.seq (.reg [⟨(some p2), (.mov (.c (.bool false))), none⟩]) (.seq (.reg [⟨(some p3), (.mov (.t p0)), none⟩, ⟨(some p4), (.call 94 [(.c (.str [48, 49, 50, 51, 52, 53, 54, 55, 56, 57])), (.t p3)]), none⟩, ⟨(some p2), (.mov (.t p4)), none⟩]) .ret))⟩
noncomputable def c78_0 : CEv := (cReg (step0 (some p2) (gMov (.c (.bool false)))
   endG))
noncomputable def c78_1 : CEv := (cReg (step0 (some p3) (gMov (.t p0))
   (step0 (some p4) (gCall 94 [(.c (.str [48, 49, 50, 51, 52, 53, 54, 55, 56, 57])), (.t p3)])
   (step0 (some p2) (gMov (.t p4))
   endG))))
noncomputable def sh78 : Fs := .mk [(.t p2)]
  (cSeq c78_0
  (cSeq c78_1
  cRet))
def ir79 : Fn := ⟨31, [(.m p2 true 4), (.t p3)], (.seq (.reg [⟨(some p2), (.alloc 95 [(.int 63 0), (.str []), (.int 63 0), (.int 63 0)]), none⟩, ⟨(some p3), (.mov (.c (.bool false))), none⟩]) (.seq (.reg [⟨(some p7), (.mov (.t p0)), none⟩, ⟨(some p8), (.mov (.t p0)), none⟩, ⟨(some p9), (.call 75 [(.t p8), (.c (.cmp 0 78 []))]), none⟩, ⟨(some p10), (.sls (.t p7) none (some (.t p9))), none⟩, ⟨(some p11), (.build [(.int 63 0), (.str []), (.int 63 0), (.int 63 0)] [(0, (1, (.c (.int 63 2)))), (1, (1, (.t p10)))]), none⟩, ⟨(some p4), (.alloc 95 [(.int 63 0), (.str []), (.int 63 0), (.int 63 0)]), none⟩, ⟨none, (.store 4 (.t p4) (.t p11)), none⟩]) (.seq (.reg [⟨(some p13), (.fad 1 (.t p4)), none⟩, ⟨(some p14), (.load false 1 (.t p13)), none⟩, ⟨(some p15), (.call 97 [(.t p14), (.c (.int 63 10)), (.c (.int 63 64))]), none⟩, ⟨(some p12), (.mov (.t p15)), none⟩, ⟨(some p16), (.ext (.t p12) 0), none⟩, ⟨(some p17), (.ext (.t p12) 1), none⟩, ⟨(some p5), (.mov (.t p16)), none⟩, ⟨(some p6), (.mov (.t p17)), none⟩]) (.seq (.seq (.draw [p18, p19, p20, p21, p22, p23, p24, p25, p26] [⟨0, 0, [], [p6], ⟨(some p18), (.mov (.t p6)), none⟩⟩, ⟨0, 1, [], [p18], ⟨(some p19), (.eqn true 7 101 (.t p18) (.c (.ref 7 0 0 0 0 false))), none⟩⟩, ⟨0, 2, [], [p19], ⟨(some p20), (.mov (.t p19)), none⟩⟩, ⟨0, 3, [], [p5, p20], ⟨(some p21), (.mov (.t p5)), (some (p20, false))⟩⟩, ⟨0, 5, [], [p4, p20], ⟨(some p23), (.fad 1 (.t p4)), (some (p20, false))⟩⟩, ⟨1, 6, [], [p23, p20], ⟨(some p24), (.load false 1 (.t p23)), (some (p20, false))⟩⟩, ⟨3, 4, [6], [p21, p20], ⟨(some p22), (.call 98 [(.t p21), (.c (.int 63 10))]), (some (p20, false))⟩⟩, ⟨0, 7, [], [p22, p24, p20], ⟨(some p25), (.bin .neq 100 (.t p22) (.t p24)), (some (p20, false))⟩⟩, ⟨0, 8, [], [p20, p25], ⟨(some p26), (.pick (.t p20) (.c (.bool true)) (.t p25)), none⟩⟩]) (.cond (.t p26) (.seq (.reg [⟨(some p27), (.load true 4 (.t p4)), none⟩, ⟨none, (.store 4 (.t p2) (.t p27)), none⟩, ⟨(some p3), (.mov (.c (.bool false))), none⟩]) .ret) .skip)) (.seq (.reg [⟨(some p28), (.mov (.t p5)), none⟩, ⟨(some p29), (.fad 2 (.t p4)), none⟩, ⟨none, (.store 1 (.t p29) (.t p28)), none⟩]) (.seq (.reg [⟨(some p30), (.load true 4 (.t p4)), none⟩, ⟨none, (.store 4 (.t p2) (.t p30)), none⟩, ⟨(some p3), (.mov (.c (.bool true))), none⟩]) .ret))))))⟩
noncomputable def c79_0 : CEv := (cReg (step0 (some p2) (gE (iAlloc 95 [(.int 63 0), (.str []), (.int 63 0), (.int 63 0)]))
   (step0 (some p3) (gMov (.c (.bool false)))
   endG)))
noncomputable def c79_1 : CEv := (cReg (step0 (some p7) (gMov (.t p0))
   (step0 (some p8) (gMov (.t p0))
   (step0 (some p9) (gCall 75 [(.t p8), (.c (.cmp 0 78 []))])
   (step0 (some p10) (gP (iSls (.t p7) none (some (.t p9))))
   (step0 (some p11) (gP (iBuild [(.int 63 0), (.str []), (.int 63 0), (.int 63 0)] [(0, (1, (.c (.int 63 2)))), (1, (1, (.t p10)))]))
   (step0 (some p4) (gE (iAlloc 95 [(.int 63 0), (.str []), (.int 63 0), (.int 63 0)]))
   (step0 none (gE (iStore 4 (.t p4) (.t p11)))
   endG))))))))
noncomputable def c79_2 : CEv := (cReg (step0 (some p13) (gP (iFad 1 (.t p4)))
   (step0 (some p14) (gP (iLoad false 1 (.t p13)))
   (step0 (some p15) (gCall 97 [(.t p14), (.c (.int 63 10)), (.c (.int 63 64))])
   (step0 (some p12) (gMov (.t p15))
   (step0 (some p16) (gP (iExt (.t p12) 0))
   (step0 (some p17) (gP (iExt (.t p12) 1))
   (step0 (some p5) (gMov (.t p16))
   (step0 (some p6) (gMov (.t p17))
   endG)))))))))
noncomputable def c79_3 : CEv := (cDraw [p18, p19, p20, p21, p22, p23, p24, p25, p26] (stepR [p6] (some p18) (gMov (.t p6)) none
   (stepR [p18] (some p19) (gP (iEqn true 7 101 (.t p18) (.c (.ref 7 0 0 0 0 false)))) none
   (stepR [p19] (some p20) (gMov (.t p19)) none
   (stepR [p5, p20] (some p21) (gMov (.t p5)) (some (p20, false))
   (stepR [p4, p20] (some p23) (gP (iFad 1 (.t p4))) (some (p20, false))
   (stepQ 6 [p23, p20] (some p24) (gP (iLoad false 1 (.t p23))) (some (p20, false))
   (stepC [6] [p21, p20] (some p22) (gCall 98 [(.t p21), (.c (.int 63 10))]) (some (p20, false))
   (stepR [p22, p24, p20] (some p25) (gP (iStr sNeq (.t p22) (.t p24))) (some (p20, false))
   (stepR [p20, p25] (some p26) (gP (iPick (.t p20) (.c (.bool true)) (.t p25))) none
   endD))))))))))
noncomputable def c79_4 : CEv := (cCond (.t p26) (cSeq (cReg (step0 (some p27) (gP (iLoad true 4 (.t p4)))
   (step0 none (gE (iStore 4 (.t p2) (.t p27)))
   (step0 (some p3) (gMov (.c (.bool false)))
   endG))))
  cRet)
  cSkip)
noncomputable def c79_5 : CEv := (cReg (step0 (some p28) (gMov (.t p5))
   (step0 (some p29) (gP (iFad 2 (.t p4)))
   (step0 none (gE (iStore 1 (.t p29) (.t p28)))
   endG))))
noncomputable def c79_6 : CEv := (cReg (step0 (some p30) (gP (iLoad true 4 (.t p4)))
   (step0 none (gE (iStore 4 (.t p2) (.t p30)))
   (step0 (some p3) (gMov (.c (.bool true)))
   endG))))
noncomputable def sh79 : Fs := .mk [(.m p2 true 4), (.t p3)]
  (cSeq c79_0
  (cSeq c79_1
  (cSeq c79_2
  (cSeq (cSeq c79_3
  c79_4)
  (cSeq c79_5
  (cSeq c79_6
  cRet))))))
def ir80 : Fn := ⟨20, [(.m p2 true 4), (.t p3)], (.seq (.reg [⟨(some p1), (.box 9 (.t p0)), none⟩, ⟨(some p2), (.alloc 95 [(.int 63 0), (.str []), (.int 63 0), (.int 63 0)]), none⟩, ⟨(some p3), (.mov (.c (.bool false))), none⟩]) (.seq (.reg [⟨(some p6), (.call 99 []), none⟩, ⟨(some p4), (.mov (.t p6)), none⟩]) (.seq (.reg [⟨(some p7), (.mov (.t p4)), none⟩, ⟨(some p8), (.call 100 [(.t p7), (.c (.cmp 0 101 []))]), none⟩]) (.seq (.reg [⟨(some p9), (.mov (.t p4)), none⟩, ⟨(some p10), (.mkf 103 [(.t p1)]), none⟩, ⟨(some p11), (.call 102 [(.t p9), (.t p10)]), none⟩, ⟨(some p5), (.mov (.t p11)), none⟩]) (.seq (.seq (.reg [⟨(some p12), (.mov (.t p5)), none⟩, ⟨(some p13), (.bin .lss 63 (.t p12) (.c (.int 63 0))), none⟩]) (.cond (.t p13) (.seq (.reg [⟨(some p14), (.build [(.int 63 0), (.str []), (.int 63 0), (.int 63 0)] []), none⟩, ⟨none, (.store 4 (.t p2) (.t p14)), none⟩, ⟨(some p3), (.mov (.c (.bool false))), none⟩]) .ret) .skip)) (.seq (.reg [⟨(some p15), (.mov (.t p4)), none⟩, ⟨(some p16), (.mov (.t p5)), none⟩, ⟨(some p17), (.iad 1 (.t p15) (.t p16)), none⟩, ⟨(some p18), (.load false 1 (.t p17)), none⟩, ⟨(some p19), (.build [(.int 63 0), (.str []), (.int 63 0), (.int 63 0)] [(0, (1, (.c (.int 63 3)))), (1, (1, (.t p18)))]), none⟩, ⟨none, (.store 4 (.t p2) (.t p19)), none⟩, ⟨(some p3), (.mov (.c (.bool true))), none⟩]) .ret))))))⟩
noncomputable def c80_0 : CEv := (cReg (step0 (some p1) (gE (iBox 9 (.t p0)))
   (step0 (some p2) (gE (iAlloc 95 [(.int 63 0), (.str []), (.int 63 0), (.int 63 0)]))
   (step0 (some p3) (gMov (.c (.bool false)))
   endG))))
noncomputable def c80_1 : CEv := (cReg (step0 (some p6) (gCall 99 [])
   (step0 (some p4) (gMov (.t p6))
   endG)))
noncomputable def c80_2 : CEv := (cReg (step0 (some p7) (gMov (.t p4))
   (step0 (some p8) (gCall 100 [(.t p7), (.c (.cmp 0 101 []))])
   endG)))
noncomputable def c80_3 : CEv := (cReg (step0 (some p9) (gMov (.t p4))
   (step0 (some p10) (gP (iMkf 103 [(.t p1)]))
   (step0 (some p11) (gCall 102 [(.t p9), (.t p10)])
   (step0 (some p5) (gMov (.t p11))
   endG)))))
noncomputable def c80_4 : CEv := (cReg (step0 (some p12) (gMov (.t p5))
   (step0 (some p13) (gP (iInt fLss 63 (.t p12) (.c (.int 63 0))))
   endG)))
noncomputable def c80_5 : CEv := (cCond (.t p13) (cSeq (cReg (step0 (some p14) (gP (iBuild [(.int 63 0), (.str []), (.int 63 0), (.int 63 0)] []))
   (step0 none (gE (iStore 4 (.t p2) (.t p14)))
   (step0 (some p3) (gMov (.c (.bool false)))
   endG))))
  cRet)
  cSkip)
noncomputable def c80_6 : CEv := (cReg (step0 (some p15) (gMov (.t p4))
   (step0 (some p16) (gMov (.t p5))
   (step0 (some p17) (gP (iIad 1 (.t p15) (.t p16)))
   (step0 (some p18) (gP (iLoad false 1 (.t p17)))
   (step0 (some p19) (gP (iBuild [(.int 63 0), (.str []), (.int 63 0), (.int 63 0)] [(0, (1, (.c (.int 63 3)))), (1, (1, (.t p18)))]))
   (step0 none (gE (iStore 4 (.t p2) (.t p19)))
   (step0 (some p3) (gMov (.c (.bool true)))
   endG))))))))
noncomputable def sh80 : Fs := .mk [(.m p2 true 4), (.t p3)]
  (cSeq c80_0
  (cSeq c80_1
  (cSeq c80_2
  (cSeq c80_3
  (cSeq (cSeq c80_4
  c80_5)
  (cSeq c80_6
  cRet))))))
def ir81 : Fn := ⟨24, [(.m p2 true 7)], (.seq (.reg [⟨(some p2), (.alloc 28 [(.int 63 0), (.str []), (.str []), (.ref 2 0 0 0 0 false), (.int 63 0), (.int 63 0), (.ref 2 0 0 0 0 false)]), none⟩]) (.seq (.reg [⟨(some p4), (.mov (.t p0)), none⟩, ⟨(some p5), (.call 34 [(.t p4)]), none⟩, ⟨(some p6), (.bsl 24 1 [(.ref 2 0 0 0 0 false)] [(0, (1, (.t p5)))]), none⟩, ⟨(some p7), (.build [(.int 63 0), (.str []), (.str []), (.ref 2 0 0 0 0 false), (.int 63 0), (.int 63 0), (.ref 2 0 0 0 0 false)] [(0, (1, (.c (.int 63 3)))), (6, (1, (.t p6)))]), none⟩, ⟨(some p3), (.alloc 28 [(.int 63 0), (.str []), (.str []), (.ref 2 0 0 0 0 false), (.int 63 0), (.int 63 0), (.ref 2 0 0 0 0 false)]), none⟩, ⟨none, (.store 7 (.t p3) (.t p7)), none⟩]) (.seq (.reg [⟨(some p8), (.mov (.t p0)), none⟩, ⟨(some p9), (.mov (.t p0)), none⟩, ⟨(some p10), (.call 60 [(.t p9), (.c (.str [124]))]), none⟩, ⟨(some p11), (.call 33 [(.t p8), (.t p10)]), none⟩]) (.seq (.block 0 (.loop (.seq (.seq (.reg [⟨(some p12), (.mov (.t p0)), none⟩, ⟨(some p13), (.call 37 [(.t p12), (.c (.str [124]))]), none⟩]) (.cond (.t p13) .skip (.exit 0))) (.block 1 (.draw [p14, p15, p16, p17, p18, p19, p20] [⟨0, 0, [], [p3], ⟨(some p14), (.fad 6 (.t p3)), none⟩⟩, ⟨1, 1, [], [p14], ⟨(some p15), (.load false 1 (.t p14)), none⟩⟩, ⟨0, 2, [1], [p0], ⟨(some p16), (.mov (.t p0)), none⟩⟩, ⟨3, 3, [1], [p16], ⟨(some p17), (.call 34 [(.t p16)]), none⟩⟩, ⟨4, 4, [1], [p17], ⟨(some p18), (.bsl 24 1 [(.ref 2 0 0 0 0 false)] [(0, (1, (.t p17)))]), none⟩⟩, ⟨2, 5, [], [p15, p18], ⟨(some p19), (.app false 24 1 24 (.t p15) (.t p18)), none⟩⟩, ⟨0, 6, [], [p3], ⟨(some p20), (.fad 6 (.t p3)), none⟩⟩, ⟨2, 7, [], [p20, p19], ⟨none, (.store 1 (.t p20) (.t p19)), none⟩⟩]))))) (.seq (.reg [⟨(some p21), (.mov (.t p0)), none⟩, ⟨(some p22), (.call 35 [(.t p21), (.c (.str [41]))]), none⟩]) (.seq (.reg [⟨(some p23), (.load true 7 (.t p3)), none⟩, ⟨none, (.store 7 (.t p2) (.t p23)), none⟩]) .ret))))))⟩
noncomputable def c81_0 : CEv := (cReg (step0 (some p2) (gE (iAlloc 28 [(.int 63 0), (.str []), (.str []), (.ref 2 0 0 0 0 false), (.int 63 0), (.int 63 0), (.ref 2 0 0 0 0 false)]))
   endG))
noncomputable def c81_1 : CEv := (cReg (step0 (some p4) (gMov (.t p0))
   (step0 (some p5) (gCall 34 [(.t p4)])
   (step0 (some p6) (gE (iBsl 24 1 [(.ref 2 0 0 0 0 false)] [(0, (1, (.t p5)))]))
   (step0 (some p7) (gP (iBuild [(.int 63 0), (.str []), (.str []), (.ref 2 0 0 0 0 false), (.int 63 0), (.int 63 0), (.ref 2 0 0 0 0 false)] [(0, (1, (.c (.int 63 3)))), (6, (1, (.t p6)))]))
   (step0 (some p3) (gE (iAlloc 28 [(.int 63 0), (.str []), (.str []), (.ref 2 0 0 0 0 false), (.int 63 0), (.int 63 0), (.ref 2 0 0 0 0 false)]))
   (step0 none (gE (iStore 7 (.t p3) (.t p7)))
   endG)))))))
noncomputable def c81_2 : CEv := (cReg (step0 (some p8) (gMov (.t p0))
   (step0 (some p9) (gMov (.t p0))
   (step0 (some p10) (gCall 60 [(.t p9), (.c (.str [124]))])
   (step0 (some p11) (gCall 33 [(.t p8), (.t p10)])
   endG)))))
noncomputable def b81_0 : CEv := (cSeq (cSeq (cReg (step0 (some p12) (gMov (.t p0))
   (step0 (some p13) (gCall 37 [(.t p12), (.c (.str [124]))])
   endG)))
  (cCond (.t p13) cSkip
  (cExit 0)))
  (cBlock 1 (cDraw [p14, p15, p16, p17, p18, p19, p20] (stepR [p3] (some p14) (gP (iFad 6 (.t p3))) none
   (stepQ 1 [p14] (some p15) (gP (iLoad false 1 (.t p14))) none
   (stepR [p0] (some p16) (gMov (.t p0)) none
   (stepC [1] [p16] (some p17) (gCall 34 [(.t p16)]) none
   (stepL [p17] (some p18) (gE (iBsl 24 1 [(.ref 2 0 0 0 0 false)] [(0, (1, (.t p17)))])) none
   (stepL [p15, p18] (some p19) (gE (iApp false 24 1 24 (.t p15) (.t p18))) none
   (stepR [p3] (some p20) (gP (iFad 6 (.t p3))) none
   (stepL [p20, p19] none (gE (iStore 1 (.t p20) (.t p19))) none
   endD)))))))))))
noncomputable def c81_3 : CEv := (cBlock 0 (cLoop b81_0))
noncomputable def c81_4 : CEv := (cReg (step0 (some p21) (gMov (.t p0))
   (step0 (some p22) (gCall 35 [(.t p21), (.c (.str [41]))])
   endG)))
noncomputable def c81_5 : CEv := (cReg (step0 (some p23) (gP (iLoad true 7 (.t p3)))
   (step0 none (gE (iStore 7 (.t p2) (.t p23)))
   endG)))
noncomputable def sh81 : Fs := .mk [(.m p2 true 7)]
  (cSeq c81_0
  (cSeq c81_1
  (cSeq c81_2
  (cSeq c81_3
  (cSeq c81_4
  (cSeq c81_5
  cRet))))))
def ir82 : Fn := ⟨5, [(.m p2 true 6)], (.seq (.reg [⟨(some p2), (.alloc 30 [(.int 63 0), (.str []), (.int 63 0), (.str []), (.str []), (.ref 2 0 0 0 0 false)]), none⟩]) (.seq (.reg [⟨(some p3), (.mov (.t p0)), none⟩, ⟨(some p4), (.call 104 [(.t p3), (.c (.int 63 0))]), none⟩, ⟨none, (.store 6 (.t p2) (.t p4)), none⟩]) .ret))⟩
noncomputable def c82_0 : CEv := (cReg (step0 (some p2) (gE (iAlloc 30 [(.int 63 0), (.str []), (.int 63 0), (.str []), (.str []), (.ref 2 0 0 0 0 false)]))
   endG))
noncomputable def c82_1 : CEv := (cReg (step0 (some p3) (gMov (.t p0))
   (step0 (some p4) (gCall 104 [(.t p3), (.c (.int 63 0))])
   (step0 none (gE (iStore 6 (.t p2) (.t p4)))
   endG))))
noncomputable def sh82 : Fs := .mk [(.m p2 true 6)]
  (cSeq c82_0
  (cSeq c82_1
  cRet))
def ir83 : Fn := ⟨8, [(.t p3)], (.seq (.reg [⟨(some p3), (.mov (.c (.bool false))), none⟩]) (.seq (.reg [⟨(some p4), (.load false 1 (.t p1)), none⟩, ⟨(some p5), (.mov (.t p0)), none⟩, ⟨(some p6), (.dyn (.t p4) [(.t p5)]), none⟩, ⟨(some p7), (.un .not 101 (.t p6)), none⟩, ⟨(some p3), (.mov (.t p7)), none⟩]) .ret))⟩
noncomputable def c83_0 : CEv := (cReg (step0 (some p3) (gMov (.c (.bool false)))
   endG))
noncomputable def c83_1 : CEv := (cReg (step0 (some p4) (gP (iLoad false 1 (.t p1)))
   (step0 (some p5) (gMov (.t p0))
   (step0 (some p6) (gDyn (.t p4) [(.t p5)])
   (step0 (some p7) (gP (iNot (.t p6)))
   (step0 (some p3) (gMov (.t p7))
   endG))))))
noncomputable def sh83 : Fs := .mk [(.t p3)]
  (cSeq c83_0
  (cSeq c83_1
  cRet))
def ir84 : Fn := ⟨8, [(.t p3)], (.seq (.reg [⟨(some p2), (.box 30 (.t p0)), none⟩, ⟨(some p3), (.mov (.c (.bool false))), none⟩]) (.seq (.reg [⟨(some p4), (.load false 1 (.t p1)), none⟩, ⟨(some p5), (.load true 6 (.t p2)), none⟩, ⟨(some p6), (.dyn (.t p4) [(.t p5)]), none⟩, ⟨(some p7), (.un .not 101 (.t p6)), none⟩, ⟨(some p3), (.mov (.t p7)), none⟩]) .ret))⟩
noncomputable def c84_0 : CEv := (cReg (step0 (some p2) (gE (iBox 30 (.t p0)))
   (step0 (some p3) (gMov (.c (.bool false)))
   endG)))
noncomputable def c84_1 : CEv := (cReg (step0 (some p4) (gP (iLoad false 1 (.t p1)))
   (step0 (some p5) (gP (iLoad true 6 (.t p2)))
   (step0 (some p6) (gDyn (.t p4) [(.t p5)])
   (step0 (some p7) (gP (iNot (.t p6)))
   (step0 (some p3) (gMov (.t p7))
   endG))))))
noncomputable def sh84 : Fs := .mk [(.t p3)]
  (cSeq c84_0
  (cSeq c84_1
  cRet))
def ir85 : Fn := ⟨57, [(.m p2 true 3), (.t p3)], (.seq (.reg [⟨(some p1), (.box 30 (.t p0)), none⟩, ⟨(some p2), (.alloc 122 [(.bool false), (.bool false), (.int 63 0)]), none⟩, ⟨(some p3), (.mov (.c (.bool false))), none⟩]) (.seq (.seq (.reg [⟨(some p4), (.fad 0 (.t p1)), none⟩, ⟨(some p5), (.load false 1 (.t p4)), none⟩]) (.block 0 (.seq (.reg [⟨(some p7), (.bin .eql 63 (.t p5) (.c (.int 63 0))), none⟩, ⟨(some p6), (.mov (.t p7)), none⟩]) (.cond (.t p6) (.seq (.draw [p8, p9, p10, p11, p3] [⟨0, 0, [], [], ⟨(some p8), (.build [(.bool false), (.bool false), (.int 63 0)] []), none⟩⟩, ⟨0, 1, [], [p1], ⟨(some p9), (.fad 2 (.t p1)), none⟩⟩, ⟨1, 2, [], [p9], ⟨(some p10), (.load false 1 (.t p9)), none⟩⟩, ⟨0, 3, [], [p10], ⟨(some p11), (.bin .geq 63 (.t p10) (.c (.int 63 0))), none⟩⟩, ⟨3, 4, [2], [p2, p8], ⟨none, (.store 3 (.t p2) (.t p8)), none⟩⟩, ⟨0, 5, [], [p11], ⟨(some p3), (.mov (.t p11)), none⟩⟩]) .ret) (.seq (.reg [⟨(some p13), (.bin .eql 63 (.t p5) (.c (.int 63 1))), none⟩, ⟨(some p12), (.mov (.t p13)), none⟩]) (.cond (.t p12) (.seq (.reg [⟨(some p14), (.build [(.bool false), (.bool false), (.int 63 0)] [(1, (1, (.c (.bool true))))]), none⟩, ⟨(some p15), (.fad 2 (.t p1)), none⟩, ⟨(some p16), (.load false 1 (.t p15)), none⟩, ⟨(some p17), (.bin .eql 63 (.t p16) (.c (.int 63 0))), none⟩, ⟨(some p18), (.mov (.t p17)), none⟩, ⟨(some p19), (.fad 3 (.t p1)), (some (p18, true))⟩, ⟨(some p20), (.load false 1 (.t p19)), (some (p18, true))⟩, ⟨(some p21), (.call 21 [(.t p20)]), (some (p18, true))⟩, ⟨(some p22), (.pick (.t p18) (.t p21) (.c (.bool false))), none⟩, ⟨(some p23), (.mov (.t p22)), none⟩, ⟨(some p24), (.fad 4 (.t p1)), (some (p23, true))⟩, ⟨(some p25), (.load false 1 (.t p24)), (some (p23, true))⟩, ⟨(some p26), (.call 21 [(.t p25)]), (some (p23, true))⟩, ⟨(some p27), (.pick (.t p23) (.t p26) (.c (.bool false))), none⟩, ⟨none, (.store 3 (.t p2) (.t p14)), none⟩, ⟨(some p3), (.mov (.t p27)), none⟩]) .ret) (.seq (.reg [⟨(some p29), (.bin .eql 63 (.t p5) (.c (.int 63 2))), none⟩, ⟨(some p28), (.mov (.t p29)), none⟩]) (.cond (.t p28) (.seq (.draw [p30, p31, p32, p33, p34, p35, p36, p37, p38, p39, p40, p41, p42, p43, p3] [⟨0, 0, [], [], ⟨(some p30), (.build [(.bool false), (.bool false), (.int 63 0)] [(0, (1, (.c (.bool true)))), (2, (1, (.c (.int 63 1))))]), none⟩⟩, ⟨0, 1, [], [p1], ⟨(some p31), (.fad 2 (.t p1)), none⟩⟩, ⟨0, 2, [], [p31], ⟨(some p32), (.load false 1 (.t p31)), none⟩⟩, ⟨0, 3, [], [p32], ⟨(some p33), (.bin .eql 63 (.t p32) (.c (.int 63 0))), none⟩⟩, ⟨0, 4, [], [p33], ⟨(some p34), (.mov (.t p33)), none⟩⟩, ⟨0, 5, [], [p1, p34], ⟨(some p35), (.fad 1 (.t p1)), (some (p34, true))⟩⟩, ⟨0, 6, [], [p35, p34], ⟨(some p36), (.load false 1 (.t p35)), (some (p34, true))⟩⟩, ⟨0, 7, [], [p36, p34], ⟨(some p37), (.bin .eql 100 (.t p36) (.c (.str [45]))), (some (p34, true))⟩⟩, ⟨0, 8, [], [p37, p34], ⟨(some p38), (.mov (.t p37)), (some (p34, true))⟩⟩, ⟨0, 9, [], [p1, p38], ⟨(some p39), (.fad 1 (.t p1)), (some (p38, false))⟩⟩, ⟨1, 10, [], [p39, p38], ⟨(some p40), (.load false 1 (.t p39)), (some (p38, false))⟩⟩, ⟨0, 11, [], [p40, p38], ⟨(some p41), (.bin .eql 100 (.t p40) (.c (.str [33]))), (some (p38, false))⟩⟩, ⟨0, 12, [], [p38, p41, p34], ⟨(some p42), (.pick (.t p38) (.c (.bool true)) (.t p41)), (some (p34, true))⟩⟩, ⟨0, 13, [], [p34, p42], ⟨(some p43), (.pick (.t p34) (.t p42) (.c (.bool false))), none⟩⟩, ⟨3, 14, [10], [p2, p30], ⟨none, (.store 3 (.t p2) (.t p30)), none⟩⟩, ⟨0, 15, [], [p43], ⟨(some p3), (.mov (.t p43)), none⟩⟩]) .ret) (.seq (.reg [⟨(some p45), (.bin .eql 63 (.t p5) (.c (.int 63 3))), none⟩, ⟨(some p44), (.mov (.t p45)), none⟩]) (.cond (.t p44) (.seq (.reg [⟨(some p46), (.build [(.bool false), (.bool false), (.int 63 0)] [(0, (1, (.c (.bool true)))), (2, (1, (.c (.int 63 2))))]), none⟩, ⟨(some p47), (.fad 2 (.t p1)), none⟩, ⟨(some p48), (.load false 1 (.t p47)), none⟩, ⟨(some p49), (.bin .eql 63 (.t p48) (.c (.int 63 0))), none⟩, ⟨(some p50), (.mov (.t p49)), none⟩, ⟨(some p51), (.fad 1 (.t p1)), (some (p50, true))⟩, ⟨(some p52), (.load false 1 (.t p51)), (some (p50, true))⟩, ⟨(some p53), (.call 87 [(.t p52)]), (some (p50, true))⟩, ⟨(some p54), (.bin .gtr 63 (.t p53) (.c (.int 63 0))), (some (p50, true))⟩, ⟨(some p55), (.pick (.t p50) (.t p54) (.c (.bool false))), none⟩, ⟨none, (.store 3 (.t p2) (.t p46)), none⟩, ⟨(some p3), (.mov (.t p55)), none⟩]) .ret) .skip)))))))))) (.seq (.reg [⟨(some p56), (.build [(.bool false), (.bool false), (.int 63 0)] []), none⟩, ⟨none, (.store 3 (.t p2) (.t p56)), none⟩, ⟨(some p3), (.mov (.c (.bool false))), none⟩]) .ret)))⟩
noncomputable def c85_0 : CEv := (cReg (step0 (some p1) (gE (iBox 30 (.t p0)))
   (step0 (some p2) (gE (iAlloc 122 [(.bool false), (.bool false), (.int 63 0)]))
   (step0 (some p3) (gMov (.c (.bool false)))
   endG))))
noncomputable def c85_1 : CEv := (cReg (step0 (some p4) (gP (iFad 0 (.t p1)))
   (step0 (some p5) (gP (iLoad false 1 (.t p4)))
   endG)))
noncomputable def c85_2 : CEv := (cBlock 0 (cSeq (cReg (step0 (some p7) (gP (iInt fEql 63 (.t p5) (.c (.int 63 0))))
   (step0 (some p6) (gMov (.t p7))
   endG)))
  (cCond (.t p6) (cSeq (cDraw [p8, p9, p10, p11, p3] (stepR [] (some p8) (gP (iBuild [(.bool false), (.bool false), (.int 63 0)] [])) none
   (stepR [p1] (some p9) (gP (iFad 2 (.t p1))) none
   (stepQ 2 [p9] (some p10) (gP (iLoad false 1 (.t p9))) none
   (stepR [p10] (some p11) (gP (iInt fGeq 63 (.t p10) (.c (.int 63 0)))) none
   (stepC [2] [p2, p8] none (gE (iStore 3 (.t p2) (.t p8))) none
   (stepR [p11] (some p3) (gMov (.t p11)) none
   endD)))))))
  cRet)
  (cSeq (cReg (step0 (some p13) (gP (iInt fEql 63 (.t p5) (.c (.int 63 1))))
   (step0 (some p12) (gMov (.t p13))
   endG)))
  (cCond (.t p12) (cSeq (cReg (step0 (some p14) (gP (iBuild [(.bool false), (.bool false), (.int 63 0)] [(1, (1, (.c (.bool true))))]))
   (step0 (some p15) (gP (iFad 2 (.t p1)))
   (step0 (some p16) (gP (iLoad false 1 (.t p15)))
   (step0 (some p17) (gP (iInt fEql 63 (.t p16) (.c (.int 63 0))))
   (step0 (some p18) (gMov (.t p17))
   (stepG (some p19) (gP (iFad 3 (.t p1))) (some (p18, true))
   (stepG (some p20) (gP (iLoad false 1 (.t p19))) (some (p18, true))
   (stepG (some p21) (gCall 21 [(.t p20)]) (some (p18, true))
   (step0 (some p22) (gP (iPick (.t p18) (.t p21) (.c (.bool false))))
   (step0 (some p23) (gMov (.t p22))
   (stepG (some p24) (gP (iFad 4 (.t p1))) (some (p23, true))
   (stepG (some p25) (gP (iLoad false 1 (.t p24))) (some (p23, true))
   (stepG (some p26) (gCall 21 [(.t p25)]) (some (p23, true))
   (step0 (some p27) (gP (iPick (.t p23) (.t p26) (.c (.bool false))))
   (step0 none (gE (iStore 3 (.t p2) (.t p14)))
   (step0 (some p3) (gMov (.t p27))
   endG)))))))))))))))))
  cRet)
  (cSeq (cReg (step0 (some p29) (gP (iInt fEql 63 (.t p5) (.c (.int 63 2))))
   (step0 (some p28) (gMov (.t p29))
   endG)))
  (cCond (.t p28) (cSeq (cDraw [p30, p31, p32, p33, p34, p35, p36, p37, p38, p39, p40, p41, p42, p43, p3] (stepR [] (some p30) (gP (iBuild [(.bool false), (.bool false), (.int 63 0)] [(0, (1, (.c (.bool true)))), (2, (1, (.c (.int 63 1))))])) none
   (stepR [p1] (some p31) (gP (iFad 2 (.t p1))) none
   (stepR [p31] (some p32) (gP (iLoad false 1 (.t p31))) none
   (stepR [p32] (some p33) (gP (iInt fEql 63 (.t p32) (.c (.int 63 0)))) none
   (stepR [p33] (some p34) (gMov (.t p33)) none
   (stepR [p1, p34] (some p35) (gP (iFad 1 (.t p1))) (some (p34, true))
   (stepR [p35, p34] (some p36) (gP (iLoad false 1 (.t p35))) (some (p34, true))
   (stepR [p36, p34] (some p37) (gP (iStr sEql (.t p36) (.c (.str [45])))) (some (p34, true))
   (stepR [p37, p34] (some p38) (gMov (.t p37)) (some (p34, true))
   (stepR [p1, p38] (some p39) (gP (iFad 1 (.t p1))) (some (p38, false))
   (stepQ 10 [p39, p38] (some p40) (gP (iLoad false 1 (.t p39))) (some (p38, false))
   (stepR [p40, p38] (some p41) (gP (iStr sEql (.t p40) (.c (.str [33])))) (some (p38, false))
   (stepR [p38, p41, p34] (some p42) (gP (iPick (.t p38) (.c (.bool true)) (.t p41))) (some (p34, true))
   (stepR [p34, p42] (some p43) (gP (iPick (.t p34) (.t p42) (.c (.bool false)))) none
   (stepC [10] [p2, p30] none (gE (iStore 3 (.t p2) (.t p30))) none
   (stepR [p43] (some p3) (gMov (.t p43)) none
   endD)))))))))))))))))
  cRet)
  (cSeq (cReg (step0 (some p45) (gP (iInt fEql 63 (.t p5) (.c (.int 63 3))))
   (step0 (some p44) (gMov (.t p45))
   endG)))
  (cCond (.t p44) (cSeq (cReg (step0 (some p46) (gP (iBuild [(.bool false), (.bool false), (.int 63 0)] [(0, (1, (.c (.bool true)))), (2, (1, (.c (.int 63 2))))]))
   (step0 (some p47) (gP (iFad 2 (.t p1)))
   (step0 (some p48) (gP (iLoad false 1 (.t p47)))
   (step0 (some p49) (gP (iInt fEql 63 (.t p48) (.c (.int 63 0))))
   (step0 (some p50) (gMov (.t p49))
   (stepG (some p51) (gP (iFad 1 (.t p1))) (some (p50, true))
   (stepG (some p52) (gP (iLoad false 1 (.t p51))) (some (p50, true))
   (stepG (some p53) (gCall 87 [(.t p52)]) (some (p50, true))
   (stepG (some p54) (gP (iInt fGtr 63 (.t p53) (.c (.int 63 0)))) (some (p50, true))
   (step0 (some p55) (gP (iPick (.t p50) (.t p54) (.c (.bool false))))
   (step0 none (gE (iStore 3 (.t p2) (.t p46)))
   (step0 (some p3) (gMov (.t p55))
   endG)))))))))))))
  cRet)
  cSkip)))))))))
noncomputable def c85_3 : CEv := (cReg (step0 (some p56) (gP (iBuild [(.bool false), (.bool false), (.int 63 0)] []))
   (step0 none (gE (iStore 3 (.t p2) (.t p56)))
   (step0 (some p3) (gMov (.c (.bool false)))
   endG))))
noncomputable def sh85 : Fs := .mk [(.m p2 true 3), (.t p3)]
  (cSeq c85_0
  (cSeq (cSeq c85_1
  c85_2)
  (cSeq c85_3
  cRet)))
def ir86 : Fn := ⟨6, [(.t p2)], (.seq (.reg [⟨(some p1), (.box 30 (.t p0)), none⟩, ⟨(some p2), (.mov (.c (.bool false))), none⟩]) (.seq (.reg [⟨(some p3), (.load true 6 (.t p1)), none⟩, ⟨(some p4), (.call 66 [(.t p3)]), none⟩, ⟨(some p5), (.un .not 101 (.t p4)), none⟩, ⟨(some p2), (.mov (.t p5)), none⟩]) .ret))⟩
noncomputable def c86_0 : CEv := (cReg (step0 (some p1) (gE (iBox 30 (.t p0)))
   (step0 (some p2) (gMov (.c (.bool false)))
   endG)))
noncomputable def c86_1 : CEv := (cReg (step0 (some p3) (gP (iLoad true 6 (.t p1)))
   (step0 (some p4) (gCall 66 [(.t p3)])
   (step0 (some p5) (gP (iNot (.t p4)))
   (step0 (some p2) (gMov (.t p5))
   endG)))))
noncomputable def sh86 : Fs := .mk [(.t p2)]
  (cSeq c86_0
  (cSeq c86_1
  cRet))
def ir87 : Fn := ⟨7, [(.t p2)], (.seq (.reg [⟨(some p1), (.box 9 (.t p0)), none⟩, ⟨(some p2), (.mov (.c (.int 63 0))), none⟩]) (.seq (.reg [⟨(some p3), (.call 106 []), none⟩, ⟨(some p4), (.mkf 107 [(.t p1)]), none⟩, ⟨(some p5), (.call 105 [(.t p3), (.t p4)]), none⟩, ⟨(some p6), (.bin .add 63 (.c (.int 63 1)) (.t p5)), none⟩, ⟨(some p2), (.mov (.t p6)), none⟩]) .ret))⟩
noncomputable def c87_0 : CEv := (cReg (step0 (some p1) (gE (iBox 9 (.t p0)))
   (step0 (some p2) (gMov (.c (.int 63 0)))
   endG)))
noncomputable def c87_1 : CEv := (cReg (step0 (some p3) (gCall 106 [])
   (step0 (some p4) (gP (iMkf 107 [(.t p1)]))
   (step0 (some p5) (gCall 105 [(.t p3), (.t p4)])
   (step0 (some p6) (gP (iInt fAdd 63 (.c (.int 63 1)) (.t p5)))
   (step0 (some p2) (gMov (.t p6))
   endG))))))
noncomputable def sh87 : Fs := .mk [(.t p2)]
  (cSeq c87_0
  (cSeq c87_1
  cRet))
def ir88 : Fn := ⟨8, [(.t p3)], (.seq (.reg [⟨(some p2), (.box 30 (.t p0)), none⟩, ⟨(some p3), (.mov (.c (.bool false))), none⟩]) (.seq (.draw [p4, p5, p6, p7, p3] [⟨0, 0, [], [p2], ⟨(some p4), (.load true 6 (.t p2)), none⟩⟩, ⟨1, 2, [0], [p1], ⟨(some p6), (.load false 1 (.t p1)), none⟩⟩, ⟨3, 1, [2], [p4], ⟨(some p5), (.call 67 [(.t p4)]), none⟩⟩, ⟨0, 3, [], [p5, p6], ⟨(some p7), (.bin .neq 63 (.t p5) (.t p6)), none⟩⟩, ⟨0, 4, [], [p7], ⟨(some p3), (.mov (.t p7)), none⟩⟩]) .ret))⟩
noncomputable def c88_0 : CEv := (cReg (step0 (some p2) (gE (iBox 30 (.t p0)))
   (step0 (some p3) (gMov (.c (.bool false)))
   endG)))
noncomputable def c88_1 : CEv := (cDraw [p4, p5, p6, p7, p3] (stepR [p2] (some p4) (gP (iLoad true 6 (.t p2))) none
   (stepQ 2 [p1] (some p6) (gP (iLoad false 1 (.t p1))) none
   (stepC [2] [p4] (some p5) (gCall 67 [(.t p4)]) none
   (stepR [p5, p6] (some p7) (gP (iInt fNeq 63 (.t p5) (.t p6))) none
   (stepR [p7] (some p3) (gMov (.t p7)) none
   endD))))))
noncomputable def sh88 : Fs := .mk [(.t p3)]
  (cSeq c88_0
  (cSeq c88_1
  cRet))
def ir89 : Fn := ⟨19, [(.t p4)], (.seq (.reg [⟨(some p4), (.mov (.c (.int 63 0))), none⟩]) (.seq (.seq (.reg [⟨(some p6), (.mov (.t p0)), none⟩, ⟨(some p7), (.len 1 (.t p6)), none⟩, ⟨(some p8), (.mov (.c (.int 63 0))), none⟩]) (.block 0 (.loop (.seq (.reg [⟨(some p9), (.bin .lss 63 (.t p8) (.t p7)), none⟩]) (.seq (.cond (.t p9) .skip (.exit 0)) (.seq (.block 1 (.seq (.reg [⟨(some p10), (.mov (.t p8)), none⟩, ⟨(some p5), (.mov (.t p10)), none⟩]) (.seq (.reg [⟨(some p11), (.mov (.t p1)), none⟩, ⟨(some p12), (.mov (.t p0)), none⟩, ⟨(some p13), (.mov (.t p5)), none⟩, ⟨(some p14), (.iad 6 (.t p12) (.t p13)), none⟩, ⟨(some p15), (.load true 6 (.t p14)), none⟩, ⟨(some p16), (.dyn (.t p11) [(.t p15)]), none⟩]) (.cond (.t p16) (.seq (.reg [⟨(some p17), (.mov (.t p5)), none⟩, ⟨(some p4), (.mov (.t p17)), none⟩]) .ret) .skip)))) (.reg [⟨(some p18), (.bin .add 63 (.t p8) (.c (.int 63 1))), none⟩, ⟨(some p8), (.mov (.t p18)), none⟩]))))))) (.seq (.reg [⟨(some p4), (.mov (.c (.int 63 (-1)))), none⟩]) .ret)))⟩
noncomputable def c89_0 : CEv := (cReg (step0 (some p4) (gMov (.c (.int 63 0)))
   endG))
noncomputable def c89_1 : CEv := (cReg (step0 (some p6) (gMov (.t p0))
   (step0 (some p7) (gP (iLenL (.t p6)))
   (step0 (some p8) (gMov (.c (.int 63 0)))
   endG))))
noncomputable def b89_0 : CEv := (cSeq (cReg (step0 (some p9) (gP (iInt fLss 63 (.t p8) (.t p7)))
   endG))
  (cSeq (cCond (.t p9) cSkip
  (cExit 0))
  (cSeq (cBlock 1 (cSeq (cReg (step0 (some p10) (gMov (.t p8))
   (step0 (some p5) (gMov (.t p10))
   endG)))
  (cSeq (cReg (step0 (some p11) (gMov (.t p1))
   (step0 (some p12) (gMov (.t p0))
   (step0 (some p13) (gMov (.t p5))
   (step0 (some p14) (gP (iIad 6 (.t p12) (.t p13)))
   (step0 (some p15) (gP (iLoad true 6 (.t p14)))
   (step0 (some p16) (gDyn (.t p11) [(.t p15)])
   endG)))))))
  (cCond (.t p16) (cSeq (cReg (step0 (some p17) (gMov (.t p5))
   (step0 (some p4) (gMov (.t p17))
   endG)))
  cRet)
  cSkip))))
  (cReg (step0 (some p18) (gP (iInt fAdd 63 (.t p8) (.c (.int 63 1))))
   (step0 (some p8) (gMov (.t p18))
   endG))))))
noncomputable def c89_2 : CEv := (cBlock 0 (cLoop b89_0))
noncomputable def c89_3 : CEv := (cReg (step0 (some p4) (gMov (.c (.int 63 (-1))))
   endG))
noncomputable def sh89 : Fs := .mk [(.t p4)]
  (cSeq c89_0
  (cSeq (cSeq c89_1
  c89_2)
  (cSeq c89_3
  cRet)))
def ir90 : Fn := ⟨9, [(.t p4)], (.seq (.reg [⟨(some p4), (.mov (.c (.bool false))), none⟩]) (.seq (.reg [⟨(some p5), (.mov (.t p0)), none⟩, ⟨(some p6), (.mov (.t p1)), none⟩, ⟨(some p7), (.call 109 [(.t p5), (.t p6)]), none⟩, ⟨(some p8), (.bin .geq 63 (.t p7) (.c (.int 63 0))), none⟩, ⟨(some p4), (.mov (.t p8)), none⟩]) .ret))⟩
noncomputable def c90_0 : CEv := (cReg (step0 (some p4) (gMov (.c (.bool false)))
   endG))
noncomputable def c90_1 : CEv := (cReg (step0 (some p5) (gMov (.t p0))
   (step0 (some p6) (gMov (.t p1))
   (step0 (some p7) (gCall 109 [(.t p5), (.t p6)])
   (step0 (some p8) (gP (iInt fGeq 63 (.t p7) (.c (.int 63 0))))
   (step0 (some p4) (gMov (.t p8))
   endG))))))
noncomputable def sh90 : Fs := .mk [(.t p4)]
  (cSeq c90_0
  (cSeq c90_1
  cRet))
def ir91 : Fn := ⟨15, [(.t p4)], (.seq (.reg [⟨(some p4), (.mov (.c (.bool false))), none⟩]) (.seq (.draw [p5, p6, p7, p8, p9, p10, p11, p12, p13, p14, p4] [⟨0, 0, [], [p1], ⟨(some p5), (.load false 1 (.t p1)), none⟩⟩, ⟨0, 1, [], [p5], ⟨(some p6), (.nck (.t p5)), none⟩⟩, ⟨0, 2, [], [p6], ⟨(some p7), (.fad 0 (.t p6)), none⟩⟩, ⟨0, 3, [], [p7], ⟨(some p8), (.load false 1 (.t p7)), none⟩⟩, ⟨0, 4, [0, 3], [p0], ⟨(some p9), (.mov (.t p0)), none⟩⟩, ⟨0, 5, [], [p8, p9], ⟨(some p10), (.iad 2 (.t p8) (.t p9)), none⟩⟩, ⟨0, 6, [], [p10], ⟨(some p11), (.load true 2 (.t p10)), none⟩⟩, ⟨0, 7, [0, 3, 6], [p2], ⟨(some p12), (.load false 1 (.t p2)), none⟩⟩, ⟨2, 8, [], [p11, p12], ⟨(some p13), (.call 51 [(.t p11), (.t p12)]), none⟩⟩, ⟨0, 9, [], [p13], ⟨(some p14), (.bin .lss 63 (.t p13) (.c (.int 63 0))), none⟩⟩, ⟨0, 10, [], [p14], ⟨(some p4), (.mov (.t p14)), none⟩⟩]) .ret))⟩
noncomputable def c91_0 : CEv := (cReg (step0 (some p4) (gMov (.c (.bool false)))
   endG))
noncomputable def c91_1 : CEv := (cDraw [p5, p6, p7, p8, p9, p10, p11, p12, p13, p14, p4] (stepR [p1] (some p5) (gP (iLoad false 1 (.t p1))) none
   (stepR [p5] (some p6) (gP (iNck (.t p5))) none
   (stepR [p6] (some p7) (gP (iFad 0 (.t p6))) none
   (stepR [p7] (some p8) (gP (iLoad false 1 (.t p7))) none
   (stepR [p0] (some p9) (gMov (.t p0)) none
   (stepR [p8, p9] (some p10) (gP (iIad 2 (.t p8) (.t p9))) none
   (stepR [p10] (some p11) (gP (iLoad true 2 (.t p10))) none
   (stepR [p2] (some p12) (gP (iLoad false 1 (.t p2))) none
   (stepL [p11, p12] (some p13) (gCall 51 [(.t p11), (.t p12)]) none
   (stepR [p13] (some p14) (gP (iInt fLss 63 (.t p13) (.c (.int 63 0)))) none
   (stepR [p14] (some p4) (gMov (.t p14)) none
   endD))))))))))))
noncomputable def sh91 : Fs := .mk [(.t p4)]
  (cSeq c91_0
  (cSeq c91_1
  cRet))
def ir92 : Fn := ⟨10, [(.t p4)], (.seq (.reg [⟨(some p4), (.mov (.c (.bool false))), none⟩]) (.seq (.reg [⟨(some p5), (.mov (.t p0)), none⟩, ⟨(some p6), (.mov (.t p1)), none⟩, ⟨(some p7), (.nck (.t p5)), none⟩, ⟨(some p8), (.iaa 256 1 (.t p7) (.t p6)), none⟩, ⟨(some p9), (.load false 1 (.t p8)), none⟩, ⟨(some p4), (.mov (.t p9)), none⟩]) .ret))⟩
noncomputable def c92_0 : CEv := (cReg (step0 (some p4) (gMov (.c (.bool false)))
   endG))
noncomputable def c92_1 : CEv := (cReg (step0 (some p5) (gMov (.t p0))
   (step0 (some p6) (gMov (.t p1))
   (step0 (some p7) (gP (iNck (.t p5)))
   (step0 (some p8) (gP (iIaa 256 1 (.t p7) (.t p6)))
   (step0 (some p9) (gP (iLoad false 1 (.t p8)))
   (step0 (some p4) (gMov (.t p9))
   endG)))))))
noncomputable def sh92 : Fs := .mk [(.t p4)]
  (cSeq c92_0
  (cSeq c92_1
  cRet))
def ir93 : Fn := ⟨19, [(.t p2), (.t p3)], (.seq (.reg [⟨(some p2), (.mov (.c (.int 31 0))), none⟩, ⟨(some p3), (.mov (.c (.int 63 0))), none⟩]) (.seq (.seq (.reg [⟨(some p4), (.mov (.t p0)), none⟩, ⟨(some p5), (.bin .neq 100 (.t p4) (.c (.str []))), none⟩, ⟨(some p6), (.mov (.t p5)), none⟩, ⟨(some p7), (.mov (.t p0)), (some (p6, true))⟩, ⟨(some p8), (.ixs (.t p7) (.c (.int 63 0))), (some (p6, true))⟩, ⟨(some p9), (.bin .lss 8 (.t p8) (.c (.int 8 128))), (some (p6, true))⟩, ⟨(some p10), (.pick (.t p6) (.t p9) (.c (.bool false))), none⟩]) (.cond (.t p10) (.seq (.reg [⟨(some p11), (.mov (.t p0)), none⟩, ⟨(some p12), (.ixs (.t p11) (.c (.int 63 0))), none⟩, ⟨(some p13), (.cvi 31 (.t p12)), none⟩, ⟨(some p2), (.mov (.t p13)), none⟩, ⟨(some p3), (.mov (.c (.int 63 1))), none⟩]) .ret) (.reg [⟨(some p15), (.mov (.t p0)), none⟩, ⟨(some p16), (.call 110 [(.t p15)]), none⟩, ⟨(some p14), (.mov (.t p16)), none⟩, ⟨(some p17), (.ext (.t p14) 0), none⟩, ⟨(some p18), (.ext (.t p14) 1), none⟩, ⟨(some p2), (.mov (.t p17)), none⟩, ⟨(some p3), (.mov (.t p18)), none⟩]))) .ret))⟩
noncomputable def c93_0 : CEv := (cReg (step0 (some p2) (gMov (.c (.int 31 0)))
   (step0 (some p3) (gMov (.c (.int 63 0)))
   endG)))
noncomputable def c93_1 : CEv := (cReg (step0 (some p4) (gMov (.t p0))
   (step0 (some p5) (gP (iStr sNeq (.t p4) (.c (.str []))))
   (step0 (some p6) (gMov (.t p5))
   (stepG (some p7) (gMov (.t p0)) (some (p6, true))
   (stepG (some p8) (gP (iIxs (.t p7) (.c (.int 63 0)))) (some (p6, true))
   (stepG (some p9) (gP (iInt fLss 8 (.t p8) (.c (.int 8 128)))) (some (p6, true))
   (step0 (some p10) (gP (iPick (.t p6) (.t p9) (.c (.bool false))))
   endG))))))))
noncomputable def c93_2 : CEv := (cCond (.t p10) (cSeq (cReg (step0 (some p11) (gMov (.t p0))
   (step0 (some p12) (gP (iIxs (.t p11) (.c (.int 63 0))))
   (step0 (some p13) (gP (iCvi 31 (.t p12)))
   (step0 (some p2) (gMov (.t p13))
   (step0 (some p3) (gMov (.c (.int 63 1)))
   endG))))))
  cRet)
  (cReg (step0 (some p15) (gMov (.t p0))
   (step0 (some p16) (gCall 110 [(.t p15)])
   (step0 (some p14) (gMov (.t p16))
   (step0 (some p17) (gP (iExt (.t p14) 0))
   (step0 (some p18) (gP (iExt (.t p14) 1))
   (step0 (some p2) (gMov (.t p17))
   (step0 (some p3) (gMov (.t p18))
   endG)))))))))
noncomputable def sh93 : Fs := .mk [(.t p2), (.t p3)]
  (cSeq c93_0
  (cSeq (cSeq c93_1
  c93_2)
  cRet))
def ir94 : Fn := ⟨9, [(.t p4)], (.seq (.reg [⟨(some p4), (.mov (.c (.bool false))), none⟩]) (.seq (.reg [⟨(some p5), (.mov (.t p0)), none⟩, ⟨(some p6), (.mov (.t p1)), none⟩, ⟨(some p7), (.call 111 [(.t p5), (.t p6)]), none⟩, ⟨(some p8), (.bin .geq 63 (.t p7) (.c (.int 63 0))), none⟩, ⟨(some p4), (.mov (.t p8)), none⟩]) .ret))⟩
noncomputable def c94_0 : CEv := (cReg (step0 (some p4) (gMov (.c (.bool false)))
   endG))
noncomputable def c94_1 : CEv := (cReg (step0 (some p5) (gMov (.t p0))
   (step0 (some p6) (gMov (.t p1))
   (step0 (some p7) (gCall 111 [(.t p5), (.t p6)])
   (step0 (some p8) (gP (iInt fGeq 63 (.t p7) (.c (.int 63 0))))
   (step0 (some p4) (gMov (.t p8))
   endG))))))
noncomputable def sh94 : Fs := .mk [(.t p4)]
  (cSeq c94_0
  (cSeq c94_1
  cRet))
def ir95 : Fn := ⟨8, [(.t p4)], (.seq (.reg [⟨(some p4), (.mov (.c (.bool false))), none⟩]) (.seq (.reg [⟨(some p5), (.mov (.t p0)), none⟩, ⟨(some p6), (.mov (.t p1)), none⟩, ⟨(some p7), (.call 112 [(.t p5), (.t p6)]), none⟩, ⟨(some p4), (.mov (.t p7)), none⟩]) .ret))⟩
noncomputable def c95_0 : CEv := (cReg (step0 (some p4) (gMov (.c (.bool false)))
   endG))
noncomputable def c95_1 : CEv := (cReg (step0 (some p5) (gMov (.t p0))
   (step0 (some p6) (gMov (.t p1))
   (step0 (some p7) (gCall 112 [(.t p5), (.t p6)])
   (step0 (some p4) (gMov (.t p7))
   endG)))))
noncomputable def sh95 : Fs := .mk [(.t p4)]
  (cSeq c95_0
  (cSeq c95_1
  cRet))
def ir96 : Fn := ⟨9, [(.t p2)], (.seq (.reg [⟨(some p2), (.mov (.c (.bool false))), none⟩]) (.seq (.reg [⟨(some p3), (.mov (.t p0)), none⟩, ⟨(some p4), (.call 76 [(.t p3)]), none⟩, ⟨(some p5), (.mov (.t p4)), none⟩, ⟨(some p6), (.mov (.t p0)), (some (p5, false))⟩, ⟨(some p7), (.call 78 [(.t p6)]), (some (p5, false))⟩, ⟨(some p8), (.pick (.t p5) (.c (.bool true)) (.t p7)), none⟩, ⟨(some p2), (.mov (.t p8)), none⟩]) .ret))⟩
noncomputable def c96_0 : CEv := (cReg (step0 (some p2) (gMov (.c (.bool false)))
   endG))
noncomputable def c96_1 : CEv := (cReg (step0 (some p3) (gMov (.t p0))
   (step0 (some p4) (gCall 76 [(.t p3)])
   (step0 (some p5) (gMov (.t p4))
   (stepG (some p6) (gMov (.t p0)) (some (p5, false))
   (stepG (some p7) (gCall 78 [(.t p6)]) (some (p5, false))
   (step0 (some p8) (gP (iPick (.t p5) (.c (.bool true)) (.t p7)))
   (step0 (some p2) (gMov (.t p8))
   endG))))))))
noncomputable def sh96 : Fs := .mk [(.t p2)]
  (cSeq c96_0
  (cSeq c96_1
  cRet))
def ir97 : Fn := ⟨25, [(.t p6), (.t p7)], (.seq (.reg [⟨(some p6), (.mov (.c (.int 63 0))), none⟩, ⟨(some p7), (.mov (.c (.ref 7 0 0 0 0 false))), none⟩]) (.seq (.reg [⟨(some p10), (.mov (.t p0)), none⟩, ⟨(some p11), (.mov (.t p1)), none⟩, ⟨(some p12), (.mov (.t p2)), none⟩, ⟨(some p13), (.call 113 [(.t p10), (.t p11), (.t p12)]), none⟩, ⟨(some p9), (.mov (.t p13)), none⟩, ⟨(some p14), (.ext (.t p9) 0), none⟩, ⟨(some p15), (.ext (.t p9) 1), none⟩, ⟨(some p8), (.mov (.t p14)), none⟩, ⟨(some p7), (.mov (.t p15)), none⟩]) (.seq (.seq (.reg [⟨(some p16), (.mov (.t p7)), none⟩, ⟨(some p17), (.eqn true 7 101 (.t p16) (.c (.ref 7 0 0 0 0 false))), none⟩]) (.cond (.t p17) (.seq (.reg [⟨(some p18), (.mov (.t p8)), none⟩, ⟨(some p19), (.mov (.t p0)), none⟩, ⟨(some p20), (.mov (.t p1)), none⟩, ⟨(some p21), (.mov (.t p2)), none⟩, ⟨(some p22), (.mov (.t p7)), none⟩, ⟨(some p23), (.call 114 [(.c (.str [80, 97, 114, 115, 101, 73, 110, 116])), (.t p19), (.t p20), (.t p21), (.t p22)]), none⟩, ⟨(some p6), (.mov (.t p18)), none⟩, ⟨(some p7), (.mov (.t p23)), none⟩]) .ret) .skip)) (.seq (.reg [⟨(some p24), (.mov (.t p8)), none⟩, ⟨(some p6), (.mov (.t p24)), none⟩, ⟨(some p7), (.mov (.c (.ref 7 0 0 0 0 false))), none⟩]) .ret))))⟩
noncomputable def c97_0 : CEv := (cReg (step0 (some p6) (gMov (.c (.int 63 0)))
   (step0 (some p7) (gMov (.c (.ref 7 0 0 0 0 false)))
   endG)))
noncomputable def c97_1 : CEv := (cReg (step0 (some p10) (gMov (.t p0))
   (step0 (some p11) (gMov (.t p1))
   (step0 (some p12) (gMov (.t p2))
   (step0 (some p13) (gCall 113 [(.t p10), (.t p11), (.t p12)])
   (step0 (some p9) (gMov (.t p13))
   (step0 (some p14) (gP (iExt (.t p9) 0))
   (step0 (some p15) (gP (iExt (.t p9) 1))
   (step0 (some p8) (gMov (.t p14))
   (step0 (some p7) (gMov (.t p15))
   endG))))))))))
noncomputable def c97_2 : CEv := (cReg (step0 (some p16) (gMov (.t p7))
   (step0 (some p17) (gP (iEqn true 7 101 (.t p16) (.c (.ref 7 0 0 0 0 false))))
   endG)))
noncomputable def c97_3 : CEv := (cCond (.t p17) (cSeq (cReg (step0 (some p18) (gMov (.t p8))
   (step0 (some p19) (gMov (.t p0))
   (step0 (some p20) (gMov (.t p1))
   (step0 (some p21) (gMov (.t p2))
   (step0 (some p22) (gMov (.t p7))
   (step0 (some p23) (gCall 114 [(.c (.str [80, 97, 114, 115, 101, 73, 110, 116])), (.t p19), (.t p20), (.t p21), (.t p22)])
   (step0 (some p6) (gMov (.t p18))
   (step0 (some p7) (gMov (.t p23))
   endG)))))))))
  cRet)
  cSkip)
noncomputable def c97_4 : CEv := (cReg (step0 (some p24) (gMov (.t p8))
   (step0 (some p6) (gMov (.t p24))
   (step0 (some p7) (gMov (.c (.ref 7 0 0 0 0 false)))
   endG))))
noncomputable def sh97 : Fs := .mk [(.t p6), (.t p7)]
  (cSeq c97_0
  (cSeq c97_1
  (cSeq (cSeq c97_2
  c97_3)
  (cSeq c97_4
  cRet))))
def ir98 : Fn := ⟨8, [(.t p4)], (.seq (.reg [⟨(some p4), (.mov (.c (.str []))), none⟩]) (.seq (.reg [⟨(some p5), (.mov (.t p0)), none⟩, ⟨(some p6), (.mov (.t p1)), none⟩, ⟨(some p7), (.call 115 [(.t p5), (.t p6)]), none⟩, ⟨(some p4), (.mov (.t p7)), none⟩]) .ret))⟩
noncomputable def c98_0 : CEv := (cReg (step0 (some p4) (gMov (.c (.str [])))
   endG))
noncomputable def c98_1 : CEv := (cReg (step0 (some p5) (gMov (.t p0))
   (step0 (some p6) (gMov (.t p1))
   (step0 (some p7) (gCall 115 [(.t p5), (.t p6)])
   (step0 (some p4) (gMov (.t p7))
   endG)))))
noncomputable def sh98 : Fs := .mk [(.t p4)]
  (cSeq c98_0
  (cSeq c98_1
  cRet))
def ir99 : Fn := ⟨2, [(.t p0)], (.seq (.reg [⟨(some p0), (.mov (.c (.ref 2 0 0 0 0 false))), none⟩]) (.seq (.reg [⟨(some p1), (.call 116 [(.c (.str [59, 32, 33, 32, 124, 32, 40, 32, 41, 32, 123, 32, 125, 32, 44, 32, 91, 32, 93, 32, 46, 32, 43, 32, 45, 32, 42, 32, 47, 32, 37, 32, 60, 32, 62, 32, 61, 61, 32, 33, 61, 32, 60, 61, 32, 62, 61, 32, 38, 38, 32, 124, 124]))]), none⟩, ⟨(some p0), (.mov (.t p1)), none⟩]) .ret))⟩
noncomputable def c99_0 : CEv := (cReg (step0 (some p0) (gMov (.c (.ref 2 0 0 0 0 false)))
   endG))
noncomputable def c99_1 : CEv := (cReg (step0 (some p1) (gCall 116 [(.c (.str [59, 32, 33, 32, 124, 32, 40, 32, 41, 32, 123, 32, 125, 32, 44, 32, 91, 32, 93, 32, 46, 32, 43, 32, 45, 32, 42, 32, 47, 32, 37, 32, 60, 32, 62, 32, 61, 61, 32, 33, 61, 32, 60, 61, 32, 62, 61, 32, 38, 38, 32, 124, 124]))])
   (step0 (some p0) (gMov (.t p1))
   endG)))
noncomputable def sh99 : Fs := .mk [(.t p0)]
  (cSeq c99_0
  (cSeq c99_1
  cRet))
def ir100 : Fn := ⟨9, [], (.reg [⟨(some p4), (.mov (.t p0)), none⟩, ⟨(some p5), (.mov (.t p0)), none⟩, ⟨(some p6), (.len 1 (.t p5)), none⟩, ⟨(some p7), (.mov (.t p1)), none⟩, ⟨(some p8), (.call 117 [(.t p4), (.t p6), (.t p7)]), none⟩])⟩
noncomputable def c100_0 : CEv := (cReg (step0 (some p4) (gMov (.t p0))
   (step0 (some p5) (gMov (.t p0))
   (step0 (some p6) (gP (iLenL (.t p5)))
   (step0 (some p7) (gMov (.t p1))
   (step0 (some p8) (gCall 117 [(.t p4), (.t p6), (.t p7)])
   endG))))))
noncomputable def sh100 : Fs := .mk []
  c100_0
end Go.Proofs.YtjdbcfnlehedmaaGreatDoor.Av
