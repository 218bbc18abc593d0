/- The walk, cut at calls. -/
import Derived.Test.YtnnalcfdeldocaaGreatDoorL20
import Derived.Test.YtnnalcfdeldocaaGreatDoorL24
import Derived.Test.YtnnalcfdeldocaaGreatDoorL25
namespace Go.Proofs.YtnnalcfdeldocaaGreatDoor.X
open Go
def v6A : List PB := [p205,p80,p2,p81,p82,p168,p169,p180,p181,p9,p203,p204,p83,p84,p77,p78,p85,p159,p87,p88,p89,p90,p91,p92,p160,p94,p95,p96,p97,p98,p99,p195,p101,p102,p103,p104,p105,p196,p107,p108,p109,p110,p111,p112,p113,p114,p115,p116,p117,p118,p173,p120,p121,p122,p123,p124,p125,p126,p197,p128,p129,p130,p131,p132,p133,p134,p135,p136,p137,p138,p139,p185,p141,p142,p143,p144,p145,p146,p147,p198,p162,p150,p151,p199,p175,p176,p200,p187,p188]
def v6B : List PB := [p206,p80,p2,p81,p82,p168,p169,p180,p181,p9,p207,p208,p83,p84,p77,p78,p85,p159,p87,p88,p89,p90,p91,p92,p160,p94,p95,p96,p97,p98,p99,p195,p101,p102,p103,p104,p105,p196,p107,p108,p109,p110,p111,p112,p113,p114,p115,p116,p117,p118,p173,p120,p121,p122,p123,p124,p125,p126,p197,p128,p129,p130,p131,p132,p133,p134,p135,p136,p137,p138,p139,p185,p141,p142,p143,p144,p145,p146,p147,p198,p162,p150,p151,p199,p175,p176,p200,p187,p188]
noncomputable def v6H (H : Hook) : Hook := cutH 10 [.ptr 133 0,.bool true] 5417 v6A (.tup []) 6574 v6B H
theorem v6_walk : cutB Tryz.prog sortH 100000 10 [.ptr 133 0,.bool true] 5417 v6A (.tup []) 6574 v6B = true := by kernel_rfl
theorem v6_ok {H : Hook} (h : HookOk Tryz.prog H) : HookOk Tryz.prog (v6H H) := cut_over (cut_ok mixed sortH_ok v6_walk) h
def v7A : List PB := [p209,p80,p2,p81,p82,p168,p169,p180,p181,p9,p207,p208,p83,p84,p77,p78,p85,p159,p87,p88,p89,p90,p91,p92,p160,p94,p95,p96,p97,p98,p99,p195,p101,p102,p103,p104,p105,p196,p107,p108,p109,p110,p111,p112,p113,p114,p115,p116,p117,p118,p173,p120,p121,p122,p123,p124,p125,p126,p197,p128,p129,p130,p131,p132,p133,p134,p135,p136,p137,p138,p139,p185,p141,p142,p143,p144,p145,p146,p147,p198,p162,p150,p151,p199,p175,p176,p200,p187,p188]
def v7B : List PB := [p210,p80,p2,p81,p82,p168,p169,p180,p181,p9,p211,p212,p83,p84,p77,p78,p85,p159,p87,p88,p89,p90,p91,p92,p160,p94,p95,p96,p97,p98,p99,p195,p101,p102,p103,p104,p105,p196,p107,p108,p109,p110,p111,p112,p113,p114,p115,p116,p117,p118,p173,p120,p121,p122,p123,p124,p125,p126,p197,p128,p129,p130,p131,p132,p133,p134,p135,p136,p137,p138,p139,p185,p141,p142,p143,p144,p145,p146,p147,p198,p162,p150,p151,p199,p175,p176,p200,p187,p188]
noncomputable def v7H (H : Hook) : Hook := cutH 10 [.ptr 133 0,.bool true] 6613 v7A (.tup []) 7770 v7B H
theorem v7_walk : cutB Tryz.prog sortH 100000 10 [.ptr 133 0,.bool true] 6613 v7A (.tup []) 7770 v7B = true := by kernel_rfl
theorem v7_ok {H : Hook} (h : HookOk Tryz.prog H) : HookOk Tryz.prog (v7H H) := cut_over (cut_ok mixed sortH_ok v7_walk) h
def v8A : List PB := [p0,p1,p2,p3,p4,p5,p6,p7,p8,p9,p10,p11,p12,p13,p14,p15,p16,p17,p18,p19,p20,p21,p22,p23,p24,p25,p26,p27,p28,p29,p30,p31,p32,p33,p34,p35,p36,p37,p38,p39,p40,p41,p42,p43,p44,p45,p46,p47,p48,p49,p50,p51,p52,p53,p54,p55,p56,p57,p58,p59,p60,p61,p62,p63,p64,p65,p66,p67,p68,p69,p70,p71,p72,p73,p74,p75,p76,p77,p78]
def v8B : List PB := [p213,p80,p2,p81,p82,p168,p169,p180,p181,p9,p211,p212,p83,p84,p77,p78,p85,p159,p87,p88,p89,p90,p91,p92,p160,p94,p95,p96,p97,p98,p99,p195,p101,p102,p103,p104,p105,p196,p107,p108,p109,p110,p111,p112,p113,p114,p115,p116,p117,p118,p173,p120,p121,p122,p123,p124,p125,p126,p197,p128,p129,p130,p131,p132,p133,p134,p135,p136,p137,p138,p139,p185,p141,p142,p143,p144,p145,p146,p198,p162,p150,p151,p199,p175,p176,p200,p187,p188]
noncomputable def v8H (H : Hook) : Hook := cutH 7 [.ptr 133 0,i 0] 134 v8A (.bool true) 7858 v8B H
theorem v8_walk : cutB Tryz.prog (v7H (v6H (v5H (v4H (v3H sortH))))) 100000 7 [.ptr 133 0,i 0] 134 v8A (.bool true) 7858 v8B = true := by kernel_rfl
theorem v8_ok {H : Hook} (h : HookOk Tryz.prog H) : HookOk Tryz.prog (v8H H) := cut_over (cut_ok mixed (v7_ok (v6_ok (v5_ok (v4_ok (v3_ok sortH_ok))))) v8_walk) h
def v9A : List PB := [p229,p80,p2,p81,p230,p168,p169,p180,p181,p9,p211,p212,p83,p84,p77,p216,p85,p159,p87,p88,p89,p90,p91,p92,p231,p218,p95,p219,p97,p232,p99,p233,p234,p102,p103,p104,p105,p196,p107,p108,p109,p110,p111,p112,p113,p114,p115,p116,p117,p118,p173,p120,p121,p122,p123,p124,p125,p126,p197,p128,p129,p130,p131,p132,p133,p134,p135,p136,p137,p138,p139,p185,p141,p142,p143,p144,p145,p146,p198,p235,p236,p199,p175,p176,p200,p187,p188,p223,p224,p225,p228,p237,p238,p239,p240,p241,p242,p243,p244,p245,p246]
def v9B : List PB := [p247,p80,p2,p81,p230,p168,p248,p180,p249,p9,p250,p251,p83,p84,p77,p216,p85,p252,p87,p88,p89,p90,p91,p92,p253,p218,p95,p219,p97,p232,p99,p233,p234,p102,p103,p104,p105,p196,p107,p108,p109,p110,p111,p112,p254,p114,p115,p116,p117,p255,p173,p120,p121,p122,p123,p124,p125,p126,p197,p128,p129,p130,p131,p132,p133,p256,p135,p136,p137,p138,p257,p185,p141,p142,p143,p144,p145,p146,p198,p258,p236,p259,p260,p261,p262,p223,p224,p225,p228,p237,p238,p263,p240,p243,p244,p246,p264,p265,p266,p267,p268,p269,p270]
noncomputable def v9H (H : Hook) : Hook := cutH 10 [.ptr 133 0,.bool false] 8428 v9A (.tup []) 9251 v9B H
theorem v9_walk : cutB Tryz.prog sortH 100000 10 [.ptr 133 0,.bool false] 8428 v9A (.tup []) 9251 v9B = true := by kernel_rfl
theorem v9_ok {H : Hook} (h : HookOk Tryz.prog H) : HookOk Tryz.prog (v9H H) := cut_over (cut_ok mixed sortH_ok v9_walk) h
end Go.Proofs.YtnnalcfdeldocaaGreatDoor.X
