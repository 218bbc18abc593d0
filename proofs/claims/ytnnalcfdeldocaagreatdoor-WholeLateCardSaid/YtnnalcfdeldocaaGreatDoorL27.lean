/- The walk, cut at calls. lives answers true. What is known of calls in WholeLate's walks. -/
import Derived.Test.YtnnalcfdeldocaaGreatDoorL20
import Derived.Test.YtnnalcfdeldocaaGreatDoorL24
import Derived.Test.YtnnalcfdeldocaaGreatDoorL26
import Derived.Test.YtnnalcfdeldocaaGreatDoorL25
import Derived.Test.YtnnalcfdeldocaaGreatDoorL22
namespace Go.Proofs.YtnnalcfdeldocaaGreatDoor.X
open Go
def v10A : List PB := [p247,p80,p2,p81,p230,p168,p248,p180,p249,p9,p250,p251,p83,p84,p77,p216,p85,p252,p87,p88,p89,p90,p91,p92,p253,p218,p95,p219,p97,p232,p99,p233,p234,p102,p103,p104,p105,p196,p107,p108,p109,p110,p111,p112,p254,p114,p115,p116,p117,p255,p173,p120,p121,p122,p123,p124,p125,p126,p197,p128,p129,p130,p131,p132,p133,p256,p135,p136,p137,p138,p257,p185,p141,p142,p143,p144,p145,p146,p198,p258,p236,p259,p260,p261,p262,p223,p224,p225,p228,p237,p238,p263,p240,p243,p244,p246,p264,p265,p266,p267,p268,p269,p270,p271,p272]
def v10B : List PB := [p273,p80,p2,p81,p274,p168,p248,p180,p249,p9,p275,p276,p83,p84,p77,p216,p85,p252,p277,p278,p279,p280,p281,p92,p282,p218,p95,p219,p283,p232,p99,p233,p284,p102,p103,p104,p105,p285,p107,p108,p109,p110,p111,p112,p113,p114,p115,p116,p117,p255,p173,p120,p121,p122,p123,p124,p125,p126,p286,p128,p129,p130,p131,p132,p133,p134,p135,p136,p137,p138,p257,p185,p141,p142,p143,p144,p145,p146,p198,p287,p288,p289,p260,p290,p262,p223,p224,p225,p228,p237,p291,p240,p244,p246,p264,p265,p266,p268,p269,p271,p272,p292,p293,p294,p295,p296,p297,p298,p299,p300,p301]
noncomputable def v10H (H : Hook) : Hook := cutH 10 [.ptr 133 0,.bool false] 9255 v10A (.tup []) 10003 v10B H
theorem v10_walk : cutB Tryz.prog sortH 100000 10 [.ptr 133 0,.bool false] 9255 v10A (.tup []) 10003 v10B = true := by kernel_rfl
theorem v10_ok {H : Hook} (h : HookOk Tryz.prog H) : HookOk Tryz.prog (v10H H) := cut_over (cut_ok mixed sortH_ok v10_walk) h
def v11A : List PB := [p273,p80,p2,p81,p274,p168,p248,p180,p249,p9,p275,p276,p83,p84,p77,p216,p85,p252,p277,p278,p279,p280,p281,p92,p282,p218,p95,p219,p283,p232,p99,p233,p284,p102,p103,p104,p105,p285,p107,p108,p109,p110,p111,p112,p113,p114,p115,p116,p117,p255,p173,p120,p121,p122,p123,p124,p125,p126,p286,p128,p129,p130,p131,p132,p133,p134,p135,p136,p137,p138,p257,p185,p141,p142,p143,p144,p145,p146,p198,p287,p288,p289,p260,p290,p262,p223,p224,p225,p228,p237,p291,p240,p244,p246,p264,p265,p266,p268,p269,p292,p293,p294,p295,p296,p297,p298,p299,p300,p301,p302,p303]
def v11B : List PB := [p304,p80,p2,p81,p274,p168,p305,p180,p306,p9,p307,p308,p83,p84,p77,p216,p85,p309,p277,p278,p279,p280,p281,p92,p310,p218,p95,p219,p283,p232,p99,p233,p284,p102,p103,p104,p105,p285,p311,p312,p313,p314,p315,p112,p113,p114,p115,p116,p316,p255,p173,p120,p121,p122,p123,p124,p125,p126,p286,p317,p318,p319,p320,p321,p133,p134,p135,p136,p137,p322,p257,p185,p141,p142,p143,p144,p145,p146,p198,p323,p288,p324,p325,p326,p327,p223,p224,p225,p228,p237,p291,p244,p246,p266,p269,p292,p293,p294,p295,p296,p297,p298,p299,p300,p302,p303,p328,p329,p330,p331,p332,p333,p334,p335,p336,p337,p338,p339,p340]
noncomputable def v11H (H : Hook) : Hook := cutH 10 [.ptr 133 0,.bool false] 10007 v11A (.tup []) 10926 v11B H
theorem v11_walk : cutB Tryz.prog sortH 100000 10 [.ptr 133 0,.bool false] 10007 v11A (.tup []) 10926 v11B = true := by kernel_rfl
theorem v11_ok {H : Hook} (h : HookOk Tryz.prog H) : HookOk Tryz.prog (v11H H) := cut_over (cut_ok mixed sortH_ok v11_walk) h
def v12A : List PB := [p214,p80,p2,p81,p215,p168,p169,p180,p181,p9,p211,p212,p83,p84,p77,p216,p85,p159,p87,p88,p89,p90,p91,p92,p217,p218,p95,p219,p97,p98,p99,p195,p101,p102,p103,p104,p105,p196,p107,p108,p109,p110,p111,p112,p113,p114,p115,p116,p117,p118,p173,p120,p121,p122,p123,p124,p125,p126,p197,p128,p129,p130,p131,p132,p133,p134,p135,p136,p137,p138,p139,p185,p141,p142,p143,p144,p145,p146,p198,p220,p221,p199,p175,p176,p200,p187,p188,p222,p223,p224,p225,p226,p227,p228]
def v12B : List PB := [p341,p80,p2,p81,p274,p168,p305,p180,p306,p9,p307,p308,p83,p84,p77,p342,p85,p309,p277,p278,p279,p280,p281,p92,p310,p218,p95,p219,p283,p232,p99,p233,p284,p102,p103,p104,p105,p285,p311,p312,p313,p314,p315,p112,p113,p114,p115,p116,p316,p255,p173,p120,p121,p122,p123,p124,p125,p126,p286,p317,p318,p319,p320,p321,p133,p134,p135,p136,p137,p322,p257,p185,p141,p142,p143,p144,p145,p146,p198,p323,p288,p324,p325,p326,p327,p223,p224,p225,p228,p291,p244,p246,p266,p269,p292,p293,p294,p295,p296,p297,p298,p299,p300,p328,p329,p330,p331,p332,p333,p334,p335,p336,p337,p338,p339,p340,p343,p344,p345,p346,p347]
noncomputable def v12H (H : Hook) : Hook := cutH 9 [.ptr 133 0,i 0,.str [97],.str [116]] 8030 v12A (.tup [.agg [i 109,i 0,i 0,i 0,.slice 10931 0 1 (.unk 0),i 1,.str [116],.str [97],i 0,.slice 10935 0 1 (.unk 0),.bool true,.slice 10933 0 1 (.unk 0),i 1],.bool true]) 11053 v12B H
theorem v12_walk : cutB Tryz.prog (v11H (v10H (v9H sortH))) 100000 9 [.ptr 133 0,i 0,.str [97],.str [116]] 8030 v12A (.tup [.agg [i 109,i 0,i 0,i 0,.slice 10931 0 1 (.unk 0),i 1,.str [116],.str [97],i 0,.slice 10935 0 1 (.unk 0),.bool true,.slice 10933 0 1 (.unk 0),i 1],.bool true]) 11053 v12B = true := by kernel_rfl
theorem v12_ok {H : Hook} (h : HookOk Tryz.prog H) : HookOk Tryz.prog (v12H H) := cut_over (cut_ok mixed (v11_ok (v10_ok (v9_ok sortH_ok))) v12_walk) h
end Go.Proofs.YtnnalcfdeldocaaGreatDoor.X
namespace Go.Proofs.YtnnalcfdeldocaaGreatDoor.X
open Go
theorem v_walk : isS ((evF Tryz.prog (v12H (v11H (v10H (v9H (v8H (v7H (v6H (v5H (v4H (v3H (v2H (v1H (v0H sortH))))))))))))) 100000).call 5 [] st0 saysTrue) = true := by kernel_rfl
theorem lives_calls (W : World) : Calls Tryz.prog 5 #[] W fun e w' => e = .returned (.bool true) ∧ Go.RowKit.Below W.heap.size W w' :=
  calls_true mixed (v12_ok (v11_ok (v10_ok (v9_ok (v8_ok (v7_ok (v6_ok (v5_ok (v4_ok (v3_ok (v2_ok (v1_ok (v0_ok sortH_ok))))))))))))) v_walk W concs_nil
end Go.Proofs.YtnnalcfdeldocaaGreatDoor.X
namespace Go.Proofs.YtnnalcfdeldocaaGreatDoor.X
open Go
def lateH : Hook := trueH 5 (sumH sortH)
theorem lateH_ok : HookOk Tryz.prog lateH := true_ok Tryz.func5 rfl (by kernel_rfl) lives_calls (sum_ok sortH_ok)
end Go.Proofs.YtnnalcfdeldocaaGreatDoor.X
