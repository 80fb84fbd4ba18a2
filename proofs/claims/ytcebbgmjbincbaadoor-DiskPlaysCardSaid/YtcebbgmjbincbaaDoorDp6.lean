/- DiskPlays: Halt, Crash. -/
import Derived.Test.YtcebbgmjbincbaaDoorDp2
import Derived.Deep.DeepCutAuto
import Derived.Deep.CutBlock
import Derived.Deep.CutRange

namespace Go.Proofs.YtcebbgmjbincbaaDoor
open Go.RowKit Go.Lib
set_option maxRecDepth 1000000 in
set_option maxHeartbeats 40000000 in
theorem sw_F (w wS : World) (db rb sb i : Nat) (L M : List Nat) (d : DSt) (wh nn : Int) (nm tn b : List UInt8) (ba ka : Option Addr) (bc kc : Nat) (keep : List Int) (hDp : DpS w wS db rb L M d i) (hS : Blk wS sb 48 #[.int .i64 wh, .int .i64 nn, .string ⟨nm.toArray⟩, .string ⟨tn.toArray⟩, .slice ba b.length bc, .slice ka keep.length kc]) (hsL : sb ∉ L) (hsM : sb ∉ M) (hsw : w.heap.size ≤ sb) (hrb : Rb w ba bc b) (hkp : Sl w 1 ka keep.length kc (keep.map (Value.int .i64))) (hi : i < 60) (hb3 : b.length ≤ 300) (hn6 : nm.length ≤ 60) (ht6 : tn.length ≤ 60) (hk8 : keep.length ≤ 80) (hnn : nn ≤ 9223372036854775807) (hw0 : wh = 7)
    (p0 p1 p2 p3 p4 p7 p11 p12 p13 p14 p15 p16 p17 p18 p19 p20 p21 p22 p23 p24 p25 p26 p27 p28 p29 p30 p31 p32 p33 p34 p35 p36 p37 p38 p39 p40 p41 p42 p43 p44 p45 p46 p47 p48 p49 p50 p51 p52 p53 p54 p55 p56 p57 p58 p59 p60 p61 p62 p63 p64 p66 p67 p68 p69 p70 p71 p72 p73 p74 p75 p76 p77 p78 p79 p80 p81 p82 p83 p84 p85 p86 p87 p88 p89 p90 p91 p92 p93 p94 p95 p96 p97 p98 p99 p100 p101 p102 p103 p104 p105 p106 p107 p108 p109 p110 p111 p112 p113 p114 p115 p116 p117 p118 p119 p120 p121 p122 p123 p124 p125 p126 p127 p128 p129 p130 p131 p132 p133 p134 p135 p136 p137 p138 p139 p140 p141 p142 p143 p144 p145 p146 p147 p148 p149 p150 p151 p152 p153 p154 p155 p156 p157 p158 p159 p160 p161 p162 p163 p164 p165 p166 p167 p168 p169 p170 p171 p172 p173 p174 p175 p176 p177 p178 p179 p180 p181 p182 p183 p184 p185 p186 p187 p188 p189 p190 p191 p192 p193 p194 p195 p196 p197 p198 p199 p200 p201 p202 p203 p204 p205 p206 p207 p208 p209 p210 p211 p212 p213 p214 p215 p216 p217 p218 p219 p220 p221 p222 p223 p224 p225 p226 p227 p228 p229 p230 p231 p232 p233 p234 p235 p236 p237 p238 p239 p240 p241 p242 p243 p244 p245 p246 p247 p248 p249 p250 p251 p252 : Value) (J K : Act → World → Prop) (Q : Exit → Act → World → Prop)
    (hJ : ∀ (a : Act) (w' : World), (∃ u9 u10 u11 u31 u32 u33 u34 u35 u36 u37 u38 u39 u40 u41 u42 u43 u44 u45 u46 u47 u48 u49 u50 u51 u52 u53 u54 u55 u56 u57 u58 u59 u60 u61 u62 u63 u64 u66 u67 u68 u69 u70 u71 u72 u73 u74 u75 u76 u77 u78 u79 u80 u81 u82 u83 u84 u85 u86 u87 u88 u89 u90 u91 u92 u93 u94 u95 u96 u97 u98 u99 u100 u101 u102 u103 u104 u105 u106 u107 u108 u109 u110 u111 u112 u113 u114 u115 u116 u117 u118 u119 u120 u121 u122 u123 u124 u125 u126 u127 u128 u129 u130 u131 u132 u133 u134 u135 u136 u137 u138 u139 u140 u141 u142 u143 u144 u145 u146 u147 u148 u149 u150 u151 u152 u153 u154 u155 u156 u157 u158 u159 u160 u161 u162 u163 u164 u165 u166 u167 u168 u169 u170 u171 u172 u173 u174 u175 u176 u177 u178 u179 u180 u181 u182 u183 u184 u185 u186 u187 u188 u189 u190 u191 u192 u193 u194 u195 u196 u197 u198 u199 u200 u201 u202 u203 u204 u205 : Value, DpRel w db rb sb i #[.int .i64 wh, .int .i64 nn, .string ⟨nm.toArray⟩, .string ⟨tn.toArray⟩, .slice ba b.length bc, .slice ka keep.length kc] u9 u10 w' ∧ a = ⟨#[p0, p1, p2, p3, p4, .pointer (some ⟨db, 0, none⟩), .pointer (some ⟨rb, 0, none⟩), p7, .pointer (some ⟨sb, 0, none⟩), u9, u10, u11, p12, p13, p14, p15, p16, p17, p18, p19, p20, p21, p22, p23, p24, p25, p26, p27, p28, p29, p30, u31, u32, u33, u34, u35, u36, u37, u38, u39, u40, u41, u42, u43, u44, u45, u46, u47, u48, u49, u50, u51, u52, u53, u54, u55, u56, u57, u58, u59, u60, u61, u62, u63, u64, .int .i64 wh, u66, u67, u68, u69, u70, u71, u72, u73, u74, u75, u76, u77, u78, u79, u80, u81, u82, u83, u84, u85, u86, u87, u88, u89, u90, u91, u92, u93, u94, u95, u96, u97, u98, u99, u100, u101, u102, u103, u104, u105, u106, u107, u108, u109, u110, u111, u112, u113, u114, u115, u116, u117, u118, u119, u120, u121, u122, u123, u124, u125, u126, u127, u128, u129, u130, u131, u132, u133, u134, u135, u136, u137, u138, u139, u140, u141, u142, u143, u144, u145, u146, u147, u148, u149, u150, u151, u152, u153, u154, u155, u156, u157, u158, u159, u160, u161, u162, u163, u164, u165, u166, u167, u168, u169, u170, u171, u172, u173, u174, u175, u176, u177, u178, u179, u180, u181, u182, u183, u184, u185, u186, u187, u188, u189, u190, u191, u192, u193, u194, u195, u196, u197, u198, u199, u200, u201, u202, u203, u204, u205, p206, p207, p208, p209, p210, p211, p212, p213, p214, p215, p216, p217, p218, p219, p220, p221, p222, p223, p224, p225, p226, p227, p228, p229, p230, p231, p232, p233, p234, p235, p236, p237, p238, p239, p240, p241, p242, p243, p244, p245, p246, p247, p248, p249, p250, p251, p252], []⟩) → J a w') (hK : ∀ (a : Act) (w' : World), Met J a w' → K a w') (hQp : ∀ c (a : Act) d v (w' : World), Q (.panic c) (a.put d v) w' → Q (.panic c) a w') :
    Code.wp Tryd.prog dpSw (Exit.then K Q) ⟨#[p0, p1, p2, p3, p4, .pointer (some ⟨db, 0, none⟩), .pointer (some ⟨rb, 0, none⟩), p7, .pointer (some ⟨sb, 0, none⟩), .nilIface, .int .i64 0, p11, p12, p13, p14, p15, p16, p17, p18, p19, p20, p21, p22, p23, p24, p25, p26, p27, p28, p29, p30, p31, p32, p33, p34, p35, p36, p37, p38, p39, p40, p41, p42, p43, p44, p45, p46, p47, p48, p49, p50, p51, p52, p53, p54, p55, p56, p57, p58, p59, p60, p61, p62, p63, p64, .int .i64 wh, p66, p67, p68, p69, p70, p71, p72, p73, p74, p75, p76, p77, p78, p79, p80, p81, p82, p83, p84, p85, p86, p87, p88, p89, p90, p91, p92, p93, p94, p95, p96, p97, p98, p99, p100, p101, p102, p103, p104, p105, p106, p107, p108, p109, p110, p111, p112, p113, p114, p115, p116, p117, p118, p119, p120, p121, p122, p123, p124, p125, p126, p127, p128, p129, p130, p131, p132, p133, p134, p135, p136, p137, p138, p139, p140, p141, p142, p143, p144, p145, p146, p147, p148, p149, p150, p151, p152, p153, p154, p155, p156, p157, p158, p159, p160, p161, p162, p163, p164, p165, p166, p167, p168, p169, p170, p171, p172, p173, p174, p175, p176, p177, p178, p179, p180, p181, p182, p183, p184, p185, p186, p187, p188, p189, p190, p191, p192, p193, p194, p195, p196, p197, p198, p199, p200, p201, p202, p203, p204, p205, p206, p207, p208, p209, p210, p211, p212, p213, p214, p215, p216, p217, p218, p219, p220, p221, p222, p223, p224, p225, p226, p227, p228, p229, p230, p231, p232, p233, p234, p235, p236, p237, p238, p239, p240, p241, p242, p243, p244, p245, p246, p247, p248, p249, p250, p251, p252], []⟩ wS := by
  have hT0 : True := by
    have := hDp
    have := hsL
    have := hsM
    have := hsw
    have := hrb
    have := hkp
    have := hi
    have := hb3
    have := hn6
    have := ht6
    have := hk8
    have := hnn
    have := hQp
    trivial
  clear hT0
  obtain ⟨iB, zB, hiB, hzB, hsB, hbB, hcB⟩ := infoB
  have HB := Lib.hid (And.intro hsL (And.intro hsM (And.intro hrb hkp)))
  have hcnt : d.count < 4611686018427387904 := by have := hDp.cnt; omega
  have hrm : d.room ≤ 1000000 := by have := hDp.room; omega
  clear hsL hsM hrb hkp
  have hcS := hS.cell
  have hlS := hS.lt
  conv => arg 2; whnf
  obtain rfl : wh = 7 := hw0
  go_wp2_with fail
  refine (dhalt hDp.D nn hnn).mono ?_
  rintro e w5 ⟨rfl, hD5, hk5⟩
  try dsimp only
  have hS5 := hS.keep hk5 HB.out.1
  have hSp := Lib.hid (rhaltR (hDp.ref hk5) nn (halt_ok hDp.D.ok nn hnn))
  have H5 := Lib.hid (And.intro hD5 hk5)
  clear hcS hlS hS hD5 hk5
  have hcS := hS5.cell
  have hlS := hS5.lt
  go_wp2_with fail
  refine hSp.out.mono ?_
  rintro e w6 ⟨rfl, hR6, hk6⟩
  try dsimp only
  have FIN : DpRel w db rb sb i #[.int .i64 7, .int .i64 nn, .string ⟨nm.toArray⟩, .string ⟨tn.toArray⟩, .slice ba b.length bc, .slice ka keep.length kc] .nilIface (.int .i64 0) w6 := ⟨.ok, _, L, M, rfl, rfl, hDp.call H5.out.1 H5.out.2 (fun _ h => .inl h) hR6 hk6 (fun _ h => .inl h) rfl (Nat.le_succ _), hS5.keep hk6 HB.out.2.1, HB.out.1, HB.out.2.1⟩
  have FIN := Lib.hid FIN
  clear hcS hlS hS5 hR6 hk6
  go_wp2_with fail
  go_meet
  exact FIN.out

set_option maxRecDepth 1000000 in
set_option maxHeartbeats 40000000 in
theorem sw_G (w wS : World) (db rb sb i : Nat) (L M : List Nat) (d : DSt) (wh nn : Int) (nm tn b : List UInt8) (ba ka : Option Addr) (bc kc : Nat) (keep : List Int) (hDp : DpS w wS db rb L M d i) (hS : Blk wS sb 48 #[.int .i64 wh, .int .i64 nn, .string ⟨nm.toArray⟩, .string ⟨tn.toArray⟩, .slice ba b.length bc, .slice ka keep.length kc]) (hsL : sb ∉ L) (hsM : sb ∉ M) (hsw : w.heap.size ≤ sb) (hrb : Rb w ba bc b) (hkp : Sl w 1 ka keep.length kc (keep.map (Value.int .i64))) (hi : i < 60) (hb3 : b.length ≤ 300) (hn6 : nm.length ≤ 60) (ht6 : tn.length ≤ 60) (hk8 : keep.length ≤ 80) (hnn : nn ≤ 9223372036854775807) (g0 : ¬ wh = 0) (g1 : ¬ wh = 1) (g2 : ¬ wh = 2) (g3 : ¬ wh = 3) (g4 : ¬ wh = 4) (g5 : ¬ wh = 5) (g6 : ¬ wh = 6) (g7 : ¬ wh = 7)
    (p0 p1 p2 p3 p4 p7 p11 p12 p13 p14 p15 p16 p17 p18 p19 p20 p21 p22 p23 p24 p25 p26 p27 p28 p29 p30 p31 p32 p33 p34 p35 p36 p37 p38 p39 p40 p41 p42 p43 p44 p45 p46 p47 p48 p49 p50 p51 p52 p53 p54 p55 p56 p57 p58 p59 p60 p61 p62 p63 p64 p66 p67 p68 p69 p70 p71 p72 p73 p74 p75 p76 p77 p78 p79 p80 p81 p82 p83 p84 p85 p86 p87 p88 p89 p90 p91 p92 p93 p94 p95 p96 p97 p98 p99 p100 p101 p102 p103 p104 p105 p106 p107 p108 p109 p110 p111 p112 p113 p114 p115 p116 p117 p118 p119 p120 p121 p122 p123 p124 p125 p126 p127 p128 p129 p130 p131 p132 p133 p134 p135 p136 p137 p138 p139 p140 p141 p142 p143 p144 p145 p146 p147 p148 p149 p150 p151 p152 p153 p154 p155 p156 p157 p158 p159 p160 p161 p162 p163 p164 p165 p166 p167 p168 p169 p170 p171 p172 p173 p174 p175 p176 p177 p178 p179 p180 p181 p182 p183 p184 p185 p186 p187 p188 p189 p190 p191 p192 p193 p194 p195 p196 p197 p198 p199 p200 p201 p202 p203 p204 p205 p206 p207 p208 p209 p210 p211 p212 p213 p214 p215 p216 p217 p218 p219 p220 p221 p222 p223 p224 p225 p226 p227 p228 p229 p230 p231 p232 p233 p234 p235 p236 p237 p238 p239 p240 p241 p242 p243 p244 p245 p246 p247 p248 p249 p250 p251 p252 : Value) (J K : Act → World → Prop) (Q : Exit → Act → World → Prop)
    (hJ : ∀ (a : Act) (w' : World), (∃ u9 u10 u11 u31 u32 u33 u34 u35 u36 u37 u38 u39 u40 u41 u42 u43 u44 u45 u46 u47 u48 u49 u50 u51 u52 u53 u54 u55 u56 u57 u58 u59 u60 u61 u62 u63 u64 u66 u67 u68 u69 u70 u71 u72 u73 u74 u75 u76 u77 u78 u79 u80 u81 u82 u83 u84 u85 u86 u87 u88 u89 u90 u91 u92 u93 u94 u95 u96 u97 u98 u99 u100 u101 u102 u103 u104 u105 u106 u107 u108 u109 u110 u111 u112 u113 u114 u115 u116 u117 u118 u119 u120 u121 u122 u123 u124 u125 u126 u127 u128 u129 u130 u131 u132 u133 u134 u135 u136 u137 u138 u139 u140 u141 u142 u143 u144 u145 u146 u147 u148 u149 u150 u151 u152 u153 u154 u155 u156 u157 u158 u159 u160 u161 u162 u163 u164 u165 u166 u167 u168 u169 u170 u171 u172 u173 u174 u175 u176 u177 u178 u179 u180 u181 u182 u183 u184 u185 u186 u187 u188 u189 u190 u191 u192 u193 u194 u195 u196 u197 u198 u199 u200 u201 u202 u203 u204 u205 : Value, DpRel w db rb sb i #[.int .i64 wh, .int .i64 nn, .string ⟨nm.toArray⟩, .string ⟨tn.toArray⟩, .slice ba b.length bc, .slice ka keep.length kc] u9 u10 w' ∧ a = ⟨#[p0, p1, p2, p3, p4, .pointer (some ⟨db, 0, none⟩), .pointer (some ⟨rb, 0, none⟩), p7, .pointer (some ⟨sb, 0, none⟩), u9, u10, u11, p12, p13, p14, p15, p16, p17, p18, p19, p20, p21, p22, p23, p24, p25, p26, p27, p28, p29, p30, u31, u32, u33, u34, u35, u36, u37, u38, u39, u40, u41, u42, u43, u44, u45, u46, u47, u48, u49, u50, u51, u52, u53, u54, u55, u56, u57, u58, u59, u60, u61, u62, u63, u64, .int .i64 wh, u66, u67, u68, u69, u70, u71, u72, u73, u74, u75, u76, u77, u78, u79, u80, u81, u82, u83, u84, u85, u86, u87, u88, u89, u90, u91, u92, u93, u94, u95, u96, u97, u98, u99, u100, u101, u102, u103, u104, u105, u106, u107, u108, u109, u110, u111, u112, u113, u114, u115, u116, u117, u118, u119, u120, u121, u122, u123, u124, u125, u126, u127, u128, u129, u130, u131, u132, u133, u134, u135, u136, u137, u138, u139, u140, u141, u142, u143, u144, u145, u146, u147, u148, u149, u150, u151, u152, u153, u154, u155, u156, u157, u158, u159, u160, u161, u162, u163, u164, u165, u166, u167, u168, u169, u170, u171, u172, u173, u174, u175, u176, u177, u178, u179, u180, u181, u182, u183, u184, u185, u186, u187, u188, u189, u190, u191, u192, u193, u194, u195, u196, u197, u198, u199, u200, u201, u202, u203, u204, u205, p206, p207, p208, p209, p210, p211, p212, p213, p214, p215, p216, p217, p218, p219, p220, p221, p222, p223, p224, p225, p226, p227, p228, p229, p230, p231, p232, p233, p234, p235, p236, p237, p238, p239, p240, p241, p242, p243, p244, p245, p246, p247, p248, p249, p250, p251, p252], []⟩) → J a w') (hK : ∀ (a : Act) (w' : World), Met J a w' → K a w') (hQp : ∀ c (a : Act) d v (w' : World), Q (.panic c) (a.put d v) w' → Q (.panic c) a w') :
    Code.wp Tryd.prog dpSw (Exit.then K Q) ⟨#[p0, p1, p2, p3, p4, .pointer (some ⟨db, 0, none⟩), .pointer (some ⟨rb, 0, none⟩), p7, .pointer (some ⟨sb, 0, none⟩), .nilIface, .int .i64 0, p11, p12, p13, p14, p15, p16, p17, p18, p19, p20, p21, p22, p23, p24, p25, p26, p27, p28, p29, p30, p31, p32, p33, p34, p35, p36, p37, p38, p39, p40, p41, p42, p43, p44, p45, p46, p47, p48, p49, p50, p51, p52, p53, p54, p55, p56, p57, p58, p59, p60, p61, p62, p63, p64, .int .i64 wh, p66, p67, p68, p69, p70, p71, p72, p73, p74, p75, p76, p77, p78, p79, p80, p81, p82, p83, p84, p85, p86, p87, p88, p89, p90, p91, p92, p93, p94, p95, p96, p97, p98, p99, p100, p101, p102, p103, p104, p105, p106, p107, p108, p109, p110, p111, p112, p113, p114, p115, p116, p117, p118, p119, p120, p121, p122, p123, p124, p125, p126, p127, p128, p129, p130, p131, p132, p133, p134, p135, p136, p137, p138, p139, p140, p141, p142, p143, p144, p145, p146, p147, p148, p149, p150, p151, p152, p153, p154, p155, p156, p157, p158, p159, p160, p161, p162, p163, p164, p165, p166, p167, p168, p169, p170, p171, p172, p173, p174, p175, p176, p177, p178, p179, p180, p181, p182, p183, p184, p185, p186, p187, p188, p189, p190, p191, p192, p193, p194, p195, p196, p197, p198, p199, p200, p201, p202, p203, p204, p205, p206, p207, p208, p209, p210, p211, p212, p213, p214, p215, p216, p217, p218, p219, p220, p221, p222, p223, p224, p225, p226, p227, p228, p229, p230, p231, p232, p233, p234, p235, p236, p237, p238, p239, p240, p241, p242, p243, p244, p245, p246, p247, p248, p249, p250, p251, p252], []⟩ wS := by
  have hT0 : True := by
    have := hDp
    have := hsL
    have := hsM
    have := hsw
    have := hrb
    have := hkp
    have := hi
    have := hb3
    have := hn6
    have := ht6
    have := hk8
    have := hnn
    have := hQp
    trivial
  clear hT0
  obtain ⟨iB, zB, hiB, hzB, hsB, hbB, hcB⟩ := infoB
  have HB := Lib.hid (And.intro hsL (And.intro hsM (And.intro hrb hkp)))
  have hcnt : d.count < 4611686018427387904 := by have := hDp.cnt; omega
  have hrm : d.room ≤ 1000000 := by have := hDp.room; omega
  clear hsL hsM hrb hkp
  have hcS := hS.cell
  have hlS := hS.lt
  conv => arg 2; whnf
  have hkS := Lib.hid (Sl.keep0 HB.out.2.2.2 hDp.kp)
  have hoL : ∀ (N : List Nat), (∀ x ∈ N, w.heap.size ≤ x) → ∀ ad, ka = some ad → keep ≠ [] → ad.block ∉ N := fun N hN ad e h hx => by
    have h1 := HB.out.2.2.2.lt e (by simpa using h)
    have h2 := hN _ hx
    omega
  have HOL := Lib.hid hoL
  clear hoL
  go_wp2_with (refine wpList_load_agg rfl _ _ rfl sb 5 1 rfl 48 _ _ hS Tryd.underlying36 rfl sizeCr (by simp) _ rfl ?_)
  refine (dcrash hDp.D keep hkS.out (HOL.out L hDp.lw)).mono ?_
  rintro e w5 ⟨rfl, hD5, hk5⟩
  try dsimp only
  have hS5 := hS.keep hk5 HB.out.1
  have hkw5 : Keeps [] w w5 := hDp.kp.step hk5 (fun x hx => .inr (hDp.lw x hx))
  have hSp := Lib.hid (rcrash (hDp.ref hk5) keep (Sl.keep0 HB.out.2.2.2 hkw5) (HOL.out M hDp.mw) hD5.ok)
  have H5 := Lib.hid (And.intro hD5 hk5)
  clear hcS hlS hS hD5 hk5 hkw5 hkS
  have hcS := hS5.cell
  have hlS := hS5.lt
  go_wp2_with (refine wpList_load_agg rfl _ _ rfl sb 5 1 rfl 48 _ _ hS5 Tryd.underlying36 rfl sizeCr (by simp) _ rfl ?_)
  refine hSp.out.mono ?_
  rintro e w6 ⟨rfl, hR6, hk6⟩
  try dsimp only
  have FIN : DpRel w db rb sb i #[.int .i64 wh, .int .i64 nn, .string ⟨nm.toArray⟩, .string ⟨tn.toArray⟩, .slice ba b.length bc, .slice ka keep.length kc] .nilIface (.int .i64 0) w6 := ⟨.ok, _, L, M, rfl, rfl, hDp.call H5.out.1 H5.out.2 (fun _ h => .inl h) hR6 hk6 (fun _ h => .inl h) rfl (Nat.le_succ _), hS5.keep hk6 HB.out.2.1, HB.out.1, HB.out.2.1⟩
  have FIN := Lib.hid FIN
  clear hcS hlS hS5 hR6 hk6
  go_wp2_with fail
  go_meet
  exact FIN.out

end Go.Proofs.YtcebbgmjbincbaaDoor
