/- TreePlays: Seek, Clone. -/
import Derived.Test.YtknnhnpcgefchaaDoorTp1
import Derived.Deep.DeepCutAuto
import Derived.Deep.CutBlock
import Derived.Deep.CutRange

namespace Go.Proofs.YtknnhnpcgefchaaDoor
open Go.RowKit Go.Lib
set_option maxRecDepth 1000000 in
set_option maxHeartbeats 40000000 in
theorem tw_D (w w6 w8 : World) (t cb tc i : Nat) (l lo2 : List KV) (k sk sv : Bs) (ab fb : Bool) (a4 a5 ak av : Option Addr) (c4 c5 ck cv at_ : Nat) (wh : Int) (hP : PSt w6 t cb tc l lo2 k ab a4 c4 a5 c5) (hOk8 : Own w8 w6.heap.size ak ck sk) (hOv8 : Own w8 w6.heap.size av cv sv) (hdis : ∀ x ∈ blks av, x ∉ blks ak) (hk68 : Keeps [] w6 w8) (hk06 : Keeps [] w w6) (hwt : w.heap.size ≤ t) (hwc : w.heap.size ≤ cb) (hll : l.length ≤ i) (hlo : lo2.length ≤ i) (hi2 : i < 250) (hsk : sk.length ≤ 100) (hsv : sv.length ≤ 100) (hfb : fb = has sk l) (hat : at_ = (Go.Proofs.YtknnhnpcgefchaaDoor.lo sk l).length) (hw0 : wh = 6)
    (p0 p1 p2 p10 p11 p18 p19 p20 p21 p22 p23 p24 p25 p26 p27 p28 p29 p30 p31 p32 p33 p34 p35 p36 p37 p38 p39 p40 p41 p42 p43 p44 p45 p46 p47 p48 p49 p50 p51 p52 p53 p54 p55 p56 p57 p58 p59 p60 p61 p62 p63 p64 p65 p66 p67 p68 p70 p71 p72 p73 p74 p75 p76 p77 p78 p79 p80 p81 p82 p83 p84 p85 p86 p87 p88 p89 p90 p91 p92 p93 p94 p95 p96 p97 p98 p99 p100 p101 p102 p103 p104 p105 p106 p107 p108 p109 p110 p111 p112 p113 p114 p115 p116 p117 p118 p119 p120 p121 p122 p123 p124 p125 p126 p127 p128 p129 p130 p131 p132 p133 p134 p135 p136 p137 p138 p139 p140 p141 p142 p143 p144 p145 p146 p147 p148 p149 p150 p151 p152 p153 p154 p155 p156 p157 p158 p159 p160 p161 p162 p163 p164 p165 p166 p167 p168 p169 p170 p171 p172 p173 p174 p175 p176 p177 p178 p179 p180 p181 p182 p183 p184 p185 p186 p187 p188 p189 p190 p191 p192 p193 p194 p195 p196 p197 p198 p199 p200 p201 p202 p203 p204 p205 p206 p207 p208 p209 p210 p211 p212 p213 p214 p215 p216 p217 p218 p219 p220 p221 p222 p223 p224 p225 p226 p227 p228 p229 p230 p231 p232 p233 p234 p235 p236 p237 p238 p239 p240 p241 p242 p243 p244 p245 p246 p247 p248 p249 p250 p251 p252 p253 p254 p255 p256 p257 p258 p259 p260 p261 p262 p263 p264 p265 p266 p267 p268 p269 p270 : Value) (J K : Act → World → Prop) (Q : Exit → Act → World → Prop)
    (hJ : ∀ (a : Act) (w' : World), (∃ u2 u4 u5 u6 u7 u8 u9 u18 u19 u20 u21 u22 u23 u24 u25 u26 u40 u41 u42 u43 u44 u45 u46 u47 u48 u49 u50 u51 u52 u53 u54 u55 u56 u57 u58 u59 u60 u61 u62 u63 u64 u65 u66 u67 u68 u70 u71 u72 u73 u74 u75 u76 u77 u78 u79 u80 u81 u82 u83 u84 u85 u86 u87 u88 u89 u90 u91 u92 u93 u94 u95 u96 u97 u98 u99 u100 u101 u102 u103 u104 u105 u106 u107 u108 u109 u110 u111 u112 u113 u114 u115 u116 u117 u118 u119 u120 u121 u122 u123 u124 u125 u126 u127 u128 u129 u130 u131 u132 u133 u134 u135 u136 u137 u138 u139 u140 u141 u142 u143 u144 u145 u146 u147 u148 u149 u150 u151 u152 u153 u154 u155 u156 u157 u158 u159 u160 u161 u162 u163 u164 u165 u166 u167 u168 u169 u170 u171 u172 u173 u174 u175 u176 u177 u178 u179 u180 u181 u182 u183 u184 u185 u186 u187 u188 u189 u190 u191 u192 u193 u194 u195 u196 u197 u198 u199 u200 u201 u202 u203 u204 u205 u206 u207 u208 u209 u210 u211 u212 u213 u214 u215 u216 u217 u218 u219 u220 u221 u222 u223 u224 u225 u226 u227 u228 u229 u230 u231 : Value, TpRel w t i u4 u5 u6 u7 u8 u9 w' ∧ a = ⟨#[p0, p1, u2, .pointer (some ⟨t, 0, none⟩), u4, u5, u6, u7, u8, u9, p10, p11, .string ⟨sk.toArray⟩, .string ⟨sv.toArray⟩, .int .i64 (at_ : Nat), .bool fb, .slice ak sk.length ck, .slice av sv.length cv, u18, u19, u20, u21, u22, u23, u24, u25, u26, p27, p28, p29, p30, p31, p32, p33, p34, p35, p36, p37, p38, p39, u40, u41, u42, u43, u44, u45, u46, u47, u48, u49, u50, u51, u52, u53, u54, u55, u56, u57, u58, u59, u60, u61, u62, u63, u64, u65, u66, u67, u68, .int .i64 wh, u70, u71, u72, u73, u74, u75, u76, u77, u78, u79, u80, u81, u82, u83, u84, u85, u86, u87, u88, u89, u90, u91, u92, u93, u94, u95, u96, u97, u98, u99, u100, u101, u102, u103, u104, u105, u106, u107, u108, u109, u110, u111, u112, u113, u114, u115, u116, u117, u118, u119, u120, u121, u122, u123, u124, u125, u126, u127, u128, u129, u130, u131, u132, u133, u134, u135, u136, u137, u138, u139, u140, u141, u142, u143, u144, u145, u146, u147, u148, u149, u150, u151, u152, u153, u154, u155, u156, u157, u158, u159, u160, u161, u162, u163, u164, u165, u166, u167, u168, u169, u170, u171, u172, u173, u174, u175, u176, u177, u178, u179, u180, u181, u182, u183, u184, u185, u186, u187, u188, u189, u190, u191, u192, u193, u194, u195, u196, u197, u198, u199, u200, u201, u202, u203, u204, u205, u206, u207, u208, u209, u210, u211, u212, u213, u214, u215, u216, u217, u218, u219, u220, u221, u222, u223, u224, u225, u226, u227, u228, u229, u230, u231, p232, p233, p234, p235, p236, p237, p238, p239, p240, p241, p242, p243, p244, p245, p246, p247, p248, p249, p250, p251, p252, p253, p254, p255, p256, p257, p258, p259, p260, p261, p262, p263, p264, p265, p266, p267, p268, p269, p270], []⟩) → J a w') (hK : ∀ (a : Act) (w' : World), Met J a w' → K a w') (hQp : ∀ c (a : Act) d v (w' : World), Q (.panic c) (a.put d v) w' → Q (.panic c) a w') :
    Code.wp Tryd.prog tpSw (Exit.then K Q) ⟨#[p0, p1, p2, .pointer (some ⟨t, 0, none⟩), .slice a4 l.length c4, .slice a5 lo2.length c5, .pointer (some ⟨cb, 0, none⟩), .string ⟨k.toArray⟩, .bool ab, .pointer (some ⟨tc, 0, none⟩), p10, p11, .string ⟨sk.toArray⟩, .string ⟨sv.toArray⟩, .int .i64 (at_ : Nat), .bool fb, .slice ak sk.length ck, .slice av sv.length cv, p18, p19, p20, p21, p22, p23, p24, p25, p26, p27, p28, p29, p30, p31, p32, p33, p34, p35, p36, p37, p38, p39, p40, p41, p42, p43, p44, p45, p46, p47, p48, p49, p50, p51, p52, p53, p54, p55, p56, p57, p58, p59, p60, p61, p62, p63, p64, p65, p66, p67, p68, .int .i64 wh, p70, p71, p72, p73, p74, p75, p76, p77, p78, p79, p80, p81, p82, p83, p84, p85, p86, p87, p88, p89, p90, p91, p92, p93, p94, p95, p96, p97, p98, p99, p100, p101, p102, p103, p104, p105, p106, p107, p108, p109, p110, p111, p112, p113, p114, p115, p116, p117, p118, p119, p120, p121, p122, p123, p124, p125, p126, p127, p128, p129, p130, p131, p132, p133, p134, p135, p136, p137, p138, p139, p140, p141, p142, p143, p144, p145, p146, p147, p148, p149, p150, p151, p152, p153, p154, p155, p156, p157, p158, p159, p160, p161, p162, p163, p164, p165, p166, p167, p168, p169, p170, p171, p172, p173, p174, p175, p176, p177, p178, p179, p180, p181, p182, p183, p184, p185, p186, p187, p188, p189, p190, p191, p192, p193, p194, p195, p196, p197, p198, p199, p200, p201, p202, p203, p204, p205, p206, p207, p208, p209, p210, p211, p212, p213, p214, p215, p216, p217, p218, p219, p220, p221, p222, p223, p224, p225, p226, p227, p228, p229, p230, p231, p232, p233, p234, p235, p236, p237, p238, p239, p240, p241, p242, p243, p244, p245, p246, p247, p248, p249, p250, p251, p252, p253, p254, p255, p256, p257, p258, p259, p260, p261, p262, p263, p264, p265, p266, p267, p268, p269, p270], []⟩ w8 := by
  have hT0 : True := by
    have := hP
    have := hOk8
    have := hOv8
    have := hdis
    have := hk68
    have := hk06
    have := hwt
    have := hwc
    have := hll
    have := hlo
    have := hi2
    have := hsk
    have := hsv
    have := hQp
    trivial
  clear hT0
  obtain ⟨iE, zE, hiE, hzE, hszE, hbyE, hzcE⟩ := infoE
  have HP6 := Lib.hid hP
  have HFB := Lib.hid hfb
  have HAT := Lib.hid hat
  have HK := Lib.hid (And.intro hk68 hk06)
  have hs68 := hk68.size
  clear hP hfb hat
  conv => arg 2; whnf
  obtain rfl : wh = 6 := hw0
  go_wp2_with fail
  refine (tseek (t := t) hOk8.rb (by omega)).mono ?_
  rintro e w9 ⟨cb9, rfl, hcb9, hC9, hk9⟩
  try dsimp only
  have hOk9 := hOk8.keep0 hk9
  have hsp := Lib.hid (spoil_any ak ck sk hOk9 (by omega))
  have H9 := Lib.hid (And.intro hcb9 (And.intro hC9 hk9))
  have HOK := Lib.hid hOk8.lt
  clear hcb9 hC9 hk9 hOk9 hOk8
  go_wp2_with fail
  refine hsp.out.mono ?_
  rintro e w10 ⟨rfl, hk10⟩
  try dsimp only
  have FIN : TpRel w t i (.slice a4 l.length c4) (.slice a5 lo2.length c5) (.pointer (some ⟨cb9, 0, none⟩)) (.string ⟨sk.toArray⟩) (.bool false) (.pointer (some ⟨tc, 0, none⟩)) w10 := by
    obtain ⟨hcb9, hC9, hk9⟩ := H9.out
    have hk610 : Keeps [] w6 w10 := (hk68.trans hk9).step hk10 (fun x hx => .inr (HOK.out x hx).1)
    have hC10 := hC9.keep hk10 (fun hx => by have := (HOK.out _ hx).2; omega) (fun x hx h => by have h1 := (HOK.out x hx).2; have h2 := h.1; omega)
    have hwz := hk06.size
    exact ⟨l, lo2, a4, c4, a5, c5, cb9, sk, false, tc, rfl, rfl, rfl, rfl, rfl, rfl, by omega, by omega, by omega, HP6.out.seek hk610 (by omega) (hC10.mono (fun x hx _ => ⟨by have := hx.1; omega, hx.2⟩)), hk06.trans hk610⟩
  have FIN := Lib.hid FIN
  clear hk10
  go_wp2_with fail
  go_meet
  exact FIN.out

set_option maxRecDepth 1000000 in
set_option maxHeartbeats 40000000 in
theorem tw_F (w w6 w8 : World) (t cb tc i : Nat) (l lo2 : List KV) (k sk sv : Bs) (ab fb : Bool) (a4 a5 ak av : Option Addr) (c4 c5 ck cv at_ : Nat) (wh : Int) (hP : PSt w6 t cb tc l lo2 k ab a4 c4 a5 c5) (hOk8 : Own w8 w6.heap.size ak ck sk) (hOv8 : Own w8 w6.heap.size av cv sv) (hdis : ∀ x ∈ blks av, x ∉ blks ak) (hk68 : Keeps [] w6 w8) (hk06 : Keeps [] w w6) (hwt : w.heap.size ≤ t) (hwc : w.heap.size ≤ cb) (hll : l.length ≤ i) (hlo : lo2.length ≤ i) (hi2 : i < 250) (hsk : sk.length ≤ 100) (hsv : sv.length ≤ 100) (hfb : fb = has sk l) (hat : at_ = (Go.Proofs.YtknnhnpcgefchaaDoor.lo sk l).length) (hw0 : wh = 10)
    (p0 p1 p2 p10 p11 p18 p19 p20 p21 p22 p23 p24 p25 p26 p27 p28 p29 p30 p31 p32 p33 p34 p35 p36 p37 p38 p39 p40 p41 p42 p43 p44 p45 p46 p47 p48 p49 p50 p51 p52 p53 p54 p55 p56 p57 p58 p59 p60 p61 p62 p63 p64 p65 p66 p67 p68 p70 p71 p72 p73 p74 p75 p76 p77 p78 p79 p80 p81 p82 p83 p84 p85 p86 p87 p88 p89 p90 p91 p92 p93 p94 p95 p96 p97 p98 p99 p100 p101 p102 p103 p104 p105 p106 p107 p108 p109 p110 p111 p112 p113 p114 p115 p116 p117 p118 p119 p120 p121 p122 p123 p124 p125 p126 p127 p128 p129 p130 p131 p132 p133 p134 p135 p136 p137 p138 p139 p140 p141 p142 p143 p144 p145 p146 p147 p148 p149 p150 p151 p152 p153 p154 p155 p156 p157 p158 p159 p160 p161 p162 p163 p164 p165 p166 p167 p168 p169 p170 p171 p172 p173 p174 p175 p176 p177 p178 p179 p180 p181 p182 p183 p184 p185 p186 p187 p188 p189 p190 p191 p192 p193 p194 p195 p196 p197 p198 p199 p200 p201 p202 p203 p204 p205 p206 p207 p208 p209 p210 p211 p212 p213 p214 p215 p216 p217 p218 p219 p220 p221 p222 p223 p224 p225 p226 p227 p228 p229 p230 p231 p232 p233 p234 p235 p236 p237 p238 p239 p240 p241 p242 p243 p244 p245 p246 p247 p248 p249 p250 p251 p252 p253 p254 p255 p256 p257 p258 p259 p260 p261 p262 p263 p264 p265 p266 p267 p268 p269 p270 : Value) (J K : Act → World → Prop) (Q : Exit → Act → World → Prop)
    (hJ : ∀ (a : Act) (w' : World), (∃ u2 u4 u5 u6 u7 u8 u9 u18 u19 u20 u21 u22 u23 u24 u25 u26 u40 u41 u42 u43 u44 u45 u46 u47 u48 u49 u50 u51 u52 u53 u54 u55 u56 u57 u58 u59 u60 u61 u62 u63 u64 u65 u66 u67 u68 u70 u71 u72 u73 u74 u75 u76 u77 u78 u79 u80 u81 u82 u83 u84 u85 u86 u87 u88 u89 u90 u91 u92 u93 u94 u95 u96 u97 u98 u99 u100 u101 u102 u103 u104 u105 u106 u107 u108 u109 u110 u111 u112 u113 u114 u115 u116 u117 u118 u119 u120 u121 u122 u123 u124 u125 u126 u127 u128 u129 u130 u131 u132 u133 u134 u135 u136 u137 u138 u139 u140 u141 u142 u143 u144 u145 u146 u147 u148 u149 u150 u151 u152 u153 u154 u155 u156 u157 u158 u159 u160 u161 u162 u163 u164 u165 u166 u167 u168 u169 u170 u171 u172 u173 u174 u175 u176 u177 u178 u179 u180 u181 u182 u183 u184 u185 u186 u187 u188 u189 u190 u191 u192 u193 u194 u195 u196 u197 u198 u199 u200 u201 u202 u203 u204 u205 u206 u207 u208 u209 u210 u211 u212 u213 u214 u215 u216 u217 u218 u219 u220 u221 u222 u223 u224 u225 u226 u227 u228 u229 u230 u231 : Value, TpRel w t i u4 u5 u6 u7 u8 u9 w' ∧ a = ⟨#[p0, p1, u2, .pointer (some ⟨t, 0, none⟩), u4, u5, u6, u7, u8, u9, p10, p11, .string ⟨sk.toArray⟩, .string ⟨sv.toArray⟩, .int .i64 (at_ : Nat), .bool fb, .slice ak sk.length ck, .slice av sv.length cv, u18, u19, u20, u21, u22, u23, u24, u25, u26, p27, p28, p29, p30, p31, p32, p33, p34, p35, p36, p37, p38, p39, u40, u41, u42, u43, u44, u45, u46, u47, u48, u49, u50, u51, u52, u53, u54, u55, u56, u57, u58, u59, u60, u61, u62, u63, u64, u65, u66, u67, u68, .int .i64 wh, u70, u71, u72, u73, u74, u75, u76, u77, u78, u79, u80, u81, u82, u83, u84, u85, u86, u87, u88, u89, u90, u91, u92, u93, u94, u95, u96, u97, u98, u99, u100, u101, u102, u103, u104, u105, u106, u107, u108, u109, u110, u111, u112, u113, u114, u115, u116, u117, u118, u119, u120, u121, u122, u123, u124, u125, u126, u127, u128, u129, u130, u131, u132, u133, u134, u135, u136, u137, u138, u139, u140, u141, u142, u143, u144, u145, u146, u147, u148, u149, u150, u151, u152, u153, u154, u155, u156, u157, u158, u159, u160, u161, u162, u163, u164, u165, u166, u167, u168, u169, u170, u171, u172, u173, u174, u175, u176, u177, u178, u179, u180, u181, u182, u183, u184, u185, u186, u187, u188, u189, u190, u191, u192, u193, u194, u195, u196, u197, u198, u199, u200, u201, u202, u203, u204, u205, u206, u207, u208, u209, u210, u211, u212, u213, u214, u215, u216, u217, u218, u219, u220, u221, u222, u223, u224, u225, u226, u227, u228, u229, u230, u231, p232, p233, p234, p235, p236, p237, p238, p239, p240, p241, p242, p243, p244, p245, p246, p247, p248, p249, p250, p251, p252, p253, p254, p255, p256, p257, p258, p259, p260, p261, p262, p263, p264, p265, p266, p267, p268, p269, p270], []⟩) → J a w') (hK : ∀ (a : Act) (w' : World), Met J a w' → K a w') (hQp : ∀ c (a : Act) d v (w' : World), Q (.panic c) (a.put d v) w' → Q (.panic c) a w') :
    Code.wp Tryd.prog tpSw (Exit.then K Q) ⟨#[p0, p1, p2, .pointer (some ⟨t, 0, none⟩), .slice a4 l.length c4, .slice a5 lo2.length c5, .pointer (some ⟨cb, 0, none⟩), .string ⟨k.toArray⟩, .bool ab, .pointer (some ⟨tc, 0, none⟩), p10, p11, .string ⟨sk.toArray⟩, .string ⟨sv.toArray⟩, .int .i64 (at_ : Nat), .bool fb, .slice ak sk.length ck, .slice av sv.length cv, p18, p19, p20, p21, p22, p23, p24, p25, p26, p27, p28, p29, p30, p31, p32, p33, p34, p35, p36, p37, p38, p39, p40, p41, p42, p43, p44, p45, p46, p47, p48, p49, p50, p51, p52, p53, p54, p55, p56, p57, p58, p59, p60, p61, p62, p63, p64, p65, p66, p67, p68, .int .i64 wh, p70, p71, p72, p73, p74, p75, p76, p77, p78, p79, p80, p81, p82, p83, p84, p85, p86, p87, p88, p89, p90, p91, p92, p93, p94, p95, p96, p97, p98, p99, p100, p101, p102, p103, p104, p105, p106, p107, p108, p109, p110, p111, p112, p113, p114, p115, p116, p117, p118, p119, p120, p121, p122, p123, p124, p125, p126, p127, p128, p129, p130, p131, p132, p133, p134, p135, p136, p137, p138, p139, p140, p141, p142, p143, p144, p145, p146, p147, p148, p149, p150, p151, p152, p153, p154, p155, p156, p157, p158, p159, p160, p161, p162, p163, p164, p165, p166, p167, p168, p169, p170, p171, p172, p173, p174, p175, p176, p177, p178, p179, p180, p181, p182, p183, p184, p185, p186, p187, p188, p189, p190, p191, p192, p193, p194, p195, p196, p197, p198, p199, p200, p201, p202, p203, p204, p205, p206, p207, p208, p209, p210, p211, p212, p213, p214, p215, p216, p217, p218, p219, p220, p221, p222, p223, p224, p225, p226, p227, p228, p229, p230, p231, p232, p233, p234, p235, p236, p237, p238, p239, p240, p241, p242, p243, p244, p245, p246, p247, p248, p249, p250, p251, p252, p253, p254, p255, p256, p257, p258, p259, p260, p261, p262, p263, p264, p265, p266, p267, p268, p269, p270], []⟩ w8 := by
  have hT0 : True := by
    have := hP
    have := hOk8
    have := hOv8
    have := hdis
    have := hk68
    have := hk06
    have := hwt
    have := hwc
    have := hll
    have := hlo
    have := hi2
    have := hsk
    have := hsv
    have := hQp
    trivial
  clear hT0
  obtain ⟨iE, zE, hiE, hzE, hszE, hbyE, hzcE⟩ := infoE
  have HP6 := Lib.hid hP
  have HFB := Lib.hid hfb
  have HAT := Lib.hid hat
  have HK := Lib.hid (And.intro hk68 hk06)
  have hs68 := hk68.size
  clear hP hfb hat
  conv => arg 2; whnf
  obtain rfl : wh = 10 := hw0
  have hP8 := HP6.out.keep hk68
  have HP8 := Lib.hid hP8
  go_wp2_with fail
  refine (tclone hP8.tr).mono ?_
  rintro e w9 ⟨tc9, rfl, htc9, hT9, hk9⟩
  try dsimp only
  have FIN : TpRel w t i (.slice a4 l.length c4) (.slice a4 l.length c4) (.pointer (some ⟨cb, 0, none⟩)) (.string ⟨k.toArray⟩) (.bool ab) (.pointer (some ⟨tc9, 0, none⟩)) w9 :=
    ⟨l, l, a4, c4, a4, c4, cb, k, ab, tc9, rfl, rfl, rfl, rfl, rfl, rfl, by omega, by omega, hwc, HP8.out.clone hk9 htc9 hT9, (hk06.trans hk68).trans hk9⟩
  have FIN := Lib.hid FIN
  clear htc9 hT9 hk9 hP8
  go_wp2_with fail
  go_meet
  exact FIN.out

end Go.Proofs.YtknnhnpcgefchaaDoor
