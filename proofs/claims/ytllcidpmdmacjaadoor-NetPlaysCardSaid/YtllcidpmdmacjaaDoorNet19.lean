/- NetPlays: the switch's arms (Send). -/
import Derived.Test.YtllcidpmdmacjaaDoorNet18
import Derived.Deep.DeepCutAuto
import Derived.Deep.CutBlock
import Derived.Deep.CutRange

namespace Go.Proofs.YtllcidpmdmacjaaDoor
open Go.RowKit Go.Lib
set_option maxRecDepth 1000000 in
set_option maxHeartbeats 40000000 in
theorem sw_A (w wS : World) (N nb sb k c : Nat) (ao : Option Addr) (l : List (Int × Nat)) (wh ix tn z : Int) (sq : Nat) (bad d : Bool) (C : Int → Nat → Bool → Array Value) (hC : LC C) (hg : (w).cell? ⟨0, 0, none⟩ = some (.iface 120 (.agg #[.pointer (some ⟨2, 31, none⟩)]))) (hNw : w.heap.size ≤ N) (hk : k < 100) (hlk : l.length ≤ k) (hsq : sq < 18446744073709551616) (hM : MM wS N ao c l) (hN : NetG wS N nb l) (hS : Blk wS sb 29 #[.int .i64 wh, .int .i64 ix, .int .i64 tn, .int .u64 (sq : Nat), .bool bad]) (hk0 : Keeps [] w wS) (hNs : N ≤ sb) (hd : d = decide (0 ≤ ix ∧ ix < (l.length : Int))) (hzd : z = if d then 0 else 40) (hA : wh = 0 ∨ wh = 1 ∨ wh = 2) (hok : bad = false ∧ -1 ≤ tn ∧ tn ≤ 1000)
    (p0 p1 p2 p5 p9 p10 p11 p12 p13 p14 p15 p16 p17 p18 p19 p20 p21 p22 p23 p24 p25 p26 p27 p28 p29 p30 p31 p32 p33 p34 p35 p36 p37 p38 p39 p40 p41 p42 p43 p44 p45 p47 p48 p49 p50 p51 p52 p53 p54 p55 p56 p57 p58 p59 p60 p61 p62 p63 p64 p65 p66 p67 p68 p69 p70 p71 p72 p73 p74 p75 p76 p77 p78 p79 p80 p81 p82 p83 p84 p85 p86 p87 p88 p89 p90 p91 p92 p93 p94 p95 p96 p97 p98 p99 p100 p101 p102 p103 p104 p105 p106 p107 p108 p109 p110 p111 p112 p113 p114 p115 p116 p117 p118 p119 p120 p121 p122 p123 p124 p125 p126 p127 p128 p129 p130 p131 p132 p133 p134 p135 p136 p137 p138 p139 p140 p141 p142 p143 p144 p145 p146 p147 p148 p149 p150 p151 p152 p153 p154 p155 p156 p157 p158 p159 p160 p161 p162 p163 p164 p165 p166 p167 p168 p169 p170 p171 p172 p173 p174 p175 p176 p177 p178 p179 p180 p181 p182 p183 p184 p185 p186 p187 p188 p189 p190 p191 p192 p193 p194 p195 p196 p197 p198 p199 p200 p201 p202 p203 p204 p205 p206 p207 p208 p209 p210 p211 p212 p213 p214 p215 p216 p217 p218 p219 p220 p221 p222 p223 p224 p225 p226 p227 p228 p229 p230 p231 p232 p233 p234 p235 : Value) (J K : Act → World → Prop) (Q : Exit → Act → World → Prop)
    (hJ : ∀ (a : Act) (w' : World), (∃ u2 u4 u9 u10 u11 u12 u24 u25 u26 u27 u28 u29 u30 u31 u32 u33 u34 u35 u36 u37 u38 u39 u40 u41 u42 u43 u44 u45 u47 u48 u49 u50 u51 u52 u53 u54 u55 u56 u57 u58 u59 u60 u61 u62 u63 u64 u65 u66 u67 u68 u69 u70 u71 u72 u73 u74 u75 u76 u77 u78 u79 u80 u81 u82 u83 u84 u85 u86 u87 u88 u89 u90 u91 u92 u93 u94 u95 u96 u97 u98 u99 u100 u101 u102 u103 u104 u105 u106 u107 u108 u109 u110 u111 u112 u113 u114 u115 u116 u117 u118 u119 u120 u121 u122 u123 u124 u125 u126 u127 u128 u129 u130 u131 u132 u133 u134 u135 u136 u137 u138 u139 u140 u141 u142 u143 u144 u145 u146 u147 u148 u149 u150 u151 u152 u153 u154 u155 u156 u157 u158 u159 u160 u161 u162 u163 u164 u165 u166 u167 u168 u169 u170 u171 u172 u173 u174 u175 u176 u177 u178 u179 u180 u181 u182 u183 u184 u185 u186 u187 u188 u189 u190 u191 u192 u193 u194 u195 u196 u197 u198 u199 u200 u201 u202 u203 u204 u205 u206 u207 u208 u209 u210 u211 u212 u213 u214 u215 u216 u217 u218 u219 u220 u221 u222 u223 u224 u225 u226 u227 u228 u229 u230 u231 u232 u233 u234 u235 : Value, (∃ (l' : List (Int × Nat)) (ao' : Option Addr) (c' : Nat), u4 = .slice ao' l'.length c' ∧ l'.length ≤ k + 1 ∧ MM w' N ao' c' l' ∧ NetG w' N nb l' ∧ Blk w' sb 29 #[.int .i64 wh, .int .i64 ix, .int .i64 tn, .int .u64 (sq : Nat), .bool bad] ∧ Keeps [] w w') ∧ a = ⟨#[p0, p1, u2, .pointer (some ⟨nb, 0, none⟩), u4, p5, .pointer (some ⟨sb, 0, none⟩), .bool d, .int .i64 z, u9, u10, u11, u12, p13, p14, p15, p16, p17, p18, p19, p20, p21, p22, p23, u24, u25, u26, u27, u28, u29, u30, u31, u32, u33, u34, u35, u36, u37, u38, u39, u40, u41, u42, u43, u44, u45, .int .i64 wh, u47, u48, u49, u50, u51, u52, u53, u54, u55, u56, u57, u58, u59, u60, u61, u62, u63, u64, u65, u66, u67, u68, u69, u70, u71, u72, u73, u74, u75, u76, u77, u78, u79, u80, u81, u82, u83, u84, u85, u86, u87, u88, u89, u90, u91, u92, u93, u94, u95, u96, u97, u98, u99, u100, u101, u102, u103, u104, u105, u106, u107, u108, u109, u110, u111, u112, u113, u114, u115, u116, u117, u118, u119, u120, u121, u122, u123, u124, u125, u126, u127, u128, u129, u130, u131, u132, u133, u134, u135, u136, u137, u138, u139, u140, u141, u142, u143, u144, u145, u146, u147, u148, u149, u150, u151, u152, u153, u154, u155, u156, u157, u158, u159, u160, u161, u162, u163, u164, u165, u166, u167, u168, u169, u170, u171, u172, u173, u174, u175, u176, u177, u178, u179, u180, u181, u182, u183, u184, u185, u186, u187, u188, u189, u190, u191, u192, u193, u194, u195, u196, u197, u198, u199, u200, u201, u202, u203, u204, u205, u206, u207, u208, u209, u210, u211, u212, u213, u214, u215, u216, u217, u218, u219, u220, u221, u222, u223, u224, u225, u226, u227, u228, u229, u230, u231, u232, u233, u234, u235], []⟩) → J a w') (hK : ∀ (a : Act) (w' : World), Met J a w' → K a w') (hQp : ∀ c (a : Act) d v (w' : World), Q (.panic c) (a.put d v) w' → Q (.panic c) a w') :
    Code.wp Tryd.prog netSw (Exit.then K Q) ⟨#[p0, p1, p2, .pointer (some ⟨nb, 0, none⟩), .slice ao l.length c, p5, .pointer (some ⟨sb, 0, none⟩), .bool d, .int .i64 z, p9, p10, p11, p12, p13, p14, p15, p16, p17, p18, p19, p20, p21, p22, p23, p24, p25, p26, p27, p28, p29, p30, p31, p32, p33, p34, p35, p36, p37, p38, p39, p40, p41, p42, p43, p44, p45, .int .i64 wh, p47, p48, p49, p50, p51, p52, p53, p54, p55, p56, p57, p58, p59, p60, p61, p62, p63, p64, p65, p66, p67, p68, p69, p70, p71, p72, p73, p74, p75, p76, p77, p78, p79, p80, p81, p82, p83, p84, p85, p86, p87, p88, p89, p90, p91, p92, p93, p94, p95, p96, p97, p98, p99, p100, p101, p102, p103, p104, p105, p106, p107, p108, p109, p110, p111, p112, p113, p114, p115, p116, p117, p118, p119, p120, p121, p122, p123, p124, p125, p126, p127, p128, p129, p130, p131, p132, p133, p134, p135, p136, p137, p138, p139, p140, p141, p142, p143, p144, p145, p146, p147, p148, p149, p150, p151, p152, p153, p154, p155, p156, p157, p158, p159, p160, p161, p162, p163, p164, p165, p166, p167, p168, p169, p170, p171, p172, p173, p174, p175, p176, p177, p178, p179, p180, p181, p182, p183, p184, p185, p186, p187, p188, p189, p190, p191, p192, p193, p194, p195, p196, p197, p198, p199, p200, p201, p202, p203, p204, p205, p206, p207, p208, p209, p210, p211, p212, p213, p214, p215, p216, p217, p218, p219, p220, p221, p222, p223, p224, p225, p226, p227, p228, p229, p230, p231, p232, p233, p234, p235], []⟩ wS := by
  have hT0 : True := by
    have := hC
    have := hNw
    have := hk
    have := hlk
    have := hsq
    have := hM
    have := hN
    have := hk0
    have := hNs
    have := hQp
    trivial
  clear hT0
  obtain ⟨im, zm, him, hzm, hsm, -, hzc⟩ := infoM0
  have HGW := Lib.hid hg
  have HSM := Lib.hid hsm
  have HIM := Lib.hid him
  have HZM := Lib.hid hzm
  have HD := Lib.hid hd
  have HZD := Lib.hid hzd
  clear hg hsm him hzm hzc hd hzd
  have hcS := hS.cell
  have hlS := hS.lt
  conv => arg 2; whnf
  go_upto_if 47 with (fail)
  go_cut [47] from 48 to 50 (fun v wx => v = .bool true ∧ wx = wS)
  case first =>
    rcases hA with rfl | rfl | rfl
    all_goals
      go_wp2_with fail
      go_meet
      exact ⟨rfl, rfl⟩
  case rest =>
  obtain ⟨rfl, hw⟩ := hcut
  obtain rfl := hw.symm
  obtain ⟨rfl, ho1, ho2⟩ := hok
  all_goals
    go_wp2_with (refine wpList_load_agg rfl _ _ rfl sb 0 5 rfl 29 _ _ hS Tryd.underlying29 rfl sizeSp (by simp) _ rfl ?_)
    refine (hC.msg5 _ ix tn sq false wS).mono ?_
    rintro e w2 ⟨rfl, hk2⟩
    try dsimp only
    clear hcS hlS
    replace hM := hM.keep0 hk2
    replace hN := hN.keep0 hk2
    replace hS := hS.keep hk2 (by simp)
    replace hk0 := hk0.trans hk2
    clear hk2

    go_wp2_with fail
    refine (hC.send N nb l w2 tn sq hN ho1 ho2 hsq (by omega)).mono ?_
    rintro e w3 ⟨rfl, hN3, hF3⟩
    try dsimp only
    replace hM := hM.fr hF3
    replace hS := hF3.blk hS (by decide) (by decide)
    replace hk0 := hF3.keeps hk0 hNw
    clear hN hF3
    have hcS := hS.cell
    have hlS := hS.lt
    go_wp2_with (refine wpList_load_agg rfl _ _ rfl sb 0 5 rfl 29 _ _ hS Tryd.underlying29 rfl sizeSp (by simp) _ rfl ?_)
    refine (hC.msg5 _ ix tn sq false w3).mono ?_
    rintro e w4 ⟨rfl, hk4⟩
    try dsimp only
    have hT : Sl (w4.alloc (.cells (C tn sq false) 43)) 23 (some ⟨w4.heap.size, 0, none⟩) 1 1 (mls [(tn, sq)]) := by
      rw [← mls_one1 hC]
      refine Sl.of_blk (Blk.fresh _ _ _) (by rw [hC.size]) (by decide) ?_
      rw [mls_one1 hC]
      exact mls_one _
    have hkA := hk4.alloc (.cells (C tn sq false) 43)
    replace hM := hM.keep0 hkA
    replace hN3 := hN3.keep0 hkA
    replace hS := hS.keep hkA (by simp)
    replace hk0 := hk0.trans hkA
    have hnw := hN3.nw
    clear hk4 hkA hcS hlS
    go_wp2_with (first
      | (refine wpList_slice1 rfl 26 43 _ rfl im zm (.agg (C tn sq false)) 23 Tryd.underlying26 HIM.out HZM.out HSM.out rfl (hC.size tn sq false) (by omega) (by omega) ?_)
      | (at_builtin; refine wpList_append_mm rfl _ _ rfl hM hnw l.length rfl rfl _ 1 1 rfl [(tn, sq)] rfl hT (by simp; omega) ?_; intro a2 c2 w6 hM6 hk6))
    go_meet
    exact ⟨l ++ [(tn, sq)], a2, c2, by simp, by simp; omega, hM6, hN3.keepM hM hk6, hS.keep hk6 (hM.apart hS (by decide)), hk0.step hk6 (fun x hx => .inr (by have := hM.ge x hx; omega))⟩

set_option maxRecDepth 1000000 in
set_option maxHeartbeats 40000000 in
theorem sw_B (w wS : World) (N nb sb k c : Nat) (ao : Option Addr) (l : List (Int × Nat)) (wh ix tn z : Int) (sq : Nat) (bad d : Bool) (C : Int → Nat → Bool → Array Value) (hC : LC C) (hg : (w).cell? ⟨0, 0, none⟩ = some (.iface 120 (.agg #[.pointer (some ⟨2, 31, none⟩)]))) (hNw : w.heap.size ≤ N) (hk : k < 100) (hlk : l.length ≤ k) (hsq : sq < 18446744073709551616) (hM : MM wS N ao c l) (hN : NetG wS N nb l) (hS : Blk wS sb 29 #[.int .i64 wh, .int .i64 ix, .int .i64 tn, .int .u64 (sq : Nat), .bool bad]) (hk0 : Keeps [] w wS) (hNs : N ≤ sb) (hd : d = decide (0 ≤ ix ∧ ix < (l.length : Int))) (hzd : z = if d then 0 else 40) (hA : wh = 0 ∨ wh = 1 ∨ wh = 2) (hok : ¬ (bad = false ∧ -1 ≤ tn ∧ tn ≤ 1000))
    (p0 p1 p2 p5 p9 p10 p11 p12 p13 p14 p15 p16 p17 p18 p19 p20 p21 p22 p23 p24 p25 p26 p27 p28 p29 p30 p31 p32 p33 p34 p35 p36 p37 p38 p39 p40 p41 p42 p43 p44 p45 p47 p48 p49 p50 p51 p52 p53 p54 p55 p56 p57 p58 p59 p60 p61 p62 p63 p64 p65 p66 p67 p68 p69 p70 p71 p72 p73 p74 p75 p76 p77 p78 p79 p80 p81 p82 p83 p84 p85 p86 p87 p88 p89 p90 p91 p92 p93 p94 p95 p96 p97 p98 p99 p100 p101 p102 p103 p104 p105 p106 p107 p108 p109 p110 p111 p112 p113 p114 p115 p116 p117 p118 p119 p120 p121 p122 p123 p124 p125 p126 p127 p128 p129 p130 p131 p132 p133 p134 p135 p136 p137 p138 p139 p140 p141 p142 p143 p144 p145 p146 p147 p148 p149 p150 p151 p152 p153 p154 p155 p156 p157 p158 p159 p160 p161 p162 p163 p164 p165 p166 p167 p168 p169 p170 p171 p172 p173 p174 p175 p176 p177 p178 p179 p180 p181 p182 p183 p184 p185 p186 p187 p188 p189 p190 p191 p192 p193 p194 p195 p196 p197 p198 p199 p200 p201 p202 p203 p204 p205 p206 p207 p208 p209 p210 p211 p212 p213 p214 p215 p216 p217 p218 p219 p220 p221 p222 p223 p224 p225 p226 p227 p228 p229 p230 p231 p232 p233 p234 p235 : Value) (J K : Act → World → Prop) (Q : Exit → Act → World → Prop)
    (hJ : ∀ (a : Act) (w' : World), (∃ u2 u4 u9 u10 u11 u12 u24 u25 u26 u27 u28 u29 u30 u31 u32 u33 u34 u35 u36 u37 u38 u39 u40 u41 u42 u43 u44 u45 u47 u48 u49 u50 u51 u52 u53 u54 u55 u56 u57 u58 u59 u60 u61 u62 u63 u64 u65 u66 u67 u68 u69 u70 u71 u72 u73 u74 u75 u76 u77 u78 u79 u80 u81 u82 u83 u84 u85 u86 u87 u88 u89 u90 u91 u92 u93 u94 u95 u96 u97 u98 u99 u100 u101 u102 u103 u104 u105 u106 u107 u108 u109 u110 u111 u112 u113 u114 u115 u116 u117 u118 u119 u120 u121 u122 u123 u124 u125 u126 u127 u128 u129 u130 u131 u132 u133 u134 u135 u136 u137 u138 u139 u140 u141 u142 u143 u144 u145 u146 u147 u148 u149 u150 u151 u152 u153 u154 u155 u156 u157 u158 u159 u160 u161 u162 u163 u164 u165 u166 u167 u168 u169 u170 u171 u172 u173 u174 u175 u176 u177 u178 u179 u180 u181 u182 u183 u184 u185 u186 u187 u188 u189 u190 u191 u192 u193 u194 u195 u196 u197 u198 u199 u200 u201 u202 u203 u204 u205 u206 u207 u208 u209 u210 u211 u212 u213 u214 u215 u216 u217 u218 u219 u220 u221 u222 u223 u224 u225 u226 u227 u228 u229 u230 u231 u232 u233 u234 u235 : Value, (∃ (l' : List (Int × Nat)) (ao' : Option Addr) (c' : Nat), u4 = .slice ao' l'.length c' ∧ l'.length ≤ k + 1 ∧ MM w' N ao' c' l' ∧ NetG w' N nb l' ∧ Blk w' sb 29 #[.int .i64 wh, .int .i64 ix, .int .i64 tn, .int .u64 (sq : Nat), .bool bad] ∧ Keeps [] w w') ∧ a = ⟨#[p0, p1, u2, .pointer (some ⟨nb, 0, none⟩), u4, p5, .pointer (some ⟨sb, 0, none⟩), .bool d, .int .i64 z, u9, u10, u11, u12, p13, p14, p15, p16, p17, p18, p19, p20, p21, p22, p23, u24, u25, u26, u27, u28, u29, u30, u31, u32, u33, u34, u35, u36, u37, u38, u39, u40, u41, u42, u43, u44, u45, .int .i64 wh, u47, u48, u49, u50, u51, u52, u53, u54, u55, u56, u57, u58, u59, u60, u61, u62, u63, u64, u65, u66, u67, u68, u69, u70, u71, u72, u73, u74, u75, u76, u77, u78, u79, u80, u81, u82, u83, u84, u85, u86, u87, u88, u89, u90, u91, u92, u93, u94, u95, u96, u97, u98, u99, u100, u101, u102, u103, u104, u105, u106, u107, u108, u109, u110, u111, u112, u113, u114, u115, u116, u117, u118, u119, u120, u121, u122, u123, u124, u125, u126, u127, u128, u129, u130, u131, u132, u133, u134, u135, u136, u137, u138, u139, u140, u141, u142, u143, u144, u145, u146, u147, u148, u149, u150, u151, u152, u153, u154, u155, u156, u157, u158, u159, u160, u161, u162, u163, u164, u165, u166, u167, u168, u169, u170, u171, u172, u173, u174, u175, u176, u177, u178, u179, u180, u181, u182, u183, u184, u185, u186, u187, u188, u189, u190, u191, u192, u193, u194, u195, u196, u197, u198, u199, u200, u201, u202, u203, u204, u205, u206, u207, u208, u209, u210, u211, u212, u213, u214, u215, u216, u217, u218, u219, u220, u221, u222, u223, u224, u225, u226, u227, u228, u229, u230, u231, u232, u233, u234, u235], []⟩) → J a w') (hK : ∀ (a : Act) (w' : World), Met J a w' → K a w') (hQp : ∀ c (a : Act) d v (w' : World), Q (.panic c) (a.put d v) w' → Q (.panic c) a w') :
    Code.wp Tryd.prog netSw (Exit.then K Q) ⟨#[p0, p1, p2, .pointer (some ⟨nb, 0, none⟩), .slice ao l.length c, p5, .pointer (some ⟨sb, 0, none⟩), .bool d, .int .i64 z, p9, p10, p11, p12, p13, p14, p15, p16, p17, p18, p19, p20, p21, p22, p23, p24, p25, p26, p27, p28, p29, p30, p31, p32, p33, p34, p35, p36, p37, p38, p39, p40, p41, p42, p43, p44, p45, .int .i64 wh, p47, p48, p49, p50, p51, p52, p53, p54, p55, p56, p57, p58, p59, p60, p61, p62, p63, p64, p65, p66, p67, p68, p69, p70, p71, p72, p73, p74, p75, p76, p77, p78, p79, p80, p81, p82, p83, p84, p85, p86, p87, p88, p89, p90, p91, p92, p93, p94, p95, p96, p97, p98, p99, p100, p101, p102, p103, p104, p105, p106, p107, p108, p109, p110, p111, p112, p113, p114, p115, p116, p117, p118, p119, p120, p121, p122, p123, p124, p125, p126, p127, p128, p129, p130, p131, p132, p133, p134, p135, p136, p137, p138, p139, p140, p141, p142, p143, p144, p145, p146, p147, p148, p149, p150, p151, p152, p153, p154, p155, p156, p157, p158, p159, p160, p161, p162, p163, p164, p165, p166, p167, p168, p169, p170, p171, p172, p173, p174, p175, p176, p177, p178, p179, p180, p181, p182, p183, p184, p185, p186, p187, p188, p189, p190, p191, p192, p193, p194, p195, p196, p197, p198, p199, p200, p201, p202, p203, p204, p205, p206, p207, p208, p209, p210, p211, p212, p213, p214, p215, p216, p217, p218, p219, p220, p221, p222, p223, p224, p225, p226, p227, p228, p229, p230, p231, p232, p233, p234, p235], []⟩ wS := by
  have hT0 : True := by
    have := hC
    have := hNw
    have := hk
    have := hlk
    have := hsq
    have := hM
    have := hN
    have := hk0
    have := hNs
    have := hQp
    trivial
  clear hT0
  obtain ⟨im, zm, him, hzm, hsm, -, hzc⟩ := infoM0
  have HGW := Lib.hid hg
  have HSM := Lib.hid hsm
  have HIM := Lib.hid him
  have HZM := Lib.hid hzm
  have HD := Lib.hid hd
  have HZD := Lib.hid hzd
  clear hg hsm him hzm hzc hd hzd
  have hcS := hS.cell
  have hlS := hS.lt
  conv => arg 2; whnf
  go_upto_if 47 with (fail)
  go_cut [47] from 48 to 50 (fun v wx => v = .bool true ∧ wx = wS)
  case first =>
    rcases hA with rfl | rfl | rfl
    all_goals
      go_wp2_with fail
      go_meet
      exact ⟨rfl, rfl⟩
  case rest =>
  obtain ⟨rfl, hw⟩ := hcut
  obtain rfl := hw.symm
  all_goals
    go_wp2_with (refine wpList_load_agg rfl _ _ rfl sb 0 5 rfl 29 _ _ hS Tryd.underlying29 rfl sizeSp (by simp) _ rfl ?_)
    refine (hC.msg5 _ ix tn sq bad wS).mono ?_
    rintro e w2 ⟨rfl, hk2⟩
    try dsimp only
    clear hcS hlS
    replace hM := hM.keep0 hk2
    replace hN := hN.keep0 hk2
    replace hS := hS.keep hk2 (by simp)
    replace hk0 := hk0.trans hk2
    clear hk2

    go_wp2_with fail
    refine (hC.no nb w2 tn sq bad hok).mono ?_
    rintro e w3 ⟨ev, rfl, hE, hk3⟩
    try dsimp only
    replace hM := hM.keep0 hk3
    replace hN := hN.keep0 hk3
    replace hS := hS.keep hk3 (by simp)
    replace hk0 := hk0.trans hk3
    clear hk3

    have hcS := hS.cell
    have hlS := hS.lt
    have hg3 := hk0.cellSome HGW.out (by simp)
    have HC := Lib.hid (classW2 hg3 hE)
    clear hE hg3
    go_upto_region 20 with (fail)
    go_cut [10] from 55 to 67 (fun v wx => v = .bool false ∧ wx = w3)
    case first =>
      have hcase : bad = true ∨ (bad = false ∧ ¬ (-1 ≤ tn)) ∨ (bad = false ∧ -1 ≤ tn ∧ ¬ (tn ≤ 1000)) := by cases bad <;> simp at hok ⊢ <;> omega
      rcases hcase with rfl | ⟨rfl, b1⟩ | ⟨rfl, b1, b2⟩
      all_goals
        clear hok
        go_wp2_with fail
        go_meet
        exact ⟨rfl, rfl⟩
    case rest =>
    obtain ⟨rfl, hw⟩ := hcut
    obtain rfl := hw.symm
    clear hcS hlS
    go_wp2_with fail
    refine HC.out.mono ?_
    rintro e w4 ⟨rfl, hk4⟩
    try dsimp only
    replace hM := hM.keep0 hk4
    replace hN := hN.keep0 hk4
    replace hS := hS.keep hk4 (by simp)
    replace hk0 := hk0.trans hk4
    clear hk4

    go_wp2_with fail
    go_meet
    exact ⟨l, ao, c, rfl, by omega, hM, hN, hS, hk0⟩

end Go.Proofs.YtllcidpmdmacjaaDoor
