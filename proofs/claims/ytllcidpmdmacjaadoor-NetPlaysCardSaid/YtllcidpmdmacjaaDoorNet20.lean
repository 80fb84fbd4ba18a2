/- NetPlays: the switch's arms (Take). -/
import Derived.Test.YtllcidpmdmacjaaDoorNet18
import Derived.Deep.DeepCutAuto
import Derived.Deep.CutBlock
import Derived.Deep.CutRange

namespace Go.Proofs.YtllcidpmdmacjaaDoor
open Go.RowKit Go.Lib
set_option maxRecDepth 1000000 in
set_option maxHeartbeats 40000000 in
theorem sw_C (w wS : World) (N nb sb k c : Nat) (ao : Option Addr) (l : List (Int × Nat)) (wh ix tn z : Int) (sq : Nat) (bad d : Bool) (C : Int → Nat → Bool → Array Value) (hC : LC C) (hg : (w).cell? ⟨0, 0, none⟩ = some (.iface 120 (.agg #[.pointer (some ⟨2, 31, none⟩)]))) (hNw : w.heap.size ≤ N) (hk : k < 100) (hlk : l.length ≤ k) (hsq : sq < 18446744073709551616) (hM : MM wS N ao c l) (hN : NetG wS N nb l) (hS : Blk wS sb 29 #[.int .i64 wh, .int .i64 ix, .int .i64 tn, .int .u64 (sq : Nat), .bool bad]) (hk0 : Keeps [] w wS) (hNs : N ≤ sb) (hd : d = decide (0 ≤ ix ∧ ix < (l.length : Int))) (hzd : z = if d then 0 else 40) (hw0 : wh = 3) (hin : 0 ≤ ix ∧ ix < (l.length : Int))
    (p0 p1 p2 p5 p9 p10 p11 p12 p13 p14 p15 p16 p17 p18 p19 p20 p21 p22 p23 p24 p25 p26 p27 p28 p29 p30 p31 p32 p33 p34 p35 p36 p37 p38 p39 p40 p41 p42 p43 p44 p45 p47 p48 p49 p50 p51 p52 p53 p54 p55 p56 p57 p58 p59 p60 p61 p62 p63 p64 p65 p66 p67 p68 p69 p70 p71 p72 p73 p74 p75 p76 p77 p78 p79 p80 p81 p82 p83 p84 p85 p86 p87 p88 p89 p90 p91 p92 p93 p94 p95 p96 p97 p98 p99 p100 p101 p102 p103 p104 p105 p106 p107 p108 p109 p110 p111 p112 p113 p114 p115 p116 p117 p118 p119 p120 p121 p122 p123 p124 p125 p126 p127 p128 p129 p130 p131 p132 p133 p134 p135 p136 p137 p138 p139 p140 p141 p142 p143 p144 p145 p146 p147 p148 p149 p150 p151 p152 p153 p154 p155 p156 p157 p158 p159 p160 p161 p162 p163 p164 p165 p166 p167 p168 p169 p170 p171 p172 p173 p174 p175 p176 p177 p178 p179 p180 p181 p182 p183 p184 p185 p186 p187 p188 p189 p190 p191 p192 p193 p194 p195 p196 p197 p198 p199 p200 p201 p202 p203 p204 p205 p206 p207 p208 p209 p210 p211 p212 p213 p214 p215 p216 p217 p218 p219 p220 p221 p222 p223 p224 p225 p226 p227 p228 p229 p230 p231 p232 p233 p234 p235 : Value) (J K : Act → World → Prop) (Q : Exit → Act → World → Prop)
    (hJ : ∀ (a : Act) (w' : World), (∃ u2 u4 u9 u10 u11 u12 u24 u25 u26 u27 u28 u29 u30 u31 u32 u33 u34 u35 u36 u37 u38 u39 u40 u41 u42 u43 u44 u45 u47 u48 u49 u50 u51 u52 u53 u54 u55 u56 u57 u58 u59 u60 u61 u62 u63 u64 u65 u66 u67 u68 u69 u70 u71 u72 u73 u74 u75 u76 u77 u78 u79 u80 u81 u82 u83 u84 u85 u86 u87 u88 u89 u90 u91 u92 u93 u94 u95 u96 u97 u98 u99 u100 u101 u102 u103 u104 u105 u106 u107 u108 u109 u110 u111 u112 u113 u114 u115 u116 u117 u118 u119 u120 u121 u122 u123 u124 u125 u126 u127 u128 u129 u130 u131 u132 u133 u134 u135 u136 u137 u138 u139 u140 u141 u142 u143 u144 u145 u146 u147 u148 u149 u150 u151 u152 u153 u154 u155 u156 u157 u158 u159 u160 u161 u162 u163 u164 u165 u166 u167 u168 u169 u170 u171 u172 u173 u174 u175 u176 u177 u178 u179 u180 u181 u182 u183 u184 u185 u186 u187 u188 u189 u190 u191 u192 u193 u194 u195 u196 u197 u198 u199 u200 u201 u202 u203 u204 u205 u206 u207 u208 u209 u210 u211 u212 u213 u214 u215 u216 u217 u218 u219 u220 u221 u222 u223 u224 u225 u226 u227 u228 u229 u230 u231 u232 u233 u234 u235 : Value, (∃ (l' : List (Int × Nat)) (ao' : Option Addr) (c' : Nat), u4 = .slice ao' l'.length c' ∧ l'.length ≤ k + 1 ∧ MM w' N ao' c' l' ∧ NetG w' N nb l' ∧ Blk w' sb 29 #[.int .i64 wh, .int .i64 ix, .int .i64 tn, .int .u64 (sq : Nat), .bool bad] ∧ Keeps [] w w') ∧ a = ⟨#[p0, p1, u2, .pointer (some ⟨nb, 0, none⟩), u4, p5, .pointer (some ⟨sb, 0, none⟩), .bool d, .int .i64 z, u9, u10, u11, u12, p13, p14, p15, p16, p17, p18, p19, p20, p21, p22, p23, u24, u25, u26, u27, u28, u29, u30, u31, u32, u33, u34, u35, u36, u37, u38, u39, u40, u41, u42, u43, u44, u45, .int .i64 wh, u47, u48, u49, u50, u51, u52, u53, u54, u55, u56, u57, u58, u59, u60, u61, u62, u63, u64, u65, u66, u67, u68, u69, u70, u71, u72, u73, u74, u75, u76, u77, u78, u79, u80, u81, u82, u83, u84, u85, u86, u87, u88, u89, u90, u91, u92, u93, u94, u95, u96, u97, u98, u99, u100, u101, u102, u103, u104, u105, u106, u107, u108, u109, u110, u111, u112, u113, u114, u115, u116, u117, u118, u119, u120, u121, u122, u123, u124, u125, u126, u127, u128, u129, u130, u131, u132, u133, u134, u135, u136, u137, u138, u139, u140, u141, u142, u143, u144, u145, u146, u147, u148, u149, u150, u151, u152, u153, u154, u155, u156, u157, u158, u159, u160, u161, u162, u163, u164, u165, u166, u167, u168, u169, u170, u171, u172, u173, u174, u175, u176, u177, u178, u179, u180, u181, u182, u183, u184, u185, u186, u187, u188, u189, u190, u191, u192, u193, u194, u195, u196, u197, u198, u199, u200, u201, u202, u203, u204, u205, u206, u207, u208, u209, u210, u211, u212, u213, u214, u215, u216, u217, u218, u219, u220, u221, u222, u223, u224, u225, u226, u227, u228, u229, u230, u231, u232, u233, u234, u235], []⟩) → J a w') (hK : ∀ (a : Act) (w' : World), Met J a w' → K a w') (hQp : ∀ c (a : Act) d v (w' : World), Q (.panic c) (a.put d v) w' → Q (.panic c) a w') :
    Code.wp Tryd.prog netSw (Exit.then K Q) ⟨#[p0, p1, p2, .pointer (some ⟨nb, 0, none⟩), .slice ao l.length c, p5, .pointer (some ⟨sb, 0, none⟩), .bool d, .int .i64 z, p9, p10, p11, p12, p13, p14, p15, p16, p17, p18, p19, p20, p21, p22, p23, p24, p25, p26, p27, p28, p29, p30, p31, p32, p33, p34, p35, p36, p37, p38, p39, p40, p41, p42, p43, p44, p45, .int .i64 wh, p47, p48, p49, p50, p51, p52, p53, p54, p55, p56, p57, p58, p59, p60, p61, p62, p63, p64, p65, p66, p67, p68, p69, p70, p71, p72, p73, p74, p75, p76, p77, p78, p79, p80, p81, p82, p83, p84, p85, p86, p87, p88, p89, p90, p91, p92, p93, p94, p95, p96, p97, p98, p99, p100, p101, p102, p103, p104, p105, p106, p107, p108, p109, p110, p111, p112, p113, p114, p115, p116, p117, p118, p119, p120, p121, p122, p123, p124, p125, p126, p127, p128, p129, p130, p131, p132, p133, p134, p135, p136, p137, p138, p139, p140, p141, p142, p143, p144, p145, p146, p147, p148, p149, p150, p151, p152, p153, p154, p155, p156, p157, p158, p159, p160, p161, p162, p163, p164, p165, p166, p167, p168, p169, p170, p171, p172, p173, p174, p175, p176, p177, p178, p179, p180, p181, p182, p183, p184, p185, p186, p187, p188, p189, p190, p191, p192, p193, p194, p195, p196, p197, p198, p199, p200, p201, p202, p203, p204, p205, p206, p207, p208, p209, p210, p211, p212, p213, p214, p215, p216, p217, p218, p219, p220, p221, p222, p223, p224, p225, p226, p227, p228, p229, p230, p231, p232, p233, p234, p235], []⟩ wS := by
  have hT0 : True := by
    have := hC
    have := hNw
    have := hk
    have := hlk
    have := hsq
    have := hM
    have := hN
    have := hk0
    have := hNs
    have := hQp
    trivial
  clear hT0
  obtain ⟨im, zm, him, hzm, hsm, -, hzc⟩ := infoM0
  have HGW := Lib.hid hg
  have HSM := Lib.hid hsm
  have HIM := Lib.hid him
  have HZM := Lib.hid hzm
  have HD := Lib.hid hd
  have HZD := Lib.hid hzd
  clear hg hsm him hzm hzc hd hzd
  have hcS := hS.cell
  have hlS := hS.lt
  conv => arg 2; whnf
  obtain rfl : wh = 3 := hw0
  obtain rfl : d = true := by rw [HD.out]; simp [hin]
  obtain rfl : z = 0 := HZD.out
  obtain ⟨k0, rfl⟩ := Int.eq_ofNat_of_zero_le hin.1
  have hkl : k0 < l.length := by omega
  clear HD HZD hin
  obtain ⟨x, hx⟩ : ∃ x, l[k0]? = some x := ⟨_, List.getElem?_eq_getElem hkl⟩
  have HX := Lib.hid hx
  clear hx

  go_wp2_with fail
  refine (gtakeM hN k0 x HX.out).mono ?_
  rintro e w2 ⟨X, rfl, hX, hN2, hF2⟩
  try dsimp only

  replace hM := hM.fr hF2
  replace hS := hF2.blk hS (by decide) (by decide)
  replace hk0 := hF2.keeps hk0 hNw
  clear hF2 hcS hlS
  replace hN := hN2
  clear hN2

  have hXz := hX.size
  have HX1 := Lib.hid hX.one
  have HXQ := Lib.hid hX.seq
  clear hX
  go_upto_region 27 with (refine wpList_store_fresh rfl rfl 43 _ _ rfl (w2).heap.size ?_ rfl (X).toList ?_ _ _ ?_ ?_ ?_ ?_; rfl; rfl; (rw [Array.length_toList, hXz]; exact Tryd.sizeM); simp [hXz]; exact HX1.out)
  change Code.wp _ _ _ _ (World.alloc w2 (.cells X 43))
  have hBX := Blk.fresh w2 43 X
  have hkA := (Keeps.refl [] w2).alloc (.cells X 43)
  replace hM := hM.keep0 hkA
  replace hN := hN.keep0 hkA
  replace hS := hS.keep hkA (by simp)
  replace hk0 := hk0.trans hkA
  clear hkA

  generalize World.alloc w2 _ = w3 at *
  generalize w2.heap.size = xb at *
  have hkD := (Keeps.refl [] w3).drew
  replace hBX := hBX.keep hkD (by simp)
  replace hM := hM.keep0 hkD
  replace hN := hN.keep0 hkD
  replace hS := hS.keep hkD (by simp)
  replace hk0 := hk0.trans hkD
  clear hkD

  obtain ⟨g, rfl, hmc⟩ := hM.at HX.out
  have n2 : (k0 : Int) < (l.length : Int) := by omega
  have n7 : (0 : Int) ≤ (k0 : Int) := by omega
  have cX : w3.drew.cell? ⟨xb, 14, none⟩ = some (.int .u64 (x.2 : Nat)) := (hBX.cell 14).trans HXQ.out
  have cS : w3.drew.cell? ⟨sb, 1, none⟩ = some (.int .i64 (k0 : Int)) := hS.cell 1
  have cM : w3.drew.cell? ⟨g, k0 * 23 + 14, none⟩ = some (.int .u64 (x.2 : Nat)) := hmc 14 _ (ml14 x)
  have hSw := rds3 (i := 8) (j := 11) (k := 14) (F := fun w0 : World => w0.cell? ⟨xb, 14, none⟩ = some (.int .u64 (x.2 : Nat))) (G := fun w0 : World => w0.cell? ⟨sb, 1, none⟩ = some (.int .i64 (k0 : Int))) (H := fun w0 : World => w0.cell? ⟨g, k0 * 23 + 14, none⟩ = some (.int .u64 (x.2 : Nat))) cX cS cM
  clear cX cS cM hmc
  refine startU [(8, fun w0 : World => w0.cell? ⟨xb, 14, none⟩ = some (.int .u64 (x.2 : Nat))), (11, fun w0 : World => w0.cell? ⟨sb, 1, none⟩ = some (.int .i64 (k0 : Int))), (14, fun w0 : World => w0.cell? ⟨g, k0 * 23 + 14, none⟩ = some (.int .u64 (x.2 : Nat)))] (by kernel_rfl) ?_
  refine takeU (i := 0) (v := ?_) rfl (by kernel_rfl) (fun _ _ _ h => hQp _ _ _ _ _ h) (Or.inl ⟨by rfl, fun w0 hw0 => ?_⟩) (fun p hp _ => hSw p hp) ?_
  rotate_left
  · simp [Reads] at hw0
    go_simp
    try with_reducible rfl
  try go_simp
  refine takeU (i := 2) (v := ?_) rfl (by kernel_rfl) (fun _ _ _ h => hQp _ _ _ _ _ h) (Or.inl ⟨by rfl, fun w0 hw0 => ?_⟩) (fun p hp _ => hSw p hp) ?_
  rotate_left
  · simp [Reads] at hw0
    go_simp
    try with_reducible rfl
  try go_simp
  refine oneU (i := 1) rfl (by kernel_rfl) (fun K hK => ?_)
  rw [if_pos (show Region.wanted _ _ = true from rfl)]
  have HSW := Lib.hid hSw
  clear hSw
  go_wp2_with fail
  refine (class_nil _).mono ?_
  rintro e w' ⟨rfl, hw⟩
  try dsimp only
  obtain rfl := hw
  try simp only []
  have hSw := HSW.out
  clear HSW
  refine hK _ _ (fun p hp _ h => h) ?_
  clear hK K
  try go_simp
  refine takeU (i := 3) (v := ?_) rfl (by kernel_rfl) (fun _ _ _ h => hQp _ _ _ _ _ h) (Or.inl ⟨by rfl, fun w0 hw0 => ?_⟩) (fun p hp _ => hSw p hp) ?_
  rotate_left
  · simp [Reads] at hw0
    go_simp
    try with_reducible rfl
  try go_simp
  refine takeU (i := 4) (v := ?_) rfl (by kernel_rfl) (fun _ _ _ h => hQp _ _ _ _ _ h) (Or.inl ⟨by rfl, fun w0 hw0 => ?_⟩) (fun p hp _ => hSw p hp) ?_
  rotate_left
  · simp [Reads] at hw0
    go_simp
    try with_reducible rfl
  try go_simp
  refine takeU (i := 5) (v := ?_) rfl (by kernel_rfl) (fun _ _ _ h => hQp _ _ _ _ _ h) (Or.inl ⟨by rfl, fun w0 hw0 => ?_⟩) (fun p hp _ => hSw p hp) ?_
  rotate_left
  · simp [Reads] at hw0
    go_simp
    try with_reducible rfl
  try go_simp
  refine takeU (i := 6) (v := ?_) rfl (by kernel_rfl) (fun _ _ _ h => hQp _ _ _ _ _ h) (Or.inl ⟨by rfl, fun w0 hw0 => ?_⟩) (fun p hp _ => hSw p hp) ?_
  rotate_left
  · simp [Reads] at hw0
    go_simp
    try with_reducible rfl
  try go_simp
  refine takeU (i := 7) (v := ?_) rfl (by kernel_rfl) (fun _ _ _ h => hQp _ _ _ _ _ h) (Or.inl ⟨by rfl, fun w0 hw0 => ?_⟩) (fun p hp _ => hSw p hp) ?_
  rotate_left
  · simp [Reads] at hw0
    go_simp
    try with_reducible rfl
  try go_simp
  refine takeU (i := 8) (v := ?_) rfl (by kernel_rfl) (fun _ _ _ h => hQp _ _ _ _ _ h) (Or.inl ⟨by rfl, fun w0 hw0 => ?_⟩) (fun p hp _ => hSw p hp) ?_
  rotate_left
  · simp [Reads] at hw0
    go_simp
    try with_reducible rfl
  try go_simp
  refine takeU (i := 9) (v := ?_) rfl (by kernel_rfl) (fun _ _ _ h => hQp _ _ _ _ _ h) (Or.inl ⟨by rfl, fun w0 hw0 => ?_⟩) (fun p hp _ => hSw p hp) ?_
  rotate_left
  · simp [Reads] at hw0
    go_simp
    try with_reducible rfl
  try go_simp
  refine takeU (i := 10) (v := ?_) rfl (by kernel_rfl) (fun _ _ _ h => hQp _ _ _ _ _ h) (Or.inl ⟨by rfl, fun w0 hw0 => ?_⟩) (fun p hp _ => hSw p hp) ?_
  rotate_left
  · simp [Reads] at hw0
    go_simp
    try with_reducible rfl
  try go_simp
  refine takeU (i := 11) (v := ?_) rfl (by kernel_rfl) (fun _ _ _ h => hQp _ _ _ _ _ h) (Or.inl ⟨by rfl, fun w0 hw0 => ?_⟩) (fun p hp _ => hSw p hp) ?_
  rotate_left
  · simp [Reads] at hw0
    go_simp
    try with_reducible rfl
  try go_simp
  refine takeU (i := 12) (v := ?_) rfl (by kernel_rfl) (fun _ _ _ h => hQp _ _ _ _ _ h) (Or.inl ⟨by rfl, fun w0 hw0 => ?_⟩) (fun p hp _ => hSw p hp) ?_
  rotate_left
  · simp [Reads] at hw0
    go_simp
    try with_reducible rfl
  try go_simp
  refine takeU (i := 13) (v := ?_) rfl (by kernel_rfl) (fun _ _ _ h => hQp _ _ _ _ _ h) (Or.inl ⟨by rfl, fun w0 hw0 => ?_⟩) (fun p hp _ => hSw p hp) ?_
  rotate_left
  · simp [Reads] at hw0
    go_simp
    try with_reducible rfl
  try go_simp
  refine takeU (i := 14) (v := ?_) rfl (by kernel_rfl) (fun _ _ _ h => hQp _ _ _ _ _ h) (Or.inl ⟨by rfl, fun w0 hw0 => ?_⟩) (fun p hp _ => hSw p hp) ?_
  rotate_left
  · simp [Reads] at hw0
    go_simp
    try with_reducible rfl
  try go_simp
  refine takeU (i := 15) (v := ?_) rfl (by kernel_rfl) (fun _ _ _ h => hQp _ _ _ _ _ h) (Or.inl ⟨by rfl, fun w0 hw0 => ?_⟩) (fun p hp _ => hSw p hp) ?_
  rotate_left
  · simp [Reads] at hw0
    go_simp
    try with_reducible rfl
  try go_simp
  refine takeU (i := 16) (v := ?_) rfl (by kernel_rfl) (fun _ _ _ h => hQp _ _ _ _ _ h) (Or.inl ⟨by rfl, fun w0 hw0 => ?_⟩) (fun p hp _ => hSw p hp) ?_
  rotate_left
  · simp [Reads] at hw0
    go_simp
    try with_reducible rfl
  try go_simp
  refine takeU (i := 17) (v := ?_) rfl (by kernel_rfl) (fun _ _ _ h => hQp _ _ _ _ _ h) (Or.inl ⟨by rfl, fun w0 hw0 => ?_⟩) (fun p hp _ => hSw p hp) ?_
  rotate_left
  · simp [Reads] at hw0
    go_simp
    try with_reducible rfl
  try go_simp
  clear hSw
  refine doneU (by kernel_rfl) ?_
  generalize w3.drew = w4 at *

  go_upto_region 30 with (fail)
  have hle := hM.le
  have hnw := hN.nw
  have n2 : (k0 : Int) < (l.length : Int) := by omega
  have n3 : (k0 : Int) + 1 ≤ (l.length : Int) := by omega
  have n4 : (0 : Int) ≤ (k0 : Int) + 1 := by omega
  have n5 : (l.length : Int) ≤ (c : Int) := by omega
  have n6 : (k0 : Int) ≤ (c : Int) := by omega
  have n7 : (0 : Int) ≤ (k0 : Int) := by omega
  have n8 : (k0 : Int) ≤ (k0 : Int) + 1 := by omega
  have q1 : IntKind.i64.wrap ((k0 : Int) + 1) = k0 + 1 := IntWalk.i64_in _ (by omega)
  have HLT := Lib.hid (show (l.take k0).length = k0 by simp; omega)
  have HLD := Lib.hid (show l.length - (k0 + 1) = (l.drop (k0 + 1)).length by simp)
  have HF := Lib.hid (show l.take k0 ++ l.drop (k0 + 1) = l.eraseIdx k0 by rw [List.eraseIdx_eq_take_drop_succ])
  have hkD := (Keeps.refl [] w4).drew
  replace hM := hM.keep0 hkD
  replace hN := hN.keep0 hkD
  replace hS := hS.keep hkD (by simp)
  replace hk0 := hk0.trans hkD
  have hnd := hN.nw
  have cS : ∀ W, Blk W sb 29 #[.int .i64 3, .int .i64 (k0 : Int), .int .i64 tn, .int .u64 (sq : Nat), .bool bad] → W.cell? ⟨sb, 1, none⟩ = some (.int .i64 (k0 : Int)) := fun W h => h.cell 1
  have CS := Lib.hid cS
  have hSw := rds3 (i := 2) (j := 4) (k := 8) (F := fun w0 : World => w0.cell? ⟨sb, 1, none⟩ = some (.int .i64 (k0 : Int))) (G := fun w0 : World => w0.cell? ⟨sb, 1, none⟩ = some (.int .i64 (k0 : Int))) (H := fun w0 : World => w0.cell? ⟨sb, 1, none⟩ = some (.int .i64 (k0 : Int))) (cS _ hS) (cS _ hS) (cS _ hS)
  have hT0 := hM.tail hkl
  have hMc := hM.cut (k := k0) (by omega) (by simp)
  clear cS
  refine startU [(2, fun w0 : World => w0.cell? ⟨sb, 1, none⟩ = some (.int .i64 (k0 : Int))), (4, fun w0 : World => w0.cell? ⟨sb, 1, none⟩ = some (.int .i64 (k0 : Int))), (8, fun w0 : World => w0.cell? ⟨sb, 1, none⟩ = some (.int .i64 (k0 : Int)))] (by kernel_rfl) ?_
  by_cases hck : c = k0 + 1
  · have hle1 : l.length = k0 + 1 := by omega
    have hT : Sl w4.drew 23 (some ⟨g, 0, none⟩) 0 0 (mls (l.drop (k0 + 1))) := by
      rw [if_pos hck, show c - (k0 + 1) = 0 by omega, show l.length - (k0 + 1) = 0 by omega] at hT0
      exact hT0
    have HDL := Lib.hid (show 0 = (l.drop (k0 + 1)).length by simp; omega)
    clear hT0
    have HL1 := Lib.hid hle1
    subst hck
    clear hle1
    rw [HL1.out]
    refine takeU (i := 0) (v := ?_) rfl (by kernel_rfl) (fun _ _ _ h => hQp _ _ _ _ _ h) (Or.inl ⟨by rfl, fun w0 hw0 => ?_⟩) (fun p hp _ => hSw p hp) ?_
    rotate_left
    · simp [Reads] at hw0
      go_simp
      try with_reducible rfl
    try go_simp
    refine takeU (i := 1) (v := ?_) rfl (by kernel_rfl) (fun _ _ _ h => hQp _ _ _ _ _ h) (Or.inl ⟨by rfl, fun w0 hw0 => ?_⟩) (fun p hp _ => hSw p hp) ?_
    rotate_left
    · simp [Reads] at hw0
      go_simp
      try with_reducible rfl
    try go_simp
    refine takeU (i := 2) (v := ?_) rfl (by kernel_rfl) (fun _ _ _ h => hQp _ _ _ _ _ h) (Or.inl ⟨by rfl, fun w0 hw0 => ?_⟩) (fun p hp _ => hSw p hp) ?_
    rotate_left
    · simp [Reads] at hw0
      go_simp
      try with_reducible rfl
    try go_simp
    refine takeU (i := 3) (v := ?_) rfl (by kernel_rfl) (fun _ _ _ h => hQp _ _ _ _ _ h) (Or.inl ⟨by rfl, fun w0 hw0 => ?_⟩) (fun p hp _ => hSw p hp) ?_
    rotate_left
    · simp [Reads] at hw0
      go_simp
      try with_reducible rfl
    try go_simp
    refine takeU (i := 4) (v := ?_) rfl (by kernel_rfl) (fun _ _ _ h => hQp _ _ _ _ _ h) (Or.inl ⟨by rfl, fun w0 hw0 => ?_⟩) (fun p hp _ => hSw p hp) ?_
    rotate_left
    · simp [Reads] at hw0
      go_simp
      try with_reducible rfl
    try go_simp
    refine takeU (i := 5) (v := ?_) rfl (by kernel_rfl) (fun _ _ _ h => hQp _ _ _ _ _ h) (Or.inl ⟨by rfl, fun w0 hw0 => ?_⟩) (fun p hp _ => hSw p hp) ?_
    rotate_left
    · simp [Reads] at hw0
      go_simp
      try with_reducible rfl
    try go_simp
    refine takeU (i := 6) (v := ?_) rfl (by kernel_rfl) (fun _ _ _ h => hQp _ _ _ _ _ h) (Or.inl ⟨by rfl, fun w0 hw0 => ?_⟩) (fun p hp _ => hSw p hp) ?_
    rotate_left
    · simp [Reads] at hw0
      go_simp
      try with_reducible rfl
    try go_simp
    refine takeU (i := 7) (v := ?_) rfl (by kernel_rfl) (fun _ _ _ h => hQp _ _ _ _ _ h) (Or.inl ⟨by rfl, fun w0 hw0 => ?_⟩) (fun p hp _ => hSw p hp) ?_
    rotate_left
    · simp [Reads] at hw0
      go_simp
      try with_reducible rfl
    try go_simp
    refine takeU (i := 8) (v := ?_) rfl (by kernel_rfl) (fun _ _ _ h => hQp _ _ _ _ _ h) (Or.inl ⟨by rfl, fun w0 hw0 => ?_⟩) (fun p hp _ => hSw p hp) ?_
    rotate_left
    · simp [Reads] at hw0
      go_simp
      try with_reducible rfl
    try go_simp
    refine takeU (i := 9) (v := ?_) rfl (by kernel_rfl) (fun _ _ _ h => hQp _ _ _ _ _ h) (Or.inl ⟨by rfl, fun w0 hw0 => ?_⟩) (fun p hp _ => hSw p hp) ?_
    rotate_left
    · simp [Reads] at hw0
      go_simp
      try with_reducible rfl
    try go_simp
    refine takeU (i := 10) (v := ?_) rfl (by kernel_rfl) (fun _ _ _ h => hQp _ _ _ _ _ h) (Or.inl ⟨by rfl, fun w0 hw0 => ?_⟩) (fun p hp _ => hSw p hp) ?_
    rotate_left
    · simp [Reads] at hw0
      go_simp
      try with_reducible rfl
    try go_simp
    refine oneU (i := 11) rfl (by kernel_rfl) (fun K hK => ?_)
    refine step_append_mm rfl _ _ rfl hMc hnd k0 HLT.out.symm rfl _ 0 0 rfl (l.drop (k0 + 1)) HDL.out hT (by simp; omega) ?_
    intro a2 c2 w5 hM5 hk5
    obtain ⟨L, hL⟩ : ∃ L, L = (l.take k0 ++ l.drop (k0 + 1)).length := ⟨_, rfl⟩
    rw [← hL]
    have HLn := Lib.hid hL
    rw [HF.out] at hM5
    have hS5 := hS.keep hk5 (hM.apart hS (by decide))
    clear hL hSw
    refine hK _ _ (fun p hp _ _ => rds3 (CS.out _ hS5) (CS.out _ hS5) (CS.out _ hS5) p hp) ?_
    clear hK K
    try go_simp
    refine oneU (i := 12) rfl (by kernel_rfl) (fun K hK => ?_)
    go_simp
    refine hK _ _ (fun p hp _ h => h) ?_
    clear hK K
    refine doneU (by kernel_rfl) ?_
    go_wp2_with fail
    go_meet
    exact ⟨l.eraseIdx k0, a2, c2, by rw [HLn.out, HF.out], by rw [← HF.out]; simp; omega, hM5, hN.keepM hM hk5, hS5, hk0.step hk5 (fun x hx => .inr (by have := hM.ge x hx; omega))⟩

  have hT : Sl w4.drew 23 (some ⟨g, (k0 + 1) * 23, none⟩) (l.length - (k0 + 1)) (c - (k0 + 1)) (mls (l.drop (k0 + 1))) := by
    rw [if_neg hck] at hT0
    simpa [addr_add] using hT0
  clear hT0
  refine takeU (i := 0) (v := ?_) rfl (by kernel_rfl) (fun _ _ _ h => hQp _ _ _ _ _ h) (Or.inl ⟨by rfl, fun w0 hw0 => ?_⟩) (fun p hp _ => hSw p hp) ?_
  rotate_left
  · simp [Reads] at hw0
    go_simp
    try with_reducible rfl
  try go_simp
  refine takeU (i := 1) (v := ?_) rfl (by kernel_rfl) (fun _ _ _ h => hQp _ _ _ _ _ h) (Or.inl ⟨by rfl, fun w0 hw0 => ?_⟩) (fun p hp _ => hSw p hp) ?_
  rotate_left
  · simp [Reads] at hw0
    go_simp
    try with_reducible rfl
  try go_simp
  refine takeU (i := 2) (v := ?_) rfl (by kernel_rfl) (fun _ _ _ h => hQp _ _ _ _ _ h) (Or.inl ⟨by rfl, fun w0 hw0 => ?_⟩) (fun p hp _ => hSw p hp) ?_
  rotate_left
  · simp [Reads] at hw0
    go_simp
    try with_reducible rfl
  try go_simp
  refine takeU (i := 3) (v := ?_) rfl (by kernel_rfl) (fun _ _ _ h => hQp _ _ _ _ _ h) (Or.inl ⟨by rfl, fun w0 hw0 => ?_⟩) (fun p hp _ => hSw p hp) ?_
  rotate_left
  · simp [Reads] at hw0
    go_simp
    try with_reducible rfl
  try go_simp
  refine takeU (i := 4) (v := ?_) rfl (by kernel_rfl) (fun _ _ _ h => hQp _ _ _ _ _ h) (Or.inl ⟨by rfl, fun w0 hw0 => ?_⟩) (fun p hp _ => hSw p hp) ?_
  rotate_left
  · simp [Reads] at hw0
    go_simp
    try with_reducible rfl
  try go_simp
  refine takeU (i := 5) (v := ?_) rfl (by kernel_rfl) (fun _ _ _ h => hQp _ _ _ _ _ h) (Or.inl ⟨by rfl, fun w0 hw0 => ?_⟩) (fun p hp _ => hSw p hp) ?_
  rotate_left
  · simp [Reads] at hw0
    go_simp
    try with_reducible rfl
  try go_simp
  refine takeU (i := 6) (v := ?_) rfl (by kernel_rfl) (fun _ _ _ h => hQp _ _ _ _ _ h) (Or.inl ⟨by rfl, fun w0 hw0 => ?_⟩) (fun p hp _ => hSw p hp) ?_
  rotate_left
  · simp [Reads] at hw0
    go_simp
    try with_reducible rfl
  try go_simp
  refine takeU (i := 7) (v := ?_) rfl (by kernel_rfl) (fun _ _ _ h => hQp _ _ _ _ _ h) (Or.inl ⟨by rfl, fun w0 hw0 => ?_⟩) (fun p hp _ => hSw p hp) ?_
  rotate_left
  · simp [Reads] at hw0
    go_simp
    try with_reducible rfl
  try go_simp
  refine takeU (i := 8) (v := ?_) rfl (by kernel_rfl) (fun _ _ _ h => hQp _ _ _ _ _ h) (Or.inl ⟨by rfl, fun w0 hw0 => ?_⟩) (fun p hp _ => hSw p hp) ?_
  rotate_left
  · simp [Reads] at hw0
    go_simp
    try with_reducible rfl
  try go_simp
  refine takeU (i := 9) (v := ?_) rfl (by kernel_rfl) (fun _ _ _ h => hQp _ _ _ _ _ h) (Or.inl ⟨by rfl, fun w0 hw0 => ?_⟩) (fun p hp _ => hSw p hp) ?_
  rotate_left
  · simp [Reads] at hw0
    go_simp
    try with_reducible rfl
  try go_simp
  refine takeU (i := 10) (v := ?_) rfl (by kernel_rfl) (fun _ _ _ h => hQp _ _ _ _ _ h) (Or.inl ⟨by rfl, fun w0 hw0 => ?_⟩) (fun p hp _ => hSw p hp) ?_
  rotate_left
  · simp [Reads] at hw0
    go_simp
    try with_reducible rfl
  try go_simp

  refine oneU (i := 11) rfl (by kernel_rfl) (fun K hK => ?_)
  refine step_append_mm rfl _ _ rfl hMc hnd k0 HLT.out.symm rfl _ _ _ rfl (l.drop (k0 + 1)) HLD.out hT (by simp; omega) ?_
  intro a2 c2 w5 hM5 hk5
  obtain ⟨L, hL⟩ : ∃ L, L = (l.take k0 ++ l.drop (k0 + 1)).length := ⟨_, rfl⟩
  rw [← hL]
  have HLn := Lib.hid hL
  rw [HF.out] at hM5
  have hS5 := hS.keep hk5 (hM.apart hS (by decide))
  clear hL hSw
  refine hK _ _ (fun p hp _ _ => rds3 (CS.out _ hS5) (CS.out _ hS5) (CS.out _ hS5) p hp) ?_
  clear hK K
  try go_simp
  refine oneU (i := 12) rfl (by kernel_rfl) (fun K hK => ?_)
  go_simp
  refine hK _ _ (fun p hp _ h => h) ?_
  clear hK K
  refine doneU (by kernel_rfl) ?_
  go_wp2_with fail
  go_meet
  exact ⟨l.eraseIdx k0, a2, c2, by rw [HLn.out, HF.out], by rw [← HF.out]; simp; omega, hM5, hN.keepM hM hk5, hS5, hk0.step hk5 (fun x hx => .inr (by have := hM.ge x hx; omega))⟩

set_option maxRecDepth 1000000 in
set_option maxHeartbeats 40000000 in
theorem sw_D (w wS : World) (N nb sb k c : Nat) (ao : Option Addr) (l : List (Int × Nat)) (wh ix tn z : Int) (sq : Nat) (bad d : Bool) (C : Int → Nat → Bool → Array Value) (hC : LC C) (hg : (w).cell? ⟨0, 0, none⟩ = some (.iface 120 (.agg #[.pointer (some ⟨2, 31, none⟩)]))) (hNw : w.heap.size ≤ N) (hk : k < 100) (hlk : l.length ≤ k) (hsq : sq < 18446744073709551616) (hM : MM wS N ao c l) (hN : NetG wS N nb l) (hS : Blk wS sb 29 #[.int .i64 wh, .int .i64 ix, .int .i64 tn, .int .u64 (sq : Nat), .bool bad]) (hk0 : Keeps [] w wS) (hNs : N ≤ sb) (hd : d = decide (0 ≤ ix ∧ ix < (l.length : Int))) (hzd : z = if d then 0 else 40) (hw0 : wh = 3) (hin : ¬ (0 ≤ ix ∧ ix < (l.length : Int)))
    (p0 p1 p2 p5 p9 p10 p11 p12 p13 p14 p15 p16 p17 p18 p19 p20 p21 p22 p23 p24 p25 p26 p27 p28 p29 p30 p31 p32 p33 p34 p35 p36 p37 p38 p39 p40 p41 p42 p43 p44 p45 p47 p48 p49 p50 p51 p52 p53 p54 p55 p56 p57 p58 p59 p60 p61 p62 p63 p64 p65 p66 p67 p68 p69 p70 p71 p72 p73 p74 p75 p76 p77 p78 p79 p80 p81 p82 p83 p84 p85 p86 p87 p88 p89 p90 p91 p92 p93 p94 p95 p96 p97 p98 p99 p100 p101 p102 p103 p104 p105 p106 p107 p108 p109 p110 p111 p112 p113 p114 p115 p116 p117 p118 p119 p120 p121 p122 p123 p124 p125 p126 p127 p128 p129 p130 p131 p132 p133 p134 p135 p136 p137 p138 p139 p140 p141 p142 p143 p144 p145 p146 p147 p148 p149 p150 p151 p152 p153 p154 p155 p156 p157 p158 p159 p160 p161 p162 p163 p164 p165 p166 p167 p168 p169 p170 p171 p172 p173 p174 p175 p176 p177 p178 p179 p180 p181 p182 p183 p184 p185 p186 p187 p188 p189 p190 p191 p192 p193 p194 p195 p196 p197 p198 p199 p200 p201 p202 p203 p204 p205 p206 p207 p208 p209 p210 p211 p212 p213 p214 p215 p216 p217 p218 p219 p220 p221 p222 p223 p224 p225 p226 p227 p228 p229 p230 p231 p232 p233 p234 p235 : Value) (J K : Act → World → Prop) (Q : Exit → Act → World → Prop)
    (hJ : ∀ (a : Act) (w' : World), (∃ u2 u4 u9 u10 u11 u12 u24 u25 u26 u27 u28 u29 u30 u31 u32 u33 u34 u35 u36 u37 u38 u39 u40 u41 u42 u43 u44 u45 u47 u48 u49 u50 u51 u52 u53 u54 u55 u56 u57 u58 u59 u60 u61 u62 u63 u64 u65 u66 u67 u68 u69 u70 u71 u72 u73 u74 u75 u76 u77 u78 u79 u80 u81 u82 u83 u84 u85 u86 u87 u88 u89 u90 u91 u92 u93 u94 u95 u96 u97 u98 u99 u100 u101 u102 u103 u104 u105 u106 u107 u108 u109 u110 u111 u112 u113 u114 u115 u116 u117 u118 u119 u120 u121 u122 u123 u124 u125 u126 u127 u128 u129 u130 u131 u132 u133 u134 u135 u136 u137 u138 u139 u140 u141 u142 u143 u144 u145 u146 u147 u148 u149 u150 u151 u152 u153 u154 u155 u156 u157 u158 u159 u160 u161 u162 u163 u164 u165 u166 u167 u168 u169 u170 u171 u172 u173 u174 u175 u176 u177 u178 u179 u180 u181 u182 u183 u184 u185 u186 u187 u188 u189 u190 u191 u192 u193 u194 u195 u196 u197 u198 u199 u200 u201 u202 u203 u204 u205 u206 u207 u208 u209 u210 u211 u212 u213 u214 u215 u216 u217 u218 u219 u220 u221 u222 u223 u224 u225 u226 u227 u228 u229 u230 u231 u232 u233 u234 u235 : Value, (∃ (l' : List (Int × Nat)) (ao' : Option Addr) (c' : Nat), u4 = .slice ao' l'.length c' ∧ l'.length ≤ k + 1 ∧ MM w' N ao' c' l' ∧ NetG w' N nb l' ∧ Blk w' sb 29 #[.int .i64 wh, .int .i64 ix, .int .i64 tn, .int .u64 (sq : Nat), .bool bad] ∧ Keeps [] w w') ∧ a = ⟨#[p0, p1, u2, .pointer (some ⟨nb, 0, none⟩), u4, p5, .pointer (some ⟨sb, 0, none⟩), .bool d, .int .i64 z, u9, u10, u11, u12, p13, p14, p15, p16, p17, p18, p19, p20, p21, p22, p23, u24, u25, u26, u27, u28, u29, u30, u31, u32, u33, u34, u35, u36, u37, u38, u39, u40, u41, u42, u43, u44, u45, .int .i64 wh, u47, u48, u49, u50, u51, u52, u53, u54, u55, u56, u57, u58, u59, u60, u61, u62, u63, u64, u65, u66, u67, u68, u69, u70, u71, u72, u73, u74, u75, u76, u77, u78, u79, u80, u81, u82, u83, u84, u85, u86, u87, u88, u89, u90, u91, u92, u93, u94, u95, u96, u97, u98, u99, u100, u101, u102, u103, u104, u105, u106, u107, u108, u109, u110, u111, u112, u113, u114, u115, u116, u117, u118, u119, u120, u121, u122, u123, u124, u125, u126, u127, u128, u129, u130, u131, u132, u133, u134, u135, u136, u137, u138, u139, u140, u141, u142, u143, u144, u145, u146, u147, u148, u149, u150, u151, u152, u153, u154, u155, u156, u157, u158, u159, u160, u161, u162, u163, u164, u165, u166, u167, u168, u169, u170, u171, u172, u173, u174, u175, u176, u177, u178, u179, u180, u181, u182, u183, u184, u185, u186, u187, u188, u189, u190, u191, u192, u193, u194, u195, u196, u197, u198, u199, u200, u201, u202, u203, u204, u205, u206, u207, u208, u209, u210, u211, u212, u213, u214, u215, u216, u217, u218, u219, u220, u221, u222, u223, u224, u225, u226, u227, u228, u229, u230, u231, u232, u233, u234, u235], []⟩) → J a w') (hK : ∀ (a : Act) (w' : World), Met J a w' → K a w') (hQp : ∀ c (a : Act) d v (w' : World), Q (.panic c) (a.put d v) w' → Q (.panic c) a w') :
    Code.wp Tryd.prog netSw (Exit.then K Q) ⟨#[p0, p1, p2, .pointer (some ⟨nb, 0, none⟩), .slice ao l.length c, p5, .pointer (some ⟨sb, 0, none⟩), .bool d, .int .i64 z, p9, p10, p11, p12, p13, p14, p15, p16, p17, p18, p19, p20, p21, p22, p23, p24, p25, p26, p27, p28, p29, p30, p31, p32, p33, p34, p35, p36, p37, p38, p39, p40, p41, p42, p43, p44, p45, .int .i64 wh, p47, p48, p49, p50, p51, p52, p53, p54, p55, p56, p57, p58, p59, p60, p61, p62, p63, p64, p65, p66, p67, p68, p69, p70, p71, p72, p73, p74, p75, p76, p77, p78, p79, p80, p81, p82, p83, p84, p85, p86, p87, p88, p89, p90, p91, p92, p93, p94, p95, p96, p97, p98, p99, p100, p101, p102, p103, p104, p105, p106, p107, p108, p109, p110, p111, p112, p113, p114, p115, p116, p117, p118, p119, p120, p121, p122, p123, p124, p125, p126, p127, p128, p129, p130, p131, p132, p133, p134, p135, p136, p137, p138, p139, p140, p141, p142, p143, p144, p145, p146, p147, p148, p149, p150, p151, p152, p153, p154, p155, p156, p157, p158, p159, p160, p161, p162, p163, p164, p165, p166, p167, p168, p169, p170, p171, p172, p173, p174, p175, p176, p177, p178, p179, p180, p181, p182, p183, p184, p185, p186, p187, p188, p189, p190, p191, p192, p193, p194, p195, p196, p197, p198, p199, p200, p201, p202, p203, p204, p205, p206, p207, p208, p209, p210, p211, p212, p213, p214, p215, p216, p217, p218, p219, p220, p221, p222, p223, p224, p225, p226, p227, p228, p229, p230, p231, p232, p233, p234, p235], []⟩ wS := by
  have hT0 : True := by
    have := hC
    have := hNw
    have := hk
    have := hlk
    have := hsq
    have := hM
    have := hN
    have := hk0
    have := hNs
    have := hQp
    trivial
  clear hT0
  obtain ⟨im, zm, him, hzm, hsm, -, hzc⟩ := infoM0
  have HGW := Lib.hid hg
  have HSM := Lib.hid hsm
  have HIM := Lib.hid him
  have HZM := Lib.hid hzm
  have HD := Lib.hid hd
  have HZD := Lib.hid hzd
  clear hg hsm him hzm hzc hd hzd
  have hcS := hS.cell
  have hlS := hS.lt
  conv => arg 2; whnf
  obtain rfl : wh = 3 := hw0
  obtain rfl : d = false := by rw [HD.out]; simpa using hin
  obtain rfl : z = 40 := HZD.out
  have hko : ix < 0 ∨ (l.length : Int) ≤ ix := by omega
  clear HD HZD hin

  have hg3 := hk0.cellSome HGW.out (by simp)
  go_wp2_with fail
  refine (gtake_no hN hg3 ix hko).mono ?_
  rintro e w2 ⟨ev, rfl, hE, hk2⟩
  try dsimp only
  clear hg3 hcS hlS
  replace hM := hM.keep0 hk2
  replace hN := hN.keep0 hk2
  replace hS := hS.keep hk2 (by simp)
  replace hk0 := hk0.trans hk2
  clear hk2

  obtain ⟨X, hX⟩ : ∃ X : Array Value, X = #[.int .i64 0, .int .i64 0, .int .i64 0, .int .u64 0, .int .u64 0, .int .u64 0, .slice none 0 0, .int .u64 0, .int .u64 0, .bool false, .int .i64 0, .slice none 0 0, .bool false, .int .u64 0, .int .u64 0, .string ⟨#[]⟩, .int .u64 0, .int .i64 0, .slice none 0 0, .slice none 0 0, .int .i64 0, .int .u64 0, .int .i64 0] := ⟨_, rfl⟩
  have hXz : X.size = 23 := by rw [hX]; rfl
  have HX1 := Lib.hid (show X.toList.all Value.oneCell' = true by rw [hX]; rfl)
  rw [← hX]
  clear hX
  go_upto_region 27 with (refine wpList_store_fresh rfl rfl 43 _ _ rfl (w2).heap.size ?_ rfl (X).toList ?_ _ _ ?_ ?_ ?_ ?_; rfl; rfl; (rw [Array.length_toList, hXz]; exact Tryd.sizeM); simp [hXz]; exact HX1.out)
  change Code.wp _ _ _ _ (World.alloc w2 (.cells X 43))
  have hkA := ((Keeps.refl [] w2).alloc (.cells X 43)).drew
  replace hE := hE.keep hkA
  replace hM := hM.keep0 hkA
  replace hN := hN.keep0 hkA
  replace hS := hS.keep hkA (by simp)
  replace hk0 := hk0.trans hkA
  clear hkA

  have hg4 := hk0.cellSome HGW.out (by simp)
  have hSw : ∀ p ∈ ([] : List (Nat × (World → Prop))), p.2 (World.alloc w2 (.cells X 43)).drew := by simp
  refine startU [] (by kernel_rfl) ?_
  refine takeU (i := 0) (v := ?_) rfl (by kernel_rfl) (fun _ _ _ h => hQp _ _ _ _ _ h) (Or.inl ⟨by rfl, fun w0 hw0 => ?_⟩) (fun p hp _ => hSw p hp) ?_
  rotate_left
  · simp [Reads] at hw0
    go_simp
    try with_reducible rfl
  try go_simp
  refine takeU (i := 2) (v := ?_) rfl (by kernel_rfl) (fun _ _ _ h => hQp _ _ _ _ _ h) (Or.inl ⟨by rfl, fun w0 hw0 => ?_⟩) (fun p hp _ => hSw p hp) ?_
  rotate_left
  · simp [Reads] at hw0
    go_simp
    try with_reducible rfl
  try go_simp
  clear hSw
  refine oneU (i := 1) rfl (by kernel_rfl) (fun K hK => ?_)
  rw [if_pos (show Region.wanted _ _ = true from rfl)]
  go_wp2_with fail
  refine (classPl hg4 hE).mono ?_
  rintro e w4 ⟨rfl, hk4⟩
  try dsimp only
  clear hE hg4
  replace hM := hM.keep0 hk4
  replace hN := hN.keep0 hk4
  replace hS := hS.keep hk4 (by simp)
  replace hk0 := hk0.trans hk4
  clear hk4

  try simp only []
  refine hK _ _ (fun p hp => by simp at hp) ?_
  clear hK K
  have hSw : ∀ p ∈ ([] : List (Nat × (World → Prop))), p.2 w4 := by simp
  try go_simp
  refine takeU (i := 3) (v := ?_) rfl (by kernel_rfl) (fun _ _ _ h => hQp _ _ _ _ _ h) (Or.inl ⟨by rfl, fun w0 hw0 => ?_⟩) (fun p hp _ => hSw p hp) ?_
  rotate_left
  · simp [Reads] at hw0
    go_simp
    try with_reducible rfl
  try go_simp
  refine takeU (i := 4) (v := ?_) rfl (by kernel_rfl) (fun _ _ _ h => hQp _ _ _ _ _ h) (Or.inl ⟨by rfl, fun w0 hw0 => ?_⟩) (fun p hp _ => hSw p hp) ?_
  rotate_left
  · simp [Reads] at hw0
    go_simp
    try with_reducible rfl
  try go_simp
  refine takeU (i := 5) (v := ?_) rfl (by kernel_rfl) (fun _ _ _ h => hQp _ _ _ _ _ h) (Or.inl ⟨by rfl, fun w0 hw0 => ?_⟩) (fun p hp _ => hSw p hp) ?_
  rotate_left
  · simp [Reads] at hw0
    go_simp
    try with_reducible rfl
  try go_simp
  refine takeU (i := 6) (v := ?_) rfl (by kernel_rfl) (fun _ _ _ h => hQp _ _ _ _ _ h) (Or.inl ⟨by rfl, fun w0 hw0 => ?_⟩) (fun p hp _ => hSw p hp) ?_
  rotate_left
  · simp [Reads] at hw0
    go_simp
    try with_reducible rfl
  try go_simp
  refine takeU (i := 7) (v := undef) rfl (by kernel_rfl) (fun _ _ _ h => hQp _ _ _ _ _ h) (Or.inr ⟨by rfl, rfl⟩) (fun p hp _ => hSw p hp) ?_
  try go_simp
  refine takeU (i := 8) (v := undef) rfl (by kernel_rfl) (fun _ _ _ h => hQp _ _ _ _ _ h) (Or.inr ⟨by rfl, rfl⟩) (fun p hp _ => hSw p hp) ?_
  try go_simp
  refine takeU (i := 9) (v := undef) rfl (by kernel_rfl) (fun _ _ _ h => hQp _ _ _ _ _ h) (Or.inr ⟨by rfl, rfl⟩) (fun p hp _ => hSw p hp) ?_
  try go_simp
  refine takeU (i := 10) (v := undef) rfl (by kernel_rfl) (fun _ _ _ h => hQp _ _ _ _ _ h) (Or.inr ⟨by rfl, rfl⟩) (fun p hp _ => hSw p hp) ?_
  try go_simp
  refine takeU (i := 11) (v := undef) rfl (by kernel_rfl) (fun _ _ _ h => hQp _ _ _ _ _ h) (Or.inr ⟨by rfl, rfl⟩) (fun p hp _ => hSw p hp) ?_
  try go_simp
  refine takeU (i := 12) (v := undef) rfl (by kernel_rfl) (fun _ _ _ h => hQp _ _ _ _ _ h) (Or.inr ⟨by rfl, rfl⟩) (fun p hp _ => hSw p hp) ?_
  try go_simp
  refine takeU (i := 13) (v := undef) rfl (by kernel_rfl) (fun _ _ _ h => hQp _ _ _ _ _ h) (Or.inr ⟨by rfl, rfl⟩) (fun p hp _ => hSw p hp) ?_
  try go_simp
  refine takeU (i := 14) (v := undef) rfl (by kernel_rfl) (fun _ _ _ h => hQp _ _ _ _ _ h) (Or.inr ⟨by rfl, rfl⟩) (fun p hp _ => hSw p hp) ?_
  try go_simp
  refine takeU (i := 15) (v := undef) rfl (by kernel_rfl) (fun _ _ _ h => hQp _ _ _ _ _ h) (Or.inr ⟨by rfl, rfl⟩) (fun p hp _ => hSw p hp) ?_
  try go_simp

  refine takeU (i := 16) (v := ?_) rfl (by kernel_rfl) (fun _ _ _ h => hQp _ _ _ _ _ h) (Or.inl ⟨by rfl, fun w0 hw0 => ?_⟩) (fun p hp _ => hSw p hp) ?_
  rotate_left
  · simp [Reads] at hw0
    go_simp
    try with_reducible rfl
  try go_simp
  refine takeU (i := 17) (v := ?_) rfl (by kernel_rfl) (fun _ _ _ h => hQp _ _ _ _ _ h) (Or.inl ⟨by rfl, fun w0 hw0 => ?_⟩) (fun p hp _ => hSw p hp) ?_
  rotate_left
  · simp [Reads] at hw0
    go_simp
    try with_reducible rfl
  try go_simp
  refine doneU (by kernel_rfl) ?_
  go_wp2_with fail
  go_meet
  exact ⟨l, ao, c, rfl, by omega, hM, hN, hS, hk0⟩

end Go.Proofs.YtllcidpmdmacjaaDoor
