/- TreePlays: Put of a key that is there. -/
import Derived.Test.YtknnhnpcgefchaaDoorTp1
import Derived.Deep.DeepCutAuto
import Derived.Deep.CutBlock
import Derived.Deep.CutRange

namespace Go.Proofs.YtknnhnpcgefchaaDoor
open Go.RowKit Go.Lib
set_option maxRecDepth 1000000 in
set_option maxHeartbeats 40000000 in
theorem tw_A (w w6 w8 : World) (t cb tc i : Nat) (l lo2 : List KV) (k sk sv : Bs) (ab fb : Bool) (a4 a5 ak av : Option Addr) (c4 c5 ck cv at_ : Nat) (wh : Int) (hP : PSt w6 t cb tc l lo2 k ab a4 c4 a5 c5) (hOk8 : Own w8 w6.heap.size ak ck sk) (hOv8 : Own w8 w6.heap.size av cv sv) (hdis : ∀ x ∈ blks av, x ∉ blks ak) (hk68 : Keeps [] w6 w8) (hk06 : Keeps [] w w6) (hwt : w.heap.size ≤ t) (hwc : w.heap.size ≤ cb) (hll : l.length ≤ i) (hlo : lo2.length ≤ i) (hi2 : i < 250) (hsk : sk.length ≤ 100) (hsv : sv.length ≤ 100) (hfb : fb = has sk l) (hat : at_ = (Go.Proofs.YtknnhnpcgefchaaDoor.lo sk l).length) (hA : wh = 0 ∨ wh = 1 ∨ wh = 2 ∨ wh = 3) (hfv : fb = true)
    (p0 p1 p2 p10 p11 p18 p19 p20 p21 p22 p23 p24 p25 p26 p27 p28 p29 p30 p31 p32 p33 p34 p35 p36 p37 p38 p39 p40 p41 p42 p43 p44 p45 p46 p47 p48 p49 p50 p51 p52 p53 p54 p55 p56 p57 p58 p59 p60 p61 p62 p63 p64 p65 p66 p67 p68 p70 p71 p72 p73 p74 p75 p76 p77 p78 p79 p80 p81 p82 p83 p84 p85 p86 p87 p88 p89 p90 p91 p92 p93 p94 p95 p96 p97 p98 p99 p100 p101 p102 p103 p104 p105 p106 p107 p108 p109 p110 p111 p112 p113 p114 p115 p116 p117 p118 p119 p120 p121 p122 p123 p124 p125 p126 p127 p128 p129 p130 p131 p132 p133 p134 p135 p136 p137 p138 p139 p140 p141 p142 p143 p144 p145 p146 p147 p148 p149 p150 p151 p152 p153 p154 p155 p156 p157 p158 p159 p160 p161 p162 p163 p164 p165 p166 p167 p168 p169 p170 p171 p172 p173 p174 p175 p176 p177 p178 p179 p180 p181 p182 p183 p184 p185 p186 p187 p188 p189 p190 p191 p192 p193 p194 p195 p196 p197 p198 p199 p200 p201 p202 p203 p204 p205 p206 p207 p208 p209 p210 p211 p212 p213 p214 p215 p216 p217 p218 p219 p220 p221 p222 p223 p224 p225 p226 p227 p228 p229 p230 p231 p232 p233 p234 p235 p236 p237 p238 p239 p240 p241 p242 p243 p244 p245 p246 p247 p248 p249 p250 p251 p252 p253 p254 p255 p256 p257 p258 p259 p260 p261 p262 p263 p264 p265 p266 p267 p268 p269 p270 : Value) (J K : Act → World → Prop) (Q : Exit → Act → World → Prop)
    (hJ : ∀ (a : Act) (w' : World), (∃ u2 u4 u5 u6 u7 u8 u9 u18 u19 u20 u21 u22 u23 u24 u25 u26 u40 u41 u42 u43 u44 u45 u46 u47 u48 u49 u50 u51 u52 u53 u54 u55 u56 u57 u58 u59 u60 u61 u62 u63 u64 u65 u66 u67 u68 u70 u71 u72 u73 u74 u75 u76 u77 u78 u79 u80 u81 u82 u83 u84 u85 u86 u87 u88 u89 u90 u91 u92 u93 u94 u95 u96 u97 u98 u99 u100 u101 u102 u103 u104 u105 u106 u107 u108 u109 u110 u111 u112 u113 u114 u115 u116 u117 u118 u119 u120 u121 u122 u123 u124 u125 u126 u127 u128 u129 u130 u131 u132 u133 u134 u135 u136 u137 u138 u139 u140 u141 u142 u143 u144 u145 u146 u147 u148 u149 u150 u151 u152 u153 u154 u155 u156 u157 u158 u159 u160 u161 u162 u163 u164 u165 u166 u167 u168 u169 u170 u171 u172 u173 u174 u175 u176 u177 u178 u179 u180 u181 u182 u183 u184 u185 u186 u187 u188 u189 u190 u191 u192 u193 u194 u195 u196 u197 u198 u199 u200 u201 u202 u203 u204 u205 u206 u207 u208 u209 u210 u211 u212 u213 u214 u215 u216 u217 u218 u219 u220 u221 u222 u223 u224 u225 u226 u227 u228 u229 u230 u231 : Value, TpRel w t i u4 u5 u6 u7 u8 u9 w' ∧ a = ⟨#[p0, p1, u2, .pointer (some ⟨t, 0, none⟩), u4, u5, u6, u7, u8, u9, p10, p11, .string ⟨sk.toArray⟩, .string ⟨sv.toArray⟩, .int .i64 (at_ : Nat), .bool fb, .slice ak sk.length ck, .slice av sv.length cv, u18, u19, u20, u21, u22, u23, u24, u25, u26, p27, p28, p29, p30, p31, p32, p33, p34, p35, p36, p37, p38, p39, u40, u41, u42, u43, u44, u45, u46, u47, u48, u49, u50, u51, u52, u53, u54, u55, u56, u57, u58, u59, u60, u61, u62, u63, u64, u65, u66, u67, u68, .int .i64 wh, u70, u71, u72, u73, u74, u75, u76, u77, u78, u79, u80, u81, u82, u83, u84, u85, u86, u87, u88, u89, u90, u91, u92, u93, u94, u95, u96, u97, u98, u99, u100, u101, u102, u103, u104, u105, u106, u107, u108, u109, u110, u111, u112, u113, u114, u115, u116, u117, u118, u119, u120, u121, u122, u123, u124, u125, u126, u127, u128, u129, u130, u131, u132, u133, u134, u135, u136, u137, u138, u139, u140, u141, u142, u143, u144, u145, u146, u147, u148, u149, u150, u151, u152, u153, u154, u155, u156, u157, u158, u159, u160, u161, u162, u163, u164, u165, u166, u167, u168, u169, u170, u171, u172, u173, u174, u175, u176, u177, u178, u179, u180, u181, u182, u183, u184, u185, u186, u187, u188, u189, u190, u191, u192, u193, u194, u195, u196, u197, u198, u199, u200, u201, u202, u203, u204, u205, u206, u207, u208, u209, u210, u211, u212, u213, u214, u215, u216, u217, u218, u219, u220, u221, u222, u223, u224, u225, u226, u227, u228, u229, u230, u231, p232, p233, p234, p235, p236, p237, p238, p239, p240, p241, p242, p243, p244, p245, p246, p247, p248, p249, p250, p251, p252, p253, p254, p255, p256, p257, p258, p259, p260, p261, p262, p263, p264, p265, p266, p267, p268, p269, p270], []⟩) → J a w') (hK : ∀ (a : Act) (w' : World), Met J a w' → K a w') (hQp : ∀ c (a : Act) d v (w' : World), Q (.panic c) (a.put d v) w' → Q (.panic c) a w') :
    Code.wp Tryd.prog tpSw (Exit.then K Q) ⟨#[p0, p1, p2, .pointer (some ⟨t, 0, none⟩), .slice a4 l.length c4, .slice a5 lo2.length c5, .pointer (some ⟨cb, 0, none⟩), .string ⟨k.toArray⟩, .bool ab, .pointer (some ⟨tc, 0, none⟩), p10, p11, .string ⟨sk.toArray⟩, .string ⟨sv.toArray⟩, .int .i64 (at_ : Nat), .bool fb, .slice ak sk.length ck, .slice av sv.length cv, p18, p19, p20, p21, p22, p23, p24, p25, p26, p27, p28, p29, p30, p31, p32, p33, p34, p35, p36, p37, p38, p39, p40, p41, p42, p43, p44, p45, p46, p47, p48, p49, p50, p51, p52, p53, p54, p55, p56, p57, p58, p59, p60, p61, p62, p63, p64, p65, p66, p67, p68, .int .i64 wh, p70, p71, p72, p73, p74, p75, p76, p77, p78, p79, p80, p81, p82, p83, p84, p85, p86, p87, p88, p89, p90, p91, p92, p93, p94, p95, p96, p97, p98, p99, p100, p101, p102, p103, p104, p105, p106, p107, p108, p109, p110, p111, p112, p113, p114, p115, p116, p117, p118, p119, p120, p121, p122, p123, p124, p125, p126, p127, p128, p129, p130, p131, p132, p133, p134, p135, p136, p137, p138, p139, p140, p141, p142, p143, p144, p145, p146, p147, p148, p149, p150, p151, p152, p153, p154, p155, p156, p157, p158, p159, p160, p161, p162, p163, p164, p165, p166, p167, p168, p169, p170, p171, p172, p173, p174, p175, p176, p177, p178, p179, p180, p181, p182, p183, p184, p185, p186, p187, p188, p189, p190, p191, p192, p193, p194, p195, p196, p197, p198, p199, p200, p201, p202, p203, p204, p205, p206, p207, p208, p209, p210, p211, p212, p213, p214, p215, p216, p217, p218, p219, p220, p221, p222, p223, p224, p225, p226, p227, p228, p229, p230, p231, p232, p233, p234, p235, p236, p237, p238, p239, p240, p241, p242, p243, p244, p245, p246, p247, p248, p249, p250, p251, p252, p253, p254, p255, p256, p257, p258, p259, p260, p261, p262, p263, p264, p265, p266, p267, p268, p269, p270], []⟩ w8 := by
  have hT0 : True := by
    have := hP
    have := hOk8
    have := hOv8
    have := hdis
    have := hk68
    have := hk06
    have := hwt
    have := hwc
    have := hll
    have := hlo
    have := hi2
    have := hsk
    have := hsv
    have := hQp
    trivial
  clear hT0
  obtain ⟨iE, zE, hiE, hzE, hszE, hbyE, hzcE⟩ := infoE
  have HP6 := Lib.hid hP
  have HFB := Lib.hid hfb
  have HAT := Lib.hid hat
  have HK := Lib.hid (And.intro hk68 hk06)
  have hs68 := hk68.size
  clear hP hfb hat
  conv => arg 2; whnf
  subst hfv
  go_upto_if 101 with (fail)
  go_cut [101] from 102 to 105 (fun v wx => v = .bool true ∧ wx = w8)
  case first =>
    rcases hA with rfl | rfl | rfl | rfl
    all_goals
      go_wp2_with fail
      go_meet
      exact ⟨rfl, rfl⟩
  case rest =>
  obtain ⟨rfl, hw⟩ := hcut
  obtain rfl := hw.symm
  have hP6 := HP6.out
  obtain ⟨L1, L2, L3⟩ := hP6.lt
  have hTr := (hP6.tr.mono (F' := fun x => Off3 t cb tc x ∧ x < w6.heap.size) (fun x hx hlt => ⟨hx, hlt⟩) (fun h => h.1.1 rfl)).keep0 hk68
  clear hP6
  go_wp2_with fail
  refine (tput (k := sk) (v := sv) hTr hOk8.rb hOv8.rb (by omega) (by omega) (by omega)).mono ?_
  rintro e w9 ⟨he, hT9, hk9⟩
  rw [← HFB.out] at he
  subst he
  try dsimp only
  have hF : ∀ x ∈ [t], ¬ Off3 t cb tc x := fun x hx => by simp at hx; subst hx; exact fun h => h.1 rfl
  have hOk9 := hOk8.keep hk9 (fun x hx => by have := (hOk8.lt x hx).1; simp; omega)
  have hOv9 := hOv8.keep hk9 (fun x hx => by have := (hOv8.lt x hx).1; simp; omega)
  have hkb := hOk8.lt
  have hvb := hOv8.lt
  have HB := Lib.hid (And.intro hkb hvb)
  clear hTr hkb hvb
  go_wp2_with fail
  refine (spoil_any ak ck sk hOk9 (by omega)).mono ?_
  rintro e w10 ⟨rfl, hk10⟩
  try dsimp only
  go_wp2_with fail
  refine (spoil_any av cv sv (hOv9.keep hk10 hdis) (by omega)).mono ?_
  rintro e w11 ⟨rfl, hk11⟩
  try dsimp only
  obtain ⟨hkb, hvb⟩ := HB.out
  have hk611 : Keeps [t] w6 w11 := ((hk68.of_nil.trans hk9).step hk10 (fun x hx => .inr (hkb x hx).1)).step hk11 (fun x hx => .inr (hvb x hx).1)
  have hT11 : TreeAt w11 (Off3 t cb tc) t (ins sk sv l) := by
    refine ((hT9.keep hk10 (fun x hx => ?_)).keep hk11 (fun x hx => ?_)).mono (fun x hx _ => ?_) (fun h => h.1 rfl)
    · have := hkb x hx
      exact ⟨fun h => by rcases h with h | h; exact absurd h.2 (by omega); omega, by omega⟩
    · have := hvb x hx
      exact ⟨fun h => by rcases h with h | h; exact absurd h.2 (by omega); omega, by omega⟩
    · rcases hx with h | h
      · exact h.1
      · exact ⟨by omega, by omega, by omega⟩
  have hm11 := HP6.out.m.keepF HP6.out.fm hk611 hF
  have hk011 : Keeps [] w w11 := hk06.step hk611 (fun x hx => .inr (by simp at hx; omega))
  have hsr := HP6.out.tr.srt
  have hs611 := hk611.size
  clear hOk8 hOv8 hOk9 hOv9 hkb hvb HB hT9 hk9 hk10 hk11 hk68 hk06 hdis hF HK
  obtain ⟨v0, hv0, hatl, hsplit⟩ := has_place hsr HFB.out.symm
  rw [← HAT.out] at hv0 hatl hsplit
  have hlay := ins_lay (k := sk) (v := sv) hsr
  rw [← HFB.out, if_pos rfl, ← HAT.out] at hlay
  have hlenE : (ins sk sv l).length = l.length := by rw [ins_len hsr, ← HFB.out, if_pos rfl]
  have HSP := Lib.hid (And.intro hv0 (And.intro hsplit (And.intro hlay hlenE)))
  clear hv0 hsplit hlay hlenE
  go_upto_region 31 with (at_builtin; refine wpList_append_by _ rfl _ _ 27 27 rfl (w11.heap.size) 38 iE zE 2 32 Tryd.underlying27 hiE hzE hszE hbyE hzcE none _ 0 _ rfl (World.ownsRow_nil _ _ _ _) _ rfl l.length _ (hm11.src Tryd.underlying27) (by unfold maxLen; omega) (by omega) (Nat.le_refl _) ?_; intro a12 c12 w12 hO12 hk12 hb12)
  have hO12b : w12.ownsRow w11.heap.size 38 2 (.slice a12 l.length c12) l.length (ents l) := by simpa using hO12
  have hk1112 : Keeps [] w11 w12 := hk12.mono (fun x hx => by simp at hx)
  obtain ⟨g, cur, rfl, hNg, hBg, hcsz, hnc, hcm, htk⟩ := ownsRow_blk hO12b (by omega) (by decide)
  clear hO12 hb12 hO12b
  have hgf := hBg.free (at_ * 2 + 1)
  have hgl := hBg.lt
  have hcl : cur.toList.length = c12 * 2 := by simpa using hcsz
  have hgc : w12.cell? ⟨g, at_ * 2 + 1, none⟩ = some (.string ⟨v0.toArray⟩) := by
    have h1 := (ents_at HSP.out.1).2
    rw [← htk, List.getElem?_take, if_pos (by omega)] at h1
    rw [hBg.cell, ← Array.getElem?_toList]
    exact h1
  have m1 : (0 : Int) ≤ (at_ : Int) := by omega
  have m2 : (at_ : Int) < (l.length : Int) := by omega
  have FIN : TpRel w t i (.slice (some ⟨g, 0, none⟩) l.length c12) (.slice a5 lo2.length c5) (.pointer (some ⟨cb, 0, none⟩)) (.string ⟨k.toArray⟩) (.bool ab) (.pointer (some ⟨tc, 0, none⟩)) (w12.setCell ⟨g, at_ * 2 + 1, none⟩ (.string ⟨sv.toArray⟩)) := by
    have hBg2 := hBg.put (at_ * 2 + 1) (.string ⟨sv.toArray⟩)
    have hk1213 := (Keeps.refl [g] w12).set (p := ⟨g, at_ * 2 + 1, none⟩) (.inl (by simp)) (.string ⟨sv.toArray⟩)
    have hk1113 := hk1112.step hk1213 (fun x hx => .inr (by simp at hx; omega))
    have hO13 := hBg2.owns (N := w11.heap.size) (sz := 2) (n := l.length) (c := c12) (xs := ents (ins sk sv l)) hNg (by rw [Array.size_setIfInBounds]; exact hcsz) hnc hcm (by
      rw [Array.toList_setIfInBounds, List.take_set, htk]
      obtain ⟨_, e1, e2, _⟩ := HSP.out
      rw [e2]
      conv => lhs; arg 1; rw [e1]
      have e3 : (l.take at_).length = at_ := by rw [List.length_take]; omega
      have e4 := ents_set (l.take at_) (l.drop (at_ + 1)) sk v0 sv
      rw [e3] at e4
      exact e4)
    have hS13 := own_read hO13 (ents_one _)
    have hT13 := hT11.keep0 hk1113
    have hle := HSP.out.2.2.2
    obtain ⟨L1, L2, L3⟩ := HP6.out.lt
    have hP13 := HP6.out.turn (hk611.trans hk1113.of_nil) hT13 (by rw [hle]; exact hS13) (fun ad e _ => by cases e; exact (show g ≠ t ∧ g ≠ cb ∧ g ≠ tc from ⟨by omega, by omega, by omega⟩)) (sm_ins HP6.out.sm hsk hsv) (.inr ⟨g, 0, rfl⟩)
    exact ⟨ins sk sv l, lo2, _, c12, a5, c5, cb, k, ab, tc, by rw [hle], rfl, rfl, rfl, rfl, rfl, by omega, by omega, hwc, hP13, hk011.trans hk1113⟩
  have FIN := Lib.hid FIN
  clear hBg hcl htk hcsz hT11 hm11 hk1112 hk611 hk011 hk12
  go_wp2_with fail
  go_meet
  exact FIN.out

end Go.Proofs.YtknnhnpcgefchaaDoor
