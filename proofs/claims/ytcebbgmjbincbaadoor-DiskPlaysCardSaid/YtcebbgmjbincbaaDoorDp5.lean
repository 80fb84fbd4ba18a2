/- DiskPlays: Append. -/
import Derived.Test.YtcebbgmjbincbaaDoorDp2
import Derived.Deep.DeepCutAuto
import Derived.Deep.CutBlock
import Derived.Deep.CutRange

namespace Go.Proofs.YtcebbgmjbincbaaDoor
open Go.RowKit Go.Lib
set_option maxRecDepth 1000000 in
set_option maxHeartbeats 40000000 in
theorem sw_A (w wS : World) (db rb sb i : Nat) (L M : List Nat) (d : DSt) (wh nn : Int) (nm tn b : List UInt8) (ba ka : Option Addr) (bc kc : Nat) (keep : List Int) (hDp : DpS w wS db rb L M d i) (hS : Blk wS sb 48 #[.int .i64 wh, .int .i64 nn, .string ⟨nm.toArray⟩, .string ⟨tn.toArray⟩, .slice ba b.length bc, .slice ka keep.length kc]) (hsL : sb ∉ L) (hsM : sb ∉ M) (hsw : w.heap.size ≤ sb) (hrb : Rb w ba bc b) (hkp : Sl w 1 ka keep.length kc (keep.map (Value.int .i64))) (hi : i < 60) (hb3 : b.length ≤ 300) (hn6 : nm.length ≤ 60) (ht6 : tn.length ≤ 60) (hk8 : keep.length ≤ 80) (hnn : nn ≤ 9223372036854775807) (hA : wh = 0 ∨ wh = 1 ∨ wh = 2)
    (p0 p1 p2 p3 p4 p7 p11 p12 p13 p14 p15 p16 p17 p18 p19 p20 p21 p22 p23 p24 p25 p26 p27 p28 p29 p30 p31 p32 p33 p34 p35 p36 p37 p38 p39 p40 p41 p42 p43 p44 p45 p46 p47 p48 p49 p50 p51 p52 p53 p54 p55 p56 p57 p58 p59 p60 p61 p62 p63 p64 p66 p67 p68 p69 p70 p71 p72 p73 p74 p75 p76 p77 p78 p79 p80 p81 p82 p83 p84 p85 p86 p87 p88 p89 p90 p91 p92 p93 p94 p95 p96 p97 p98 p99 p100 p101 p102 p103 p104 p105 p106 p107 p108 p109 p110 p111 p112 p113 p114 p115 p116 p117 p118 p119 p120 p121 p122 p123 p124 p125 p126 p127 p128 p129 p130 p131 p132 p133 p134 p135 p136 p137 p138 p139 p140 p141 p142 p143 p144 p145 p146 p147 p148 p149 p150 p151 p152 p153 p154 p155 p156 p157 p158 p159 p160 p161 p162 p163 p164 p165 p166 p167 p168 p169 p170 p171 p172 p173 p174 p175 p176 p177 p178 p179 p180 p181 p182 p183 p184 p185 p186 p187 p188 p189 p190 p191 p192 p193 p194 p195 p196 p197 p198 p199 p200 p201 p202 p203 p204 p205 p206 p207 p208 p209 p210 p211 p212 p213 p214 p215 p216 p217 p218 p219 p220 p221 p222 p223 p224 p225 p226 p227 p228 p229 p230 p231 p232 p233 p234 p235 p236 p237 p238 p239 p240 p241 p242 p243 p244 p245 p246 p247 p248 p249 p250 p251 p252 : Value) (J K : Act → World → Prop) (Q : Exit → Act → World → Prop)
    (hJ : ∀ (a : Act) (w' : World), (∃ u9 u10 u11 u31 u32 u33 u34 u35 u36 u37 u38 u39 u40 u41 u42 u43 u44 u45 u46 u47 u48 u49 u50 u51 u52 u53 u54 u55 u56 u57 u58 u59 u60 u61 u62 u63 u64 u66 u67 u68 u69 u70 u71 u72 u73 u74 u75 u76 u77 u78 u79 u80 u81 u82 u83 u84 u85 u86 u87 u88 u89 u90 u91 u92 u93 u94 u95 u96 u97 u98 u99 u100 u101 u102 u103 u104 u105 u106 u107 u108 u109 u110 u111 u112 u113 u114 u115 u116 u117 u118 u119 u120 u121 u122 u123 u124 u125 u126 u127 u128 u129 u130 u131 u132 u133 u134 u135 u136 u137 u138 u139 u140 u141 u142 u143 u144 u145 u146 u147 u148 u149 u150 u151 u152 u153 u154 u155 u156 u157 u158 u159 u160 u161 u162 u163 u164 u165 u166 u167 u168 u169 u170 u171 u172 u173 u174 u175 u176 u177 u178 u179 u180 u181 u182 u183 u184 u185 u186 u187 u188 u189 u190 u191 u192 u193 u194 u195 u196 u197 u198 u199 u200 u201 u202 u203 u204 u205 : Value, DpRel w db rb sb i #[.int .i64 wh, .int .i64 nn, .string ⟨nm.toArray⟩, .string ⟨tn.toArray⟩, .slice ba b.length bc, .slice ka keep.length kc] u9 u10 w' ∧ a = ⟨#[p0, p1, p2, p3, p4, .pointer (some ⟨db, 0, none⟩), .pointer (some ⟨rb, 0, none⟩), p7, .pointer (some ⟨sb, 0, none⟩), u9, u10, u11, p12, p13, p14, p15, p16, p17, p18, p19, p20, p21, p22, p23, p24, p25, p26, p27, p28, p29, p30, u31, u32, u33, u34, u35, u36, u37, u38, u39, u40, u41, u42, u43, u44, u45, u46, u47, u48, u49, u50, u51, u52, u53, u54, u55, u56, u57, u58, u59, u60, u61, u62, u63, u64, .int .i64 wh, u66, u67, u68, u69, u70, u71, u72, u73, u74, u75, u76, u77, u78, u79, u80, u81, u82, u83, u84, u85, u86, u87, u88, u89, u90, u91, u92, u93, u94, u95, u96, u97, u98, u99, u100, u101, u102, u103, u104, u105, u106, u107, u108, u109, u110, u111, u112, u113, u114, u115, u116, u117, u118, u119, u120, u121, u122, u123, u124, u125, u126, u127, u128, u129, u130, u131, u132, u133, u134, u135, u136, u137, u138, u139, u140, u141, u142, u143, u144, u145, u146, u147, u148, u149, u150, u151, u152, u153, u154, u155, u156, u157, u158, u159, u160, u161, u162, u163, u164, u165, u166, u167, u168, u169, u170, u171, u172, u173, u174, u175, u176, u177, u178, u179, u180, u181, u182, u183, u184, u185, u186, u187, u188, u189, u190, u191, u192, u193, u194, u195, u196, u197, u198, u199, u200, u201, u202, u203, u204, u205, p206, p207, p208, p209, p210, p211, p212, p213, p214, p215, p216, p217, p218, p219, p220, p221, p222, p223, p224, p225, p226, p227, p228, p229, p230, p231, p232, p233, p234, p235, p236, p237, p238, p239, p240, p241, p242, p243, p244, p245, p246, p247, p248, p249, p250, p251, p252], []⟩) → J a w') (hK : ∀ (a : Act) (w' : World), Met J a w' → K a w') (hQp : ∀ c (a : Act) d v (w' : World), Q (.panic c) (a.put d v) w' → Q (.panic c) a w') :
    Code.wp Tryd.prog dpSw (Exit.then K Q) ⟨#[p0, p1, p2, p3, p4, .pointer (some ⟨db, 0, none⟩), .pointer (some ⟨rb, 0, none⟩), p7, .pointer (some ⟨sb, 0, none⟩), .nilIface, .int .i64 0, p11, p12, p13, p14, p15, p16, p17, p18, p19, p20, p21, p22, p23, p24, p25, p26, p27, p28, p29, p30, p31, p32, p33, p34, p35, p36, p37, p38, p39, p40, p41, p42, p43, p44, p45, p46, p47, p48, p49, p50, p51, p52, p53, p54, p55, p56, p57, p58, p59, p60, p61, p62, p63, p64, .int .i64 wh, p66, p67, p68, p69, p70, p71, p72, p73, p74, p75, p76, p77, p78, p79, p80, p81, p82, p83, p84, p85, p86, p87, p88, p89, p90, p91, p92, p93, p94, p95, p96, p97, p98, p99, p100, p101, p102, p103, p104, p105, p106, p107, p108, p109, p110, p111, p112, p113, p114, p115, p116, p117, p118, p119, p120, p121, p122, p123, p124, p125, p126, p127, p128, p129, p130, p131, p132, p133, p134, p135, p136, p137, p138, p139, p140, p141, p142, p143, p144, p145, p146, p147, p148, p149, p150, p151, p152, p153, p154, p155, p156, p157, p158, p159, p160, p161, p162, p163, p164, p165, p166, p167, p168, p169, p170, p171, p172, p173, p174, p175, p176, p177, p178, p179, p180, p181, p182, p183, p184, p185, p186, p187, p188, p189, p190, p191, p192, p193, p194, p195, p196, p197, p198, p199, p200, p201, p202, p203, p204, p205, p206, p207, p208, p209, p210, p211, p212, p213, p214, p215, p216, p217, p218, p219, p220, p221, p222, p223, p224, p225, p226, p227, p228, p229, p230, p231, p232, p233, p234, p235, p236, p237, p238, p239, p240, p241, p242, p243, p244, p245, p246, p247, p248, p249, p250, p251, p252], []⟩ wS := by
  have hT0 : True := by
    have := hDp
    have := hsL
    have := hsM
    have := hsw
    have := hrb
    have := hkp
    have := hi
    have := hb3
    have := hn6
    have := ht6
    have := hk8
    have := hnn
    have := hQp
    trivial
  clear hT0
  obtain ⟨iB, zB, hiB, hzB, hsB, hbB, hcB⟩ := infoB
  have HB := Lib.hid (And.intro hsL (And.intro hsM (And.intro hrb hkp)))
  have hcnt : d.count < 4611686018427387904 := by have := hDp.cnt; omega
  have hrm : d.room ≤ 1000000 := by have := hDp.room; omega
  clear hsL hsM hrb hkp
  have hcS := hS.cell
  have hlS := hS.lt
  conv => arg 2; whnf
  go_upto_if 74 with (fail)
  go_cut [74] from 75 to 77 (fun v wx => v = .bool true ∧ wx = wS)
  case first =>
    rcases hA with rfl | rfl | rfl
    all_goals
      go_wp2_with fail
      go_meet
      exact ⟨rfl, rfl⟩
  case rest =>
  obtain ⟨rfl, hw⟩ := hcut
  obtain rfl := hw.symm
  have hRS : Rb wS ba bc b := Sl.keep0 HB.out.2.2.1 hDp.kp
  go_upto_region 21 with (at_builtin; refine wpList_append_bg _ rfl _ _ 22 22 rfl iB zB Tryd.underlying22 hiB hzB hsB hbB hcB none 0 [] rfl (OwnG.nil _) _ rfl b (hRS.src Tryd.underlying22) (by simp; unfold maxLen; omega) (by simp; omega) ?_; intro a4 c4 w4 hO4 hk4 hb4)
  simp only [List.nil_append] at hO4
  clear hcS hlS hRS
  replace hk4 : Keeps [] wS w4 := hk4.mono (fun x hx => by simp at hx)
  have hz4 := hk4.size
  have hS4 := hS.keep hk4 (by simp)
  have ha4 : ∀ x ∈ blks a4, wS.heap.size ≤ x := fun x hx => (hb4 x hx).elim (fun h => by simp at h) id
  have hDp4 := hDp.keep0 hk4
  have haL : ∀ x ∈ blks a4, x ∉ L ∧ x ∉ M := fun x hx => ⟨fun h => by have h1 := ha4 x hx; have h2 := hDp.D.lt x h; omega, fun h => by have h1 := ha4 x hx; have h2 := hDp.R.lt x h; omega⟩
  clear hb4
  have hR0 : ∀ (W : World) (K : List Nat), Keeps K w4 W → sb ∉ K → ∀ q ∈ [((2 : Nat), fun w0 : World => w0.cell? ⟨sb, 2, none⟩ = some (.string ⟨nm.toArray⟩)), ((7 : Nat), fun w0 : World => w0.cell? ⟨sb, 2, none⟩ = some (.string ⟨nm.toArray⟩)), ((9 : Nat), fun w0 : World => w0.cell? ⟨sb, 4, none⟩ = some (.slice ba b.length bc))], q.2 W := fun W K hW hK q hq => by
    simp only [List.mem_cons, List.not_mem_nil, or_false] at hq
    rcases hq with rfl | rfl | rfl
    · exact hW.cellSome (hS4.cell 2) hK
    · exact hW.cellSome (hS4.cell 2) hK
    · exact hW.cellSome (hS4.cell 4) hK
  have hkd := (Keeps.refl [] w4).drew
  have hSw := hR0 _ [] hkd (by simp)
  have HR := Lib.hid hR0
  clear hR0
  refine startU [((2 : Nat), fun w0 : World => w0.cell? ⟨sb, 2, none⟩ = some (.string ⟨nm.toArray⟩)), ((7 : Nat), fun w0 : World => w0.cell? ⟨sb, 2, none⟩ = some (.string ⟨nm.toArray⟩)), ((9 : Nat), fun w0 : World => w0.cell? ⟨sb, 4, none⟩ = some (.slice ba b.length bc))] (by kernel_rfl) ?_
  generalize w4.drew = wd at *
  have hDd := hDp4.keep0 hkd
  have hOd := hO4.keep0 hkd
  have HDd := Lib.hid hDd
  have HOd := Lib.hid (And.intro hOd (And.intro haL ha4))
  clear hO4 hDp4 hOd haL ha4
  refine takeU (i := 0) (v := ?_) rfl (by kernel_rfl) (fun _ _ _ h => hQp _ _ _ _ _ h) (Or.inl ⟨by rfl, fun w0 hw0 => ?_⟩) (fun p hp _ => hSw p hp) ?_
  rotate_left
  · simp [Reads] at hw0
    go_simp
    try with_reducible rfl
  try go_simp
  refine takeU (i := 1) (v := ?_) rfl (by kernel_rfl) (fun _ _ _ h => hQp _ _ _ _ _ h) (Or.inl ⟨by rfl, fun w0 hw0 => ?_⟩) (fun p hp _ => hSw p hp) ?_
  rotate_left
  · simp [Reads] at hw0
    go_simp
    try with_reducible rfl
  try go_simp
  refine takeU (i := 2) (v := ?_) rfl (by kernel_rfl) (fun _ _ _ h => hQp _ _ _ _ _ h) (Or.inl ⟨by rfl, fun w0 hw0 => ?_⟩) (fun p hp _ => hSw p hp) ?_
  rotate_left
  · simp [Reads] at hw0
    go_simp
    try with_reducible rfl
  try go_simp
  refine takeU (i := 3) (v := ?_) rfl (by kernel_rfl) (fun _ _ _ h => hQp _ _ _ _ _ h) (Or.inl ⟨by rfl, fun w0 hw0 => ?_⟩) (fun p hp _ => hSw p hp) ?_
  rotate_left
  · simp [Reads] at hw0
    go_simp
    try with_reducible rfl
  try go_simp
  refine takeU (i := 5) (v := ?_) rfl (by kernel_rfl) (fun _ _ _ h => hQp _ _ _ _ _ h) (Or.inl ⟨by rfl, fun w0 hw0 => ?_⟩) (fun p hp _ => hSw p hp) ?_
  rotate_left
  · simp [Reads] at hw0
    go_simp
    try with_reducible rfl
  try go_simp
  refine takeU (i := 6) (v := ?_) rfl (by kernel_rfl) (fun _ _ _ h => hQp _ _ _ _ _ h) (Or.inl ⟨by rfl, fun w0 hw0 => ?_⟩) (fun p hp _ => hSw p hp) ?_
  rotate_left
  · simp [Reads] at hw0
    go_simp
    try with_reducible rfl
  try go_simp
  refine takeU (i := 7) (v := ?_) rfl (by kernel_rfl) (fun _ _ _ h => hQp _ _ _ _ _ h) (Or.inl ⟨by rfl, fun w0 hw0 => ?_⟩) (fun p hp _ => hSw p hp) ?_
  rotate_left
  · simp [Reads] at hw0
    go_simp
    try with_reducible rfl
  try go_simp
  refine takeU (i := 8) (v := ?_) rfl (by kernel_rfl) (fun _ _ _ h => hQp _ _ _ _ _ h) (Or.inl ⟨by rfl, fun w0 hw0 => ?_⟩) (fun p hp _ => hSw p hp) ?_
  rotate_left
  · simp [Reads] at hw0
    go_simp
    try with_reducible rfl
  try go_simp
  refine takeU (i := 9) (v := ?_) rfl (by kernel_rfl) (fun _ _ _ h => hQp _ _ _ _ _ h) (Or.inl ⟨by rfl, fun w0 hw0 => ?_⟩) (fun p hp _ => hSw p hp) ?_
  rotate_left
  · simp [Reads] at hw0
    go_simp
    try with_reducible rfl
  try go_simp
  clear hSw
  refine oneU (i := 4) rfl (by kernel_rfl) (fun K hK => ?_)
  rw [if_pos (show Region.wanted _ _ = true from rfl)]
  go_wp2_with fail
  refine (dappend HDd.out.D nm b (by omega) HOd.out.1.rb (by omega) (fun ad e _ hx => (HOd.out.2.1 ad.block (by rw [e]; exact .head _)).1 hx) hcnt).mono ?_
  rintro e w5 ⟨ev, L5, rfl, hE, hD5, hk5, hL5⟩
  try dsimp only
  have hRf := HDd.out.ref hk5
  have hkw5 : Keeps [] w w5 := HDd.out.kp.step hk5 (fun x hx => .inr (HDd.out.lw x hx))
  have hSp := Lib.hid (rappend hRf nm b (Sl.keep0 HB.out.2.2.1 hkw5) (fun ad e h hx => by
    have h1 := HB.out.2.2.1.lt e (fun h0 => h (by simpa [bys] using h0))
    have h2 := HDd.out.mw _ hx
    omega) (by omega) (by omega) hrm hcnt hD5.ok)
  have H5 := Lib.hid (And.intro hE (And.intro hD5 (And.intro hk5 (And.intro hL5 hRf))))
  have hkn := hkd.of_nil.step hk5 (fun x hx => .inl hx)
  have hsn := HB.out.1
  clear hE hD5 hk5 hL5 hRf hDd hkw5
  refine hK _ _ (fun q hq _ _ => HR.out _ _ hkn hsn q hq) ?_
  clear hK K
  try go_simp
  have hSw := HR.out _ _ hkn hsn
  clear hSw hkn hsn
  refine oneU (i := 10) rfl (by kernel_rfl) (fun K hK => ?_)
  rw [if_pos (show Region.wanted _ _ = true from rfl)]
  go_wp2_with fail
  refine (hSp.out).mono ?_
  rintro e w6 ⟨rfl, M6, hR6, hk6, hM6⟩
  try dsimp only
  have H6 := Lib.hid (And.intro hR6 (And.intro hk6 hM6))
  have hkn : Keeps (L ++ M) w4 w6 := ((hkd.of_nil.step H5.out.2.2.1 (fun x hx => .inl hx)).mono (fun x hx => List.mem_append_left _ hx)).step hk6 (fun x hx => .inl (List.mem_append_right _ hx))
  have hsn : sb ∉ L ++ M := by rw [List.mem_append]; rintro (h | h); exact HB.out.1 h; exact HB.out.2.1 h
  clear hR6 hk6 hM6
  refine hK _ _ (fun q hq _ _ => HR.out _ _ hkn hsn q hq) ?_
  clear hK K
  try go_simp
  have hSw := HR.out _ _ hkn hsn
  refine takeU (i := 11) (v := ?_) rfl (by kernel_rfl) (fun _ _ _ h => hQp _ _ _ _ _ h) (Or.inl ⟨by rfl, fun w0 hw0 => ?_⟩) (fun p hp _ => hSw p hp) ?_
  rotate_left
  · simp [Reads] at hw0
    go_simp
    try with_reducible rfl
  try go_simp
  refine takeU (i := 12) (v := ?_) rfl (by kernel_rfl) (fun _ _ _ h => hQp _ _ _ _ _ h) (Or.inl ⟨by rfl, fun w0 hw0 => ?_⟩) (fun p hp _ => hSw p hp) ?_
  rotate_left
  · simp [Reads] at hw0
    go_simp
    try with_reducible rfl
  try go_simp
  clear hSw
  refine doneU (by kernel_rfl) ?_
  have hS6 := hS4.keep hkn hsn
  have hO6 : OwnG w6 a4 c4 b := (HOd.out.1.keep H5.out.2.2.1 (fun x hx => (HOd.out.2.1 x hx).1)).keep H6.out.2.1 (fun x hx => (HOd.out.2.1 x hx).2)
  have hsz := hS.lt
  have hFIN : ∀ w8, Keeps (blks a4) w6 w8 → DpRel w db rb sb i #[.int .i64 wh, .int .i64 nn, .string ⟨nm.toArray⟩, .string ⟨tn.toArray⟩, .slice ba b.length bc, .slice ka keep.length kc] ev (.int .i64 (d.append nm b).2.cls) w8 := by
    intro w8 hk8
    obtain ⟨hE, hD5, hk5, hL5, hRf⟩ := H5.out
    obtain ⟨hR6, hk6, hM6⟩ := H6.out
    obtain ⟨hr1, hr2⟩ := app_rc d nm b
    have hzd := hkd.size
    have hz5 := hk5.size
    have h6 := HDd.out.call hD5 hk5 hL5 hR6 hk6 hM6 hr1 hr2
    have hld : ∀ x ∈ blks a4, x < wd.heap.size := HOd.out.1.lt
    have hdw : w.heap.size ≤ wS.heap.size := hDp.kp.size
    have h8 := h6.keep hk8 (fun x hx => ⟨by have := HOd.out.2.2 x hx; omega, fun h => (hL5 x h).elim (HOd.out.2.1 x hx).1 (fun h2 => by have := hld x hx; omega), fun h => (hM6 x h).elim (HOd.out.2.1 x hx).2 (fun h2 => by have := hld x hx; omega)⟩)
    have hE6 := hE.ref hRf hk6
    refine ⟨_, _, L5, M6, rfl, hE6.keep hk8 (fun g cs hB hx => ?_), h8, hS6.keep hk8 (fun hx => by have := HOd.out.2.2 sb hx; omega), fun h => (hL5 _ h).elim HB.out.1 (fun h => by omega), fun h => (hM6 _ h).elim HB.out.2.1 (fun h => by omega)⟩
    obtain ⟨cs', hc'⟩ := hO6.bytes _ hx
    exact absurd rfl (hB.ne (b' := g) hc' (by decide))
  have FIN := Lib.hid hFIN
  have hSpo := Lib.hid (spoil_own a4 c4 b hO6 (by omega))
  clear hkn hsn hS6 hS hS4 hFIN hO6 hsz
  go_wp2_with fail
  refine hSpo.out.mono ?_
  rintro e w8 ⟨rfl, hk8⟩
  try dsimp only
  have HK8 := Lib.hid hk8
  clear hk8
  go_wp2_with fail
  go_meet
  exact FIN.out _ HK8.out

end Go.Proofs.YtcebbgmjbincbaaDoor
