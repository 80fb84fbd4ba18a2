/- WalPlays: the calls of the wal. -/
import Derived.Test.YtfgmbjdeimallaaGreatDoorVpC
import Derived.Deep.DeepCutAuto
import Derived.Deep.CutBlock
import Derived.Deep.CutRange

namespace Go.Proofs.YtfgmbjdeimallaaGreatDoor
open Go.RowKit Go.Lib

set_option maxRecDepth 1000000 in
set_option maxHeartbeats 40000000 in
theorem sw_does (w wS : World) (db wb nb sb : Nat) (wh : Int) (y : Wp) (x : Stp) (ma : Option Addr) (mc : Nat) (ms : List Stp) (B n M : Nat) (hg : (w).cell? ⟨0, 0, none⟩ = some (.iface 140 (.agg #[.pointer (some ⟨1, 38, none⟩)]))) (hwh : y.what = wh) (hok : y.okw wS) (hl : y.l.length ≤ 12) (hB : B + sumE y.l ≤ 12000) (hn : n < 900000) (hM : ms.length ≤ M) (hM9 : M ≤ 900) (hS : Blk wS sb 33 #[.int .i64 wh, .int .i64 y.n, .int .u64 (y.ix : Nat), .int .u64 (y.tm : Nat), .int .i64 y.vote, .slice y.la y.l.length y.lc, .slice y.ka y.keep.length y.kc]) (hU : PlUp w wS wb db nb x ma mc ms [sb] B n) (h05 : 0 ≤ wh ∧ wh ≤ 5)
    (p0 p1 p2 p8 p10 p11 p12 p13 p14 p15 p16 p17 p18 p19 p20 p21 p22 p23 p24 p25 p26 p27 p28 p29 p30 p31 p32 p33 p34 p35 p36 p37 p38 p39 p40 p41 p42 p43 p44 p45 p47 p48 p49 p50 p51 p52 p53 p54 p55 p56 p57 p58 p59 p60 p61 p62 p63 p64 p65 p66 p67 p68 p69 p70 p71 p72 p73 p74 p75 p76 p77 p78 p79 p80 p81 p82 p83 p84 p85 p86 p87 p88 p89 p90 p91 p92 p93 p94 p95 p96 p97 p98 p99 p100 p101 p102 p103 p104 p105 p106 p107 p108 p109 p110 p111 p112 p113 p114 p115 p116 p117 p118 p119 p120 p121 p122 p123 p124 p125 p126 p127 p128 p129 p130 p131 p132 p133 p134 p135 p136 p137 p138 p139 p140 p141 p142 p143 p144 p145 p146 p147 p148 p149 p150 p151 p152 p153 p154 p155 p156 p157 p158 p159 p160 p161 p162 p163 p164 p165 p166 p167 p168 p169 p170 p171 p172 p173 p174 p175 p176 p177 p178 p179 p180 p181 p182 p183 p184 p185 p186 p187 p188 p189 p190 p191 p192 p193 p194 p195 p196 : Value) (J K : Act → World → Prop) (Q : Exit → Act → World → Prop)
    (hJ : ∀ (a : Act) (w' : World), (∃ u2 u5 u7 u10 u11 u35 u36 u37 u38 u39 u40 u41 u42 u43 u44 u45 u47 u48 u49 u50 u51 u52 u53 u54 u55 u56 u57 u58 u59 u60 u61 u62 u63 u64 u65 u66 u67 u68 u69 u70 u71 u72 u73 u74 u75 u76 u77 u78 u79 u80 u81 u82 u83 u84 u85 u86 u87 u88 u89 u90 u91 u92 u93 u94 u95 u96 u97 u98 u99 u100 u101 u102 u103 u104 u105 u106 u107 u108 u109 u110 u111 u112 u113 u114 u115 u116 u117 u118 u119 u120 u121 u122 u123 u124 u125 u126 u127 u128 u129 u130 u131 u132 u133 u134 u135 u136 u137 u138 u139 u140 u141 u142 u143 u144 u145 u146 u147 u148 u149 u150 u151 u152 u153 u154 u155 u156 u157 u158 u159 u160 u161 u162 u163 u164 u165 u166 u167 u168 u169 u170 u171 u172 u173 u174 u175 u176 u177 u178 u179 u180 u181 u182 u183 u184 u185 u186 u187 u188 u189 u190 u191 u192 u193 u194 u195 u196 : Value, SwRel w w' wb db nb sb wh y (B + sumE y.l) (n + 7) (M + 12) u5 u7 ∧ a = ⟨#[p0, p1, u2, .pointer (some ⟨db, 0, none⟩), .pointer (some ⟨wb, 0, none⟩), u5, .pointer (some ⟨nb, 0, none⟩), u7, p8, .pointer (some ⟨sb, 0, none⟩), u10, u11, p12, p13, p14, p15, p16, p17, p18, p19, p20, p21, p22, p23, p24, p25, p26, p27, p28, p29, p30, p31, p32, p33, p34, u35, u36, u37, u38, u39, u40, u41, u42, u43, u44, u45, .int .i64 wh, u47, u48, u49, u50, u51, u52, u53, u54, u55, u56, u57, u58, u59, u60, u61, u62, u63, u64, u65, u66, u67, u68, u69, u70, u71, u72, u73, u74, u75, u76, u77, u78, u79, u80, u81, u82, u83, u84, u85, u86, u87, u88, u89, u90, u91, u92, u93, u94, u95, u96, u97, u98, u99, u100, u101, u102, u103, u104, u105, u106, u107, u108, u109, u110, u111, u112, u113, u114, u115, u116, u117, u118, u119, u120, u121, u122, u123, u124, u125, u126, u127, u128, u129, u130, u131, u132, u133, u134, u135, u136, u137, u138, u139, u140, u141, u142, u143, u144, u145, u146, u147, u148, u149, u150, u151, u152, u153, u154, u155, u156, u157, u158, u159, u160, u161, u162, u163, u164, u165, u166, u167, u168, u169, u170, u171, u172, u173, u174, u175, u176, u177, u178, u179, u180, u181, u182, u183, u184, u185, u186, u187, u188, u189, u190, u191, u192, u193, u194, u195, u196], []⟩) → J a w') (hK : ∀ (a : Act) (w' : World), Met J a w' → K a w') :
    Code.wp Tryz.prog plSw (Exit.then K Q) ⟨#[p0, p1, p2, .pointer (some ⟨db, 0, none⟩), .pointer (some ⟨wb, 0, none⟩), .nilIface, .pointer (some ⟨nb, 0, none⟩), .slice ma ms.length mc, p8, .pointer (some ⟨sb, 0, none⟩), p10, p11, p12, p13, p14, p15, p16, p17, p18, p19, p20, p21, p22, p23, p24, p25, p26, p27, p28, p29, p30, p31, p32, p33, p34, p35, p36, p37, p38, p39, p40, p41, p42, p43, p44, p45, .int .i64 wh, p47, p48, p49, p50, p51, p52, p53, p54, p55, p56, p57, p58, p59, p60, p61, p62, p63, p64, p65, p66, p67, p68, p69, p70, p71, p72, p73, p74, p75, p76, p77, p78, p79, p80, p81, p82, p83, p84, p85, p86, p87, p88, p89, p90, p91, p92, p93, p94, p95, p96, p97, p98, p99, p100, p101, p102, p103, p104, p105, p106, p107, p108, p109, p110, p111, p112, p113, p114, p115, p116, p117, p118, p119, p120, p121, p122, p123, p124, p125, p126, p127, p128, p129, p130, p131, p132, p133, p134, p135, p136, p137, p138, p139, p140, p141, p142, p143, p144, p145, p146, p147, p148, p149, p150, p151, p152, p153, p154, p155, p156, p157, p158, p159, p160, p161, p162, p163, p164, p165, p166, p167, p168, p169, p170, p171, p172, p173, p174, p175, p176, p177, p178, p179, p180, p181, p182, p183, p184, p185, p186, p187, p188, p189, p190, p191, p192, p193, p194, p195, p196], []⟩ wS := by
  have hT0 : True := by
    have := hg
    have := hwh
    have := hok
    have := hl
    have := hB
    have := hn
    have := hM
    have := hM9
    trivial
  clear hT0
  obtain ⟨i0, z0, hi, hzz, hsz, hby, hzc⟩ := infoSt
  obtain ⟨iE, zE, hiE, hzE, hsE, hbE, hcE⟩ := infoEn
  have HP := Lib.hid (And.intro hg (And.intro hwh (And.intro hok (And.intro hl (And.intro hB (And.intro hn (And.intro hM hM9)))))))
  obtain ⟨L, E, d, z, hD, hWa, hWJ, hct, hPM, hX⟩ := hU
  have h06 : 0 ≤ y.what ∧ y.what ≤ 5 := by rw [hwh]; exact h05
  have hes : entSum x.s.es ≤ 12600 := by have := hPM.sums x hPM.mem; omega
  have hsd := sdoes_any x y wS (hPM.ats x hPM.mem) hok hWJ.ok (by have := entSum_len x.s.es; omega) (by omega) h06
  rw [hwh] at hsd
  have HS := Lib.hid (And.intro hsd (And.intro hD (And.intro hWa (And.intro hWJ (And.intro hct (And.intro hPM (And.intro hX (And.intro hS hes))))))))
  have hcS := hS.cell
  clear hsd hD hWa hWJ hct hPM hX hg hwh hok hl hB hn hM hM9 hS h06 hes
  conv => arg 2; whnf
  go_upto_if 47 with (fail)
  go_cut [47] from 48 to 52 (fun v wx => v = .bool true ∧ wx = wS)
  case first =>
    rcases (by omega : wh = 0 ∨ wh = 1 ∨ wh = 2 ∨ wh = 3 ∨ wh = 4 ∨ wh = 5) with rfl | rfl | rfl | rfl | rfl | rfl
    · go_wp2_with fail
      go_meet
      exact ⟨rfl, rfl⟩
    · go_wp2_with fail
      go_meet
      exact ⟨rfl, rfl⟩
    · go_wp2_with fail
      go_meet
      exact ⟨rfl, rfl⟩
    · go_wp2_with fail
      go_meet
      exact ⟨rfl, rfl⟩
    · go_wp2_with fail
      go_meet
      exact ⟨rfl, rfl⟩
    · go_wp2_with fail
      go_meet
      exact ⟨rfl, rfl⟩
  case rest =>
  obtain ⟨rfl, hw⟩ := hcut
  subst hw
  go_upto_block 3 with (first
    | (refine wpList_load_agg rfl _ _ rfl nb 0 5 rfl 57 _ _ HS.out.2.2.2.2.2.1.now Tryz.underlying57 rfl Tryz.sizeSt (by simp) _ rfl ?_)
    | (refine wpList_load_agg rfl _ _ rfl sb 0 7 rfl 33 _ _ HS.out.2.2.2.2.2.2.2.1 Tryz.underlying33 rfl Tryz.sizeWp (by simp) _ rfl ?_))
  refine HS.out.1.mono ?_
  rintro e w6 ⟨nl, k, hDR, hDP⟩
  obtain ⟨na, nc, ns, rfl, hns, hN, hk6⟩ := PlN.of HS.out.2.2.2.2.2.1 hDP (hDR.sums (HS.out.2.2.2.2.2.1.sums x HS.out.2.2.2.2.2.1.mem))
  have hop : OqIn w6 wb db L E d x.s z (ms.map (·.s)) := ⟨HS.out.2.2.1.keep0 hk6, HS.out.2.1.keep0 hk6, HS.out.2.2.2.1, by have := HS.out.2.2.2.2.1; have := HP.out.2.2.2.2.2.1; omega, by have := HS.out.2.2.2.2.2.2.2.2; omega⟩
  have hok6 := HP.out.2.2.1.keep hk6
  have hS6 := HS.out.2.2.2.2.2.2.2.1.keep hk6 (by simp)
  have H6 := Lib.hid (And.intro hop (And.intro hDR (And.intro hns (And.intro hN (And.intro hk6 (And.intro hok6 hS6))))))
  clear hDR hDP hns hN hk6 hop hok6 hcS
  have hcS := hS6.cell
  clear hS6
  go_upto_block 3 with (fail)
  go_cut [5] from 62 to 89 (fun v wx => OqRel w6 wb db L E d x.s (ms.map (·.s)) nl k v wx)
  case first =>
    have h05b : wh = 0 ∨ wh = 4 ∨ wh = 5 ∨ (wh = 1 ∨ wh = 2 ∨ wh = 3) := by omega
    have hwh := HP.out.2.1
    rcases h05b with rfl | rfl | rfl | h123
    · have HA := Lib.hid (op_hard H6.out.1 H6.out.2.1 hwh HP.out.2.2.1.tm)
      clear hwh
      go_wp2_with fail
      refine HA.out.mono ?_
      rintro e w7 ⟨v, rfl, hO⟩
      have HO := Lib.hid hO
      clear hO
      go_wp2_with fail
      go_meet
      exact HO.out
    · have HA := Lib.hid (op_cut H6.out.1 H6.out.2.1 hwh HP.out.2.2.1.ix)
      clear hwh
      go_wp2_with fail
      refine HA.out.mono ?_
      rintro e w7 ⟨v, rfl, hO⟩
      have HO := Lib.hid hO
      clear hO
      go_wp2_with fail
      go_meet
      exact HO.out
    · have HA := Lib.hid (op_drop H6.out.1 H6.out.2.1 hwh HP.out.2.2.1.tm)
      clear hwh
      go_wp2_with fail
      refine HA.out.mono ?_
      rintro e w7 ⟨v, rfl, hO⟩
      have HO := Lib.hid hO
      clear hO
      go_wp2_with fail
      go_meet
      exact HO.out
    · have h123b : y.what = 1 ∨ y.what = 2 ∨ y.what = 3 := by rw [hwh]; exact h123
      have H123 := Lib.hid h123b
      have g1 : ¬ (wh = 0) := by omega
      have g2 : ¬ (wh = 4) := by omega
      have g3 : ¬ (wh = 5) := by omega
      have hyl : y.l.length ≤ 12 := HP.out.2.2.2.1
      clear hwh h123b h123 h05
      go_wp2_with (at_builtin; refine wpList_append_by _ rfl _ _ 22 22 rfl w6.heap.size 65 iE zE 5 48 Tryz.underlying22 hiE hzE hsE hbE hcE none 0 0 [] rfl (World.ownsRow_nil _ _ _ _) _ rfl y.l.length _ (H6.out.2.2.2.2.2.1.re.src Tryz.underlying22) (by unfold maxLen; omega) (by omega) (Nat.le_refl _) ?_; intro a8 c8 w8 hO8 hk8 hb8)
      rw [Nat.zero_add, List.nil_append] at hO8
      try simp only [Nat.zero_add]
      have hR8 : Re w8 a8 c8 y.l := sl_of_ownW hO8 (ents_one _)
      have hof8 : ∀ ad, a8 = some ad → ad.block ∉ wb :: (L ++ E) := fun ad e hx => by
        have h1 := (ownsRow_lt hO8 ad.block (by rw [e]; simp)).1
        have h2 := (HS.out.2.2.2.2.2.1.lowK _ hx).2
        have h3 := H6.out.2.2.2.2.1.size
        omega
      have hop8 : OqIn w8 wb db L E d x.s z (ms.map (·.s)) := ⟨H6.out.1.wal.keep0 hk8, H6.out.1.disk.keep0 hk8, H6.out.1.wj, H6.out.1.count, H6.out.1.sum⟩
      have hsE2 : sumE y.l ≤ 12000 := by have := HP.out.2.2.2.2.1; omega
      have HA := Lib.hid (And.intro (op_app hop8 H6.out.2.1 H123.out a8 c8 hR8 HP.out.2.2.1.ents hyl hsE2 hof8) hk8)
      clear hO8 hk8 hb8 hR8 hof8 hop8 hsE2
      go_wp2_with fail
      refine HA.out.1.mono ?_
      rintro e w9 ⟨v, rfl, hO⟩
      have HO := Lib.hid (hO.base HA.out.2)
      clear hO
      go_wp2_with fail
      go_meet
      exact HO.out
  case rest =>
  generalize wc = w7 at *
  have hsb : ∀ b ∈ [sb], b ∉ wb :: (L ++ E) ∧ b < w6.heap.size := fun b hb => ⟨HS.out.2.2.2.2.2.2.1 b hb, by
    simp at hb
    subst hb
    exact H6.out.2.2.2.2.2.2.lt⟩
  have hmid := mid_of (n := n) HS.out.2.2.2.2.1 (((HS.out.2.2.2.2.2.1).keep0 H6.out.2.2.2.2.1).mono (Nat.le_add_right B (sumE y.l))) H6.out.2.2.2.1 hsb H6.out.2.2.1 hcut
  have hgW : Keeps (wb :: (L ++ E)) w6 w7 := by obtain ⟨L', d', h1, h2, h3, h4⟩ := hcut; exact h3
  have HS7 := Lib.hid (H6.out.2.2.2.2.2.2.keep hgW (HS.out.2.2.2.2.2.2.1 sb (by simp)))
  have HG7 := Lib.hid (show Keeps [] w w7 by
    rcases hmid with ⟨_, h⟩ | ⟨_, _, h⟩
    · obtain ⟨L, E, d, z, h1, h2, h3, h4, h5, h6⟩ := h
      exact h5.keeps
    · obtain ⟨L, d, h1, h2, h3, h4, h5⟩ := h
      exact h4.keeps)
  have hfew := H6.out.2.1.few HP.out.2.2.2.1
  rw [← H6.out.2.2.1, List.length_map] at hfew
  have hml := HP.out.2.2.2.2.2.2.1
  have hm9 := HP.out.2.2.2.2.2.2.2
  clear hcut hgW hsb
  rcases hmid with ⟨hv, hMid⟩ | ⟨rfl, rfl, hMid⟩
  · have HMid := Lib.hid hMid
    clear hMid
    rcases hv with ⟨rfl, rfl⟩ | ⟨hbad, rfl⟩
    · have HCl := Lib.hid (class_de (r := .ok) (w := w7) (ev := .nilIface) (HG7.out.cellSome HP.out.1 (by simp)) rfl)
      go_wp2_with fail
      refine HCl.out.mono ?_
      rintro e w8 ⟨rfl, hk8⟩
      have HM8 := Lib.hid (And.intro (HMid.out.keep0 hk8) (HS7.out.keep hk8 (by simp)))
      clear hk8
      have hO8 : OwnO w8 57 5 ma ms.length mc (stps ms) := by obtain ⟨L, E, d, z, h1, h2, h3, h4, h5, h6⟩ := HM8.out.1; exact h5.own
      have hS8 : Sl w8 5 na ns.length nc (stps ns) := by obtain ⟨L, E, d, z, h1, h2, h3, h4, h5, h6, h7⟩ := HM8.out.1; exact h6.sl
      have HR8 := Lib.hid (And.intro hO8 hS8)
      clear hO8 hS8
      go_upto_region 35 with (at_builtin; refine wpList_append_bo _ rfl _ _ 58 58 rfl 57 i0 z0 5 56 Tryz.underlying58 hi hzz hsz hby hzc ma _ mc _ rfl HR8.out.1 _ rfl ns.length _ (HR8.out.2.src Tryz.underlying58) (by unfold maxLen; omega) (by omega) ?_; intro a9 c9 w9 hO9 hk9 hb9 h09)
      have hM9 := HM8.out.1.grow hO9 hk9 hb9
      have hS9 := HM8.out.2.keep hk9 (by
        have h1 := HR8.out.1.off HM8.out.2 (by decide)
        exact h1)
      have HM9 := Lib.hid (And.intro hM9 hS9)
      clear hO9 hk9 hb9 h09 hM9 hS9
      rcases List.eq_nil_or_concat ns with hn0 | ⟨ns', x', hn1⟩
      · subst hn0
        have FIN : Hid (SwRel w w9 wb db nb sb wh y (B + sumE y.l) (n + 7) (M + 12) .nilIface (.slice a9 (ms.length + 0) c9)) := Lib.hid ⟨x, a9, c9, ms ++ [], by simp, by simp; omega, HM9.out.2, .inl ⟨.inl rfl, (HM9.out.1.same).more (Nat.le_refl _) (by omega)⟩⟩
        go_wp2_with fail
        go_meet
        exact FIN.out
      · have hlen1 : ns.length = ns'.length + 1 := by rw [hn1]; simp
        have hlast : ns.getLast? = some x' := by rw [hn1]; simp
        have hget : ns[ns'.length]? = some x' := by rw [hn1]; simp
        obtain ⟨hN9, hSl9⟩ := HM9.out.1.reads
        obtain ⟨eb, eo, hea⟩ := hSl9.at (by have := hSl9.cap; omega)
        rw [hea] at hSl9 ⊢
        have HRUN := Lib.hid (stps_at hget hSl9)
        have HN9 := Lib.hid hN9
        have s1 : IntKind.i64.wrap ((ns.length : Int) - 1) = (ns'.length : Int) := by rw [IntWalk.i64_in _ (by omega)]; omega
        have s2 : (ns.length : Int) - 1 = (ns'.length : Int) := by omega
        have s3 : (0 : Int) < (ns.length : Int) := by omega
        have s4 : 0 < ns.length := by omega
        have s5 : (ns'.length : Int) < (ns.length : Int) := by omega
        have s6 : ns'.length < ns.length := by omega
        have HL := Lib.hid (And.intro hlast hlen1)
        clear hlast hget hN9 hSl9 hea hlen1 hn1
        go_wp2_with (first
          | (refine wpList_load_run rfl _ _ rfl eb (eo + ns'.length * 5) rfl x'.cells.toList HRUN.out _ Tryz.underlying57 rfl Tryz.sizeSt ?_)
          | (refine wpList_store_agg rfl rfl 57 _ _ rfl nb 0 rfl x'.cells.toList rfl 57 _ HN9.out Tryz.sizeSt (by simp) rfl _ rfl ?_; intro w10 hB10 hk10))
        have FIN : Hid (SwRel w w10 wb db nb sb wh y (B + sumE y.l) (n + 7) (M + 12) .nilIface (.slice a9 (ms.length + ns.length) c9)) := Lib.hid ⟨x', a9, c9, ms ++ ns, by simp, by simp; omega, HM9.out.2.keep hk10 (by simp; exact fun h => (HM9.out.2.ne HN9.out (by decide)) h), .inl ⟨.inl rfl, (HM9.out.1.set HL.out.1 hB10 hk10).more (Nat.le_refl _) (by omega)⟩⟩
        clear hB10 hk10
        go_meet
        exact FIN.out
    · obtain ⟨ty, u, rfl⟩ := hbad.form
      have hk0 : ¬ (k = 0) := hbad.1
      have HBad := Lib.hid hbad
      have HCl := Lib.hid (class_bad (HG7.out.cellSome HP.out.1 (by simp)) hbad)
      clear hbad
      go_wp2_with fail
      refine HCl.out.mono ?_
      rintro e w8 ⟨rfl, hk8⟩
      have HM8 := Lib.hid (And.intro (HMid.out.keep0 hk8) (HS7.out.keep hk8 (by simp)))
      have HB8 := Lib.hid (HBad.out.keep hk8 (fun b hb => by simp at hb))
      clear hk8
      have hO8 : OwnO w8 57 5 ma ms.length mc (stps ms) := by obtain ⟨L, E, d, z, h1, h2, h3, h4, h5, h6⟩ := HM8.out.1; exact h5.own
      have hS8 : Sl w8 5 na 0 nc (stps []) := by obtain ⟨L, E, d, z, h1, h2, h3, h4, h5, h6, h7⟩ := HM8.out.1; exact h6.sl
      have HR8 := Lib.hid (And.intro hO8 hS8)
      clear hO8 hS8
      go_upto_region 35 with (at_builtin; refine wpList_append_bo _ rfl _ _ 58 58 rfl 57 i0 z0 5 56 Tryz.underlying58 hi hzz hsz hby hzc ma _ mc _ rfl HR8.out.1 _ rfl 0 _ (HR8.out.2.src Tryz.underlying58) (by unfold maxLen; omega) (by omega) ?_; intro a9 c9 w9 hO9 hk9 hb9 h09)
      have hM9 := HM8.out.1.grow hO9 hk9 hb9
      have hS9 := HM8.out.2.keep hk9 (by
        have h1 := HR8.out.1.off HM8.out.2 (by decide)
        exact h1)
      have hB9 := HB8.out.keep hk9 HR8.out.1.kind
      have FIN : Hid (SwRel w w9 wb db nb sb wh y (B + sumE y.l) (n + 7) (M + 12) (.iface ty u) (.slice a9 (ms.length + 0) c9)) := Lib.hid ⟨x, a9, c9, ms ++ [], by simp, by simp; omega, hS9, .inl ⟨.inr ⟨k, hB9⟩, (hM9.same).more (Nat.le_refl _) (by omega)⟩⟩
      clear hO9 hk9 hb9 h09 hM9 hS9 hB9
      go_wp2_with fail
      go_meet
      exact FIN.out
  · have HMid := Lib.hid hMid
    clear hMid
    have HCl := Lib.hid (class_de (r := .down) (w := w7) (HG7.out.cellSome HP.out.1 (by simp)) rfl)
    go_wp2_with fail
    refine HCl.out.mono ?_
    rintro e w8 ⟨rfl, hk8⟩
    have HCl2 := Lib.hid (And.intro (class_de (r := .down) (w := w8) ((HG7.out.trans hk8).cellSome HP.out.1 (by simp)) rfl) hk8)
    clear hk8
    simp only [show DRes.down.cls = 32 from rfl]
    go_wp2_with fail
    refine HCl2.out.1.mono ?_
    rintro e w9 ⟨rfl, hk9⟩
    have hk79 := HCl2.out.2.trans hk9
    have HM8 := Lib.hid (And.intro (HMid.out.keep0 hk79) (HS7.out.keep hk79 (by simp)))
    clear hk9 hk79
    simp only [show DRes.down.cls = 32 from rfl]
    have hO8 : OwnO w9 57 5 ma ms.length mc (stps ms) := by obtain ⟨L, d, h1, h2, h3, h4, h5, h6⟩ := HM8.out.1; exact h4.own
    have hS8 : Sl w9 5 na ns.length nc (stps ns) := by obtain ⟨L, d, h1, h2, h3, h4, h5, h6⟩ := HM8.out.1; exact h5.sl
    have HR8 := Lib.hid (And.intro hO8 hS8)
    clear hO8 hS8
    go_upto_region 35 with (at_builtin; refine wpList_append_bo _ rfl _ _ 58 58 rfl 57 i0 z0 5 56 Tryz.underlying58 hi hzz hsz hby hzc ma _ mc _ rfl HR8.out.1 _ rfl ns.length _ (HR8.out.2.src Tryz.underlying58) (by unfold maxLen; omega) (by omega) ?_; intro a9 c9 w10 hO9 hk9 hb9 h09)
    have hM9 := HM8.out.1.grow hO9 hk9 hb9
    have hS9 := HM8.out.2.keep hk9 (by
      have h1 := HR8.out.1.off HM8.out.2 (by decide)
      exact h1)
    have FIN : Hid (SwRel w w10 wb db nb sb wh y (B + sumE y.l) (n + 7) (M + 12) (Value.iface 75 (.int .i64 32)) (.slice a9 (ms.length + ns.length) c9)) := Lib.hid (by
      obtain ⟨L', d', h1, h2, h3, h4, h5⟩ := hM9
      exact ⟨x, a9, c9, ms ++ ns, by simp, by simp; omega, hS9, .inr ⟨rfl, L', d', h1, h2, by omega, h4, h5⟩⟩)
    clear hO9 hk9 hb9 h09 hM9 hS9
    go_wp2_with fail
    go_meet
    exact FIN.out

end Go.Proofs.YtfgmbjdeimallaaGreatDoor
/- WalPlays: the other arms. -/

namespace Go.Proofs.YtfgmbjdeimallaaGreatDoor
open Go.RowKit Go.Lib

set_option maxRecDepth 1000000 in
set_option maxHeartbeats 40000000 in
theorem sw_sync (w wS : World) (db wb nb sb : Nat) (wh : Int) (y : Wp) (x : Stp) (ma : Option Addr) (mc : Nat) (ms : List Stp) (B n M : Nat) (hg : (w).cell? ⟨0, 0, none⟩ = some (.iface 140 (.agg #[.pointer (some ⟨1, 38, none⟩)]))) (hwh : y.what = wh) (hok : y.okw wS) (hl : y.l.length ≤ 12) (hB : B + sumE y.l ≤ 12000) (hn : n < 900000) (hM : ms.length ≤ M) (hM9 : M ≤ 900) (hS : Blk wS sb 33 #[.int .i64 wh, .int .i64 y.n, .int .u64 (y.ix : Nat), .int .u64 (y.tm : Nat), .int .i64 y.vote, .slice y.la y.l.length y.lc, .slice y.ka y.keep.length y.kc]) (hU : PlUp w wS wb db nb x ma mc ms [sb] B n) (h67 : wh = 6 ∨ wh = 7)
    (p0 p1 p2 p8 p10 p11 p12 p13 p14 p15 p16 p17 p18 p19 p20 p21 p22 p23 p24 p25 p26 p27 p28 p29 p30 p31 p32 p33 p34 p35 p36 p37 p38 p39 p40 p41 p42 p43 p44 p45 p47 p48 p49 p50 p51 p52 p53 p54 p55 p56 p57 p58 p59 p60 p61 p62 p63 p64 p65 p66 p67 p68 p69 p70 p71 p72 p73 p74 p75 p76 p77 p78 p79 p80 p81 p82 p83 p84 p85 p86 p87 p88 p89 p90 p91 p92 p93 p94 p95 p96 p97 p98 p99 p100 p101 p102 p103 p104 p105 p106 p107 p108 p109 p110 p111 p112 p113 p114 p115 p116 p117 p118 p119 p120 p121 p122 p123 p124 p125 p126 p127 p128 p129 p130 p131 p132 p133 p134 p135 p136 p137 p138 p139 p140 p141 p142 p143 p144 p145 p146 p147 p148 p149 p150 p151 p152 p153 p154 p155 p156 p157 p158 p159 p160 p161 p162 p163 p164 p165 p166 p167 p168 p169 p170 p171 p172 p173 p174 p175 p176 p177 p178 p179 p180 p181 p182 p183 p184 p185 p186 p187 p188 p189 p190 p191 p192 p193 p194 p195 p196 : Value) (J K : Act → World → Prop) (Q : Exit → Act → World → Prop)
    (hJ : ∀ (a : Act) (w' : World), (∃ u2 u5 u7 u10 u11 u35 u36 u37 u38 u39 u40 u41 u42 u43 u44 u45 u47 u48 u49 u50 u51 u52 u53 u54 u55 u56 u57 u58 u59 u60 u61 u62 u63 u64 u65 u66 u67 u68 u69 u70 u71 u72 u73 u74 u75 u76 u77 u78 u79 u80 u81 u82 u83 u84 u85 u86 u87 u88 u89 u90 u91 u92 u93 u94 u95 u96 u97 u98 u99 u100 u101 u102 u103 u104 u105 u106 u107 u108 u109 u110 u111 u112 u113 u114 u115 u116 u117 u118 u119 u120 u121 u122 u123 u124 u125 u126 u127 u128 u129 u130 u131 u132 u133 u134 u135 u136 u137 u138 u139 u140 u141 u142 u143 u144 u145 u146 u147 u148 u149 u150 u151 u152 u153 u154 u155 u156 u157 u158 u159 u160 u161 u162 u163 u164 u165 u166 u167 u168 u169 u170 u171 u172 u173 u174 u175 u176 u177 u178 u179 u180 u181 u182 u183 u184 u185 u186 u187 u188 u189 u190 u191 u192 u193 u194 u195 u196 : Value, SwRel w w' wb db nb sb wh y (B + sumE y.l) (n + 7) (M + 12) u5 u7 ∧ a = ⟨#[p0, p1, u2, .pointer (some ⟨db, 0, none⟩), .pointer (some ⟨wb, 0, none⟩), u5, .pointer (some ⟨nb, 0, none⟩), u7, p8, .pointer (some ⟨sb, 0, none⟩), u10, u11, p12, p13, p14, p15, p16, p17, p18, p19, p20, p21, p22, p23, p24, p25, p26, p27, p28, p29, p30, p31, p32, p33, p34, u35, u36, u37, u38, u39, u40, u41, u42, u43, u44, u45, .int .i64 wh, u47, u48, u49, u50, u51, u52, u53, u54, u55, u56, u57, u58, u59, u60, u61, u62, u63, u64, u65, u66, u67, u68, u69, u70, u71, u72, u73, u74, u75, u76, u77, u78, u79, u80, u81, u82, u83, u84, u85, u86, u87, u88, u89, u90, u91, u92, u93, u94, u95, u96, u97, u98, u99, u100, u101, u102, u103, u104, u105, u106, u107, u108, u109, u110, u111, u112, u113, u114, u115, u116, u117, u118, u119, u120, u121, u122, u123, u124, u125, u126, u127, u128, u129, u130, u131, u132, u133, u134, u135, u136, u137, u138, u139, u140, u141, u142, u143, u144, u145, u146, u147, u148, u149, u150, u151, u152, u153, u154, u155, u156, u157, u158, u159, u160, u161, u162, u163, u164, u165, u166, u167, u168, u169, u170, u171, u172, u173, u174, u175, u176, u177, u178, u179, u180, u181, u182, u183, u184, u185, u186, u187, u188, u189, u190, u191, u192, u193, u194, u195, u196], []⟩) → J a w') (hK : ∀ (a : Act) (w' : World), Met J a w' → K a w') :
    Code.wp Tryz.prog plSw (Exit.then K Q) ⟨#[p0, p1, p2, .pointer (some ⟨db, 0, none⟩), .pointer (some ⟨wb, 0, none⟩), .nilIface, .pointer (some ⟨nb, 0, none⟩), .slice ma ms.length mc, p8, .pointer (some ⟨sb, 0, none⟩), p10, p11, p12, p13, p14, p15, p16, p17, p18, p19, p20, p21, p22, p23, p24, p25, p26, p27, p28, p29, p30, p31, p32, p33, p34, p35, p36, p37, p38, p39, p40, p41, p42, p43, p44, p45, .int .i64 wh, p47, p48, p49, p50, p51, p52, p53, p54, p55, p56, p57, p58, p59, p60, p61, p62, p63, p64, p65, p66, p67, p68, p69, p70, p71, p72, p73, p74, p75, p76, p77, p78, p79, p80, p81, p82, p83, p84, p85, p86, p87, p88, p89, p90, p91, p92, p93, p94, p95, p96, p97, p98, p99, p100, p101, p102, p103, p104, p105, p106, p107, p108, p109, p110, p111, p112, p113, p114, p115, p116, p117, p118, p119, p120, p121, p122, p123, p124, p125, p126, p127, p128, p129, p130, p131, p132, p133, p134, p135, p136, p137, p138, p139, p140, p141, p142, p143, p144, p145, p146, p147, p148, p149, p150, p151, p152, p153, p154, p155, p156, p157, p158, p159, p160, p161, p162, p163, p164, p165, p166, p167, p168, p169, p170, p171, p172, p173, p174, p175, p176, p177, p178, p179, p180, p181, p182, p183, p184, p185, p186, p187, p188, p189, p190, p191, p192, p193, p194, p195, p196], []⟩ wS := by
  have hT0 : True := by
    have := hg
    have := hwh
    have := hok
    have := hl
    have := hB
    have := hn
    have := hM
    have := hM9
    trivial
  clear hT0
  have HP := Lib.hid (And.intro hg (And.intro hwh (And.intro hB (And.intro hn (And.intro hM hM9)))))
  obtain ⟨i0, z0, hi, hzz, hsz, hby, hzc⟩ := infoSt
  obtain ⟨L, E, d, z, hD, hWa, hWJ, hct, hPM, hX⟩ := hU
  have hsy := wsync_do hWa hD hWJ (by omega)
  have HS := Lib.hid (And.intro hsy (And.intro hct (And.intro hPM (And.intro hX hS))))
  have hcS := hS.cell
  clear hsy hD hWa hWJ hct hPM hX hg hwh hok hl hB hn hM hM9 hS
  conv => arg 2; whnf
  go_upto_if 123 with (fail)
  go_cut [123] from 124 to 125 (fun v wx => v = .bool true ∧ wx = wS)
  case first =>
    rcases h67 with rfl | rfl
    · go_wp2_with fail
      go_meet
      exact ⟨rfl, rfl⟩
    · go_wp2_with fail
      go_meet
      exact ⟨rfl, rfl⟩
  case rest =>
  obtain ⟨rfl, hw⟩ := hcut
  subst hw
  clear h67
  go_wp2_with fail
  refine HS.out.1.mono ?_
  intro e w6 hp
  have hsb : ∀ b ∈ [sb], b ∉ wb :: (L ++ E) ∧ b < wc.heap.size := fun b hb => ⟨HS.out.2.2.2.1 b hb, by
    simp at hb
    subst hb
    exact HS.out.2.2.2.2.lt⟩
  obtain ⟨v, rfl, hh⟩ := PlUp.sync (n := n) HS.out.2.1 HS.out.2.2.1 hsb hp
  have hkp : Keeps (wb :: (L ++ E)) wc w6 := by obtain ⟨ev, L', E', d', r, h1, h2, h3, h4, h5, h6⟩ := hp; exact h5
  have hS6 := HS.out.2.2.2.2.keep hkp (HS.out.2.2.2.1 sb (by simp))
  have hml := HP.out.2.2.2.2.1
  have HS6 := Lib.hid hS6
  clear hp hkp hsb hS6
  rcases hh with ⟨rfl, L', E', d', h1, h2, h3, h4, h5, h6⟩ | ⟨rfl, hDn⟩
  · have hcN := h5.now
    have FIN : Hid (SwRel w (w6.alloc (.cells x.cells 57)) wb db nb sb wh y (B + sumE y.l) (n + 7) (M + 12) .nilIface (.slice (some ⟨w6.heap.size, 0, none⟩) 1 1)) := Lib.hid (by
      have hk := (Keeps.refl [] w6).alloc (.cells x.cells 57)
      exact ⟨x, _, 1, [x], by simp, by simp, HS6.out.keep hk (by simp), .inl ⟨.inl rfl, L', E', d', z, h1.keep0 hk, h2.keep0 hk, h3, by omega, (h5.one).mono (Nat.le_add_right _ _), h6⟩⟩)
    have HN := Lib.hid hcN
    clear h1 h2 h3 h4 h5 h6 hcN
    go_wp2_with (first
      | (refine wpList_load_agg rfl _ _ rfl nb 0 5 rfl 57 _ _ HN.out Tryz.underlying57 rfl Tryz.sizeSt (by simp) _ rfl ?_)
      | (refine wpList_slice1 rfl 58 57 _ rfl i0 z0 (.agg x.cells) 5 Tryz.underlying58 hi hzz hsz rfl rfl (by omega) (by omega) ?_))
    go_meet
    exact FIN.out
  · have hkw : Keeps [] w w6 := by obtain ⟨L', d', h1, h2, h3, h4, h5⟩ := hDn; exact h4.keeps
    have HCl := Lib.hid (class_de (r := .down) (w := w6) (hkw.cellSome HP.out.1 (by simp)) rfl)
    have HDn := Lib.hid hDn
    clear hDn hkw
    go_wp2_with fail
    refine HCl.out.mono ?_
    rintro e w7 ⟨rfl, hk7⟩
    simp only [show DRes.down.cls = 32 from rfl]
    have FIN : Hid (SwRel w w7 wb db nb sb wh y (B + sumE y.l) (n + 7) (M + 12) (Value.iface 75 (.int .i64 32)) (.slice ma ms.length mc)) := Lib.hid (by
      obtain ⟨L', d', h1, h2, h3, h4, h5⟩ := HDn.out.keep0 hk7
      exact ⟨x, ma, mc, ms, rfl, by omega, HS6.out.keep hk7 (by simp), .inr ⟨rfl, L', d', h1, h2, by omega, h4.mono (Nat.le_add_right _ _), h5⟩⟩)
    clear hk7
    go_wp2_with fail
    go_meet
    exact FIN.out

set_option maxRecDepth 1000000 in
set_option maxHeartbeats 40000000 in
theorem sw_halt (w wS : World) (db wb nb sb : Nat) (wh : Int) (y : Wp) (x : Stp) (ma : Option Addr) (mc : Nat) (ms : List Stp) (B n M : Nat) (hg : (w).cell? ⟨0, 0, none⟩ = some (.iface 140 (.agg #[.pointer (some ⟨1, 38, none⟩)]))) (hwh : y.what = wh) (hok : y.okw wS) (hl : y.l.length ≤ 12) (hB : B + sumE y.l ≤ 12000) (hn : n < 900000) (hM : ms.length ≤ M) (hM9 : M ≤ 900) (hS : Blk wS sb 33 #[.int .i64 wh, .int .i64 y.n, .int .u64 (y.ix : Nat), .int .u64 (y.tm : Nat), .int .i64 y.vote, .slice y.la y.l.length y.lc, .slice y.ka y.keep.length y.kc]) (hU : PlUp w wS wb db nb x ma mc ms [sb] B n) (h8 : wh = 8)
    (p0 p1 p2 p8 p10 p11 p12 p13 p14 p15 p16 p17 p18 p19 p20 p21 p22 p23 p24 p25 p26 p27 p28 p29 p30 p31 p32 p33 p34 p35 p36 p37 p38 p39 p40 p41 p42 p43 p44 p45 p47 p48 p49 p50 p51 p52 p53 p54 p55 p56 p57 p58 p59 p60 p61 p62 p63 p64 p65 p66 p67 p68 p69 p70 p71 p72 p73 p74 p75 p76 p77 p78 p79 p80 p81 p82 p83 p84 p85 p86 p87 p88 p89 p90 p91 p92 p93 p94 p95 p96 p97 p98 p99 p100 p101 p102 p103 p104 p105 p106 p107 p108 p109 p110 p111 p112 p113 p114 p115 p116 p117 p118 p119 p120 p121 p122 p123 p124 p125 p126 p127 p128 p129 p130 p131 p132 p133 p134 p135 p136 p137 p138 p139 p140 p141 p142 p143 p144 p145 p146 p147 p148 p149 p150 p151 p152 p153 p154 p155 p156 p157 p158 p159 p160 p161 p162 p163 p164 p165 p166 p167 p168 p169 p170 p171 p172 p173 p174 p175 p176 p177 p178 p179 p180 p181 p182 p183 p184 p185 p186 p187 p188 p189 p190 p191 p192 p193 p194 p195 p196 : Value) (J K : Act → World → Prop) (Q : Exit → Act → World → Prop)
    (hJ : ∀ (a : Act) (w' : World), (∃ u2 u5 u7 u10 u11 u35 u36 u37 u38 u39 u40 u41 u42 u43 u44 u45 u47 u48 u49 u50 u51 u52 u53 u54 u55 u56 u57 u58 u59 u60 u61 u62 u63 u64 u65 u66 u67 u68 u69 u70 u71 u72 u73 u74 u75 u76 u77 u78 u79 u80 u81 u82 u83 u84 u85 u86 u87 u88 u89 u90 u91 u92 u93 u94 u95 u96 u97 u98 u99 u100 u101 u102 u103 u104 u105 u106 u107 u108 u109 u110 u111 u112 u113 u114 u115 u116 u117 u118 u119 u120 u121 u122 u123 u124 u125 u126 u127 u128 u129 u130 u131 u132 u133 u134 u135 u136 u137 u138 u139 u140 u141 u142 u143 u144 u145 u146 u147 u148 u149 u150 u151 u152 u153 u154 u155 u156 u157 u158 u159 u160 u161 u162 u163 u164 u165 u166 u167 u168 u169 u170 u171 u172 u173 u174 u175 u176 u177 u178 u179 u180 u181 u182 u183 u184 u185 u186 u187 u188 u189 u190 u191 u192 u193 u194 u195 u196 : Value, SwRel w w' wb db nb sb wh y (B + sumE y.l) (n + 7) (M + 12) u5 u7 ∧ a = ⟨#[p0, p1, u2, .pointer (some ⟨db, 0, none⟩), .pointer (some ⟨wb, 0, none⟩), u5, .pointer (some ⟨nb, 0, none⟩), u7, p8, .pointer (some ⟨sb, 0, none⟩), u10, u11, p12, p13, p14, p15, p16, p17, p18, p19, p20, p21, p22, p23, p24, p25, p26, p27, p28, p29, p30, p31, p32, p33, p34, u35, u36, u37, u38, u39, u40, u41, u42, u43, u44, u45, .int .i64 wh, u47, u48, u49, u50, u51, u52, u53, u54, u55, u56, u57, u58, u59, u60, u61, u62, u63, u64, u65, u66, u67, u68, u69, u70, u71, u72, u73, u74, u75, u76, u77, u78, u79, u80, u81, u82, u83, u84, u85, u86, u87, u88, u89, u90, u91, u92, u93, u94, u95, u96, u97, u98, u99, u100, u101, u102, u103, u104, u105, u106, u107, u108, u109, u110, u111, u112, u113, u114, u115, u116, u117, u118, u119, u120, u121, u122, u123, u124, u125, u126, u127, u128, u129, u130, u131, u132, u133, u134, u135, u136, u137, u138, u139, u140, u141, u142, u143, u144, u145, u146, u147, u148, u149, u150, u151, u152, u153, u154, u155, u156, u157, u158, u159, u160, u161, u162, u163, u164, u165, u166, u167, u168, u169, u170, u171, u172, u173, u174, u175, u176, u177, u178, u179, u180, u181, u182, u183, u184, u185, u186, u187, u188, u189, u190, u191, u192, u193, u194, u195, u196], []⟩) → J a w') (hK : ∀ (a : Act) (w' : World), Met J a w' → K a w') :
    Code.wp Tryz.prog plSw (Exit.then K Q) ⟨#[p0, p1, p2, .pointer (some ⟨db, 0, none⟩), .pointer (some ⟨wb, 0, none⟩), .nilIface, .pointer (some ⟨nb, 0, none⟩), .slice ma ms.length mc, p8, .pointer (some ⟨sb, 0, none⟩), p10, p11, p12, p13, p14, p15, p16, p17, p18, p19, p20, p21, p22, p23, p24, p25, p26, p27, p28, p29, p30, p31, p32, p33, p34, p35, p36, p37, p38, p39, p40, p41, p42, p43, p44, p45, .int .i64 wh, p47, p48, p49, p50, p51, p52, p53, p54, p55, p56, p57, p58, p59, p60, p61, p62, p63, p64, p65, p66, p67, p68, p69, p70, p71, p72, p73, p74, p75, p76, p77, p78, p79, p80, p81, p82, p83, p84, p85, p86, p87, p88, p89, p90, p91, p92, p93, p94, p95, p96, p97, p98, p99, p100, p101, p102, p103, p104, p105, p106, p107, p108, p109, p110, p111, p112, p113, p114, p115, p116, p117, p118, p119, p120, p121, p122, p123, p124, p125, p126, p127, p128, p129, p130, p131, p132, p133, p134, p135, p136, p137, p138, p139, p140, p141, p142, p143, p144, p145, p146, p147, p148, p149, p150, p151, p152, p153, p154, p155, p156, p157, p158, p159, p160, p161, p162, p163, p164, p165, p166, p167, p168, p169, p170, p171, p172, p173, p174, p175, p176, p177, p178, p179, p180, p181, p182, p183, p184, p185, p186, p187, p188, p189, p190, p191, p192, p193, p194, p195, p196], []⟩ wS := by
  have hT0 : True := by
    have := hg
    have := hwh
    have := hok
    have := hl
    have := hB
    have := hn
    have := hM
    have := hM9
    trivial
  clear hT0
  have HP := Lib.hid (And.intro hB (And.intro hn (And.intro hM hM9)))
  obtain ⟨L, E, d, z, hD, hWa, hWJ, hct, hPM, hX⟩ := hU
  have hha := dhalt hD y.n hok.n
  have HS2 := Lib.hid hD
  have HS := Lib.hid (And.intro hha (And.intro hWa (And.intro hWJ (And.intro hct (And.intro hPM (And.intro hX hS))))))
  have hcS := hS.cell
  clear hha hD hWa hWJ hct hPM hX hg hwh hok hl hB hn hM hM9 hS
  conv => arg 2; whnf
  subst h8
  go_wp2_with fail
  refine HS.out.1.mono ?_
  rintro e w6 ⟨rfl, hD6, hk6⟩
  have FIN : Hid (SwRel w w6 wb db nb sb 8 y (B + sumE y.l) (n + 7) (M + 12) .nilIface (.slice ma ms.length mc)) := Lib.hid (by
    obtain ⟨hB, hn, hM, hM9⟩ := HP.out
    have hkK : Keeps (wb :: (L ++ E)) wS w6 := hk6.mono (fun b hb => .tail _ (List.mem_append.2 (.inl hb)))
    have hoff := wal_off HS.out.2.1 (show Disk wS L db d from HS2.out)
    refine ⟨x, ma, mc, ms, rfl, by omega, HS.out.2.2.2.2.2.2.keep hkK (HS.out.2.2.2.2.2.1 sb (by simp)), .inl ⟨.inl rfl, L, E, { d with halt := max y.n (-1) }, z, hD6, HS.out.2.1.keep hk6 hoff.1 hoff.2, HS.out.2.2.1.same rfl rfl rfl, by have := HS.out.2.2.2.1; show d.count ≤ _; omega, ?_, HS.out.2.2.2.2.2.1⟩⟩
    exact (HS.out.2.2.2.2.1.step hkK (fun b hb => ⟨.inl hb, Nat.lt_of_lt_of_le (HS.out.2.2.2.2.1.lowK b hb).2 hk6.size⟩)).mono (Nat.le_add_right _ _))
  clear hD6 hk6
  go_wp2_with fail
  go_meet
  exact FIN.out

set_option maxRecDepth 1000000 in
set_option maxHeartbeats 40000000 in
theorem sw_none (w wS : World) (db wb nb sb : Nat) (wh : Int) (y : Wp) (x : Stp) (ma : Option Addr) (mc : Nat) (ms : List Stp) (B n M : Nat) (hg : (w).cell? ⟨0, 0, none⟩ = some (.iface 140 (.agg #[.pointer (some ⟨1, 38, none⟩)]))) (hwh : y.what = wh) (hok : y.okw wS) (hl : y.l.length ≤ 12) (hB : B + sumE y.l ≤ 12000) (hn : n < 900000) (hM : ms.length ≤ M) (hM9 : M ≤ 900) (hS : Blk wS sb 33 #[.int .i64 wh, .int .i64 y.n, .int .u64 (y.ix : Nat), .int .u64 (y.tm : Nat), .int .i64 y.vote, .slice y.la y.l.length y.lc, .slice y.ka y.keep.length y.kc]) (hU : PlUp w wS wb db nb x ma mc ms [sb] B n) (hno : wh < 0 ∨ 8 < wh)
    (p0 p1 p2 p8 p10 p11 p12 p13 p14 p15 p16 p17 p18 p19 p20 p21 p22 p23 p24 p25 p26 p27 p28 p29 p30 p31 p32 p33 p34 p35 p36 p37 p38 p39 p40 p41 p42 p43 p44 p45 p47 p48 p49 p50 p51 p52 p53 p54 p55 p56 p57 p58 p59 p60 p61 p62 p63 p64 p65 p66 p67 p68 p69 p70 p71 p72 p73 p74 p75 p76 p77 p78 p79 p80 p81 p82 p83 p84 p85 p86 p87 p88 p89 p90 p91 p92 p93 p94 p95 p96 p97 p98 p99 p100 p101 p102 p103 p104 p105 p106 p107 p108 p109 p110 p111 p112 p113 p114 p115 p116 p117 p118 p119 p120 p121 p122 p123 p124 p125 p126 p127 p128 p129 p130 p131 p132 p133 p134 p135 p136 p137 p138 p139 p140 p141 p142 p143 p144 p145 p146 p147 p148 p149 p150 p151 p152 p153 p154 p155 p156 p157 p158 p159 p160 p161 p162 p163 p164 p165 p166 p167 p168 p169 p170 p171 p172 p173 p174 p175 p176 p177 p178 p179 p180 p181 p182 p183 p184 p185 p186 p187 p188 p189 p190 p191 p192 p193 p194 p195 p196 : Value) (J K : Act → World → Prop) (Q : Exit → Act → World → Prop)
    (hJ : ∀ (a : Act) (w' : World), (∃ u2 u5 u7 u10 u11 u35 u36 u37 u38 u39 u40 u41 u42 u43 u44 u45 u47 u48 u49 u50 u51 u52 u53 u54 u55 u56 u57 u58 u59 u60 u61 u62 u63 u64 u65 u66 u67 u68 u69 u70 u71 u72 u73 u74 u75 u76 u77 u78 u79 u80 u81 u82 u83 u84 u85 u86 u87 u88 u89 u90 u91 u92 u93 u94 u95 u96 u97 u98 u99 u100 u101 u102 u103 u104 u105 u106 u107 u108 u109 u110 u111 u112 u113 u114 u115 u116 u117 u118 u119 u120 u121 u122 u123 u124 u125 u126 u127 u128 u129 u130 u131 u132 u133 u134 u135 u136 u137 u138 u139 u140 u141 u142 u143 u144 u145 u146 u147 u148 u149 u150 u151 u152 u153 u154 u155 u156 u157 u158 u159 u160 u161 u162 u163 u164 u165 u166 u167 u168 u169 u170 u171 u172 u173 u174 u175 u176 u177 u178 u179 u180 u181 u182 u183 u184 u185 u186 u187 u188 u189 u190 u191 u192 u193 u194 u195 u196 : Value, SwRel w w' wb db nb sb wh y (B + sumE y.l) (n + 7) (M + 12) u5 u7 ∧ a = ⟨#[p0, p1, u2, .pointer (some ⟨db, 0, none⟩), .pointer (some ⟨wb, 0, none⟩), u5, .pointer (some ⟨nb, 0, none⟩), u7, p8, .pointer (some ⟨sb, 0, none⟩), u10, u11, p12, p13, p14, p15, p16, p17, p18, p19, p20, p21, p22, p23, p24, p25, p26, p27, p28, p29, p30, p31, p32, p33, p34, u35, u36, u37, u38, u39, u40, u41, u42, u43, u44, u45, .int .i64 wh, u47, u48, u49, u50, u51, u52, u53, u54, u55, u56, u57, u58, u59, u60, u61, u62, u63, u64, u65, u66, u67, u68, u69, u70, u71, u72, u73, u74, u75, u76, u77, u78, u79, u80, u81, u82, u83, u84, u85, u86, u87, u88, u89, u90, u91, u92, u93, u94, u95, u96, u97, u98, u99, u100, u101, u102, u103, u104, u105, u106, u107, u108, u109, u110, u111, u112, u113, u114, u115, u116, u117, u118, u119, u120, u121, u122, u123, u124, u125, u126, u127, u128, u129, u130, u131, u132, u133, u134, u135, u136, u137, u138, u139, u140, u141, u142, u143, u144, u145, u146, u147, u148, u149, u150, u151, u152, u153, u154, u155, u156, u157, u158, u159, u160, u161, u162, u163, u164, u165, u166, u167, u168, u169, u170, u171, u172, u173, u174, u175, u176, u177, u178, u179, u180, u181, u182, u183, u184, u185, u186, u187, u188, u189, u190, u191, u192, u193, u194, u195, u196], []⟩) → J a w') (hK : ∀ (a : Act) (w' : World), Met J a w' → K a w') :
    Code.wp Tryz.prog plSw (Exit.then K Q) ⟨#[p0, p1, p2, .pointer (some ⟨db, 0, none⟩), .pointer (some ⟨wb, 0, none⟩), .nilIface, .pointer (some ⟨nb, 0, none⟩), .slice ma ms.length mc, p8, .pointer (some ⟨sb, 0, none⟩), p10, p11, p12, p13, p14, p15, p16, p17, p18, p19, p20, p21, p22, p23, p24, p25, p26, p27, p28, p29, p30, p31, p32, p33, p34, p35, p36, p37, p38, p39, p40, p41, p42, p43, p44, p45, .int .i64 wh, p47, p48, p49, p50, p51, p52, p53, p54, p55, p56, p57, p58, p59, p60, p61, p62, p63, p64, p65, p66, p67, p68, p69, p70, p71, p72, p73, p74, p75, p76, p77, p78, p79, p80, p81, p82, p83, p84, p85, p86, p87, p88, p89, p90, p91, p92, p93, p94, p95, p96, p97, p98, p99, p100, p101, p102, p103, p104, p105, p106, p107, p108, p109, p110, p111, p112, p113, p114, p115, p116, p117, p118, p119, p120, p121, p122, p123, p124, p125, p126, p127, p128, p129, p130, p131, p132, p133, p134, p135, p136, p137, p138, p139, p140, p141, p142, p143, p144, p145, p146, p147, p148, p149, p150, p151, p152, p153, p154, p155, p156, p157, p158, p159, p160, p161, p162, p163, p164, p165, p166, p167, p168, p169, p170, p171, p172, p173, p174, p175, p176, p177, p178, p179, p180, p181, p182, p183, p184, p185, p186, p187, p188, p189, p190, p191, p192, p193, p194, p195, p196], []⟩ wS := by
  have hT0 : True := by
    have := hg
    have := hwh
    have := hok
    have := hl
    have := hB
    have := hn
    have := hM
    have := hM9
    trivial
  clear hT0
  have FIN : Hid (SwRel w wS wb db nb sb wh y (B + sumE y.l) (n + 7) (M + 12) .nilIface (.slice ma ms.length mc)) := Lib.hid ⟨x, ma, mc, ms, rfl, by omega, hS, .inl ⟨.inl rfl, hU.more (Nat.le_add_right _ _) (by omega)⟩⟩
  have g0 : ¬ (wh = 0) := by omega
  have g1 : ¬ (wh = 1) := by omega
  have g2 : ¬ (wh = 2) := by omega
  have g3 : ¬ (wh = 3) := by omega
  have g4 : ¬ (wh = 4) := by omega
  have g5 : ¬ (wh = 5) := by omega
  have g6 : ¬ (wh = 6) := by omega
  have g7 : ¬ (wh = 7) := by omega
  have g8 : ¬ (wh = 8) := by omega
  clear hU hS hg hwh hok hl hB hn hM hM9 hno
  conv => arg 2; whnf
  go_wp2_with fail
  go_meet
  exact FIN.out

end Go.Proofs.YtfgmbjdeimallaaGreatDoor
