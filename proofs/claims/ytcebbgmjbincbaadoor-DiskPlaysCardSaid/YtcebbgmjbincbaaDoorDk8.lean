/- The disk: Rename of what is there. -/
import Derived.Test.YtcebbgmjbincbaaDoorDk7

namespace Go.Proofs.YtcebbgmjbincbaaDoor
open Go.RowKit Go.Lib


theorem mem_mdel_ne {α : Type} {s : List UInt8} {x : List UInt8 × α} : ∀ {fs : List (List UInt8 × α)}, (fs.map (·.1)).Nodup → x ∈ mdel s fs → x.1 ≠ s
  | [], _, h => by simp [mdel] at h
  | f :: r, hn, h => by
    simp only [List.map_cons, List.nodup_cons] at hn
    unfold mdel at h
    by_cases e : f.1 = s
    · rw [if_pos e] at h
      exact fun e2 => hn.1 (by rw [e, ← e2]; exact List.mem_map.2 ⟨x, h, rfl⟩)
    · rw [if_neg e] at h
      rcases List.mem_cons.1 h with rfl | h
      · exact e
      · exact mem_mdel_ne hn.2 h
section
variable {w : World} {L : List Nat} {db : Nat} {d : DSt} {mb : Nat} {fl : List (List UInt8 × FlM)}
set_option maxRecDepth 100000 in
set_option maxHeartbeats 4000000 in
theorem drename_some (h : DiskAt w L db d mb fl) (ho : d.off = false) (n m : List UInt8) (hm' : m.length ≤ 1000000) {x : FlM} (hm : mget n fl = some x) (hc : d.count < 4611686018427387904) : Calls Tryd.prog 26 #[.pointer (some ⟨db, 0, none⟩), .string ⟨n.toArray⟩, .string ⟨m.toArray⟩] w (DPost w L db (d.rename n m)) := by
  have hmd : mget n d.fs = some x.toFil := by rw [h.mget, hm]; rfl
  have hdb := h.mem_db
  cases hr : right m with
  | false =>
    rw [show d.rename n m = (d, .bad m 20) by simp [DSt.rename, ho, hr]]
    go_enter Tryd.func26, Tryd.ntmps26
    go_wp2_with fail
    refine (dfind_some h ho hm).mono ?_
    rintro e w' ⟨rfl, hw⟩
    obtain rfl := hw.symm
    go_wp2_with fail
    refine (is_nil 32 _).mono ?_
    rintro e w' ⟨rfl, hw⟩
    obtain rfl := hw
    go_wp2_with fail
    refine (right_any m _ hm').mono ?_
    rintro e w' ⟨rfl, hw⟩
    obtain rfl := hw.symm
    rw [hr]
    go_wp2_with fail
    refine (fault_any m 20 _).mono ?_
    rintro e w2 ⟨ev2, rfl, hE2, hk2⟩
    go_wp2_with fail
    go_ret
    exact h.refs hE2 hk2
  | true =>
    by_cases h0 : d.halt = 0
    · rw [show d.rename n m = (d.fall, .down) by simp [DSt.rename, ho, hr, hmd, h0]]
      go_enter Tryd.func26, Tryd.ntmps26
      go_wp2_with fail
      refine (dfind_some h ho hm).mono ?_
      rintro e w' ⟨rfl, hw⟩
      obtain rfl := hw.symm
      go_wp2_with fail
      refine (is_nil 32 _).mono ?_
      rintro e w' ⟨rfl, hw⟩
      obtain rfl := hw
      go_wp2_with fail
      refine (right_any m _ hm').mono ?_
      rintro e w' ⟨rfl, hw⟩
      obtain rfl := hw.symm
      rw [hr]
      go_wp2_with fail
      refine (ddoes_zero h h0).mono ?_
      rintro e w3 ⟨rfl, h3, hk3⟩
      go_wp2_with fail
      go_ret
      exact ⟨_, L, rfl, rfl, ⟨mb, fl, h3⟩, hk3.mono (by simpa using hdb), fun _ hx => .inl hx⟩
    · by_cases hne : n = m
      · subst hne
        rw [show d.rename n n = (d.tick, .ok) by simp [DSt.rename, ho, hr, hmd, h0]]
        go_enter Tryd.func26, Tryd.ntmps26
        go_wp2_with fail
        refine (dfind_some h ho hm).mono ?_
        rintro e w' ⟨rfl, hw⟩
        obtain rfl := hw.symm
        go_wp2_with fail
        refine (is_nil 32 _).mono ?_
        rintro e w' ⟨rfl, hw⟩
        obtain rfl := hw
        go_wp2_with fail
        refine (right_any n _ hm').mono ?_
        rintro e w' ⟨rfl, hw⟩
        obtain rfl := hw.symm
        rw [hr]
        go_wp2_with fail
        refine (ddoes_ok h h0 hc).mono ?_
        rintro e w3 ⟨rfl, h3, hk3⟩
        go_wp2_with fail
        go_ret
        exact ⟨_, L, rfl, rfl, ⟨mb, fl, h3⟩, hk3.mono (by simpa using hdb), fun _ hx => .inl hx⟩
      · rw [show d.rename n m = ({ d.tick with fs := mput m x.toFil (mdel n d.fs) }, .ok) by simp [DSt.rename, ho, hr, hmd, h0, hne]]
        have hE : (n == m) = false := by simpa using hne
        have hus : usedOf (mdel n d.fs) + x.b.length = usedOf d.fs := by
          have := usedOf_mdel (n := n) (fs := d.fs)
          rw [hmd] at this
          simpa using this
        have huM : usedOf d.fs ≤ 9223372036854775807 := Nat.le_trans h.ok.used h.ok.room
        have hum := usedOf_mput (n := m) (f := x.toFil) (fs := mdel n d.fs)
        rw [mget_mdel h.ok.nodup, if_neg (Ne.symm hne)] at hum
        go_enter Tryd.func26, Tryd.ntmps26
        go_wp2_with fail
        refine (dfind_some h ho hm).mono ?_
        rintro e w' ⟨rfl, hw⟩
        obtain rfl := hw.symm
        go_wp2_with fail
        refine (is_nil 32 _).mono ?_
        rintro e w' ⟨rfl, hw⟩
        obtain rfl := hw
        go_wp2_with fail
        refine (right_any m _ hm').mono ?_
        rintro e w' ⟨rfl, hw⟩
        obtain rfl := hw.symm
        rw [hr]
        have HUM := Lib.hid (And.intro hus hum)
        clear hus hum
        go_wp2_with fail
        refine (ddoes_ok h h0 hc).mono ?_
        rintro e w3 ⟨rfl, h3, hk3⟩
        have hB3 : Blk w3 db 93 #[.map (some mb), .int .i64 (d.room : Nat), .int .i64 (usedOf d.fs : Nat), .int .i64 ((d.count + 1 : Nat) : Int), .int .i64 d.tick.halt, .bool d.off] := h3.blk
        have hl := run_lookup_kv h3.files.map Tryd.underlying91 Tryd.underlying9 (zeroF w3) m
        rw [ptrs_mget] at hl
        have hbc3 := hB3.cell
        cases hy : mget m fl with
        | none =>
          rw [hy] at hl
          simp only [Option.map_none, Option.getD_none, Option.isSome_none] at hl
          have hyd : mget m d.fs = none := by rw [h.mget, hy]; rfl
          obtain ⟨hus, hum⟩ := HUM.out
          rw [hyd] at hum
          have hB4 : Blk w3 db 93 #[.map (some mb), .int .i64 (d.room : Nat), .int .i64 (usedOf (mput m x.toFil (mdel n d.fs)) : Nat), .int .i64 ((d.count + 1 : Nat) : Int), .int .i64 d.tick.halt, .bool d.off] := by
            rw [show usedOf (mput m x.toFil (mdel n d.fs)) = usedOf d.fs by simp at hum; omega]
            exact hB3
          have hk34 := Keeps.refl [db] w3
          clear hum
          go_upto_region 14 with (fail)
          clear hbc3 hl hE
          have hF4 := (h3.files.keep hk34 (fun y hy => by simp; rintro rfl; exact h3.db_off hy))
          have hM4 := hF4.map
          have hmbdb : db ≠ mb := hM4.ne_blk hB4
          have hbc := hB4.cell
          go_upto_region 15 with (at_delete; refine wpList_delete_kv _ rfl _ _ 91 9 rfl 94 Tryd.underlying91 Tryd.underlying9 mb (ptrs fl) rfl hM4 n rfl ?_; intro w5 hM5 hk5)
          have hF5 := hF4.del hk5 hM5
          have hB5 := hB4.keep hk5 (by simpa using hmbdb)
          clear hbc
          have hbc := hB5.cell
          have hM5' := hF5.map
          go_upto_region 16 with (at_mapUpdate; refine wpList_update_kv _ rfl _ _ _ 91 rfl 9 94 Tryd.underlying91 Tryd.underlying9 mb (ptrs (mdel n fl)) rfl hM5' m rfl _ rfl ?_; intro w6 hM6 hk6)
          have hX6 : FileAt w6 x := ((hF4.file (n, x) (mget_mem hm)).keep hk5 (fun y hy => by simp; rintro rfl; exact hF4.mb_off (mget_mem hm) hy)).keep hk6 (fun y hy => by simp; rintro rfl; exact hF4.mb_off (mget_mem hm) hy)
          have hF6 := hF5.add hk6 hM6 hX6 (fun f hf hne y hy => hF4.off (mget_mem hm) (mem_mdel hf) (Ne.symm (mem_mdel_ne hF4.nodup hf)) y hy)
          have hB6 := hB5.keep hk6 (by simpa using hmbdb)
          have hmbL : mb ∈ L := by rw [h3.feet]; exact .tail _ (mem_feet.2 (.inl rfl))
          have hxo : mget m (mdel n d.tick.fs) = mget m d.fs := by
            rw [mget_mdel h3.ok.nodup, if_neg (Ne.symm hne)]
            rfl
          have hok : ({ d.tick with fs := mput m x.toFil (mdel n d.fs) } : DSt).Ok := by
            refine (h3.ok.del (n := n)).put (n := m) (f := x.toFil) (h3.ok.sure (n, x.toFil) (mget_mem hmd)) (h3.ok.most (n, x.toFil) (mget_mem hmd)) ?_ (fun _ => ⟨?_, right_len hr⟩)
            · have h7 : usedOf d.fs ≤ d.room := h3.ok.used
              show usedOf (mdel n d.fs) + x.b.length ≤ d.room + _
              omega
            · show (mdel n d.fs).length < 64
              have h7 := congrArg List.length (keys_mdel (s := n) d.fs)
              rw [List.length_erase_of_mem (mget_key hmd)] at h7
              simp only [List.length_map] at h7
              have h8 : d.fs.length ≤ 64 := h3.ok.few
              have h9 : 0 < d.fs.length := List.length_pos_of_mem (mget_mem hmd)
              omega
          have FIN := Lib.hid (show DPost w L db ({ d.tick with fs := mput m x.toFil (mdel n d.fs) }, .ok) (.returned .nilIface) w6 from
            ⟨_, _, rfl, rfl, ⟨mb, _, hB6, hF6, by rw [fils_mput, fils_mdel, ← h.fs], rfl, hok⟩, (((hk3.trans hk34).mono (by simpa using hdb)).trans (hk5.mono (by simpa using hmbL))).trans (hk6.mono (by simpa using hmbL)), fun y hy => .inl (by
              rcases List.mem_cons.1 hy with rfl | hy
              · exact hdb
              · rw [h3.feet]
                rcases mem_feet.1 hy with e | ⟨f, hf, hy⟩
                · exact .tail _ (mem_feet.2 (.inl e))
                · rcases mem_mput hf with rfl | hf
                  · exact .tail _ (mem_feet.2 (.inr ⟨(n, x), mget_mem hm, hy⟩))
                  · exact .tail _ (mem_feet.2 (.inr ⟨f, mem_mdel hf, hy⟩)))⟩)
          clear hF4 hF5 hF6 hB4 hB5 hB6 hok hk5 hk34 hk6 hM5 hM4 hM5' hM6 hbc hX6
          go_wp2_with fail
          go_ret
          exact FIN.out
        | some y =>
          rw [hy] at hl
          simp only [Option.map_some, Option.getD_some, Option.isSome_some] at hl
          have hyd : mget m d.fs = some y.toFil := by rw [h.mget, hy]; rfl
          obtain ⟨hus, hum⟩ := HUM.out
          rw [hyd] at hum
          have hY : FileAt w3 y := h3.files.file (m, y) (mget_mem hy)
          have hyc := hY.blk.cell
          have hbf3 := hB3.free
          have hu4 : usedOf (mput m x.toFil (mdel n d.fs)) + y.b.length = usedOf d.fs := by simp at hum; omega
          have q1 : IntKind.i64.wrap ((usedOf d.fs : Int) - (y.b.length : Int)) = (usedOf (mput m x.toFil (mdel n d.fs)) : Nat) := by
            rw [IntWalk.i64_in _ (by omega)]
            omega
          clear hum
          have HU4 := Lib.hid hu4
          clear hu4
          go_upto_region 13 with (fail)
          refine wp_region_still_tail 12 (by kernel_rfl) (by kernel_rfl) ?_
          change wpStill _ _ (World.drew _) _ _ _
          simp only [List.take_succ_cons, List.take_zero, List.drop_succ_cons, List.drop_zero]
          repeat still_step
          refine wpStill_nil ?_
          change wpList _ _ _ _ _ (World.drew _)
          go_upto_region 14 with (fail)
          have hB4 := (hB3.put 2 (.int .i64 (usedOf (mput m x.toFil (mdel n d.fs)) : Nat))).drew
          have hk34 := ((Keeps.refl [db] w3).set (p := ⟨db, 2, none⟩) (.inl (by simp)) (.int .i64 (usedOf (mput m x.toFil (mdel n d.fs)) : Nat))).drew
          generalize World.drew (World.setCell w3 _ _) = w4 at *
          replace hB4 := hB4.eq (cs' := #[.map (some mb), .int .i64 (d.room : Nat), .int .i64 (usedOf (mput m x.toFil (mdel n d.fs)) : Nat), .int .i64 ((d.count + 1 : Nat) : Int), .int .i64 d.tick.halt, .bool d.off]) (by simp)
          clear hbc3 hl hE hY hyc hbf3 q1
          have hF4 := (h3.files.keep hk34 (fun y hy => by simp; rintro rfl; exact h3.db_off hy))
          have hM4 := hF4.map
          have hmbdb : db ≠ mb := hM4.ne_blk hB4
          have hbc := hB4.cell
          go_upto_region 15 with (at_delete; refine wpList_delete_kv _ rfl _ _ 91 9 rfl 94 Tryd.underlying91 Tryd.underlying9 mb (ptrs fl) rfl hM4 n rfl ?_; intro w5 hM5 hk5)
          have hF5 := hF4.del hk5 hM5
          have hB5 := hB4.keep hk5 (by simpa using hmbdb)
          clear hbc
          have hbc := hB5.cell
          have hM5' := hF5.map
          go_upto_region 16 with (at_mapUpdate; refine wpList_update_kv _ rfl _ _ _ 91 rfl 9 94 Tryd.underlying91 Tryd.underlying9 mb (ptrs (mdel n fl)) rfl hM5' m rfl _ rfl ?_; intro w6 hM6 hk6)
          have hX6 : FileAt w6 x := ((hF4.file (n, x) (mget_mem hm)).keep hk5 (fun y hy => by simp; rintro rfl; exact hF4.mb_off (mget_mem hm) hy)).keep hk6 (fun y hy => by simp; rintro rfl; exact hF4.mb_off (mget_mem hm) hy)
          have hF6 := hF5.add hk6 hM6 hX6 (fun f hf hne y hy => hF4.off (mget_mem hm) (mem_mdel hf) (Ne.symm (mem_mdel_ne hF4.nodup hf)) y hy)
          have hB6 := hB5.keep hk6 (by simpa using hmbdb)
          have hmbL : mb ∈ L := by rw [h3.feet]; exact .tail _ (mem_feet.2 (.inl rfl))
          have hxo : mget m (mdel n d.tick.fs) = mget m d.fs := by
            rw [mget_mdel h3.ok.nodup, if_neg (Ne.symm hne)]
            rfl
          have hok : ({ d.tick with fs := mput m x.toFil (mdel n d.fs) } : DSt).Ok := by
            refine (h3.ok.del (n := n)).put (n := m) (f := x.toFil) (h3.ok.sure (n, x.toFil) (mget_mem hmd)) (h3.ok.most (n, x.toFil) (mget_mem hmd)) ?_ (fun _ => ⟨?_, right_len hr⟩)
            · have h7 : usedOf d.fs ≤ d.room := h3.ok.used
              show usedOf (mdel n d.fs) + x.b.length ≤ d.room + _
              omega
            · show (mdel n d.fs).length < 64
              have h7 := congrArg List.length (keys_mdel (s := n) d.fs)
              rw [List.length_erase_of_mem (mget_key hmd)] at h7
              simp only [List.length_map] at h7
              have h8 : d.fs.length ≤ 64 := h3.ok.few
              have h9 : 0 < d.fs.length := List.length_pos_of_mem (mget_mem hmd)
              omega
          have FIN := Lib.hid (show DPost w L db ({ d.tick with fs := mput m x.toFil (mdel n d.fs) }, .ok) (.returned .nilIface) w6 from
            ⟨_, _, rfl, rfl, ⟨mb, _, hB6, hF6, by rw [fils_mput, fils_mdel, ← h.fs], rfl, hok⟩, (((hk3.trans hk34).mono (by simpa using hdb)).trans (hk5.mono (by simpa using hmbL))).trans (hk6.mono (by simpa using hmbL)), fun y hy => .inl (by
              rcases List.mem_cons.1 hy with rfl | hy
              · exact hdb
              · rw [h3.feet]
                rcases mem_feet.1 hy with e | ⟨f, hf, hy⟩
                · exact .tail _ (mem_feet.2 (.inl e))
                · rcases mem_mput hf with rfl | hf
                  · exact .tail _ (mem_feet.2 (.inr ⟨(n, x), mget_mem hm, hy⟩))
                  · exact .tail _ (mem_feet.2 (.inr ⟨f, mem_mdel hf, hy⟩)))⟩)
          clear hF4 hF5 hF6 hB4 hB5 hB6 hok hk5 hk34 hk6 hM5 hM4 hM5' hM6 hbc hX6
          go_wp2_with fail
          go_ret
          exact FIN.out
theorem drename (h : Disk w L db d) (n m : List UInt8) (hm' : m.length ≤ 1000000) (hc : d.count < 4611686018427387904) : Calls Tryd.prog 26 #[.pointer (some ⟨db, 0, none⟩), .string ⟨n.toArray⟩, .string ⟨m.toArray⟩] w (DPost w L db (d.rename n m)) := by
  cases ho : d.off with
  | true => exact drename_off h ho n m
  | false =>
    obtain ⟨mb, fl, h⟩ := h
    cases hm : mget n fl with
    | none => exact drename_none h ho n m hm' hm
    | some x => exact drename_some h ho n m hm' hm hc
end
end Go.Proofs.YtcebbgmjbincbaaDoor
