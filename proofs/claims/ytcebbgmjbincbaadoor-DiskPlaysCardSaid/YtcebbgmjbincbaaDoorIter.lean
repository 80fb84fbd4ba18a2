/- slices.Sorted at what maps.Keys hands back: the shelf's contracts at this dump, in plain declarations. -/
import Derived.Shelf.SlIter.Nil
import Derived.Shelf.SortM.Plain
import Derived.Shelf.SortM.SortNone
import Derived.Ground.GgzProg
import Derived.Ground.SlgmProg
import Derived.Test.YtcebbgmjbincbaaDoorProg
namespace Go.Proofs
open Go.RowKit Go.Maps Go.Sort Go.Shelf

def Tryd.keys59_ren : Go.Shelf.Ren := ⟨fun | 7 => 59 | 10 => 71 | n => n, fun | 23 => 91 | 26 => 9 | 3 => 94 | 28 => 112 | 0 => 0 | 27 => 111 | 33 => 99 | 4 => 4 | n => n, fun | n => n⟩
theorem Tryd.keys59 : Go.Proofs.SlLaysZ.n7 Tryd.prog Tryd.keys59_ren := {
  mixed := by kernel_rfl
  f7 := ⟨Tryd.f59.name, by decide, Tryd.func59.trans (congrArg some (by kernel_rfl))⟩
  f10 := ⟨Tryd.f71.name, by decide, Tryd.func71.trans (congrArg some (by kernel_rfl))⟩
  t0 := Tryd.underlying0
  a0 := Tryd.isAgg0
  z0 := Tryd.sizeOf0
  v0 := Tryd.zeroValue0
  t4 := Tryd.underlying4
  a4 := Tryd.isAgg4
  z4 := Tryd.sizeOf4
  v4 := Tryd.zeroValue4
  t23 := Tryd.underlying91
  a23 := Tryd.isAgg91
  z23 := Tryd.sizeOf91
  v23 := Tryd.zeroValue91
  t26 := Tryd.underlying9
  a26 := Tryd.isAgg9
  z26 := Tryd.sizeOf9
  v26 := Tryd.zeroValue9
  t27 := Tryd.underlying111
  a27 := Tryd.isAgg111
  z27 := Tryd.sizeOf111
  v27 := Tryd.zeroValue111
  t28 := Tryd.underlying112
  a28 := Tryd.isAgg112
  z28 := Tryd.sizeOf112
  v28 := Tryd.zeroValue112
  t33 := Tryd.underlying99
  a33 := Tryd.isAgg99
  z33 := Tryd.sizeOf99
  v33 := Tryd.zeroValue99 }
def Tryd.sorted58_ren : Go.Shelf.Ren := ⟨fun | 6 => 58 | 8 => 69 | 9 => 70 | 11 => 78 | 13 => 80 | 12 => 79 | 23 => 95 | 24 => 96 | 14 => 86 | 15 => 87 | 16 => 88 | 17 => 89 | 18 => 90 | 19 => 91 | 20 => 92 | 21 => 93 | 22 => 94 | 25 => 97 | 26 => 98 | 27 => 99 | 28 => 100 | 29 => 101 | 30 => 102 | 31 => 103 | n => n, fun | 26 => 9 | 28 => 112 | 24 => 57 | 0 => 0 | 3 => 3 | 37 => 165 | 48 => 167 | 50 => 67 | 4 => 4 | 40 => 171 | 39 => 170 | 45 => 76 | 5 => 5 | 9 => 9 | 51 => 179 | 55 => 182 | 57 => 184 | 58 => 185 | 33 => 99 | n => n, fun | n => n⟩
theorem Tryd.sorted58 : Go.Proofs.SlLaysZ.n6 Tryd.prog Tryd.sorted58_ren := {
  mixed := by kernel_rfl
  f6 := ⟨Tryd.f58.name, by decide, Tryd.func58.trans (congrArg some (by kernel_rfl))⟩
  f8 := ⟨Tryd.f69.name, by decide, Tryd.func69.trans (congrArg some (by kernel_rfl))⟩
  f11 := ⟨Tryd.f78.name, by decide, Tryd.func78.trans (congrArg some (by kernel_rfl))⟩
  t0 := Tryd.underlying0
  a0 := Tryd.isAgg0
  z0 := Tryd.sizeOf0
  v0 := Tryd.zeroValue0
  t24 := Tryd.underlying57
  a24 := Tryd.isAgg57
  z24 := Tryd.sizeOf57
  v24 := Tryd.zeroValue57
  t26 := Tryd.underlying9
  a26 := Tryd.isAgg9
  z26 := Tryd.sizeOf9
  v26 := Tryd.zeroValue9
  t28 := Tryd.underlying112
  a28 := Tryd.isAgg112
  z28 := Tryd.sizeOf112
  v28 := Tryd.zeroValue112
  i26 := by kernel_rfl }
def Tryd.sort70_ren : Go.Shelf.Ren := ⟨fun | 6 => 70 | 8 => 80 | 9 => 79 | 19 => 95 | 20 => 96 | 21 => 86 | 22 => 87 | 23 => 88 | 24 => 89 | 25 => 90 | 26 => 91 | 27 => 92 | 28 => 93 | 29 => 94 | 36 => 97 | 31 => 98 | 32 => 99 | 37 => 100 | 38 => 101 | 39 => 102 | 41 => 103 | n => n, fun | 27 => 57 | 29 => 9 | 3 => 3 | 32 => 165 | 26 => 57 | 0 => 0 | 44 => 167 | 46 => 67 | 4 => 4 | 36 => 171 | 35 => 170 | 41 => 76 | 5 => 5 | 9 => 9 | 53 => 179 | 57 => 182 | 63 => 184 | 64 => 185 | n => n, fun | n => n⟩
theorem Tryd.sort70 : Go.Proofs.SlLaysM.n6 Tryd.prog Tryd.sort70_ren := {
  mixed := by kernel_rfl
  f6 := ⟨Tryd.f70.name, by decide, Tryd.func70.trans (congrArg some (by kernel_rfl))⟩
  f8 := Tryd.func80.trans (congrArg some (by kernel_rfl))
  f9 := ⟨Tryd.f79.name, by decide, Tryd.func79.trans (congrArg some (by kernel_rfl))⟩
  f19 := Tryd.func95.trans (congrArg some (by kernel_rfl))
  f20 := Tryd.func96.trans (congrArg some (by kernel_rfl))
  f21 := ⟨Tryd.f86.name, by decide, Tryd.func86.trans (congrArg some (by kernel_rfl))⟩
  f22 := ⟨Tryd.f87.name, by decide, Tryd.func87.trans (congrArg some (by kernel_rfl))⟩
  f23 := ⟨Tryd.f88.name, by decide, Tryd.func88.trans (congrArg some (by kernel_rfl))⟩
  f24 := ⟨Tryd.f89.name, by decide, Tryd.func89.trans (congrArg some (by kernel_rfl))⟩
  f25 := ⟨Tryd.f90.name, by decide, Tryd.func90.trans (congrArg some (by kernel_rfl))⟩
  f26 := ⟨Tryd.f91.name, by decide, Tryd.func91.trans (congrArg some (by kernel_rfl))⟩
  f27 := ⟨Tryd.f92.name, by decide, Tryd.func92.trans (congrArg some (by kernel_rfl))⟩
  f28 := ⟨Tryd.f93.name, by decide, Tryd.func93.trans (congrArg some (by kernel_rfl))⟩
  f29 := ⟨Tryd.f94.name, by decide, Tryd.func94.trans (congrArg some (by kernel_rfl))⟩
  f31 := Tryd.func98.trans (congrArg some (by kernel_rfl))
  f32 := Tryd.func99.trans (congrArg some (by kernel_rfl))
  f36 := ⟨Tryd.f97.name, by decide, Tryd.func97.trans (congrArg some (by kernel_rfl))⟩
  f37 := ⟨Tryd.f100.name, by decide, Tryd.func100.trans (congrArg some (by kernel_rfl))⟩
  f38 := ⟨Tryd.f101.name, by decide, Tryd.func101.trans (congrArg some (by kernel_rfl))⟩
  f39 := ⟨Tryd.f102.name, by decide, Tryd.func102.trans (congrArg some (by kernel_rfl))⟩
  f41 := ⟨Tryd.f103.name, by decide, Tryd.func103.trans (congrArg some (by kernel_rfl))⟩
  t0 := Tryd.underlying0
  a0 := Tryd.isAgg0
  z0 := Tryd.sizeOf0
  v0 := Tryd.zeroValue0
  t3 := Tryd.underlying3
  a3 := Tryd.isAgg3
  z3 := Tryd.sizeOf3
  v3 := Tryd.zeroValue3
  t4 := Tryd.underlying4
  a4 := Tryd.isAgg4
  z4 := Tryd.sizeOf4
  v4 := Tryd.zeroValue4
  t5 := Tryd.underlying5
  a5 := Tryd.isAgg5
  z5 := Tryd.sizeOf5
  v5 := Tryd.zeroValue5
  t9 := Tryd.underlying9
  a9 := Tryd.isAgg9
  z9 := Tryd.sizeOf9
  v9 := Tryd.zeroValue9
  t26 := Tryd.underlying57
  a26 := Tryd.isAgg57
  z26 := Tryd.sizeOf57
  v26 := Tryd.zeroValue57
  t27 := Tryd.underlying57
  a27 := Tryd.isAgg57
  z27 := Tryd.sizeOf57
  v27 := Tryd.zeroValue57
  t29 := Tryd.underlying9
  a29 := Tryd.isAgg9
  z29 := Tryd.sizeOf9
  v29 := Tryd.zeroValue9
  t32 := Tryd.underlying165
  a32 := Tryd.isAgg165
  z32 := Tryd.sizeOf165
  v32 := Tryd.zeroValue165
  t35 := Tryd.underlying170
  a35 := Tryd.isAgg170
  z35 := Tryd.sizeOf170
  v35 := Tryd.zeroValue170
  t36 := Tryd.underlying171
  a36 := Tryd.isAgg171
  z36 := Tryd.sizeOf171
  v36 := Tryd.zeroValue171
  t41 := Tryd.underlying76
  a41 := Tryd.isAgg76
  z41 := Tryd.sizeOf76
  v41 := Tryd.zeroValue76
  t44 := Tryd.underlying167
  a44 := Tryd.isAgg167
  z44 := Tryd.sizeOf167
  v44 := Tryd.zeroValue167
  t46 := Tryd.underlying67
  a46 := Tryd.isAgg67
  z46 := Tryd.sizeOf67
  v46 := Tryd.zeroValue67
  t53 := Tryd.underlying179
  a53 := Tryd.isAgg179
  z53 := Tryd.sizeOf179
  v53 := Tryd.zeroValue179
  t57 := Tryd.underlying182
  a57 := Tryd.isAgg182
  z57 := Tryd.sizeOf182
  v57 := Tryd.zeroValue182
  t63 := Tryd.underlying184
  a63 := Tryd.isAgg184
  z63 := Tryd.sizeOf184
  v63 := Tryd.zeroValue184
  t64 := Tryd.underlying185
  a64 := Tryd.isAgg185
  z64 := Tryd.sizeOf185
  v64 := Tryd.zeroValue185 }

/-- slices.Sort's two contracts at this dump, at the fence that asks nothing. -/
theorem Tryd.sorts58 (m : Nat) : AnyZ.SortsIn Tryd.prog Tryd.sorted58_ren Fence.wide m :=
  ⟨fun blk off cap ss W hH hblk hsz => callsIn_wide.2 (AnyM.slices_Sort_string Tryd.sort70 blk off cap ss W hH hblk hsz),
   fun p cap W => callsIn_wide.2 (AnyM.slices_Sort_string_none Tryd.sort70 p cap W)⟩

/-- maps.Keys[map[string]*consistory/simdisk.file,string,*consistory/simdisk.file], at whatever map, the nil one too: a function value over ONE NEW BLOCK, which holds the map. -/
theorem Tryd.maps_Keys_59 (mb : Option Nat) (W : World) : CallsIn Fence.wide 5 Tryd.prog 59 #[.map mb] W fun e w' => e = .returned (.func (.func 71) #[] #[.pointer (some ⟨W.heap.size, 0, none⟩)]) ∧ w' = W.alloc (.cells #[.map mb] 91) :=
  AnyZ.keys_in Tryd.keys59 Fence.wide 5 trivial rfl mb W

set_option maxHeartbeats 1000000 in
/-- slices.Sorted[string] AT WHAT maps.Keys[map[string]*consistory/simdisk.file,string,*consistory/simdisk.file] HANDED BACK FOR A MAP THAT IS NOT nil ('w': the world AHEAD of maps.Keys' call): A NEW SLICE THAT HOLDS THE MAP's KEYS, SORTED; nil just where it has none; nothing that lay before has turned. -/
theorem Tryd.slices_Sorted_keys_58_59 {H : Type} (b nn : Nat) (D0 : DataW H) (R : Value → Option (DataW H × List MemPlace)) (w : World) (hown : w.ownsMap Tryd.prog 9 R b nn D0) (hmax : Maps.size D0 ≤ maxLen) (hbytes : Maps.size D0 * 16 ≤ 140737488355328) :
    CallsIn Fence.wide 5 Tryd.prog 58 #[.func (.func 71) #[] #[.pointer (some ⟨w.heap.size, 0, none⟩)]] (w.alloc (.cells #[.map (some b)] 91)) fun e w' => ∃ (v : Value) (ss : List (List UInt8)), e = .returned v ∧ ss.Perm (strKeys D0) ∧
      w'.ownsRow (w.alloc (.cells #[.map (some b)] 91)).heap.size 9 1 v ss.length ((ss.mergeSort (fun x y => decide (x ≤ y))).map encStr) ∧ (v = .slice none 0 0 ↔ ss = []) ∧ Below (w.alloc (.cells #[.map (some b)] 91)).heap.size (w.alloc (.cells #[.map (some b)] 91)) w' := by
  have hbl := hown.lt
  have hseq : SeqGives Fence.wide 2 Tryd.prog 71 #[.pointer (some ⟨w.heap.size, 0, none⟩)] encStr (fun ss => ss.Perm (strKeys D0)) (Maps.size D0) (w.alloc (.cells #[.map (some b)] 91)) :=
    AnyZ.keys_gives (ρ := Tryd.keys59_ren) { Tryd.keys59 with } Fence.wide _ trivial rfl (by omega) w.heap.size b nn D0 _ (by simp) (by simp) (by
      obtain ⟨es, clock, hb, Ft, hs, hD⟩ := hown
      exact ⟨es, clock, (Below.heap_alloc _ _ b hbl).trans hb, Ft, hs, hD⟩)
  exact AnyZ.sorted_in Tryd.sorted58 Fence.wide 5 trivial trivial trivial trivial rfl (by omega) (Tryd.sorts58 _) (enters_of Tryd.func70 (by kernel_rfl) rfl) 71 #[.pointer (some ⟨w.heap.size, 0, none⟩)] trivial (enters_of Tryd.func71 (by kernel_rfl) rfl) _ _ hmax hbytes _ hseq

set_option maxHeartbeats 1000000 in
/-- .. AND FOR THE nil MAP: nil. -/
theorem Tryd.slices_Sorted_keys_nil_58_59 (w : World) :
    CallsIn Fence.wide 5 Tryd.prog 58 #[.func (.func 71) #[] #[.pointer (some ⟨w.heap.size, 0, none⟩)]] (w.alloc (.cells #[.map none] 91)) fun e w' => ∃ (v : Value) (ss : List (List UInt8)), e = .returned v ∧ ss = [] ∧
      w'.ownsRow (w.alloc (.cells #[.map none] 91)).heap.size 9 1 v ss.length ((ss.mergeSort (fun x y => decide (x ≤ y))).map encStr) ∧ (v = .slice none 0 0 ↔ ss = []) ∧ Below (w.alloc (.cells #[.map none] 91)).heap.size (w.alloc (.cells #[.map none] 91)) w' := by
  have hseq : SeqGives Fence.wide 2 Tryd.prog 71 #[.pointer (some ⟨w.heap.size, 0, none⟩)] encStr (fun ss : List (List UInt8) => ss = []) 0 (w.alloc (.cells #[.map none] 91)) :=
    AnyZ.keys_gives_nil (ρ := Tryd.keys59_ren) { Tryd.keys59 with } Fence.wide _ trivial rfl w.heap.size _ (by simp) (by simp)
  exact AnyZ.sorted_in Tryd.sorted58 Fence.wide 5 trivial trivial trivial trivial rfl (by omega) (Tryd.sorts58 _) (enters_of Tryd.func70 (by kernel_rfl) rfl) 71 #[.pointer (some ⟨w.heap.size, 0, none⟩)] trivial (enters_of Tryd.func71 (by kernel_rfl) rfl) _ 0 (Nat.zero_le _) (by omega) _ hseq



end Go.Proofs
