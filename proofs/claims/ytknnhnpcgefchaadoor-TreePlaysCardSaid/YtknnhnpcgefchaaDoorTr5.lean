/- bytes.Compare; slices.BinarySearchFunc of pairs and of nodes. -/
import Derived.Test.YtknnhnpcgefchaaDoorTr3
import Derived.Test.YtknnhnpcgefchaaDoorLaws2
import Derived.Lib.UnsafeStr
import Derived.Lib.Bytealg

namespace Go.Proofs.YtknnhnpcgefchaaDoor
open Go.RowKit Go.Lib

theorem cmpL_lib : ∀ a b : Bs, compareBytes a b = cmpL a b
  | [], [] => rfl
  | [], _ :: _ => rfl
  | _ :: _, [] => rfl
  | a :: l, b :: m => by unfold compareBytes cmpL; rw [cmpL_lib l m]
theorem run_loadX (w : World) : ∀ (l : Bs) (a : Addr) (acc : ByteArray), (∀ j x, l[j]? = some x → w.cell? (a.add j) = some (.int .u8 x.toNat)) →
    (Extern.Bytes.loadBytes a l.length acc).run Tryd.prog w = .ok ⟨acc.data ++ l.toArray⟩ w
  | [], a, acc, _ => by simp [Extern.Bytes.loadBytes]
  | x :: l, a, acc, h => by
    have h0 : w.cell? a = some (.int .u8 x.toNat) := by
      have := h 0 x rfl
      simpa [Addr.add] using this
    have ih := run_loadX w l (a.add 1) (acc.push x) (fun j y hy => by
      have := h (j + 1) y (by simpa using hy)
      have e : (a.add 1).add j = a.add (j + 1) := by
        unfold Addr.add
        by_cases hj : j = 0
        · subst hj; simp
        · simp [hj]; omega
      rw [e]; exact this)
    have hx : ((x.toNat : Int).toNat).toUInt8 = x := by simp
    simp only [List.length_cons, Extern.Bytes.loadBytes, Sem.run_bind, run_load, h0, Result.andThen, hx]
    rw [ih]
    congr 1
    apply ByteArray.ext
    simp [ByteArray.push]
theorem run_bytesOf {w : World} {ao : Option Addr} {c : Nat} {l : Bs} (h : Rb w ao c l) : (Extern.Bytes.bytesOf (.slice ao l.length c)).run Tryd.prog w = .ok ⟨l.toArray⟩ w := by
  cases ao with
  | none =>
    have hc := h.nil rfl
    have hcap := h.cap
    obtain rfl : l = [] := List.eq_nil_of_length_eq_zero (by omega)
    rfl
  | some ad =>
    have := run_loadX w l ad .empty fun j x hj => h.cells rfl j _ (by simp [bys, hj])
    simpa [Extern.Bytes.bytesOf] using this
theorem run_compare {w : World} {ao bo : Option Addr} {c d : Nat} {l m : Bs} (h : Rb w ao c l) (h' : Rb w bo d m) :
    (Extern.BytealgCompare.compare #[.slice ao l.length c, .slice bo m.length d]).run Tryd.prog w = .ok (.int .i64 (cmpL l m)) w := by
  change Sem.run Tryd.prog (do pure (goInt (Extern.BytealgCompare.cmp (← Extern.Bytes.bytesOf (.slice ao l.length c)) (← Extern.Bytes.bytesOf (.slice bo m.length d))))) w = _
  simp only [Sem.run_bind, run_bytesOf h, run_bytesOf h', Result.andThen, Sem.run_pure]
  rw [cmp_eq, cmpL_lib]
  rfl
theorem bcompare {w : World} {ao bo : Option Addr} {c d : Nat} {l m : Bs} (h : Rb w ao c l) (h' : Rb w bo d m) :
    Calls Tryd.prog 43 #[.slice ao l.length c, .slice bo m.length d] w fun e w' => e = .returned (.int .i64 (cmpL l m)) ∧ w' = w := by
  have hc : (callFunc 62 #[.slice ao l.length c, .slice bo m.length d]).run Tryd.prog w = .ok (.value (.int .i64 (cmpL l m))) w := by
    rw [run_callFunc_extern Tryd.func62 (by kernel_rfl) (by kernel_rfl) (by kernel_rfl) (e := Extern.BytealgCompare.compare) (by kernel_rfl), run_compare h h']
    rfl
  go_enter Tryd.func43, Tryd.ntmps43
  go_wp2_with (simp only [hc])
  go_ret
  exact ⟨rfl, rfl⟩

/-- a key and its bytes, as two cells -/
structure Pr where
  ka : Option Addr
  kc : Nat
  va : Option Addr
  vc : Nat
  k : Bs
  v : Bs
abbrev Pr.cells (p : Pr) : Array Value := #[.slice p.ka p.k.length p.kc, .slice p.va p.v.length p.vc]
def PrAt (w : World) (p : Pr) : Prop := Rb w p.ka p.kc p.k ∧ Rb w p.va p.vc p.v
theorem PrAt.keep0 {w w' : World} {p : Pr} (h : PrAt w p) (hk : Keeps [] w w') : PrAt w' p := ⟨h.1.keep0 hk, h.2.keep0 hk⟩

/-- the closure that holds a pair's key against another -/
theorem at_cmp {w : World} {p : Pr} {ko : Option Addr} {kc : Nat} {k : Bs} (hp : PrAt w p) (hk : Rb w ko kc k) :
    Calls Tryd.prog 45 #[.agg p.cells, .slice ko k.length kc] w fun e w' => e = .returned (.int .i64 (cmpL p.k k)) ∧ Keeps [] w w' := by
  have hX := Blk.fresh w 64 p.cells
  have hk1 := (Keeps.refl [] w).alloc (.cells p.cells 64)
  have hcx := hX.cell
  have hc := bcompare (hp.1.keep0 hk1) (hk.keep0 hk1)
  go_enter Tryd.func45, Tryd.ntmps45
  go_wp2_with fail
  refine hc.mono ?_
  rintro e w' ⟨rfl, hw⟩
  obtain rfl := hw.symm
  go_wp2_with fail
  go_ret
  exact ⟨rfl, hk1⟩
theorem child_cmp {w : World} {b fc : Nat} {fo : Option Addr} {f : Bs} {v1 v2 : Value} {ko : Option Addr} {kc : Nat} {k : Bs} (hB : Blk w b 55 #[.slice fo f.length fc, v1, v2]) (hf : Rb w fo fc f) (hk : Rb w ko kc k) :
    Calls Tryd.prog 42 #[.pointer (some ⟨b, 0, none⟩), .slice ko k.length kc] w fun e w' => e = .returned (.int .i64 (cmpL f k)) ∧ w' = w := by
  have hc := bcompare hf hk
  have hcx := hB.cell
  have hl := hB.lt
  go_enter Tryd.func42, Tryd.ntmps42
  go_wp2_with fail
  refine hc.mono ?_
  rintro e w' ⟨rfl, hw⟩
  obtain rfl := hw.symm
  go_wp2_with fail
  go_ret
  exact ⟨rfl, rfl⟩
end Go.Proofs.YtknnhnpcgefchaaDoor
