/- What the disk's calls do on plain data: their results, counts; the files beside the wal's. -/
import Derived.Test.YtfgmbjdeimallaaGreatDoorDkZ
import Derived.Test.YtfgmbjdeimallaaGreatDoorDk9
import Derived.Test.YtfgmbjdeimallaaGreatDoorDkY

namespace Go.Proofs.YtfgmbjdeimallaaGreatDoor
open Go.RowKit Go.Lib

def DRes.isOk : DRes → Bool
  | .ok => true
  | _ => false
theorem DRes.isOk_true {r : DRes} (h : r.isOk = true) : r = .ok := by cases r <;> simp [DRes.isOk] at h ⊢
theorem DRes.isOk_ne {r : DRes} (h : r ≠ .ok) : r.isOk = false := by cases r <;> simp [DRes.isOk] at h ⊢
/-- an error that is none stands as another value than nil -/
theorem DE.form {w : World} {ev : Value} {r : DRes} (h : DE w ev r) : (r = .ok ∧ ev = .nilIface) ∨ ∃ t v, ev = .iface t v ∧ r ≠ .ok := by
  cases r with
  | ok => exact .inl ⟨rfl, h⟩
  | down => exact .inr ⟨_, _, h, by simp⟩
  | bad p c => obtain ⟨g, rfl, _⟩ := h; exact .inr ⟨_, _, rfl, by simp⟩
theorem remove_count (d : DSt) (n : List UInt8) : (d.remove n).1.count ≤ d.count + 1 := by
  unfold DSt.remove
  split
  · simp
  · split
    · simp
    · split <;> simp [DSt.fall, DSt.tick]
theorem append_count (d : DSt) (n b : List UInt8) : (d.append n b).1.count ≤ d.count + 1 := by
  unfold DSt.append
  simp only
  split
  · simp
  · split
    · simp
    · split
      · simp
      · split <;> simp [DSt.fall, DSt.tick]
theorem sync_count (d : DSt) (n : List UInt8) : (d.sync n).1.count ≤ d.count + 1 := by
  unfold DSt.sync
  split
  · simp
  · split
    · simp
    · split <;> simp [DSt.fall, DSt.tick]
theorem trunc_count (d : DSt) (n : List UInt8) (k : Int) : (d.trunc n k).1.count ≤ d.count + 1 := by
  unfold DSt.trunc
  split
  · simp
  · split
    · simp
    · split
      · simp
      · split <;> simp [DSt.fall, DSt.tick]
theorem rename_count (d : DSt) (n m : List UInt8) : (d.rename n m).1.count ≤ d.count + 1 := by
  unfold DSt.rename
  split
  · simp
  · split
    · simp
    · split
      · simp
      · split
        · simp [DSt.fall]
        · split <;> simp [DSt.tick]
theorem remove_res (d : DSt) (n : List UInt8) : (d.remove n).2 = .ok ∨ (d.remove n).2 = .down ∨ (d.remove n).2 = .bad n 30 := by
  unfold DSt.remove
  split
  · simp
  · split
    · simp
    · split <;> simp

/-- names of the wal's files -/
abbrev nmWal : List UInt8 := [119, 97, 108]
abbrev nmNew : List UInt8 := [119, 97, 108, 46, 110, 101, 119]
/-- the other files -/
def others {α : Type} (fs : List (List UInt8 × α)) : List (List UInt8 × α) := fs.filter fun f => !(f.1 == nmWal) && !(f.1 == nmNew)
theorem others_mput {α : Type} {n : List UInt8} {v : α} (hn : n = nmWal ∨ n = nmNew) : ∀ fs : List (List UInt8 × α), others (mput n v fs) = others fs
  | [] => by rcases hn with rfl | rfl <;> rfl
  | f :: r => by
    have ih := others_mput (v := v) hn r
    by_cases e : f.1 = n
    · have h : mput n v (f :: r) = (n, v) :: r := by simp [mput, e]
      rw [h]
      rcases hn with rfl | rfl <;> simp [others, e]
    · have h : mput n v (f :: r) = f :: mput n v r := by simp [mput, e]
      rw [h]
      unfold others at ih ⊢
      simp only [List.filter_cons, ih]
theorem others_mdel {α : Type} {n : List UInt8} (hn : n = nmWal ∨ n = nmNew) : ∀ fs : List (List UInt8 × α), others (mdel n fs) = others fs
  | [] => rfl
  | f :: r => by
    have ih := others_mdel hn r
    by_cases e : f.1 = n
    · have h : mdel n (f :: r) = r := by simp [mdel, e]
      rw [h]
      rcases hn with rfl | rfl <;> simp [others, e]
    · have h : mdel n (f :: r) = f :: mdel n r := by simp [mdel, e]
      rw [h]
      unfold others at ih ⊢
      simp only [List.filter_cons, ih]
/-- how many bytes a file has -/
def lenOf (n : List UInt8) (fs : List (List UInt8 × Fil)) : Nat := ((mget n fs).getD ⟨[], 0⟩).b.length
theorem others_used {fs : List (List UInt8 × Fil)} (hn : (fs.map (·.1)).Nodup) : usedOf fs = usedOf (others fs) + lenOf nmWal fs + lenOf nmNew fs := by
  have h1 := usedOf_mdel (n := nmWal) (fs := fs)
  have h2 := usedOf_mdel (n := nmNew) (fs := mdel nmWal fs)
  rw [mget_mdel hn, if_neg (by decide)] at h2
  have h3 : others fs = mdel nmNew (mdel nmWal fs) := by
    rw [← others_mdel (.inl rfl) fs, ← others_mdel (.inr rfl) (mdel nmWal fs)]
    unfold others
    refine List.filter_eq_self.2 fun f hf => ?_
    have a := mem_mdel_ne (nodup_mdel hn) hf
    have b := mem_mdel_ne hn (mem_mdel hf)
    simp [a, b]
  rw [h3]
  unfold lenOf
  omega
theorem others_length {fs : List (List UInt8 × Fil)} (hn : (fs.map (·.1)).Nodup) : fs.length ≤ (others fs).length + 2 := by
  have h3 : others fs = mdel nmNew (mdel nmWal fs) := by
    rw [← others_mdel (.inl rfl) fs, ← others_mdel (.inr rfl) (mdel nmWal fs)]
    unfold others
    refine List.filter_eq_self.2 fun f hf => ?_
    have a := mem_mdel_ne (nodup_mdel hn) hf
    have b := mem_mdel_ne hn (mem_mdel hf)
    simp [a, b]
  rw [h3]
  have e1 := congrArg List.length (keys_mdel (s := nmNew) (mdel nmWal fs))
  have e2 := congrArg List.length (keys_mdel (s := nmWal) fs)
  simp only [List.length_map] at e1 e2
  rw [List.length_erase] at e1 e2
  simp only [List.length_map] at e1 e2
  split at e1 <;> split at e2 <;> omega
/-- a crash leaves the other files, if they are sure -/
theorem others_crash {d : DSt} {keep : List Int} (h : ∀ f ∈ others d.fs, f.2.sure = f.2.b.length) : others (d.crash keep).fs = others d.fs := by
  have key : ∀ (g : List UInt8 → Nat) (fs : List (List UInt8 × Fil)), (∀ f ∈ others fs, f.2.sure = f.2.b.length) → others (fs.map fun f => (f.1, crashF keep (g f.1) f.2)) = others fs := by
    intro g fs
    induction fs with
    | nil => intro _; rfl
    | cons f r ih =>
      intro h
      unfold others at *
      simp only [List.map_cons, List.filter_cons] at h ⊢
      by_cases hp : (!(f.1 == nmWal) && !(f.1 == nmNew)) = true
      · rw [if_pos hp] at h ⊢
        rw [if_pos hp, ih (fun x hx => h x (.tail _ hx))]
        have hf := h f (.head _)
        congr 1
        refine Prod.ext rfl ?_
        simp only [crashF, hf, Nat.sub_self]
        have : ∀ k : Int, min (max k 0) 0 = 0 := fun k => by omega
        cases hx : f.2 with
        | mk b s =>
          rw [hx] at hf
          simp only at hf
          subst hf
          split <;> simp [this]
      · rw [if_neg hp] at h ⊢
        rw [if_neg hp]
        exact ih h
  exact key (fun n => d.names.idxOf n) d.fs h
theorem crash_get (d : DSt) (keep : List Int) (n : List UInt8) : mget n (d.crash keep).fs = (mget n d.fs).map (crashF keep (d.names.idxOf n)) := mget_map2 (fun m f => crashF keep (d.names.idxOf m) f) n d.fs
theorem crash_nodup {d : DSt} {keep : List Int} (h : (d.fs.map (·.1)).Nodup) : ((d.crash keep).fs.map (·.1)).Nodup := by
  have : (d.crash keep).fs.map (·.1) = d.fs.map (·.1) := by simp [DSt.crash, Function.comp_def]
  rw [this]
  exact h
end Go.Proofs.YtfgmbjdeimallaaGreatDoor
