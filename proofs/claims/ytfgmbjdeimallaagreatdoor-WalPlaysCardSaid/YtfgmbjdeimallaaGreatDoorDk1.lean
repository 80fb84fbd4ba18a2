/- The disk's files in memory, and the disk as plain data. -/
import Derived.Test.YtfgmbjdeimallaaGreatDoorMp
import Derived.Test.YtfgmbjdeimallaaGreatDoorOg

namespace Go.Proofs.YtfgmbjdeimallaaGreatDoor
open Go.RowKit Go.Lib

/-- a file as plain data: its bytes, how many of them are sure -/
structure Fil where
  b : List UInt8
  sure : Nat
/-- a file in memory: its block, its bytes' slice -/
structure FlM extends Fil where
  fb : Nat
  ao : Option Addr
  c : Nat
/-- the files as plain data -/
def fils (fl : List (List UInt8 × FlM)) : List (List UInt8 × Fil) := fl.map fun f => (f.1, f.2.toFil)
/-- the disk's map -/
def ptrs (fl : List (List UInt8 × FlM)) : List (List UInt8 × Value) := fl.map fun f => (f.1, Value.pointer (some ⟨f.2.fb, 0, none⟩))
/-- the blocks of a file -/
def FlM.feet (f : FlM) : List Nat := f.fb :: blks f.ao
def feet (mb : Nat) (fl : List (List UInt8 × FlM)) : List Nat := mb :: fl.flatMap fun f => f.2.feet

theorem mem_feet {mb x : Nat} {fl : List (List UInt8 × FlM)} : x ∈ feet mb fl ↔ x = mb ∨ ∃ f ∈ fl, x ∈ f.2.feet := by
  simp [feet]

structure FileAt (w : World) (f : FlM) : Prop where
  blk : Blk w f.fb 79 #[.slice f.ao f.b.length f.c, .int .i64 (f.sure : Nat)]
  own : OwnG w f.ao f.c f.b
  sure : f.sure ≤ f.b.length
  most : f.b.length ≤ 1048576
structure FilesAt (w : World) (mb : Nat) (fl : List (List UInt8 × FlM)) : Prop where
  map : MapAt w mb (ptrs fl)
  file : ∀ f ∈ fl, FileAt w f.2
  apart : ∀ f ∈ fl, ∀ g ∈ fl, f.1 ≠ g.1 → f.2.fb ≠ g.2.fb ∧ ∀ x ∈ blks f.2.ao, x ∉ blks g.2.ao

section
variable {w w' : World} {mb : Nat} {fl : List (List UInt8 × FlM)} {L : List Nat}
theorem FileAt.lt {f : FlM} (h : FileAt w f) : ∀ x ∈ f.feet, x < w.heap.size := by
  intro x hx
  rcases List.mem_cons.1 hx with rfl | hx
  · exact h.blk.lt
  · exact h.own.lt x hx
theorem FileAt.keep {f : FlM} (h : FileAt w f) (hk : Keeps L w w') (hL : ∀ x ∈ f.feet, x ∉ L) : FileAt w' f :=
  ⟨h.blk.keep hk (hL _ (.head _)), h.own.keep hk (fun x hx => hL x (.tail _ hx)), h.sure, h.most⟩
/-- the kinds of a file's blocks -/
theorem FileAt.kinds {f : FlM} (h : FileAt w f) : ∀ x ∈ f.feet, ∃ cs t, w.heap[x]? = some (.cells cs t (0, 0)) ∧ (t = 79 ∨ t = 5) := by
  intro x hx
  rcases List.mem_cons.1 hx with rfl | hx
  · exact ⟨_, _, h.blk, .inl rfl⟩
  · obtain ⟨cs, hc⟩ := h.own.bytes x hx
    exact ⟨cs, _, hc, .inr rfl⟩
theorem FilesAt.nodup (h : FilesAt w mb fl) : (fl.map (·.1)).Nodup := by
  have := h.map.nodup
  simpa [ptrs, Function.comp_def] using this
theorem FilesAt.lt (h : FilesAt w mb fl) : ∀ x ∈ feet mb fl, x < w.heap.size := by
  intro x hx
  rcases mem_feet.1 hx with rfl | ⟨f, hf, hx⟩
  · exact h.map.lt
  · exact (h.file f hf).lt x hx
theorem FilesAt.keep (h : FilesAt w mb fl) (hk : Keeps L w w') (hL : ∀ x ∈ feet mb fl, x ∉ L) : FilesAt w' mb fl :=
  ⟨h.map.keep hk (hL mb (mem_feet.2 (.inl rfl))), fun f hf => (h.file f hf).keep hk (fun x hx => hL x (mem_feet.2 (.inr ⟨f, hf, hx⟩))), h.apart⟩
theorem FilesAt.mb_off (h : FilesAt w mb fl) {f : List UInt8 × FlM} (hf : f ∈ fl) : mb ∉ f.2.feet := by
  intro hx
  obtain ⟨cs, t, h1, _⟩ := (h.file f hf).kinds mb hx
  obtain ⟨es, cl, h2, _⟩ := h.map
  rw [h1] at h2
  cases h2
theorem FileAt.ne_buf {f g : FlM} (h : FileAt w f) (k : FileAt w g) : f.fb ∉ blks g.ao := by
  intro hx
  obtain ⟨cs, hc⟩ := k.own.bytes _ hx
  have := h.blk
  unfold Blk at this
  rw [hc] at this
  simp only [Option.some.injEq, Obj.cells.injEq] at this
  exact absurd this.2.1 (by decide)
/-- two files have no block in common -/
theorem FilesAt.off (h : FilesAt w mb fl) {f g : List UInt8 × FlM} (hf : f ∈ fl) (hg : g ∈ fl) (hne : f.1 ≠ g.1) : ∀ x ∈ f.2.feet, x ∉ g.2.feet := by
  intro x hx hy
  obtain ⟨h1, h2⟩ := h.apart f hf g hg hne
  rcases List.mem_cons.1 hx with rfl | hx <;> rcases List.mem_cons.1 hy with e | hy
  · exact h1 e
  · exact (h.file f hf).ne_buf (h.file g hg) hy
  · subst e
    exact (h.file g hg).ne_buf (h.file f hf) hx
  · exact h2 x hx hy
theorem mem_mput_ne {α : Type} {s : List UInt8} {v : α} {x : List UInt8 × α} : ∀ {fs : List (List UInt8 × α)}, (fs.map (·.1)).Nodup → x ∈ mput s v fs → x = (s, v) ∨ (x ∈ fs ∧ x.1 ≠ s)
  | [], _, h => by simp [mput] at h; exact .inl h
  | f :: r, hn, h => by
    simp only [List.map_cons, List.nodup_cons] at hn
    unfold mput at h
    by_cases e : f.1 = s
    · rw [if_pos e] at h
      rcases List.mem_cons.1 h with h | h
      · exact .inl h
      · exact .inr ⟨.tail _ h, fun e2 => hn.1 (by rw [e, ← e2]; exact List.mem_map.2 ⟨x, h, rfl⟩)⟩
    · rw [if_neg e] at h
      rcases List.mem_cons.1 h with rfl | h
      · exact .inr ⟨.head _, e⟩
      · exact (mem_mput_ne hn.2 h).imp id fun ⟨a, b⟩ => ⟨.tail _ a, b⟩
theorem mput_self {α : Type} {s : List UInt8} {v : α} : ∀ {fs : List (List UInt8 × α)}, mget s fs = some v → mput s v fs = fs
  | [], h => by simp [mget] at h
  | f :: r, h => by
    unfold mget at h
    by_cases e : f.1 = s
    · rw [if_pos e] at h
      obtain rfl := Option.some.inj h
      subst e
      simp [mput]
    · rw [if_neg e] at h
      simp [mput, e, mput_self h]
theorem mem_mput_self {α : Type} {s : List UInt8} {v : α} : ∀ {fs : List (List UInt8 × α)}, (s, v) ∈ mput s v fs
  | [] => by simp [mput]
  | f :: r => by
    unfold mput
    split
    · exact .head _
    · exact .tail _ mem_mput_self
theorem mput_mem_of_ne {α : Type} {s : List UInt8} {v : α} {x : List UInt8 × α} : ∀ {fs : List (List UInt8 × α)}, x ∈ fs → x.1 ≠ s → x ∈ mput s v fs
  | [], h, _ => by simp at h
  | f :: r, h, hne => by
    unfold mput
    by_cases e : f.1 = s
    · rw [if_pos e]
      rcases List.mem_cons.1 h with rfl | h
      · exact absurd e hne
      · exact .tail _ h
    · rw [if_neg e]
      rcases List.mem_cons.1 h with rfl | h
      · exact .head _
      · exact .tail _ (mput_mem_of_ne h hne)
theorem ptrs_mput {n : List UInt8} {x : FlM} : ptrs (mput n x fl) = mput n (Value.pointer (some ⟨x.fb, 0, none⟩)) (ptrs fl) := (mput_map (fun y : FlM => Value.pointer (some ⟨y.fb, 0, none⟩)) fl).symm
theorem ptrs_mdel {n : List UInt8} : ptrs (mdel n fl) = mdel n (ptrs fl) := (mdel_map (fun y : FlM => Value.pointer (some ⟨y.fb, 0, none⟩)) fl).symm
theorem ptrs_mget {n : List UInt8} : mget n (ptrs fl) = (mget n fl).map fun y => Value.pointer (some ⟨y.fb, 0, none⟩) := mget_map (fun y : FlM => Value.pointer (some ⟨y.fb, 0, none⟩)) fl
theorem fils_mput {n : List UInt8} {x : FlM} : fils (mput n x fl) = mput n x.toFil (fils fl) := (mput_map (fun y : FlM => y.toFil) fl).symm
theorem fils_mdel {n : List UInt8} : fils (mdel n fl) = mdel n (fils fl) := (mdel_map (fun y : FlM => y.toFil) fl).symm
theorem fils_mget {n : List UInt8} : mget n (fils fl) = (mget n fl).map (·.toFil) := mget_map (fun y : FlM => y.toFil) fl
theorem ptrs_length : (ptrs fl).length = fl.length := by simp [ptrs]
theorem fils_length : (fils fl).length = fl.length := by simp [fils]

/-- a file turned, its block kept -/
theorem FilesAt.turn (h : FilesAt w mb fl) {n : List UInt8} {x x' : FlM} (hx : mget n fl = some x) (hfb : x'.fb = x.fb) (hk : Keeps x.feet w w') (hF : FileAt w' x') (hnew : ∀ y ∈ blks x'.ao, y ∈ blks x.ao ∨ w.heap.size ≤ y) : FilesAt w' mb (mput n x' fl) := by
  have hm := mget_mem hx
  have hp : ptrs (mput n x' fl) = ptrs fl := by
    rw [ptrs_mput, hfb, mput_self]
    rw [ptrs_mget, hx]
    rfl
  refine ⟨by rw [hp]; exact h.map.keep hk (h.mb_off hm), fun f hf => ?_, fun f hf g hg hne => ?_⟩
  · rcases mem_mput_ne h.nodup hf with rfl | ⟨hf, hfn⟩
    · exact hF
    · exact (h.file f hf).keep hk (h.off hf hm hfn)
  · rcases mem_mput_ne h.nodup hf with rfl | ⟨hf, hfn⟩ <;> rcases mem_mput_ne h.nodup hg with rfl | ⟨hg, hgn⟩
    · exact absurd rfl hne
    · obtain ⟨a1, a2⟩ := h.apart _ hm g hg (Ne.symm hgn)
      refine ⟨by rw [hfb]; exact a1, fun y hy hy2 => ?_⟩
      rcases hnew y hy with h1 | h1
      · exact a2 y h1 hy2
      · exact absurd ((h.file g hg).own.lt y hy2) (by omega)
    · obtain ⟨a1, a2⟩ := h.apart f hf _ hm hfn
      refine ⟨by rw [hfb]; exact a1, fun y hy hy2 => ?_⟩
      rcases hnew y hy2 with h1 | h1
      · exact a2 y hy h1
      · exact absurd ((h.file f hf).own.lt y hy) (by omega)
    · exact h.apart f hf g hg hne
/-- a file taken out -/
theorem FilesAt.del (h : FilesAt w mb fl) {n : List UInt8} (hk : Keeps [mb] w w') (hm : MapAt w' mb (mdel n (ptrs fl))) : FilesAt w' mb (mdel n fl) := by
  refine ⟨by rw [ptrs_mdel]; exact hm, fun f hf => (h.file f (mem_mdel hf)).keep hk (fun x hx => by simp; rintro rfl; exact h.mb_off (mem_mdel hf) hx), fun f hf g hg => h.apart f (mem_mdel hf) g (mem_mdel hg)⟩
/-- a file laid at a name: one that is new, or one that stood at no name of the list -/
theorem FilesAt.add (h : FilesAt w mb fl) {n : List UInt8} {x : FlM} (hk : Keeps [mb] w w') (hm : MapAt w' mb (mput n (Value.pointer (some ⟨x.fb, 0, none⟩)) (ptrs fl))) (hF : FileAt w' x) (hoff : ∀ f ∈ fl, f.1 ≠ n → ∀ y ∈ x.feet, y ∉ f.2.feet) : FilesAt w' mb (mput n x fl) := by
  refine ⟨by rw [ptrs_mput]; exact hm, fun f hf => ?_, fun f hf g hg hne => ?_⟩
  · rcases mem_mput_ne h.nodup hf with rfl | ⟨hf, hfn⟩
    · exact hF
    · exact (h.file f hf).keep hk (fun y hy => by simp; rintro rfl; exact h.mb_off hf hy)
  · rcases mem_mput_ne h.nodup hf with rfl | ⟨hf, hfn⟩ <;> rcases mem_mput_ne h.nodup hg with rfl | ⟨hg, hgn⟩
    · exact absurd rfl hne
    · have := hoff g hg hgn
      exact ⟨fun e => this _ (.head _) (by rw [show x.fb = g.2.fb from e]; exact .head _), fun y hy hy2 => this y (.tail _ hy) (.tail _ hy2)⟩
    · have := hoff f hf hfn
      exact ⟨fun e => this _ (.head _) (by rw [show x.fb = f.2.fb from e.symm]; exact .head _), fun y hy hy2 => this y (.tail _ hy2) (.tail _ hy)⟩
    · exact h.apart f hf g hg hne
end

/-- bytes of all files -/
def usedOf (fs : List (List UInt8 × Fil)) : Nat := (fs.map fun f => f.2.b.length).sum
/-- the disk as plain data -/
structure DSt where
  fs : List (List UInt8 × Fil)
  room : Nat
  count : Nat
  halt : Int
  off : Bool
/-- what may be said of it always -/
structure DSt.Ok (d : DSt) : Prop where
  used : usedOf d.fs ≤ d.room
  room : d.room ≤ 9223372036854775807
  few : d.fs.length ≤ 64
  name : ∀ f ∈ d.fs, f.1.length ≤ 40
  sure : ∀ f ∈ d.fs, f.2.sure ≤ f.2.b.length
  most : ∀ f ∈ d.fs, f.2.b.length ≤ 1048576
  halt : -1 ≤ d.halt ∧ d.halt ≤ 9223372036854775807
  nodup : (d.fs.map (·.1)).Nodup
/-- the disk in memory; L: its blocks -/
structure DiskAt (w : World) (L : List Nat) (db : Nat) (d : DSt) (mb : Nat) (fl : List (List UInt8 × FlM)) : Prop where
  blk : Blk w db 70 #[.map (some mb), .int .i64 (d.room : Nat), .int .i64 (usedOf d.fs : Nat), .int .i64 (d.count : Nat), .int .i64 d.halt, .bool d.off]
  files : FilesAt w mb fl
  fs : d.fs = fils fl
  feet : L = db :: feet mb fl
  ok : d.Ok
def Disk (w : World) (L : List Nat) (db : Nat) (d : DSt) : Prop := ∃ mb fl, DiskAt w L db d mb fl

section
variable {w w' : World} {db mb : Nat} {d : DSt} {fl : List (List UInt8 × FlM)} {L L' : List Nat}
theorem DiskAt.db_off (h : DiskAt w L db d mb fl) : db ∉ Go.Proofs.YtfgmbjdeimallaaGreatDoor.feet mb fl := by
  intro hx
  have hb := h.blk
  unfold Blk at hb
  rcases mem_feet.1 hx with rfl | ⟨f, hf, hx⟩
  · obtain ⟨es, cl, h2, _⟩ := h.files.map
    rw [hb] at h2
    cases h2
  · obtain ⟨cs, t, h1, ht⟩ := (h.files.file f hf).kinds _ hx
    rw [hb] at h1
    simp only [Option.some.injEq, Obj.cells.injEq] at h1
    rcases ht with rfl | rfl
    · exact absurd h1.2.1 (by decide)
    · exact absurd h1.2.1 (by decide)
theorem DiskAt.lt (h : DiskAt w L db d mb fl) : ∀ x ∈ L, x < w.heap.size := by
  intro x hx
  rw [h.feet] at hx
  rcases List.mem_cons.1 hx with rfl | hx
  · exact h.blk.lt
  · exact h.files.lt x hx
theorem Disk.lt (h : Disk w L db d) : ∀ x ∈ L, x < w.heap.size := by obtain ⟨mb, fl, h⟩ := h; exact h.lt
theorem Disk.ok (h : Disk w L db d) : d.Ok := by obtain ⟨mb, fl, h⟩ := h; exact h.ok
theorem Disk.mem_db (h : Disk w L db d) : db ∈ L := by obtain ⟨mb, fl, h⟩ := h; rw [h.feet]; exact .head _
theorem DiskAt.keep (h : DiskAt w L db d mb fl) (hk : Keeps L' w w') (hL : ∀ x ∈ L, x ∉ L') : DiskAt w' L db d mb fl :=
  ⟨h.blk.keep hk (hL db (by rw [h.feet]; exact .head _)), h.files.keep hk (fun x hx => hL x (by rw [h.feet]; exact .tail _ hx)), h.fs, h.feet, h.ok⟩
theorem Disk.keep (h : Disk w L db d) (hk : Keeps L' w w') (hL : ∀ x ∈ L, x ∉ L') : Disk w' L db d := by
  obtain ⟨mb, fl, h⟩ := h
  exact ⟨mb, fl, h.keep hk hL⟩
theorem Disk.keep0 (h : Disk w L db d) (hk : Keeps [] w w') : Disk w' L db d := h.keep hk (by simp)
/-- a block of another kind is none of the disk's -/
theorem Disk.off (h : Disk w L db d) {b : Nat} {t : TypeId} {cs : Array Value} (hB : Blk w b t cs) (h1 : t ≠ 70) (h2 : t ≠ 79) (h3 : t ≠ 5) : b ∉ L := by
  obtain ⟨mb, fl, h⟩ := h
  intro hx
  rw [h.feet] at hx
  rcases List.mem_cons.1 hx with rfl | hx
  · exact absurd rfl (hB.ne h.blk h1)
  rcases mem_feet.1 hx with rfl | ⟨f, hf, hx⟩
  · exact absurd rfl (h.files.map.ne_blk hB)
  · obtain ⟨cs', t', h4, h5⟩ := (h.files.file f hf).kinds _ hx
    unfold Blk at hB
    rw [hB] at h4
    simp only [Option.some.injEq, Obj.cells.injEq] at h4
    rcases h5 with rfl | rfl
    · exact h2 h4.2.1
    · exact h3 h4.2.1
end
end Go.Proofs.YtfgmbjdeimallaaGreatDoor
