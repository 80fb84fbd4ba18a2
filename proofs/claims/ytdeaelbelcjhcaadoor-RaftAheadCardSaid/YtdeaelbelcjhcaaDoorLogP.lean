/- Plain laws of logs: prefixes of one log; a Merge that fits. -/
import Derived.Test.YtdeaelbelcjhcaaDoorLogM
namespace Go.Proofs.YtdeaelbelcjhcaaDoor
open Go.RowKit

theorem Lg.fits_cond (g : Lg) (commit p : Int) (l : List En) (k : Nat) (e : En) (h : l[k]? = some e) (hk : k < g.fits commit p l) :
    p + k ≤ g.last ∧ (p + k ≤ commit ∨ g.at (p + k) = e.term) := by
  rcases Classical.em (p + k ≤ g.last ∧ (p + k ≤ commit ∨ g.at (p + k) = e.term)) with hc | hc
  · exact hc
  · have := (g.fits_step commit p l k e h (by omega)).2 hc
    omega

theorem at_take (L : List En) (k : Nat) (i : Int) (h0 : 1 ≤ i) (h1 : i ≤ k) : (⟨0, 0, L.take k⟩ : Lg).at i = (⟨0, 0, L⟩ : Lg).at i := by
  have hn : ¬ (i = 0) := by omega
  simp only [Lg.at, if_neg hn]
  rw [List.getElem?_take_of_lt (by omega)]

theorem at_es (L : List En) (b t : Int) (j : Nat) (e : En) (h : L[j]? = some e) : (⟨b, t, L⟩ : Lg).at (b + 1 + (j : Int)) = e.term := by
  have hn : ¬ (b + 1 + (j : Int) = b) := by omega
  have e1 : (b + 1 + (j : Int) - b - 1).toNat = j := by omega
  simp only [Lg.at, if_neg hn, e1, h]
  rfl

theorem fits_pref (L : List En) (k p n : Nat) (hp : p ≤ k) (hk : k ≤ L.length) :
    (⟨0, 0, L.take k⟩ : Lg).fits 0 ((p : Int) + 1) ((L.drop p).take n) = min ((L.drop p).take n).length (k - p) := by
  have hlast : (⟨0, 0, L.take k⟩ : Lg).last = (k : Int) := by simp [Lg.last]; omega
  generalize hf : (⟨0, 0, L.take k⟩ : Lg).fits 0 ((p : Int) + 1) ((L.drop p).take n) = f
  have hle := (⟨0, 0, L.take k⟩ : Lg).fits_le 0 ((p : Int) + 1) ((L.drop p).take n)
  rw [hf] at hle
  have hlen : ((L.drop p).take n).length = min n (L.length - p) := by simp
  have up : f ≤ k - p := by
    rcases Nat.lt_or_ge (k - p) f with hlt | hge
    · obtain ⟨e, he⟩ : ∃ e, ((L.drop p).take n)[k - p]? = some e := ⟨_, List.getElem?_eq_getElem (by omega)⟩
      have := (⟨0, 0, L.take k⟩ : Lg).fits_cond 0 ((p : Int) + 1) _ (k - p) e he (by omega)
      rw [hlast] at this
      omega
    · exact hge
  rcases Nat.lt_or_ge f (min ((L.drop p).take n).length (k - p)) with hlt | hge
  · obtain ⟨e, he⟩ : ∃ e, ((L.drop p).take n)[f]? = some e := ⟨_, List.getElem?_eq_getElem (by omega)⟩
    have hs := (⟨0, 0, L.take k⟩ : Lg).fits_step 0 ((p : Int) + 1) _ f e he (by omega)
    have he' : L[p + f]? = some e := by
      rw [List.getElem?_take_of_lt (by omega), List.getElem?_drop] at he
      exact he
    have hat : (⟨0, 0, L.take k⟩ : Lg).at ((p : Int) + 1 + (f : Int)) = e.term := by
      rw [at_take L k _ (by omega) (by omega)]
      have := at_es L 0 0 (p + f) e he'
      have e1 : (0 : Int) + 1 + ((p + f : Nat) : Int) = (p : Int) + 1 + (f : Int) := by omega
      rwa [e1] at this
    have := hs.1 ⟨by rw [hlast]; omega, .inr hat⟩
    omega
  · omega

theorem laid_pref (L : List En) (k p n : Nat) (hp : p ≤ k) (hk : k ≤ L.length) :
    (⟨0, 0, L.take k⟩ : Lg).laid (p : Int) ((L.drop p).take n) 0 = ⟨0, 0, L.take (max k (p + ((L.drop p).take n).length))⟩ := by
  have hf := fits_pref L k p n hp hk
  have hlen : ((L.drop p).take n).length = min n (L.length - p) := by simp
  unfold Lg.laid
  rw [hf]
  split
  · rename_i he
    have : max k (p + ((L.drop p).take n).length) = k := by omega
    rw [this]
  · rename_i he
    have e1 : min ((L.drop p).take n).length (k - p) = k - p := by omega
    have e2 : max k (p + ((L.drop p).take n).length) = p + ((L.drop p).take n).length := by omega
    have e3 : ((p : Int) - (⟨0, 0, L.take k⟩ : Lg).base).toNat = p := by simp
    rw [e1, e2, e3]
    have e4 : p + (k - p) = k := by omega
    rw [e4]
    congr 1
    apply List.ext_getElem?
    intro i
    rcases Nat.lt_or_ge i k with hi | hi
    · rw [List.getElem?_append_left (by simp; omega), List.getElem?_take_of_lt hi, List.getElem?_take_of_lt hi, List.getElem?_take_of_lt (by omega)]
    · rw [List.getElem?_append_right (by simp; omega), List.getElem?_drop]
      have e5 : k - p + (i - (List.take k (List.take k L)).length) = i - p := by simp; omega
      rw [e5]
      rcases Nat.lt_or_ge i (p + ((L.drop p).take n).length) with hj | hj
      · rw [List.getElem?_take_of_lt (by omega), List.getElem?_take_of_lt hj, List.getElem?_drop]
        congr 1
        omega
      · rw [List.getElem?_eq_none (by omega), List.getElem?_eq_none (by simp; omega)]

/-- where a leader's entries fit they are there behind the Merge -/
theorem laid_hint (b t : Int) (xs ys : List En) (p : Nat) (hb : 0 ≤ b) (hp : b ≤ p) (hpl : (p : Int) ≤ b + xs.length) (hpy : p ≤ ys.length)
    (hat : (⟨b, t, xs⟩ : Lg).at p = (⟨0, 0, ys⟩ : Lg).at p) :
    (⟨b, t, xs⟩ : Lg).laid p (ys.drop p) b = { (⟨b, t, xs⟩ : Lg).laid p (ys.drop p) b with base := b, tm := t } ∧
    (ys.length : Int) ≤ ((⟨b, t, xs⟩ : Lg).laid p (ys.drop p) b).last ∧
    (((⟨b, t, xs⟩ : Lg).laid p (ys.drop p) b).last = (ys.length : Int) → ((⟨b, t, xs⟩ : Lg).laid p (ys.drop p) b).at (ys.length : Int) = (⟨0, 0, ys⟩ : Lg).at (ys.length : Int)) := by
  have hle := (⟨b, t, xs⟩ : Lg).fits_le b ((p : Int) + 1) (ys.drop p)
  have hlen : (ys.drop p).length = ys.length - p := by simp
  have hlast : (⟨b, t, xs⟩ : Lg).last = b + (xs.length : Int) := rfl
  unfold Lg.laid
  generalize hf : (⟨b, t, xs⟩ : Lg).fits b ((p : Int) + 1) (ys.drop p) = f at *
  have hcond : ∀ j e, j < f → ys[p + j]? = some e → (p : Int) + 1 + j ≤ b + xs.length ∧ (⟨b, t, xs⟩ : Lg).at ((p : Int) + 1 + j) = e.term := by
    intro j e hj he
    have := (⟨b, t, xs⟩ : Lg).fits_cond b ((p : Int) + 1) (ys.drop p) j e (by rw [List.getElem?_drop]; exact he) (by omega)
    rw [hlast] at this
    refine ⟨this.1, ?_⟩
    rcases this.2 with h | h
    · omega
    · exact h
  split
  · rename_i he
    refine ⟨rfl, ?_, ?_⟩
    · rw [hlast]
      rcases Nat.eq_or_lt_of_le hpy with h | h
      · omega
      · obtain ⟨e, hye⟩ : ∃ e, ys[p + (f - 1)]? = some e := ⟨_, List.getElem?_eq_getElem (by omega)⟩
        have := hcond (f - 1) e (by omega) hye
        omega
    · intro hl
      rcases Nat.eq_or_lt_of_le hpy with h | h
      · rw [← h]; exact hat
      · obtain ⟨e, hye⟩ : ∃ e, ys[p + (f - 1)]? = some e := ⟨_, List.getElem?_eq_getElem (by omega)⟩
        have := (hcond (f - 1) e (by omega) hye).2
        have e1 : (p : Int) + 1 + ((f - 1 : Nat) : Int) = (ys.length : Int) := by omega
        rw [e1] at this
        rw [this]
        have h2 := at_es ys 0 0 (p + (f - 1)) e hye
        have e2 : (0 : Int) + 1 + ((p + (f - 1) : Nat) : Int) = (ys.length : Int) := by omega
        rw [e2] at h2
        exact h2.symm
  · rename_i he
    have hfx : (p : Int) + f ≤ b + xs.length := by
      rcases Nat.eq_zero_or_pos f with h | h
      · omega
      · obtain ⟨e, hye⟩ : ∃ e, ys[p + (f - 1)]? = some e := ⟨_, List.getElem?_eq_getElem (by omega)⟩
        have := hcond (f - 1) e (by omega) hye
        omega
    have hl2 : (xs.take (((p : Int) - b).toNat + f) ++ (ys.drop p).drop f).length = ys.length - b.toNat := by
      simp; omega
    refine ⟨rfl, ?_, ?_⟩
    · simp only [Lg.last]
      rw [hl2]
      omega
    · intro _
      obtain ⟨e, hye⟩ : ∃ e, ys[ys.length - 1]? = some e := ⟨_, List.getElem?_eq_getElem (by omega)⟩
      have h2 := at_es ys 0 0 (ys.length - 1) e hye
      have e2 : (0 : Int) + 1 + ((ys.length - 1 : Nat) : Int) = (ys.length : Int) := by omega
      rw [e2] at h2
      rw [h2]
      have hx : (xs.take (((p : Int) - b).toNat + f) ++ (ys.drop p).drop f)[ys.length - 1 - b.toNat]? = some e := by
        rw [List.getElem?_append_right (by simp; omega), List.getElem?_drop, List.getElem?_drop, ← hye]
        congr 1
        simp
        omega
      have h3 := at_es _ b t _ e hx
      have e3 : b + 1 + ((ys.length - 1 - b.toNat : Nat) : Int) = (ys.length : Int) := by omega
      rw [e3] at h3
      exact h3
end Go.Proofs.YtdeaelbelcjhcaaDoor
