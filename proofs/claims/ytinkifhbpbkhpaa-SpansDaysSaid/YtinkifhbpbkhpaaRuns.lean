namespace Go.Proofs.Ytinkifhbpbkhpaa
/-! The normal list of a set of days: plain. -/
abbrev SLr := List (Int × Int)
/-- day k joins a list -/
def addD (L : SLr) (k : Nat) : SLr :=
  match L.getLast? with
  | some s => if s.2 = k then L.dropLast ++ [(s.1, (k : Int) + 1)] else L ++ [((k : Int), (k : Int) + 1)]
  | none => [((k : Int), (k : Int) + 1)]
def runsTo (f : Nat → Bool) : Nat → SLr
  | 0 => []
  | k + 1 => if f k then addD (runsTo f k) k else runsTo f k
def runsL (f : Nat → Bool) : SLr := runsTo f 1024

theorem runsTo_congr {f g : Nat → Bool} {k : Nat} (h : ∀ i, i < k → f i = g i) : runsTo f k = runsTo g k := by
  induction k with
  | zero => rfl
  | succ k ih =>
    simp only [runsTo]
    rw [ih (fun i hi => h i (by omega)), h k (by omega)]
theorem runsL_congr {f g : Nat → Bool} (h : ∀ i, i < 1024 → f i = g i) : runsL f = runsL g := runsTo_congr h

/-- what a list of runs up to k is like: in order, with gaps, the last ends at or before k -/
def NormL (L : SLr) (k : Nat) : Prop := (∀ s ∈ L, 0 ≤ s.1 ∧ s.1 < s.2 ∧ s.2 ≤ k) ∧ L.Pairwise (fun s t => s.2 < t.1)

theorem addD_len (L : SLr) (k : Nat) : (addD L k).length ≤ L.length + 1 := by
  unfold addD
  split
  · split <;> simp <;> omega
  · simp
theorem runsTo_len (f : Nat → Bool) (k : Nat) : (runsTo f k).length ≤ k := by
  induction k with
  | zero => simp [runsTo]
  | succ k ih =>
    simp only [runsTo]
    split
    · have := addD_len (runsTo f k) k; omega
    · omega

theorem addD_snoc (L : SLr) (s : Int × Int) (k : Nat) : addD (L ++ [s]) k = if s.2 = k then L ++ [(s.1, (k : Int) + 1)] else (L ++ [s]) ++ [((k : Int), (k : Int) + 1)] := by
  simp [addD]
theorem addD_nil (k : Nat) : addD [] k = [((k : Int), (k : Int) + 1)] := rfl

theorem normL_snoc {L : SLr} {s : Int × Int} {k : Nat} : NormL (L ++ [s]) k ↔ NormL L k ∧ 0 ≤ s.1 ∧ s.1 < s.2 ∧ s.2 ≤ k ∧ (∀ t ∈ L, t.2 < s.1) := by
  unfold NormL
  simp only [List.mem_append, List.mem_singleton, List.pairwise_append, List.pairwise_singleton, true_and]
  constructor
  · rintro ⟨h1, h2, h3⟩
    have := h1 s (Or.inr rfl)
    exact ⟨⟨fun t ht => h1 t (Or.inl ht), h2⟩, this.1, this.2.1, this.2.2, fun t ht => h3 t ht s rfl⟩
  · rintro ⟨⟨h1, h2⟩, a, b, c, d⟩
    refine ⟨?_, h2, ?_⟩
    · rintro t (ht | rfl)
      · exact h1 t ht
      · exact ⟨a, b, c⟩
    · rintro t ht _ rfl
      exact d t ht
theorem NormL.up {L : SLr} {k m : Nat} (h : NormL L k) (hk : k ≤ m) : NormL L m := ⟨fun s hs => by have := h.1 s hs; omega, h.2⟩
theorem cases_snoc (L : SLr) : L = [] ∨ ∃ M s, L = M ++ [s] := by
  rcases L.eq_nil_or_concat with h | ⟨M, s, h⟩
  · exact Or.inl h
  · exact Or.inr ⟨M, s, by simpa using h⟩
theorem normL_addD {L : SLr} {k : Nat} (h : NormL L k) : NormL (addD L k) (k + 1) := by
  rcases cases_snoc L with rfl | ⟨M, s, rfl⟩
  · rw [addD_nil]
    exact ⟨fun s hs => by simp at hs; subst hs; refine ⟨by simp, by simp; omega, by simp⟩, by simp⟩
  · rw [addD_snoc]
    obtain ⟨h1, h2, h3, h4, h5⟩ := normL_snoc.1 h
    split
    · exact normL_snoc.2 ⟨h1.up (by omega), h2, by simp; omega, by simp, h5⟩
    · exact normL_snoc.2 ⟨h.up (by omega), by simp, by simp; omega, by simp, fun t ht => by
        simp only [List.mem_append, List.mem_singleton] at ht
        rcases ht with ht | rfl
        · have := h5 t ht; have := h1.1 t ht; simp; omega
        · simp; omega⟩
theorem normL_runsTo (f : Nat → Bool) (k : Nat) : NormL (runsTo f k) k := by
  induction k with
  | zero => exact ⟨fun s hs => by simp [runsTo] at hs, by simp [runsTo]⟩
  | succ k ih =>
    simp only [runsTo]
    split
    · exact normL_addD ih
    · exact ih.up (by omega)

def anyR (L : SLr) (d : Int) : Bool := L.any fun s => decide (s.1 ≤ d) && decide (d < s.2)
theorem anyR_snoc (L : SLr) (s : Int × Int) (d : Int) : anyR (L ++ [s]) d = (anyR L d || (decide (s.1 ≤ d) && decide (d < s.2))) := by simp [anyR]
theorem anyR_addD {L : SLr} {k : Nat} (h : NormL L k) (d : Nat) : anyR (addD L k) d = (anyR L d || decide (d = k)) := by
  rw [Bool.eq_iff_iff]
  rcases cases_snoc L with rfl | ⟨M, s, rfl⟩
  · rw [addD_nil]; simp [anyR]; omega
  · rw [addD_snoc]
    obtain ⟨h1, h2, h3, h4, h5⟩ := normL_snoc.1 h
    split
    · rw [anyR_snoc, anyR_snoc]
      cases anyR M d
      · simp; omega
      · simp
    · rw [anyR_snoc, anyR_snoc]
      cases anyR M d
      · simp; omega
      · simp
theorem anyR_runsTo (f : Nat → Bool) (k d : Nat) : anyR (runsTo f k) d = (decide (d < k) && f d) := by
  induction k with
  | zero => simp [runsTo, anyR]
  | succ k ih =>
    simp only [runsTo]
    split
    · rename_i hf
      rw [anyR_addD (normL_runsTo f k), ih]
      by_cases e : d = k
      · subst e; simp [hf]
      · by_cases h : d < k
        · simp [h, e, show d < k + 1 by omega]
        · simp [h, e, show ¬ d < k + 1 by omega]
    · rename_i hf
      rw [ih]
      by_cases e : d = k
      · subst e; simp [hf]
      · by_cases h : d < k
        · simp [h, show d < k + 1 by omega]
        · simp [h, show ¬ d < k + 1 by omega]
theorem runsTo_nil {f : Nat → Bool} {k : Nat} (h : ∀ i, i < k → f i = false) : runsTo f k = [] := by
  induction k with
  | zero => rfl
  | succ k ih => simp only [runsTo]; rw [h k (by omega), ih (fun i hi => h i (by omega))]; rfl
theorem runsTo_nil_iff {f : Nat → Bool} {k : Nat} : runsTo f k = [] ↔ ∀ i, i < k → f i = false := by
  constructor
  · intro h i hi
    have := anyR_runsTo f k i
    rw [h] at this
    simpa [anyR, hi] using this.symm
  · exact runsTo_nil
/-- a whole run at once: the program's way -/
theorem runsTo_run {f : Nat → Bool} {m n : Nat} (hlast : ∀ s ∈ runsTo f m, s.2 < m) (hmn : m < n) (hf : ∀ i, m ≤ i → i < n → f i = true) : runsTo f n = runsTo f m ++ [((m : Int), (n : Int))] := by
  obtain ⟨j, rfl⟩ : ∃ j, n = m + 1 + j := ⟨n - (m + 1), by omega⟩
  clear hmn
  induction j with
  | zero =>
    simp only [Nat.add_zero, runsTo]
    rw [hf m (by omega) (by omega), if_pos rfl]
    rcases cases_snoc (runsTo f m) with h | ⟨M, s, h⟩
    · rw [h]; rw [addD_nil]; simp
    · rw [h, addD_snoc]
      have := hlast s (by rw [h]; simp)
      rw [if_neg (by omega)]; simp
  | succ j ih =>
    have ih' := ih (fun i h1 h2 => hf i h1 (by omega))
    have : m + 1 + (j + 1) = (m + 1 + j) + 1 := by omega
    rw [this]
    simp only [runsTo]
    rw [hf (m + 1 + j) (by omega) (by omega), if_pos rfl, ih', addD_snoc, if_pos (by simp)]
    simp
theorem runsTo_off {f : Nat → Bool} {k : Nat} (h : f k = false) : runsTo f (k + 1) = runsTo f k := by simp [runsTo, h]

#print axioms runsTo_run
end Go.Proofs.Ytinkifhbpbkhpaa
