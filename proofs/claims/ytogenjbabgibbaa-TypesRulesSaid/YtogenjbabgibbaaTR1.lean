import Derived.Test.YtogenjbabgibbaaKL3
namespace Go.Proofs.Ytogenjbabgibbaa
open Go.RowKit
/-- the value of a term, where it is there -/
def valT? (nf : Nat) (L : List (List Int)) (t : TermD) : Option Int := if t.var < 0 then some t.n else if t.var < nf ∧ 0 ≤ t.field then (match L[t.var.toNat]? with | some l => l[t.field.toNat]? | none => none) else none
/-- the values of the first k variables are of the types of their fields -/
def VL (s : SourceD) (fs : List FromD) (L : List (List Int)) (k : Nat) : Prop :=
  ∀ j, j < k → ∃ f l, fs[j]? = some f ∧ L[j]? = some l ∧ (l.length : Int) = headLen s f.schema ∧ ∀ (m : Nat) v, l[m]? = some v → valueB s f.schema m v = true
theorem VL.zero {s : SourceD} {fs : List FromD} {L : List (List Int)} : VL s fs L 0 := fun j hj => absurd hj (Nat.not_lt_zero j)
theorem VL.succ {s : SourceD} {fs : List FromD} {L : List (List Int)} {k : Nat} (h : VL s fs L k) {f : FromD} {l : List Int} (hf : fs[k]? = some f) (hl : L[k]? = some l) (hn : (l.length : Int) = headLen s f.schema)
    (hv : ∀ (m : Nat) v, l[m]? = some v → valueB s f.schema m v = true) : VL s fs L (k + 1) := fun j hj => by
  by_cases e : j = k
  · subst e; exact ⟨f, l, hf, hl, hn, hv⟩
  · exact h j (by omega)
theorem typeOf?_len {s : SourceD} {i j : Int} {t : TyD} (h : typeOf? s i j = some t) : 0 ≤ i ∧ 0 ≤ j ∧ j < headLen s i := by
  obtain ⟨h1, h2, h3, hl, h4⟩ := typeOf?_there (s := s) (i := i) (j := j) (by rw [h]; simp)
  refine ⟨h1, h3, ?_⟩
  unfold headLen
  rw [List.getElem?_eq_getElem hl]
  exact h4
theorem typeOf?_pos {s : SourceD} {i j : Int} {t : TyD} (h : typeOf? s i j = some t) : 0 ≤ i ∧ 0 ≤ j := by
  unfold typeOf? at h
  split at h
  · assumption
  · cases h
theorem valueB_at {s : SourceD} {i j v : Int} {t : TyD} (ht : typeOf? s i j = some t) (h : valueB s i j v = true) : t.lo ≤ v ∧ v ≤ t.hi := by
  unfold valueB at h
  rw [ht] at h
  simp only [Bool.and_eq_true, decide_eq_true_eq] at h
  exact h.2
theorem term_val {s : SourceD} {fs : List FromD} {L : List (List Int)} {k : Nat} (hv : VL s fs L k) {t : TermD} {n : Int} (hn : n ≤ k) {y : TyD} (h : termTy? s fs t n = some y) :
    ∃ v, valT? fs.length L t = some v ∧ y.lo ≤ v ∧ v ≤ y.hi ∧ 0 ≤ t.var := by
  unfold termTy? at h
  split at h
  · next h0 =>
    split at h
    · next f hf =>
      obtain ⟨f', l, hf', hl, hlen, hall⟩ := hv t.var.toNat (by omega)
      rw [hf] at hf'
      cases hf'
      obtain ⟨_, h1, h2⟩ := typeOf?_len h
      rw [← hlen] at h2
      have hlt : t.field.toNat < l.length := by omega
      have hv1 := hall t.field.toNat _ (List.getElem?_eq_getElem hlt)
      rw [Int.toNat_of_nonneg h1] at hv1
      have hb := valueB_at h hv1
      have hfl := (List.getElem?_eq_some_iff.1 hf).1
      refine ⟨l[t.field.toNat], ?_, hb.1, hb.2, h0.1⟩
      unfold valT?
      rw [if_neg (by omega), if_pos ⟨by omega, h1⟩, hl]
      exact List.getElem?_eq_getElem hlt
    · cases h
  · cases h
theorem num_val {t : TermD} (nf : Nat) (L : List (List Int)) (h : isNumB t = true) : valT? nf L t = some t.n ∧ t.var < 0 := by
  unfold isNumB at h
  simp only [Bool.and_eq_true, decide_eq_true_eq] at h
  unfold valT?
  rw [if_pos (by omega)]
  exact ⟨rfl, by omega⟩
theorem set_val {s : SourceD} (hg : Good s) {r : RuleD} {L : List (List Int)} (hv : VL s r.froms L r.froms.length) {x : SetD} (h : setIn s r x = true) :
    ∃ v, valT? r.froms.length L x.term = some v ∧ 1 ≤ x.field ∧ valueB s r.schema x.field v = true := by
  unfold setIn at h
  cases ht : typeOf? s r.schema x.field with
  | none => rw [ht] at h; cases h
  | some fd =>
    rw [ht] at h
    simp only [Bool.and_eq_true] at h
    have h0 := typeOf?_pos ht
    have hf : 1 ≤ x.field := by have := h.1; simp at this; omega
    have hk := hg _ _ _ ht
    have fin : ∀ v, fd.lo ≤ v → v ≤ fd.hi → valueB s r.schema x.field v = true := fun v h1 h2 => by
      unfold valueB
      rw [ht]
      simp [hk, h1, h2]
    have h2 := h.2
    unfold setB at h2
    split at h2
    · next hn =>
      simp only [Bool.and_eq_true, decide_eq_true_eq] at h2
      exact ⟨_, (num_val _ _ hn).1, hf, fin _ h2.1 h2.2⟩
    · split at h2
      · next y hy =>
        obtain ⟨v, h3, h4, h5, _⟩ := term_val hv (Int.le_refl _) hy
        unfold inTy at h2
        simp only [Bool.and_eq_true, decide_eq_true_eq] at h2
        exact ⟨v, h3, hf, fin v (by omega) (by omega)⟩
      · cases h2
theorem from_val {s : SourceD} {fs : List FromD} {L : List (List Int)} {k : Nat} (hv : VL s fs L k) {f : FromD} (hf : fs[k]? = some f) (h : fromB s fs k = true) (hg : Good s) :
    0 ≤ f.schema ∧ f.schema < s.schemas.length ∧ ∃ v, valT? fs.length L f.of_ = some v ∧ (f.of_.var < 0 ∨ 0 ≤ f.of_.var ∧ 0 ≤ v ∧ v ≤ 4095) := by
  unfold fromB at h
  rw [hf] at h
  simp only [Bool.and_eq_true, Bool.or_eq_true, decide_eq_true_eq, schIn] at h
  refine ⟨h.1.1, h.1.2, ?_⟩
  rcases h.2 with h1 | h1
  · refine ⟨f.of_.n, ?_, .inl (by omega)⟩
    unfold valT?
    rw [if_pos (by omega)]
  · cases ht : termTy? s fs f.of_ k with
    | none => rw [ht] at h1; cases h1
    | some t =>
      rw [ht] at h1
      simp only [decide_eq_true_eq] at h1
      obtain ⟨v, h2, h3, h4, h5⟩ := term_val hv (Int.le_refl _) ht
      have hk : kindB t s.units.length = true := by
        unfold termTy? at ht
        split at ht
        · split at ht
          · exact hg _ _ _ ht
          · cases ht
        · cases ht
      unfold kindB at hk
      rw [if_neg (by omega), if_neg (by omega), if_pos h1] at hk
      simp [kind3] at hk
      exact ⟨v, h2, .inr ⟨h5, by omega, by omega⟩⟩
theorem ok_val {s : SourceD} {fs : List FromD} {L : List (List Int)} (hv : VL s fs L fs.length) {t : TermD} (h : okT s fs t = true) : ∃ v, valT? fs.length L t = some v ∧ (t.var < 0 ∨ ∃ y, termTy? s fs t fs.length = some y) := by
  unfold okT at h
  simp only [Bool.or_eq_true] at h
  rcases h with h | h
  · obtain ⟨y, hy⟩ := Option.isSome_iff_exists.1 h
    obtain ⟨v, h1, _⟩ := term_val hv (Int.le_refl _) hy
    exact ⟨v, h1, .inr ⟨y, hy⟩⟩
  · obtain ⟨h1, h2⟩ := num_val fs.length L h
    exact ⟨_, h1, .inl h2⟩
theorem term_at {s : SourceD} {fs : List FromD} {t : TermD} {n : Int} {y : TyD} (h : termTy? s fs t n = some y) : 0 ≤ t.var ∧ ∃ hl : t.var.toNat < fs.length, typeOf? s fs[t.var.toNat].schema t.field = some y := by
  unfold termTy? at h
  split at h
  · next h0 =>
    split at h
    · next f hf =>
      obtain ⟨hl, he⟩ := List.getElem?_eq_some_iff.1 hf
      exact ⟨h0.1, hl, by rw [he]; exact h⟩
    · cases h
  · cases h
theorem term_neg {s : SourceD} {fs : List FromD} {t : TermD} {n : Int} (h : t.var < 0) : termTy? s fs t n = none := by
  unfold termTy?
  rw [if_neg (by omega)]
def refAt (sc fd : Int) : RefD := { name := ⟨#[]⟩, path := ⟨#[]⟩, schema := sc, field := fd }
theorem atom_val {s : SourceD} (hc : checkB s = 0) {fs : List FromD} {L : List (List Int)} (hv : VL s fs L fs.length) {m : AtomD} (h : atomB s fs m = true) :
    (∃ v, valT? fs.length L m.a = some v) ∧ (∃ v, valT? fs.length L m.b = some v) ∧
      ((m.a.var < 0 ∧ 0 ≤ m.b.var) ∨ (0 ≤ m.a.var ∧ m.b.var < 0) ∨ (0 ≤ m.a.var ∧ 0 ≤ m.b.var ∧ ∃ (h1 : m.a.var.toNat < fs.length) (h2 : m.b.var.toNat < fs.length), alikeB s (refAt fs[m.a.var.toNat].schema m.a.field) (refAt fs[m.b.var.toNat].schema m.b.field) = true)) := by
  unfold atomB at h
  simp only [Bool.and_eq_true, List.all_cons, List.all_nil, Bool.and_true] at h
  obtain ⟨_, ⟨ha, hb⟩, hp, _⟩ := h
  obtain ⟨va, hva, ha'⟩ := ok_val hv ha
  obtain ⟨vb, hvb, hb'⟩ := ok_val hv hb
  refine ⟨⟨va, hva⟩, ⟨vb, hvb⟩, ?_⟩
  rcases ha' with ha' | ⟨y, hy⟩
  · rcases hb' with hb' | ⟨z, hz⟩
    · exfalso
      unfold atomTys at hp
      simp [term_neg ha', term_neg hb', pairOK] at hp
    · exact .inl ⟨ha', (term_at hz).1⟩
  · rcases hb' with hb' | ⟨z, hz⟩
    · exact .inr (.inl ⟨(term_at hy).1, hb'⟩)
    · obtain ⟨a1, a2, a3⟩ := term_at hy
      obtain ⟨b1, b2, b3⟩ := term_at hz
      refine .inr (.inr ⟨a1, b1, a2, b2, ?_⟩)
      unfold atomTys at hp
      simp only [List.filterMap_cons, hy, hz, List.filterMap_nil, pairOK] at hp
      have u1 : usable? s (refAt fs[m.a.var.toNat].schema m.a.field) = some y := by unfold usable? goodO refAt; simp only; rw [a3]; simp only; rw [if_pos (good_usable hc a3)]
      have u2 : usable? s (refAt fs[m.b.var.toNat].schema m.b.field) = some z := by unfold usable? goodO refAt; simp only; rw [b3]; simp only; rw [if_pos (good_usable hc b3)]
      unfold alikeB
      rw [u1, u2]
      exact hp
/-- values, as slices of slices -/
theorem ints2_out {w : World} {a : Option Addr} {l : List (List Int)} (H : Sl 1 (RSl 1 RInt) w a l) (i : Nat) (hi : i < l.length) : ∃ (b off : Nat) (c : Option Addr) (k : Nat), a = some ⟨b, off, none⟩ ∧ b < w.heap.size ∧ w.cell? ⟨b, off + i, none⟩ = some (.slice c l[i].length k) ∧ Sl 1 RInt w c l[i] := by
  obtain ⟨b, off, h1, h2, es, ⟨c, k, rfl, h3⟩, h4⟩ := H i hi
  exact ⟨b, off, c, k, h1, h2, by have := h4 0 (by decide); simpa using this, h3⟩
end Go.Proofs.Ytogenjbabgibbaa
