import Derived.Test.YtogenjbabgibbaaMem2
namespace Go.Proofs.Ytogenjbabgibbaa
open Go.RowKit

/-! A region that draws its order: first operations that read and call, then (behind all of them) a tail in one forced order. -/
def waitsOn (md : Region.Mode) (o : Oper) (i : Nat) : Bool := o.after.any fun e => Region.binds md e && e.on == i
def tailOK (md : Region.Mode) (n t : Nat) (o : Oper) : Bool :=
  o.after.all (fun e => decide (e.on < t)) && (match o.guard with | some (j, _) => decide (j < t) | none => true) &&
    (decide (t < n) || ((List.range n).all (waitsOn md o) && (decide (t = n) || waitsOn md o (t - 1))))
def tailB (md : Region.Mode) (ops : Array Oper) (n : Nat) : Bool := decide (n ≤ ops.size) && (List.range ops.size).all fun t => match ops[t]? with | some o => tailOK md n t o | none => true

section
variable {P : Program} {ops : Array Oper} {md : Region.Mode} {C : World → Prop} {n : Nat}
theorem waitsOn_spec {o : Oper} {i : Nat} (h : waitsOn md o i = true) : ∃ e ∈ o.after, Region.binds md e = true ∧ e.on = i := by
  obtain ⟨e, he, hb⟩ := Array.any_eq_true'.1 h
  simp only [Bool.and_eq_true, beq_iff_eq] at hb
  exact ⟨e, he, hb.1, hb.2⟩
structure TailFacts (md : Region.Mode) (ops : Array Oper) (n : Nat) : Prop where
  le : n ≤ ops.size
  back : ∀ (t : Nat) (o : Oper), ops[t]? = some o → ∀ e ∈ o.after, e.on < t
  guard : ∀ (t : Nat) (o : Oper) (j : Nat) (b : Bool), ops[t]? = some o → o.guard = some (j, b) → j < t
  all : ∀ (t : Nat) (o : Oper), ops[t]? = some o → n ≤ t → ∀ i, i < n → waitsOn md o i = true
  seq : ∀ (t : Nat) (o : Oper), ops[t]? = some o → n < t → waitsOn md o (t - 1) = true
theorem tailB_spec (h : tailB md ops n = true) : TailFacts md ops n := by
  unfold tailB at h
  simp only [Bool.and_eq_true, decide_eq_true_eq] at h
  have key : ∀ t o, ops[t]? = some o → tailOK md n t o = true := fun t o ho => by
    have hlt : t < ops.size := (Array.getElem?_eq_some_iff.1 ho).1
    have := List.all_eq_true.1 h.2 t (List.mem_range.2 hlt)
    simpa [ho] using this
  have key2 : ∀ t o, ops[t]? = some o → (∀ e ∈ o.after, e.on < t) ∧ (match o.guard with | some (j, _) => decide (j < t) | none => true) = true ∧ (t < n ∨ ((∀ i, i < n → waitsOn md o i = true) ∧ (t = n ∨ waitsOn md o (t - 1) = true))) := fun t o ho => by
    have := key t o ho
    unfold tailOK at this
    simp only [Bool.and_eq_true, Bool.or_eq_true, decide_eq_true_eq] at this
    refine ⟨fun e he => ?_, this.1.2, this.2.imp id fun q => ⟨fun i hi => List.all_eq_true.1 q.1 i (List.mem_range.2 hi), q.2⟩⟩
    have := Array.all_eq_true_iff_forall_mem.1 this.1.1 e he
    simpa using this
  refine ⟨h.1, fun t o ho => (key2 t o ho).1, fun t o j b ho hg => ?_, fun t o ho ht => ?_, fun t o ho ht => ?_⟩
  · have := (key2 t o ho).2.1
    rw [hg] at this
    simpa using this
  · rcases (key2 t o ho).2.2 with q | q
    · omega
    · exact q.1
  · rcases (key2 t o ho).2.2 with q | q
    · omega
    · rcases q.2 with q | q
      · omega
      · exact q
theorem getD_flip {l : Array Bool} {i : Nat} (hi : i < l.size) (h : ¬ l.getD i true = false) : l.getD i false = true := by
  simp [hi] at h ⊢; exact h
theorem getD_flip' {l : Array Bool} {i : Nat} (h : l.getD i true = false) : l.getD i false = false := by
  rcases Nat.lt_or_ge i l.size with h' | h'
  · simp [h'] at h ⊢; exact h
  · simp [Array.getElem?_eq_none h'] at h
/-- the tail: one order -/
theorem wpAny_tail (T : TailFacts md ops n) {Q : Exit → Act → World → Prop} : ∀ (l : List Oper) (k : Nat) (listed : Array Bool) (a : Act) (w : World), n ≤ k → (∀ j, l[j]? = ops[k + j]?) → listed.size = ops.size →
    (∀ t, listed.getD t true = false ↔ k ≤ t ∧ t < ops.size) → wpList P ops Q l a w → wpAny P md ops Q l.length listed a w
  | [], k, listed, a, w, _, hl, hs, hu, h => by
    refine ⟨List.eq_nil_iff_forall_not_mem.2 fun t ht => ?_, h⟩
    obtain ⟨h1, o, ho, _⟩ := mem_ready.1 ht
    have h2 := (hu t).1 h1
    have h3 := hl (t - k)
    rw [show k + (t - k) = t by omega, ho] at h3
    cases h3
  | o :: l, k, listed, a, w, hn, hl, hs, hu, h => by
    have h0 : ops[k]? = some o := by simpa using (hl 0).symm
    have hk : k < ops.size := (Array.getElem?_eq_some_iff.1 h0).1
    have hr : k ∈ Region.ready md ops listed := mem_ready.2 ⟨(hu k).2 ⟨Nat.le_refl _, hk⟩, o, h0, fun e he _ => by
      have hb := T.back k o h0 e he
      exact getD_flip (by omega) fun q => by have := (hu e.on).1 q; omega⟩
    refine ⟨fun h1 => (by rw [h1] at hr; cases hr), fun i hi => ?_⟩
    have hik : i = k := by
      obtain ⟨h1, o', ho', hall⟩ := mem_ready.1 hi
      have h2 := (hu i).1 h1
      rcases Nat.lt_or_ge k i with q | q
      · obtain ⟨e, he, hb, hon⟩ := waitsOn_spec (T.seq i o' ho' (by omega))
        have h3 := hall e he hb
        rw [hon, getD_flip' ((hu (i - 1)).2 (by omega))] at h3
        cases h3
      · omega
    subst hik
    have hw : wpOp P ops Q i (wpList P ops Q l) a w := by unfold wpOp; simp only [h0]; exact h
    refine wpOp_mono (fun a' w' h' => wpAny_tail T l (i + 1) _ a' w' (by omega) (fun j => by have := hl (j + 1); simpa [Nat.add_assoc, Nat.add_comm 1 j] using this) (by simpa using hs) (fun t => ?_) h') hw
    by_cases e : i = t
    · subst e
      have : i < listed.size := by omega
      simp [this]
      try omega
    · rw [getD_set_ne true e, hu t]; omega
theorem yielded_same {ops1 : Array Oper} {tm : Array Value} {j : Nat} (h : ops1[j]? = ops[j]?) : yielded ops1 tm j = yielded ops tm j := by unfold yielded; rw [h]
theorem wanted_same {ops1 : Array Oper} (hsame : ∀ j, j < n → ops1[j]? = ops[j]?) {tm : Array Value} {o : Oper} (hg : ∀ j b, o.guard = some (j, b) → j < n) : Region.wanted o (yielded ops1 tm) = Region.wanted o (yielded ops tm) := by
  unfold Region.wanted
  cases hgo : o.guard with
  | none => rfl
  | some jb =>
    obtain ⟨j, b⟩ := jb
    simp only [yielded_same (tm := tm) (hsame j (hg j b hgo))]
/-- the first operations, in whatever order -/
theorem wpAny_front (T : TailFacts md ops n) {ops1 : Array Oper} (h1s : ops1.size = n) (hsame : ∀ j, j < n → ops1[j]? = ops[j]?) {Q : Exit → Act → World → Prop} {QQ : Act → Prop} {g : Nat}
    (hend : ∀ (listed : Array Bool) (a : Act) (w : World), listed.size = ops.size → (∀ t, listed.getD t true = false ↔ n ≤ t ∧ t < ops.size) → C w → QQ a → wpAny P md ops Q g listed a w) :
    ∀ (f : Nat) (U : List Nat) (listed listed1 : Array Bool) (a : Act) (w : World), U.length = f → U.Nodup → listed.size = ops.size → listed1.size = n → (∀ j, j < n → listed1[j]? = listed[j]?) →
      (∀ t, listed.getD t true = false ↔ t ∈ U ∨ (n ≤ t ∧ t < ops.size)) → (∀ t ∈ U, t < n) → C w → wpAnyQ P md ops1 C QQ f listed1 a → wpAny P md ops Q (f + g) listed a w
  | 0, U, listed, listed1, a, w, hU, _, hs, hs1, _, hu, _, hC, h => by
    rw [Nat.zero_add]
    have : U = [] := List.length_eq_zero_iff.1 hU
    subst this
    exact hend listed a w hs (fun t => by simpa using hu t) hC h.2
  | f + 1, U, listed, listed1, a, w, hU, hnd, hs, hs1, hl1, hu, hUn, hC, h => by
    rw [show f + 1 + g = (f + g) + 1 by omega]
    have hn := T.le
    have hg1 : ∀ j d, j < n → listed1.getD j d = listed.getD j d := fun j d hj => by simp [hl1 j hj]
    -- something of the front may come up
    have hex : ∀ (j : Nat), j ∈ U → ∃ r ∈ U, r ∈ Region.ready md ops listed := by
      intro j
      induction j using Nat.strongRecOn with
      | _ j ih =>
        intro hj
        have hjn := hUn j hj
        obtain ⟨o, ho⟩ : ∃ o, ops[j]? = some o := ⟨_, Array.getElem?_eq_getElem (by omega)⟩
        by_cases hall : ∀ e ∈ o.after, Region.binds md e = true → listed.getD e.on false = true
        · exact ⟨j, hj, mem_ready.2 ⟨(hu j).2 (.inl hj), o, ho, hall⟩⟩
        · simp only [Classical.not_forall] at hall
          obtain ⟨e, he, hb, hne⟩ := hall
          have hlt := T.back j o ho e he
          have : listed.getD e.on true = false := by
            have hsz : e.on < listed.size := by omega
            simp [hsz] at hne ⊢; exact hne
          rcases (hu e.on).1 this with q | q
          · exact ih e.on hlt q
          · omega
    obtain ⟨j0, hj0⟩ : ∃ j0, j0 ∈ U := by
      cases U with
      | nil => simp at hU
      | cons x xs => exact ⟨x, by simp⟩
    obtain ⟨r, hrU, hr⟩ := hex j0 hj0
    refine ⟨fun h0 => (by rw [h0] at hr; cases hr), fun i hi => ?_⟩
    obtain ⟨hun, o, ho, hall⟩ := mem_ready.1 hi
    have hin : i < n := by
      rcases Nat.lt_or_ge i n with q | q
      · exact q
      · obtain ⟨e, he, hb, hon⟩ := waitsOn_spec (T.all i o ho q r (hUn r hrU))
        have h3 := hall e he hb
        rw [hon, getD_flip' ((hu r).2 (.inl hrU))] at h3
        cases h3
    have hiU : i ∈ U := by
      rcases (hu i).1 hun with q | q
      · exact q
      · omega
    have ho1 : ops1[i]? = some o := (hsame i hin).trans ho
    have hi1 : i ∈ Region.ready md ops1 listed1 := mem_ready.2 ⟨by rw [hg1 i true hin]; exact hun, o, ho1, fun e he hb => by
      have := T.back i o ho e he
      rw [hg1 e.on false (by omega)]; exact hall e he hb⟩
    have hq := h.2 i hi1
    have hq2 : qOp P ops C i (wpAnyQ P md ops1 C QQ f (listed1.setIfInBounds i true)) a := by
      unfold qOp at hq ⊢
      rw [ho1] at hq
      rw [ho]
      simp only at hq ⊢
      rw [wanted_same hsame (fun j b hgd => Nat.lt_trans (T.guard i o j b ho hgd) hin)] at hq
      exact hq
    refine wpOp_of_qOp hC (fun a' w' hC' h' => ?_) hq2
    refine wpAny_front T h1s hsame hend f (U.erase i) _ _ a' w' ?_ (hnd.erase i) (by simpa using hs) (by simpa using hs1) (fun j hj => ?_) (fun t => ?_) (fun t ht => hUn t (List.mem_of_mem_erase ht)) hC' h'
    · rw [List.length_erase_of_mem hiU]; omega
    · by_cases e : i = j
      · subst e
        rw [Array.getElem?_setIfInBounds_self_of_lt (by omega), Array.getElem?_setIfInBounds_self_of_lt (by omega)]
      · rw [Array.getElem?_setIfInBounds_ne e, Array.getElem?_setIfInBounds_ne e, hl1 j hj]
    · by_cases e : i = t
      · subst e
        have hsz : i < listed.size := by omega
        have : i ∉ U.erase i := fun q => by rw [hnd.mem_erase_iff] at q; exact q.1 rfl
        simp [hsz, this]; omega
      · rw [getD_set_ne true e, hu t, hnd.mem_erase_iff]
        constructor
        · rintro (q | q)
          · exact .inl ⟨fun q2 => e q2.symm, q⟩
          · exact .inr q
        · rintro (q | q)
          · exact .inl q.2
          · exact .inr q
end

theorem wp_region_grown_tail {P : Program} {id : Nat} {Q : Exit → Act → World → Prop} {a : Act} {w : World} {l : List Oper} (n : Nat) (hm : P.follows .mixedOrders = true) (hB : Region.lexB .any (l.take n).toArray = true)
    (hT : tailB .any l.toArray n = true)
    (h : wpQuiet P (l.take n).toArray (fun w' => ∃ n : GW w, w' = grown w n) (fun a' => ∀ w', (∃ n : GW w, w' = grown w n) → wpList P l.toArray Q (l.drop n) a' w') (l.take n) a) : (Code.region id l.toArray true).wp P Q a w := by
  have T := tailB_spec hT
  have hn := T.le
  simp only [List.size_toArray] at hn
  have hsz : (l.take n).toArray.size = n := by simp; omega
  refine wp_region_any hm ?_
  have hlex := hB
  simp only [Region.lexB, Bool.and_eq_true] at hlex
  have hq := wpAnyQ_lex (C := fun w' => ∃ n : GW w, w' = grown w n) (md := .any) hlex.1 (l.take n) 0 (Array.replicate (l.take n).toArray.size false) a (by simp) (by simpa using hlex.2) h
  have e1 : (l.take n).length = n := by simp; omega
  have e2 : l.toArray.size = n + (l.drop n).length := by simp; omega
  rw [e1] at hq
  rw [show (Array.replicate l.toArray.size false) = Array.replicate l.toArray.size false from rfl, show wpAny P .any l.toArray Q l.toArray.size = wpAny P .any l.toArray Q (n + (l.drop n).length) by rw [e2]]
  refine wpAny_front (n := n) (C := fun w' => ∃ n : GW w, w' = grown w n) T hsz (fun j hj => by simp [hj]) (QQ := fun a' => ∀ w', (∃ n : GW w, w' = grown w n) → wpList P l.toArray Q (l.drop n) a' w')
    (fun listed a' w' hs hu hC hQ => wpAny_tail T (l.drop n) n listed a' w' (Nat.le_refl _) (fun j => by simp [List.getElem?_drop]) hs hu (hQ w' hC)) n (List.range n) _ _ a _ (by simp) List.nodup_range (by simp) (by simp; omega) (fun j hj => ?_) (fun t => ?_) (fun t ht => by simpa using ht) ⟨⟨w.drew, (Below.refl _ _).drew⟩, rfl⟩ hq
  · have : j < l.length := by omega
    simp [Array.getElem?_replicate, this]
    omega
  · simp only [List.mem_range]
    rcases Nat.lt_or_ge t l.toArray.size with q | q
    · simp at q ⊢; simp [q]; omega
    · have q' : l.length ≤ t := by simpa using q
      have q2 : ¬ t < l.length := by omega
      simp [Array.getElem?_replicate, q2]
      omega
end Go.Proofs.Ytogenjbabgibbaa
