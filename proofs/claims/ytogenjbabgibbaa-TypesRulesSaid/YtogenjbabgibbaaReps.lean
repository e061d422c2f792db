import Derived.Test.YtogenjbabgibbaaTail
namespace Go.Proofs.Ytogenjbabgibbaa
open Go.RowKit

/-! A region that draws its order, whose first operations read, call and lay new blocks: each leaves a value that represents something for good; then a tail in one forced order. -/
def repUpon (P : Program) (w : World) (Φ : Value → World → Prop) : Result Next → Prop
  | .ok (.value u) w' => Below w.heap.size w w' ∧ Φ u w'
  | .ok .skip w' => Below w.heap.size w w' ∧ Φ undef w'
  | .ok (.enter f args) w' => w' = w ∧ Calls P f args w (fun e w'' => ∃ v, e = .returned v ∧ Below w.heap.size w w'' ∧ Φ v w'')
  | _ => False
/-- what the front's operations look like: each has its own slot, none is guarded -/
def frontB (ops : Array Oper) (ds : List Nat) (sz : Nat) : Bool := decide ds.Nodup && (List.range ds.length).all fun i => match ops[i]? with | some o => (o.dst == some ds[i]!) && o.guard.isNone && decide (ds[i]! < sz) | none => false
def puts : Act → List Nat → (Nat → Value) → Act
  | a, [], _ => a
  | a, d :: ds, f => puts (a.put (some d) (f d)) ds f

theorem frontB_spec {ops : Array Oper} {ds : List Nat} {sz : Nat} (h : frontB ops ds sz = true) : ds.Nodup ∧ ∀ i, i < ds.length → ∃ o, ops[i]? = some o ∧ o.dst = some ds[i]! ∧ o.guard = none ∧ ds[i]! < sz := by
  unfold frontB at h
  simp only [Bool.and_eq_true, decide_eq_true_eq] at h
  refine ⟨h.1, fun i hi => ?_⟩
  have := List.all_eq_true.1 h.2 i (List.mem_range.2 hi)
  cases ho : ops[i]? with
  | none => simp [ho] at this
  | some o =>
    simp only [ho, Bool.and_eq_true, beq_iff_eq, decide_eq_true_eq, Option.isNone_iff_eq_none] at this
    exact ⟨o, rfl, this.1.1, this.1.2, this.2⟩
theorem eval_put_same {a : Act} {d : Nat} {v : Value} (h : d < a.tmps.size) : (a.put (some d) v).eval (.tmp d) = v := by
  simp [Act.eval, Act.put, h]
theorem eval_put_ne {a : Act} {d k : Nat} {v : Value} (h : d ≠ k) : (a.put (some d) v).eval (.tmp k) = a.eval (.tmp k) :=
  Act.eval_put fun d' hd he => by cases hd; cases he; exact h rfl
theorem put_size {a : Act} {d : Option Nat} {v : Value} : (a.put d v).tmps.size = a.tmps.size := by cases d <;> simp [Act.put]
theorem put_defers' {a : Act} {d : Option Nat} {v : Value} : (a.put d v).defers = a.defers := by cases d <;> simp [Act.put]
theorem puts_spec (f : Nat → Value) : ∀ (ds : List Nat) (a0 : Act), (puts a0 ds f).tmps.size = a0.tmps.size ∧ (puts a0 ds f).defers = a0.defers ∧
    ∀ k, k < a0.tmps.size → (puts a0 ds f).eval (.tmp k) = if k ∈ ds then f k else a0.eval (.tmp k)
  | [], a0 => ⟨rfl, rfl, fun k _ => by simp [puts]⟩
  | d :: ds, a0 => by
    obtain ⟨h1, h2, h3⟩ := puts_spec f ds (a0.put (some d) (f d))
    refine ⟨h1.trans put_size, h2.trans put_defers', fun k hk => ?_⟩
    show (puts (a0.put (some d) (f d)) ds f).eval (.tmp k) = _
    rw [h3 k (by rw [put_size]; exact hk)]
    by_cases e : k ∈ ds
    · simp [e]
    · by_cases e2 : d = k
      · subst e2; simp [e, eval_put_same hk]
      · rw [if_neg e, eval_put_ne e2, if_neg (by simp [e]; exact fun q => e2 q.symm)]
theorem puts_eq {a a0 : Act} {ds : List Nat} (hs : a.tmps.size = a0.tmps.size) (hd : a.defers = a0.defers) (ho : ∀ d, d ∉ ds → a.eval (.tmp d) = a0.eval (.tmp d)) : puts a0 ds (fun d => a.eval (.tmp d)) = a := by
  obtain ⟨h1, h2, h3⟩ := puts_spec (fun d => a.eval (.tmp d)) ds a0
  have key : (puts a0 ds (fun d => a.eval (.tmp d))).tmps = a.tmps := by
    apply Array.ext
    · rw [h1, hs]
    · intro k hk hk'
      have h4 := h3 k (by omega)
      have h5 : (puts a0 ds (fun d => a.eval (.tmp d))).eval (.tmp k) = a.eval (.tmp k) := by
        rw [h4]
        by_cases e : k ∈ ds
        · simp [e]
        · rw [if_neg e, ho k e]
      clear h4
      generalize puts a0 ds (fun d => a.eval (.tmp d)) = b at *
      have h6 : b.tmps.getD k undef = a.tmps.getD k undef := h5
      simpa [hk, hk'] using h6
  generalize puts a0 ds (fun d => a.eval (.tmp d)) = b at *
  obtain ⟨bt, bd⟩ := b
  obtain ⟨t, d⟩ := a
  simp only at key h2 hd
  rw [key, h2, hd]

section
variable {P : Program} {ops : Array Oper} {md : Region.Mode}
theorem wp_of_rep {o : Oper} {a : Act} {w : World} {Φ : Value → World → Prop} {K : Act → World → Prop} {Q' : Exit → Act → World → Prop} (h : repUpon P w Φ ((execOp a.eval o).run P w))
    (hk : ∀ v w', Below w.heap.size w w' → Φ v w' → K (a.put o.dst v) w') : o.wp P a w K Q' := by
  unfold Oper.wp
  generalize (execOp a.eval o).run P w = r at *
  cases r with
  | ok nx w' =>
    cases nx <;> simp only [repUpon] at h <;> simp only [Oper.upon]
    case value u => exact hk _ _ h.1 h.2
    case skip => exact hk _ _ h.1 h.2
    case enter f args =>
      obtain ⟨e1, hc⟩ := h
      rw [e1]
      exact hc.mono fun e w'' ⟨v, he, hb, hv⟩ => by subst he; exact hk _ _ hb hv
  | halt x w' => simp only [repUpon] at h

theorem wpAny_reps {n : Nat} (T : TailFacts md ops n) {ds : List Nat} (hn : ds.length = n) {a0 : Act} {w0 : World} (hf : frontB ops ds a0.tmps.size = true) (Φ : Nat → Value → World → Prop)
    (stab : ∀ i v w w', Φ i v w → Below w.heap.size w w' → Φ i v w')
    (step : ∀ i o, i < n → ops[i]? = some o → ∀ (a : Act) (w : World), Below w0.heap.size w0 w → (∀ d, d ∉ ds → a.eval (.tmp d) = a0.eval (.tmp d)) →
      (∀ e ∈ o.after, Region.binds md e = true → Φ e.on (a.eval (.tmp ds[e.on]!)) w) → repUpon P w (Φ i) ((execOp a.eval o).run P w))
    {Q : Exit → Act → World → Prop} {g : Nat}
    (hend : ∀ (listed : Array Bool) (a : Act) (w : World), listed.size = ops.size → (∀ t, listed.getD t true = false ↔ n ≤ t ∧ t < ops.size) → Below w0.heap.size w0 w → a.tmps.size = a0.tmps.size → a.defers = a0.defers →
      (∀ d, d ∉ ds → a.eval (.tmp d) = a0.eval (.tmp d)) → (∀ j, j < n → Φ j (a.eval (.tmp ds[j]!)) w) → wpAny P md ops Q g listed a w) :
    ∀ (f : Nat) (U : List Nat) (listed : Array Bool) (a : Act) (w : World), U.length = f → U.Nodup → listed.size = ops.size → (∀ t, listed.getD t true = false ↔ t ∈ U ∨ (n ≤ t ∧ t < ops.size)) → (∀ t ∈ U, t < n) →
      Below w0.heap.size w0 w → a.tmps.size = a0.tmps.size → a.defers = a0.defers → (∀ d, d ∉ ds → a.eval (.tmp d) = a0.eval (.tmp d)) → (∀ j, j < n → j ∉ U → Φ j (a.eval (.tmp ds[j]!)) w) → wpAny P md ops Q (f + g) listed a w
  | 0, U, listed, a, w, hU, _, hs, hu, _, hB, hsz, hdf, ho, hp => by
    rw [Nat.zero_add]
    have : U = [] := List.length_eq_zero_iff.1 hU
    subst this
    exact hend listed a w hs (fun t => by simpa using hu t) hB hsz hdf ho (fun j hj => hp j hj (by simp))
  | f + 1, U, listed, a, w, hU, hnd, hs, hu, hUn, hB, hsz, hdf, ho, hp => by
    rw [show f + 1 + g = (f + g) + 1 by omega]
    have hnn := T.le
    obtain ⟨hdn, hfr⟩ := frontB_spec hf
    have hex : ∀ (j : Nat), j ∈ U → ∃ r ∈ U, r ∈ Region.ready md ops listed := by
      intro j
      induction j using Nat.strongRecOn with
      | _ j ih =>
        intro hj
        have hjn := hUn j hj
        obtain ⟨o, ho⟩ : ∃ o, ops[j]? = some o := ⟨_, Array.getElem?_eq_getElem (by omega)⟩
        by_cases hall : ∀ e ∈ o.after, Region.binds md e = true → listed.getD e.on false = true
        · exact ⟨j, hj, mem_ready.2 ⟨(hu j).2 (.inl hj), o, ho, hall⟩⟩
        · simp only [Classical.not_forall] at hall
          obtain ⟨e, he, hb, hne⟩ := hall
          have hlt := T.back j o ho e he
          have : listed.getD e.on true = false := by
            have hsz : e.on < listed.size := by omega
            simp [hsz] at hne ⊢; exact hne
          rcases (hu e.on).1 this with q | q
          · exact ih e.on hlt q
          · omega
    obtain ⟨j0, hj0⟩ : ∃ j0, j0 ∈ U := by
      cases U with
      | nil => simp at hU
      | cons x xs => exact ⟨x, by simp⟩
    obtain ⟨r, hrU, hr⟩ := hex j0 hj0
    refine ⟨fun h0 => (by rw [h0] at hr; cases hr), fun i hi => ?_⟩
    obtain ⟨hun, o, hoi, hall⟩ := mem_ready.1 hi
    have hin : i < n := by
      rcases Nat.lt_or_ge i n with q | q
      · exact q
      · obtain ⟨e, he, hb, hon⟩ := waitsOn_spec (T.all i o hoi q r (hUn r hrU))
        have h3 := hall e he hb
        rw [hon, getD_flip' ((hu r).2 (.inl hrU))] at h3
        cases h3
    have hiU : i ∈ U := by
      rcases (hu i).1 hun with q | q
      · exact q
      · omega
    obtain ⟨o2, ho2, hdst, hgd, hdl⟩ := hfr i (by omega)
    rw [hoi] at ho2
    cases ho2
    have hrun := step i o hin hoi a w hB ho (fun e he hb => by
      have hlt := T.back i o hoi e he
      refine hp e.on (by omega) fun q => ?_
      have h1 := hall e he hb
      rw [getD_flip' ((hu e.on).2 (.inl q))] at h1
      cases h1)
    unfold wpOp
    rw [hoi]
    simp only
    rw [if_pos (by unfold Region.wanted; rw [hgd])]
    refine .inl (wp_of_rep hrun fun v w' hb hv => ?_)
    have hne : ∀ j, j < n → j ≠ i → ds[i]! ≠ ds[j]! := fun j hj hji he => by
      have h1 : ds[i]! = ds[i]'(by omega) := by simp [show i < ds.length by omega]
      have h2 : ds[j]! = ds[j]'(by omega) := by simp [show j < ds.length by omega]
      rw [h1, h2] at he
      exact hji ((List.getElem_inj hdn).1 he).symm
    rw [hdst]
    refine wpAny_reps T hn hf Φ stab step hend f (U.erase i) _ _ w' ?_ (hnd.erase i) (by simpa using hs) (fun t => ?_) (fun t ht => hUn t (List.mem_of_mem_erase ht)) (hB.trans (hb.mono hB.size)) (put_size.trans hsz) (put_defers'.trans hdf) (fun d hd => ?_) (fun j hj hjU => ?_)
    · rw [List.length_erase_of_mem hiU]; omega
    · by_cases e : i = t
      · subst e
        have hsz : i < listed.size := by omega
        have : i ∉ U.erase i := fun q => by rw [hnd.mem_erase_iff] at q; exact q.1 rfl
        simp [hsz, this]; omega
      · rw [getD_set_ne true e, hu t, hnd.mem_erase_iff]
        constructor
        · rintro (q | q)
          · exact .inl ⟨fun q2 => e q2.symm, q⟩
          · exact .inr q
        · rintro (q | q)
          · exact .inl q.2
          · exact .inr q
    · rw [eval_put_ne (fun q => hd (by rw [← q]; simp [show i < ds.length by omega]))]
      exact ho d hd
    · by_cases e : j = i
      · subst e
        rw [eval_put_same (by omega)]
        exact hv
      · rw [eval_put_ne (hne j hj e)]
        exact stab _ _ _ _ (hp j hj fun q => hjU ((hnd.mem_erase_iff).2 ⟨e, q⟩)) hb
end

/-- the region: each operation of the front in whatever order; behind it the tail in the order of the text, in a frame that is written out -/
theorem wp_region_reps {P : Program} {id : Nat} {Q : Exit → Act → World → Prop} {a : Act} {w : World} {l : List Oper} (ds : List Nat) (Φ : Nat → Value → World → Prop) (hm : P.follows .mixedOrders = true)
    (hT : tailB .any l.toArray ds.length = true) (hf : frontB l.toArray ds a.tmps.size = true) (stab : ∀ i v w w', Φ i v w → Below w.heap.size w w' → Φ i v w')
    (step : ∀ i o, i < ds.length → l[i]? = some o → ∀ (a' : Act) (w' : World), Below w.heap.size w w' → (∀ d, d ∉ ds → a'.eval (.tmp d) = a.eval (.tmp d)) →
      (∀ e ∈ o.after, Region.binds .any e = true → Φ e.on (a'.eval (.tmp ds[e.on]!)) w') → repUpon P w' (Φ i) ((execOp a'.eval o).run P w'))
    (h : ∀ (f : Nat → Value) (w' : World), Below w.heap.size w w' → (∀ j, j < ds.length → Φ j (f ds[j]!) w') → wpList P l.toArray Q (l.drop ds.length) (puts a ds f) w') : (Code.region id l.toArray true).wp P Q a w := by
  have T := tailB_spec hT
  have hn := T.le
  simp only [List.size_toArray] at hn
  refine wp_region_any hm ?_
  have e2 : l.toArray.size = ds.length + (l.drop ds.length).length := by simp; omega
  rw [show wpAny P .any l.toArray Q l.toArray.size = wpAny P .any l.toArray Q (ds.length + (l.drop ds.length).length) by rw [e2]]
  refine wpAny_reps (w0 := w) (a0 := a) T rfl hf Φ stab (fun i o hi ho => step i o hi (by simpa using ho))
    (fun listed a' w' hs hu hB hsz hdf hoth hp => ?_) ds.length (List.range ds.length) _ a w.drew (by simp) List.nodup_range (by simp) (fun t => ?_) (fun t ht => by simpa using ht) (Below.refl _ _).drew rfl rfl (fun _ _ => rfl) (fun j hj hjn => absurd (List.mem_range.2 hj) hjn)
  · have := h (fun d => a'.eval (.tmp d)) w' hB hp
    rw [puts_eq hsz hdf hoth] at this
    exact wpAny_tail T (l.drop ds.length) ds.length listed a' w' (Nat.le_refl _) (fun j => by simp [List.getElem?_drop]) hs hu this
  · simp only [List.mem_range]
    rcases Nat.lt_or_ge t l.toArray.size with q | q
    · simp at q ⊢; simp [q]; omega
    · have q' : l.length ≤ t := by simpa using q
      have q2 : ¬ t < l.length := by omega
      simp [q2]
      omega
end Go.Proofs.Ytogenjbabgibbaa
