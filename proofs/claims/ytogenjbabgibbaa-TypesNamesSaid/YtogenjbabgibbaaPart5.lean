/- Part 5 of the walks and laws that these claims rest on. No condition. -/
import Derived.ProofKit
import Derived.OpenShut
import Derived.ShutString
import Derived.ChangeOld
import Derived.Test.YtogenjbabgibbaaPart4
set_option linter.all false
set_option linter.unusedSimpArgs false
set_option linter.unusedVariables false
set_option linter.unnecessarySimpa false
namespace Go.Proofs.Ytogenjbabgibbaa
open Go.RowKit
theorem cmp_symm (us : List UnitD) (a b : TyD) : cmpB us a b = cmpB us b a := by
  unfold cmpB
  grind
theorem cmp_refl (us : List UnitD) (a : TyD) : cmpB us a a = true := by
  unfold cmpB
  simp
theorem cmp_trans {us : List UnitD} {a b c : TyD} (h1 : cmpB us a b = true) (h2 : cmpB us b c = true) : cmpB us a c = true := by
  unfold cmpB at *
  grind
theorem alike_symm (s : SourceD) (a b : RefD) : alikeB s a b = alikeB s b a := by
  unfold alikeB
  cases usable? s a <;> cases usable? s b <;> simp [cmp_symm]
theorem alike_trans {s : SourceD} {a b c : RefD} (h1 : alikeB s a b = true) (h2 : alikeB s b c = true) : alikeB s a c = true := by
  unfold alikeB at *
  cases ha : usable? s a with
  | none => simp [ha] at h1
  | some t =>
    cases hb : usable? s b with
    | none => simp [ha, hb] at h1
    | some u =>
      cases hc : usable? s c with
      | none => simp [hb, hc] at h2
      | some v =>
        simp only [ha, hb, hc] at *
        exact cmp_trans h1 h2
theorem alike_left {s : SourceD} {a b : RefD} (h : alikeB s a b = true) : alikeB s a a = true := by
  unfold alikeB at *
  cases ha : usable? s a with
  | none => simp [ha] at h
  | some t => simp only; exact cmp_refl _ _
theorem alike_out {s : SourceD} {a b : RefD} (h : typeOf? s a.schema a.field = none) : alikeB s a b = false := by
  unfold alikeB usable?
  rw [h]
theorem check_zero {s : SourceD} (h : checkB s = 0) : s.units.all (unitB s.units) = true ∧ s.schemas.all (schB s) = true ∧ s.rules.all (ruleB s) = true ∧ s.purposes.all (purpB s) = true ∧ limB s = true := by
  unfold checkB at h
  split at h
  · next hl =>
    split at h
    · next hc =>
      simp only [Bool.and_eq_true] at hc
      exact ⟨hc.1, hc.2.1, hc.2.2.1, hc.2.2.2, hl⟩
    · cases h
  · cases h
theorem good_usable {s : SourceD} (h : checkB s = 0) {i j : Int} {t : TyD} (ht : typeOf? s i j = some t) : goodT s t = true := by
  obtain ⟨hu, hs, _⟩ := check_zero h
  have hk := good_of hs i j t ht
  have hku := kindB_unit hk
  unfold goodT
  rw [hk, Bool.true_and]
  by_cases h1 : t.unit = -1
  · simp [h1]
  · have hlt : t.unit.toNat < s.units.length := by omega
    rw [unitAt_in hlt, List.all_eq_true.1 hu _ (List.getElem_mem hlt)]
    simp
theorem alike_ok {s : SourceD} (h : checkB s = 0) {a : RefD} {t : TyD} (ht : typeOf? s a.schema a.field = some t) : alikeB s a a = true := by
  have hu : usable? s a = some t := by unfold usable? goodO; rw [ht]; simp only; rw [if_pos (good_usable h ht)]
  unfold alikeB
  rw [hu]
  exact cmp_refl _ _
theorem alike_eq (s : SourceD) (p : SrcAt) (ra rb : RefD) (w : World) (hs : Src w s p) (hsh : Short s) (r : Bool) (hr : alikeB s ra rb = r) :
    Calls Try.prog 17 #[s.val p, ra.val, rb.val] w fun e w' => e = .returned (.bool r) ∧ Below w.heap.size w w' := by
  subst hr
  exact alike_any s p ra rb w hs hsh
end Go.Proofs.Ytogenjbabgibbaa
namespace Go.Proofs.Ytogenjbabgibbaa
open Go.RowKit

/-! A region that draws its order, whose first operations read, call and lay new blocks: each leaves a value that represents something for good; then a tail in one forced order. -/
def repUpon (P : Program) (w : World) (Φ : Value → World → Prop) : Result Next → Prop
  | .ok (.value u) w' => Below w.heap.size w w' ∧ Φ u w'
  | .ok .skip w' => Below w.heap.size w w' ∧ Φ undef w'
  | .ok (.enter f args) w' => w' = w ∧ Calls P f args w (fun e w'' => ∃ v, e = .returned v ∧ Below w.heap.size w w'' ∧ Φ v w'')
  | _ => False
/-- what the front's operations look like: each has its own slot, none is guarded -/
def frontB (ops : Array Oper) (ds : List Nat) (sz : Nat) : Bool := decide ds.Nodup && (List.range ds.length).all fun i => match ops[i]? with | some o => (o.dst == some ds[i]!) && o.guard.isNone && decide (ds[i]! < sz) | none => false
def puts : Act → List Nat → (Nat → Value) → Act
  | a, [], _ => a
  | a, d :: ds, f => puts (a.put (some d) (f d)) ds f

theorem frontB_spec {ops : Array Oper} {ds : List Nat} {sz : Nat} (h : frontB ops ds sz = true) : ds.Nodup ∧ ∀ i, i < ds.length → ∃ o, ops[i]? = some o ∧ o.dst = some ds[i]! ∧ o.guard = none ∧ ds[i]! < sz := by
  unfold frontB at h
  simp only [Bool.and_eq_true, decide_eq_true_eq] at h
  refine ⟨h.1, fun i hi => ?_⟩
  have := List.all_eq_true.1 h.2 i (List.mem_range.2 hi)
  cases ho : ops[i]? with
  | none => simp [ho] at this
  | some o =>
    simp only [ho, Bool.and_eq_true, beq_iff_eq, decide_eq_true_eq, Option.isNone_iff_eq_none] at this
    exact ⟨o, rfl, this.1.1, this.1.2, this.2⟩
theorem eval_put_same {a : Act} {d : Nat} {v : Value} (h : d < a.tmps.size) : (a.put (some d) v).eval (.tmp d) = v := by
  simp [Act.eval, Act.put, h]
theorem eval_put_ne {a : Act} {d k : Nat} {v : Value} (h : d ≠ k) : (a.put (some d) v).eval (.tmp k) = a.eval (.tmp k) :=
  Act.eval_put fun d' hd he => by cases hd; cases he; exact h rfl
theorem put_size {a : Act} {d : Option Nat} {v : Value} : (a.put d v).tmps.size = a.tmps.size := by cases d <;> simp [Act.put]
theorem put_defers' {a : Act} {d : Option Nat} {v : Value} : (a.put d v).defers = a.defers := by cases d <;> simp [Act.put]
theorem puts_spec (f : Nat → Value) : ∀ (ds : List Nat) (a0 : Act), (puts a0 ds f).tmps.size = a0.tmps.size ∧ (puts a0 ds f).defers = a0.defers ∧
    ∀ k, k < a0.tmps.size → (puts a0 ds f).eval (.tmp k) = if k ∈ ds then f k else a0.eval (.tmp k)
  | [], a0 => ⟨rfl, rfl, fun k _ => by simp [puts]⟩
  | d :: ds, a0 => by
    obtain ⟨h1, h2, h3⟩ := puts_spec f ds (a0.put (some d) (f d))
    refine ⟨h1.trans put_size, h2.trans put_defers', fun k hk => ?_⟩
    show (puts (a0.put (some d) (f d)) ds f).eval (.tmp k) = _
    rw [h3 k (by rw [put_size]; exact hk)]
    by_cases e : k ∈ ds
    · simp [e]
    · by_cases e2 : d = k
      · subst e2; simp [e, eval_put_same hk]
      · rw [if_neg e, eval_put_ne e2, if_neg (by simp [e]; exact fun q => e2 q.symm)]
theorem puts_eq {a a0 : Act} {ds : List Nat} (hs : a.tmps.size = a0.tmps.size) (hd : a.defers = a0.defers) (ho : ∀ d, d ∉ ds → a.eval (.tmp d) = a0.eval (.tmp d)) : puts a0 ds (fun d => a.eval (.tmp d)) = a := by
  obtain ⟨h1, h2, h3⟩ := puts_spec (fun d => a.eval (.tmp d)) ds a0
  have key : (puts a0 ds (fun d => a.eval (.tmp d))).tmps = a.tmps := by
    apply Array.ext
    · rw [h1, hs]
    · intro k hk hk'
      have h4 := h3 k (by omega)
      have h5 : (puts a0 ds (fun d => a.eval (.tmp d))).eval (.tmp k) = a.eval (.tmp k) := by
        rw [h4]
        by_cases e : k ∈ ds
        · simp [e]
        · rw [if_neg e, ho k e]
      clear h4
      generalize puts a0 ds (fun d => a.eval (.tmp d)) = b at *
      have h6 : b.tmps.getD k undef = a.tmps.getD k undef := h5
      simpa [hk, hk'] using h6
  generalize puts a0 ds (fun d => a.eval (.tmp d)) = b at *
  obtain ⟨bt, bd⟩ := b
  obtain ⟨t, d⟩ := a
  simp only at key h2 hd
  rw [key, h2, hd]

section
variable {P : Program} {ops : Array Oper} {md : Region.Mode}
theorem wp_of_rep {o : Oper} {a : Act} {w : World} {Φ : Value → World → Prop} {K : Act → World → Prop} {Q' : Exit → Act → World → Prop} (h : repUpon P w Φ ((execOp a.eval o).run P w))
    (hk : ∀ v w', Below w.heap.size w w' → Φ v w' → K (a.put o.dst v) w') : o.wp P a w K Q' := by
  unfold Oper.wp
  generalize (execOp a.eval o).run P w = r at *
  cases r with
  | ok nx w' =>
    cases nx <;> simp only [repUpon] at h <;> simp only [Oper.upon]
    case value u => exact hk _ _ h.1 h.2
    case skip => exact hk _ _ h.1 h.2
    case enter f args =>
      obtain ⟨e1, hc⟩ := h
      rw [e1]
      exact hc.mono fun e w'' ⟨v, he, hb, hv⟩ => by subst he; exact hk _ _ hb hv
  | halt x w' => simp only [repUpon] at h

theorem wpAny_reps {n : Nat} (T : TailFacts md ops n) {ds : List Nat} (hn : ds.length = n) {a0 : Act} {w0 : World} (hf : frontB ops ds a0.tmps.size = true) (Φ : Nat → Value → World → Prop)
    (stab : ∀ i v w w', Φ i v w → Below w.heap.size w w' → Φ i v w')
    (step : ∀ i o, i < n → ops[i]? = some o → ∀ (a : Act) (w : World), Below w0.heap.size w0 w → (∀ d, d ∉ ds → a.eval (.tmp d) = a0.eval (.tmp d)) →
      (∀ e ∈ o.after, Region.binds md e = true → Φ e.on (a.eval (.tmp ds[e.on]!)) w) → repUpon P w (Φ i) ((execOp a.eval o).run P w))
    {Q : Exit → Act → World → Prop} {g : Nat}
    (hend : ∀ (listed : Array Bool) (a : Act) (w : World), listed.size = ops.size → (∀ t, listed.getD t true = false ↔ n ≤ t ∧ t < ops.size) → Below w0.heap.size w0 w → a.tmps.size = a0.tmps.size → a.defers = a0.defers →
      (∀ d, d ∉ ds → a.eval (.tmp d) = a0.eval (.tmp d)) → (∀ j, j < n → Φ j (a.eval (.tmp ds[j]!)) w) → wpAny P md ops Q g listed a w) :
    ∀ (f : Nat) (U : List Nat) (listed : Array Bool) (a : Act) (w : World), U.length = f → U.Nodup → listed.size = ops.size → (∀ t, listed.getD t true = false ↔ t ∈ U ∨ (n ≤ t ∧ t < ops.size)) → (∀ t ∈ U, t < n) →
      Below w0.heap.size w0 w → a.tmps.size = a0.tmps.size → a.defers = a0.defers → (∀ d, d ∉ ds → a.eval (.tmp d) = a0.eval (.tmp d)) → (∀ j, j < n → j ∉ U → Φ j (a.eval (.tmp ds[j]!)) w) → wpAny P md ops Q (f + g) listed a w
  | 0, U, listed, a, w, hU, _, hs, hu, _, hB, hsz, hdf, ho, hp => by
    rw [Nat.zero_add]
    have : U = [] := List.length_eq_zero_iff.1 hU
    subst this
    exact hend listed a w hs (fun t => by simpa using hu t) hB hsz hdf ho (fun j hj => hp j hj (by simp))
  | f + 1, U, listed, a, w, hU, hnd, hs, hu, hUn, hB, hsz, hdf, ho, hp => by
    rw [show f + 1 + g = (f + g) + 1 by omega]
    have hnn := T.le
    obtain ⟨hdn, hfr⟩ := frontB_spec hf
    have hex : ∀ (j : Nat), j ∈ U → ∃ r ∈ U, r ∈ Region.ready md ops listed := by
      intro j
      induction j using Nat.strongRecOn with
      | _ j ih =>
        intro hj
        have hjn := hUn j hj
        obtain ⟨o, ho⟩ : ∃ o, ops[j]? = some o := ⟨_, Array.getElem?_eq_getElem (by omega)⟩
        by_cases hall : ∀ e ∈ o.after, Region.binds md e = true → listed.getD e.on false = true
        · exact ⟨j, hj, mem_ready.2 ⟨(hu j).2 (.inl hj), o, ho, hall⟩⟩
        · simp only [Classical.not_forall] at hall
          obtain ⟨e, he, hb, hne⟩ := hall
          have hlt := T.back j o ho e he hb
          have : listed.getD e.on true = false := by
            have hsz : e.on < listed.size := by omega
            simp [hsz] at hne ⊢; exact hne
          rcases (hu e.on).1 this with q | q
          · exact ih e.on hlt q
          · omega
    obtain ⟨j0, hj0⟩ : ∃ j0, j0 ∈ U := by
      cases U with
      | nil => simp at hU
      | cons x xs => exact ⟨x, by simp⟩
    obtain ⟨r, hrU, hr⟩ := hex j0 hj0
    refine ⟨fun h0 => (by rw [h0] at hr; cases hr), fun i hi => ?_⟩
    obtain ⟨hun, o, hoi, hall⟩ := mem_ready.1 hi
    have hin : i < n := by
      rcases Nat.lt_or_ge i n with q | q
      · exact q
      · obtain ⟨e, he, hb, hon⟩ := waitsOn_spec (T.all i o hoi q r (hUn r hrU))
        have h3 := hall e he hb
        rw [hon, getD_flip' ((hu r).2 (.inl hrU))] at h3
        cases h3
    have hiU : i ∈ U := by
      rcases (hu i).1 hun with q | q
      · exact q
      · omega
    obtain ⟨o2, ho2, hdst, hgd, hdl⟩ := hfr i (by omega)
    rw [hoi] at ho2
    cases ho2
    have hrun := step i o hin hoi a w hB ho (fun e he hb => by
      have hlt := T.back i o hoi e he hb
      refine hp e.on (by omega) fun q => ?_
      have h1 := hall e he hb
      rw [getD_flip' ((hu e.on).2 (.inl q))] at h1
      cases h1)
    unfold wpOp
    rw [hoi]
    simp only
    rw [if_pos (by unfold Region.wanted; rw [hgd])]
    refine .inl (wp_of_rep hrun fun v w' hb hv => ?_)
    have hne : ∀ j, j < n → j ≠ i → ds[i]! ≠ ds[j]! := fun j hj hji he => by
      have h1 : ds[i]! = ds[i]'(by omega) := by simp [show i < ds.length by omega]
      have h2 : ds[j]! = ds[j]'(by omega) := by simp [show j < ds.length by omega]
      rw [h1, h2] at he
      exact hji ((List.getElem_inj hdn).1 he).symm
    rw [hdst]
    refine wpAny_reps T hn hf Φ stab step hend f (U.erase i) _ _ w' ?_ (hnd.erase i) (by simpa using hs) (fun t => ?_) (fun t ht => hUn t (List.mem_of_mem_erase ht)) (hB.trans (hb.mono hB.size)) (put_size.trans hsz) (put_defers'.trans hdf) (fun d hd => ?_) (fun j hj hjU => ?_)
    · rw [List.length_erase_of_mem hiU]; omega
    · by_cases e : i = t
      · subst e
        have hsz : i < listed.size := by omega
        have : i ∉ U.erase i := fun q => by rw [hnd.mem_erase_iff] at q; exact q.1 rfl
        simp [hsz, this]; omega
      · rw [getD_set_ne true e, hu t, hnd.mem_erase_iff]
        constructor
        · rintro (q | q)
          · exact .inl ⟨fun q2 => e q2.symm, q⟩
          · exact .inr q
        · rintro (q | q)
          · exact .inl q.2
          · exact .inr q
    · rw [eval_put_ne (fun q => hd (by rw [← q]; simp [show i < ds.length by omega]))]
      exact ho d hd
    · by_cases e : j = i
      · subst e
        rw [eval_put_same (by omega)]
        exact hv
      · rw [eval_put_ne (hne j hj e)]
        exact stab _ _ _ _ (hp j hj fun q => hjU ((hnd.mem_erase_iff).2 ⟨e, q⟩)) hb
end

/-- the region: each operation of the front in whatever order; behind it the tail in the order of the text, in a frame that is written out -/
theorem wp_region_reps {P : Program} {id : Nat} {Q : Exit → Act → World → Prop} {a : Act} {w : World} {l : List Oper} (ds : List Nat) (Φ : Nat → Value → World → Prop) (hm : P.follows .mixedOrders = true)
    (hT : tailB .any l.toArray ds.length = true) (hf : frontB l.toArray ds a.tmps.size = true) (stab : ∀ i v w w', Φ i v w → Below w.heap.size w w' → Φ i v w')
    (step : ∀ i o, i < ds.length → l[i]? = some o → ∀ (a' : Act) (w' : World), Below w.heap.size w w' → (∀ d, d ∉ ds → a'.eval (.tmp d) = a.eval (.tmp d)) →
      (∀ e ∈ o.after, Region.binds .any e = true → Φ e.on (a'.eval (.tmp ds[e.on]!)) w') → repUpon P w' (Φ i) ((execOp a'.eval o).run P w'))
    (h : ∀ (f : Nat → Value) (w' : World), Below w.heap.size w w' → (∀ j, j < ds.length → Φ j (f ds[j]!) w') → wpList P l.toArray Q (l.drop ds.length) (puts a ds f) w') : (Code.region id l.toArray true).wp P Q a w := by
  have T := tailB_spec hT
  have hn := T.le
  simp only [List.size_toArray] at hn
  refine wp_region_any hm ?_
  have e2 : l.toArray.size = ds.length + (l.drop ds.length).length := by simp; omega
  rw [show wpAny P .any l.toArray Q l.toArray.size = wpAny P .any l.toArray Q (ds.length + (l.drop ds.length).length) by rw [e2]]
  refine wpAny_reps (w0 := w) (a0 := a) T rfl hf Φ stab (fun i o hi ho => step i o hi (by simpa using ho))
    (fun listed a' w' hs hu hB hsz hdf hoth hp => ?_) ds.length (List.range ds.length) _ a w.drew (by simp) List.nodup_range (by simp) (fun t => ?_) (fun t ht => by simpa using ht) (Below.refl _ _).drew rfl rfl (fun _ _ => rfl) (fun j hj hjn => absurd (List.mem_range.2 hj) hjn)
  · have := h (fun d => a'.eval (.tmp d)) w' hB hp
    rw [puts_eq hsz hdf hoth] at this
    exact wpAny_tail T.w (l.drop ds.length) ds.length listed a' w' (Nat.le_refl _) (fun j => by simp [List.getElem?_drop]) hs hu this
  · simp only [List.mem_range]
    rcases Nat.lt_or_ge t l.toArray.size with q | q
    · simp at q ⊢; simp [q]; omega
    · have q' : l.length ≤ t := by simpa using q
      have q2 : ¬ t < l.length := by omega
      simp [q2]
      omega
end Go.Proofs.Ytogenjbabgibbaa
namespace Go.Proofs.Ytogenjbabgibbaa
open Go.RowKit
def bs (l : List UInt8) : ByteArray := ⟨l.toArray⟩
def selfF : FieldD := { name := ⟨#[115, 101, 108, 102]⟩, ty := { kind := 3, lo := 0, hi := 4095, of_ := ⟨#[]⟩, unit := -1, names := [] }, w0 := 0, w1 := 0, w2 := 0, w3 := 0 }
def numF (hi : Int) : FieldD := { name := ⟨#[110]⟩, ty := { kind := 1, lo := 0, hi := hi, of_ := ⟨#[]⟩, unit := 1, names := [] }, w0 := 0, w1 := 0, w2 := 0, w3 := 0 }
abbrev selfC : Array Value := #[.string ⟨#[115, 101, 108, 102]⟩, .int .i64 3, .int .i64 0, .int .i64 4095, .string ⟨#[]⟩, .int .i64 (-1), .slice none 0 0, .int .i64 0, .int .i64 0, .int .i64 0, .int .i64 0]
abbrev numC (hi : Int) : Array Value := #[.string ⟨#[110]⟩, .int .i64 1, .int .i64 0, .int .i64 hi, .string ⟨#[]⟩, .int .i64 1, .slice none 0 0, .int .i64 0, .int .i64 0, .int .i64 0, .int .i64 0]
set_option maxRecDepth 20000 in
theorem self_any (w : World) : Calls Try.prog 50 #[] w fun e w' => e = .returned (.agg selfC) ∧ Below w.heap.size w w' := by
  go_enter Try.func50, Try.ntmps50
  go_wp2
  refine bodyPost_ret (v := .agg selfC) (by simp [results, Try.f50, go_sem]) rfl ⟨rfl, ?_⟩
  (repeat (first | exact Below.refl _ _ | refine Below.alloc ?_ (by first | (simp; done) | (simp; omega)) _ | refine Below.setCell ?_ (by first | (simp; done) | (simp; omega)) _ | refine below_drewN ?_ _))
set_option maxRecDepth 20000 in
theorem num_any (hi : Int) (w : World) : Calls Try.prog 49 #[.int .i64 hi] w fun e w' => e = .returned (.agg (numC hi)) ∧ Below w.heap.size w w' := by
  go_enter Try.func49, Try.ntmps49
  go_wp2
  refine bodyPost_ret (v := .agg (numC hi)) (by simp [results, Try.f49, go_sem]) rfl ⟨rfl, ?_⟩
  (repeat (first | exact Below.refl _ _ | refine Below.alloc ?_ (by first | (simp; done) | (simp; omega)) _ | refine Below.setCell ?_ (by first | (simp; done) | (simp; omega)) _ | refine below_drewN ?_ _))
theorem blk5 {w w0 : World} {c0 c1 c2 c3 c4 : Array Value} {t0 t1 t2 t3 t4 : TypeId} (h : ((((w.alloc (.cells c0 t0)).alloc (.cells c1 t1)).alloc (.cells c2 t2)).alloc (.cells c3 t3)).alloc (.cells c4 t4) = w0) :
    Blk w0 w.heap.size c0 t0 ∧ Blk w0 (w.heap.size + 1) c1 t1 ∧ Blk w0 (w.heap.size + 2) c2 t2 ∧ Blk w0 (w.heap.size + 3) c3 t3 ∧ Blk w0 (w.heap.size + 4) c4 t4 ∧ w0.heap.size = w.heap.size + 5 ∧ Below w.heap.size w w0 := by
  subst h
  obtain ⟨x0, x1, x2, x3, s0, b0⟩ := blk4 (w := w) (c0 := c0) (t0 := t0) (c1 := c1) (t1 := t1) (c2 := c2) (t2 := t2) (c3 := c3) (t3 := t3) rfl
  have x := Blk.new ((((w.alloc (.cells c0 t0)).alloc (.cells c1 t1)).alloc (.cells c2 t2)).alloc (.cells c3 t3)) c4 t4
  rw [s0] at x
  exact ⟨x0.alloc _, x1.alloc _, x2.alloc _, x3.alloc _, x, by simp, b0.alloc (by simp; try omega) _⟩
/-- a new slice whose array is known whole -/
def SLB (B : Nat) (n : Nat) (c : Array Value) (t : TypeId) (v : Value) (w : World) : Prop := ∃ g, B ≤ g ∧ v = .slice (some ⟨g, 0, none⟩) n n ∧ Blk w g c t
def St (Φ : Value → World → Prop) : Prop := ∀ v w w', Φ v w → Below w.heap.size w w' → Φ v w'
theorem st_const (c : Value) : St (fun v _ => v = c) := fun _ _ _ h _ => h
theorem st_slb (B n : Nat) (c : Array Value) (t : TypeId) : St (SLB B n c t) := fun _ _ _ ⟨g, h1, h2, h3⟩ hb => ⟨g, h1, h2, h3.below hb h3.lt⟩
theorem St.ex {Φ : Value → World → Prop} (h : St Φ) (f : Value → Value) : St (fun v w => ∃ u, v = f u ∧ Φ u w) := fun _ _ _ ⟨u, h1, h2⟩ hb => ⟨u, h1, h _ _ _ h2 hb⟩
theorem St.ex2 {Φ Ψ : Value → World → Prop} (h : St Φ) (h' : St Ψ) (f : Value → Value → Value) : St (fun v w => ∃ u u', v = f u u' ∧ Φ u w ∧ Ψ u' w) := fun _ _ _ ⟨u, u', h1, h2, h3⟩ hb => ⟨u, u', h1, h _ _ _ h2 hb, h' _ _ _ h3 hb⟩
abbrev schC (n : UInt8) (u : Value) : Array Value := #[.string ⟨#[n]⟩, .string ⟨#[]⟩, .int .i64 0, .int .i64 1, u, .slice none 0 0]
/-- the schemas' slice -/
def SCH (B : Nat) (v : Value) (w : World) : Prop := ∃ u u', SLB B 2 (schC 120 u ++ schC 121 u') 57 v w ∧ SLB B 2 (selfC ++ numC 10) 74 u w ∧ SLB B 2 (selfC ++ numC 20) 74 u' w
theorem st_sch (B : Nat) : St (SCH B) := fun _ _ _ ⟨u, u', h1, h2, h3⟩ hb => ⟨u, u', st_slb _ _ _ _ _ _ _ h1 hb, st_slb _ _ _ _ _ _ _ h2 hb, st_slb _ _ _ _ _ _ _ h3 hb⟩
/-- the source -/
def EXV (B : Nat) (r : Array Value) (v : Value) (w : World) : Prop := ∃ a b c d, v = .agg #[a, b, c, d, .slice none 0 0, .slice none 0 0] ∧ SLB B 1 #[.string ⟨#[97]⟩] 9 a w ∧ SLB B 2 #[.string ⟨#[99]⟩, .string ⟨#[]⟩, .int .i64 0, .int .i64 0, .int .i64 1, .string ⟨#[101]⟩, .string ⟨#[99]⟩, .int .i64 100, .int .i64 0, .int .i64 100] 69 b w ∧ SCH B c w ∧ SLB B 1 r 47 d w
theorem st_exv (B : Nat) (r : Array Value) : St (EXV B r) := fun _ _ _ ⟨a, b, c, d, h, h1, h2, h3, h4⟩ hb => ⟨a, b, c, d, h, st_slb _ _ _ _ _ _ _ h1 hb, st_slb _ _ _ _ _ _ _ h2 hb, st_sch _ _ _ _ h3 hb, st_slb _ _ _ _ _ _ _ h4 hb⟩
abbrev fnv (i : Nat) : Value := .func (.func i) #[] #[]
def exPhi (B : Nat) (r : Array Value) : Nat → Value → World → Prop
  | 0 => SLB B 1 #[.string ⟨#[97]⟩] 9
  | 1 => fun v _ => v = .agg #[.string ⟨#[99]⟩, .string ⟨#[]⟩, .int .i64 0, .int .i64 0, .int .i64 1]
  | 2 => fun v _ => v = .agg #[.string ⟨#[101]⟩, .string ⟨#[99]⟩, .int .i64 100, .int .i64 0, .int .i64 100]
  | 3 => SLB B 2 #[.string ⟨#[99]⟩, .string ⟨#[]⟩, .int .i64 0, .int .i64 0, .int .i64 1, .string ⟨#[101]⟩, .string ⟨#[99]⟩, .int .i64 100, .int .i64 0, .int .i64 100] 69
  | 4 => fun v _ => v = .agg selfC
  | 5 => fun v _ => v = fnv 49
  | 6 => fun v _ => v = .agg (numC 10)
  | 7 => SLB B 2 (selfC ++ numC 10) 74
  | 8 => fun v w => ∃ u, v = .agg (schC 120 u) ∧ SLB B 2 (selfC ++ numC 10) 74 u w
  | 9 => fun v _ => v = .agg selfC
  | 10 => fun v _ => v = fnv 49
  | 11 => fun v _ => v = .agg (numC 20)
  | 12 => SLB B 2 (selfC ++ numC 20) 74
  | 13 => fun v w => ∃ u, v = .agg (schC 121 u) ∧ SLB B 2 (selfC ++ numC 20) 74 u w
  | 14 => SCH B
  | 15 => fun v _ => v = .agg r
  | 16 => SLB B 1 r 47
  | 17 => EXV B r
  | _ => fun _ _ => True
theorem exPhi_stab (B : Nat) (r : Array Value) : ∀ i, St (exPhi B r i)
  | 0 => st_slb _ _ _ _
  | 1 => st_const _
  | 2 => st_const _
  | 3 => st_slb _ _ _ _
  | 4 => st_const _
  | 5 => st_const _
  | 6 => st_const _
  | 7 => st_slb _ _ _ _
  | 8 => (st_slb _ _ _ _).ex _
  | 9 => st_const _
  | 10 => st_const _
  | 11 => st_const _
  | 12 => st_slb _ _ _ _
  | 13 => (st_slb _ _ _ _).ex _
  | 14 => st_sch _
  | 15 => st_const _
  | 16 => st_slb _ _ _ _
  | 17 => st_exv _ _
  | _ + 18 => fun _ _ _ _ _ => trivial
set_option maxRecDepth 20000 in
set_option maxHeartbeats 8000000 in
theorem example_any (w : World) : Calls Try.prog 22 #[] w fun e w' => (∃ v, e = .returned v ∧ ∃ g1 g2 g3, w.heap.size ≤ g1 ∧ w.heap.size ≤ g2 ∧ w.heap.size ≤ g3 ∧ EXV (w.heap.size + 1) #[.string ⟨#[]⟩, .int .i64 1, .slice (some ⟨g1, 0, none⟩) 1 1, .slice (some ⟨g2, 0, none⟩) 1 1, .slice (some ⟨g3, 0, none⟩) 1 1] v w' ∧
      Blk w' g1 #[.string ⟨#[]⟩, .string ⟨#[]⟩, .int .i64 0, .string ⟨#[]⟩, .string ⟨#[]⟩, .int .i64 (-1), .int .i64 0, .int .i64 0] 53 ∧
      Blk w' g2 #[.int .i64 2, .string ⟨#[]⟩, .string ⟨#[]⟩, .int .i64 (-1), .int .i64 0, .int .i64 5, .string ⟨#[]⟩, .string ⟨#[]⟩, .int .i64 0, .int .i64 1, .int .i64 0] 63 ∧
      Blk w' g3 #[.string ⟨#[]⟩, .int .i64 1, .string ⟨#[]⟩, .string ⟨#[]⟩, .int .i64 0, .int .i64 1, .int .i64 0] 61) ∧ Below w.heap.size w w' := by
  go_enter Try.func22, Try.ntmps22
  go_wp2_with fail
  generalize hw0 : World.alloc _ _ = w0
  obtain ⟨B0, B1, B2, B3, B4, hsz, hb0⟩ := blk5 hw0
  clear hw0
  obtain ⟨r, hr⟩ : ∃ r : Array Value, r = #[.string ⟨#[]⟩, .int .i64 1, .slice (some ⟨w.heap.size + 1, 0, none⟩) 1 1, .slice (some ⟨w.heap.size + 2, 0, none⟩) 1 1, .slice (some ⟨w.heap.size + 3, 0, none⟩) 1 1] := ⟨_, rfl⟩
  refine wp_region_reps [14, 15, 16, 17, 18, 19, 20, 21, 22, 23, 24, 25, 26, 27, 28, 29, 30, 31] (exPhi (w.heap.size + 1) r) (by kernel_rfl) (by kernel_rfl) (by kernel_rfl) (exPhi_stab _ _) ?_ ?_
  · intro i o hi ho a' w' hb hoth hd
    have hc : ∀ v, a'.eval (.const v) = v := fun _ => rfl
    have hfn : ∀ g, a'.eval (.func g) = fnv g := fun _ => rfl
    have hB : w.heap.size + 1 ≤ w'.heap.size := Nat.le_trans (by omega) hb.size
    generalize a'.eval = E at *
    match i, hi with
    | 0, _ =>
      have ho' := Option.some.inj ho
      subst ho'
      simp [go_sem, hc, repUpon]
      exact ⟨(Below.refl _ _).alloc (Nat.le_refl _) _, ⟨_, hB, rfl, Blk.new _ _ _⟩⟩
    | 1, _ =>
      have ho' := Option.some.inj ho
      subst ho'
      simp [go_sem, hc, repUpon]
      exact ⟨Below.refl _ _, rfl⟩
    | 2, _ =>
      have ho' := Option.some.inj ho
      subst ho'
      simp [go_sem, hc, repUpon]
      exact ⟨Below.refl _ _, rfl⟩
    | 3, _ =>
      have ho' := Option.some.inj ho
      subst ho'
      have d1 : exPhi (w.heap.size + 1) r 1 (E (.tmp 15)) w' := hd ⟨1, .data⟩ (by simp) rfl
      have d2 : exPhi (w.heap.size + 1) r 2 (E (.tmp 16)) w' := hd ⟨2, .data⟩ (by simp) rfl
      simp only [exPhi] at d1 d2
      simp [go_sem, repUpon, d1, d2]
      exact ⟨(Below.refl _ _).alloc (Nat.le_refl _) _, ⟨_, hB, rfl, Blk.new _ _ _⟩⟩
    | 4, _ =>
      have ho' := Option.some.inj ho
      subst ho'
      simp [go_sem, hfn, repUpon]
      exact (self_any w').mono fun e w'' ⟨h1, h2⟩ => ⟨_, h1, h2, rfl⟩
    | 5, _ =>
      have ho' := Option.some.inj ho
      subst ho'
      have o1 : E (.tmp 1) = fnv 49 := hoth 1 (by decide)
      simp [go_sem, repUpon, o1]
      exact ⟨Below.refl _ _, rfl⟩
    | 6, _ =>
      have ho' := Option.some.inj ho
      subst ho'
      have d5 : exPhi (w.heap.size + 1) r 5 (E (.tmp 19)) w' := hd ⟨5, .data⟩ (by simp) rfl
      simp only [exPhi] at d5
      simp [go_sem, hc, repUpon, d5]
      exact (num_any 10 w').mono fun e w'' ⟨h1, h2⟩ => ⟨_, h1, h2, rfl⟩
    | 7, _ =>
      have ho' := Option.some.inj ho
      subst ho'
      have d4 : exPhi (w.heap.size + 1) r 4 (E (.tmp 18)) w' := hd ⟨4, .data⟩ (by simp) rfl
      have d6 : exPhi (w.heap.size + 1) r 6 (E (.tmp 20)) w' := hd ⟨6, .data⟩ (by simp) rfl
      simp only [exPhi] at d4 d6
      simp [go_sem, repUpon, d4, d6]
      exact ⟨(Below.refl _ _).alloc (Nat.le_refl _) _, ⟨_, hB, rfl, Blk.new _ _ _⟩⟩
    | 8, _ =>
      have ho' := Option.some.inj ho
      subst ho'
      have d7 : exPhi (w.heap.size + 1) r 7 (E (.tmp 21)) w' := hd ⟨7, .data⟩ (by simp) rfl
      obtain ⟨g7, hg7, q7, b7⟩ := d7
      simp [go_sem, hc, repUpon, q7]
      exact ⟨Below.refl _ _, ⟨_, rfl, ⟨g7, hg7, rfl, b7⟩⟩⟩
    | 9, _ =>
      have ho' := Option.some.inj ho
      subst ho'
      simp [go_sem, hfn, repUpon]
      exact (self_any w').mono fun e w'' ⟨h1, h2⟩ => ⟨_, h1, h2, rfl⟩
    | 10, _ =>
      have ho' := Option.some.inj ho
      subst ho'
      have o1 : E (.tmp 1) = fnv 49 := hoth 1 (by decide)
      simp [go_sem, repUpon, o1]
      exact ⟨Below.refl _ _, rfl⟩
    | 11, _ =>
      have ho' := Option.some.inj ho
      subst ho'
      have d10 : exPhi (w.heap.size + 1) r 10 (E (.tmp 24)) w' := hd ⟨10, .data⟩ (by simp) rfl
      simp only [exPhi] at d10
      simp [go_sem, hc, repUpon, d10]
      exact (num_any 20 w').mono fun e w'' ⟨h1, h2⟩ => ⟨_, h1, h2, rfl⟩
    | 12, _ =>
      have ho' := Option.some.inj ho
      subst ho'
      have d9 : exPhi (w.heap.size + 1) r 9 (E (.tmp 23)) w' := hd ⟨9, .data⟩ (by simp) rfl
      have d11 : exPhi (w.heap.size + 1) r 11 (E (.tmp 25)) w' := hd ⟨11, .data⟩ (by simp) rfl
      simp only [exPhi] at d9 d11
      simp [go_sem, repUpon, d9, d11]
      exact ⟨(Below.refl _ _).alloc (Nat.le_refl _) _, ⟨_, hB, rfl, Blk.new _ _ _⟩⟩
    | 13, _ =>
      have ho' := Option.some.inj ho
      subst ho'
      have d12 : exPhi (w.heap.size + 1) r 12 (E (.tmp 26)) w' := hd ⟨12, .data⟩ (by simp) rfl
      obtain ⟨g12, hg12, q12, b12⟩ := d12
      simp [go_sem, hc, repUpon, q12]
      exact ⟨Below.refl _ _, ⟨_, rfl, ⟨g12, hg12, rfl, b12⟩⟩⟩
    | 14, _ =>
      have ho' := Option.some.inj ho
      subst ho'
      have d8 : exPhi (w.heap.size + 1) r 8 (E (.tmp 22)) w' := hd ⟨8, .data⟩ (by simp) rfl
      have d13 : exPhi (w.heap.size + 1) r 13 (E (.tmp 27)) w' := hd ⟨13, .data⟩ (by simp) rfl
      obtain ⟨u, q8, h8⟩ := d8
      obtain ⟨u', q13, h13⟩ := d13
      obtain ⟨g7, hg7, q7, b7⟩ := h8
      obtain ⟨g12, hg12, q12, b12⟩ := h13
      subst q7 q12
      simp [go_sem, repUpon, q8, q13]
      exact ⟨(Below.refl _ _).alloc (Nat.le_refl _) _, ⟨_, _, ⟨_, hB, rfl, Blk.new _ _ _⟩, ⟨g7, hg7, rfl, b7.alloc _⟩, ⟨g12, hg12, rfl, b12.alloc _⟩⟩⟩
    | 15, _ =>
      have ho' := Option.some.inj ho
      subst ho'
      have o2 : E (.tmp 2) = .pointer (some ⟨w.heap.size + 1 + 1 + 1 + 1, 0, none⟩) := hoth 2 (by decide)
      have B4' := B4.below hb (by omega)
      have z0 := B4'.cell 0
      have z1 := B4'.cell 1
      have z2 := B4'.cell 2
      have z3 := B4'.cell 3
      have z4 := B4'.cell 4
      simp at z0 z1 z2 z3 z4
      simp [go_sem, repUpon, o2, z0, z1, z2, z3, z4]
      exact ⟨Below.refl _ _, by rw [hr]; rfl⟩
    | 16, _ =>
      have ho' := Option.some.inj ho
      subst ho'
      have d15 : exPhi (w.heap.size + 1) r 15 (E (.tmp 29)) w' := hd ⟨15, .data⟩ (by simp) rfl
      subst hr
      simp only [exPhi] at d15
      simp [go_sem, repUpon, d15]
      exact ⟨(Below.refl _ _).alloc (Nat.le_refl _) _, ⟨_, hB, rfl, Blk.new _ _ _⟩⟩
    | 17, _ =>
      have ho' := Option.some.inj ho
      subst ho'
      have d0 : exPhi (w.heap.size + 1) r 0 (E (.tmp 14)) w' := hd ⟨0, .data⟩ (by simp) rfl
      have d3 : exPhi (w.heap.size + 1) r 3 (E (.tmp 17)) w' := hd ⟨3, .data⟩ (by simp) rfl
      have d14 : exPhi (w.heap.size + 1) r 14 (E (.tmp 28)) w' := hd ⟨14, .data⟩ (by simp) rfl
      have d16 : exPhi (w.heap.size + 1) r 16 (E (.tmp 30)) w' := hd ⟨16, .data⟩ (by simp) rfl
      obtain ⟨g0, hg0, q0, b0⟩ := d0
      obtain ⟨g3, hg3, q3, b3⟩ := d3
      obtain ⟨u, u', h14, k1, k2⟩ := d14
      obtain ⟨g14, hg14, q14, b14⟩ := h14
      obtain ⟨g16, hg16, q16, b16⟩ := d16
      simp [go_sem, repUpon, q0, q3, q14, q16]
      exact ⟨Below.refl _ _, ⟨_, _, _, _, rfl, ⟨g0, hg0, rfl, b0⟩, ⟨g3, hg3, rfl, b3⟩, ⟨u, u', ⟨g14, hg14, rfl, b14⟩, k1, k2⟩, ⟨g16, hg16, rfl, b16⟩⟩⟩

    | i + 18, hi => exact absurd hi (by simp)
  · intro f w' hb hp
    obtain ⟨va, vb, vc, vd, hv, h1, h2, h3, h4⟩ : EXV (w.heap.size + 1) r (f 31) w' := hp 17 (by decide)
    clear hp
    have hst : w'.heap.size ≥ w.heap.size + 5 := by have := hb.size; omega
    obtain ⟨g0, hg0, rfl, b0⟩ := h1
    obtain ⟨g3, hg3, rfl, b3⟩ := h2
    obtain ⟨u, u', ⟨g14, hg14, rfl, b14⟩, ⟨gx, hgx, rfl, bx⟩, ⟨gy, hgy, rfl, by_⟩⟩ := h3
    obtain ⟨g16, hg16, rfl, b16⟩ := h4
    have B0' := B0.below hb (by omega)
    have B1' := B1.below hb (by omega)
    have B2' := B2.below hb (by omega)
    have B3' := B3.below hb (by omega)
    have hbw : Below w.heap.size w w' := hb0.trans (hb.mono hb0.size)
    have HX := Lib.hid (And.intro b0 (And.intro b3 (And.intro b14 (And.intro bx (And.intro by_ (And.intro b16 (And.intro B0' (And.intro B1' (And.intro B2' B3')))))))))
    have z0 := B0'.cell 0
    have z1 := B0'.cell 1
    have z2 := B0'.cell 2
    have z3 := B0'.cell 3
    have z4 := B0'.cell 4
    have z5 := B0'.cell 5
    have y0 := B0'.frozen 0
    have y1 := B0'.frozen 1
    have y2 := B0'.frozen 2
    have y3 := B0'.frozen 3
    have y4 := B0'.frozen 4
    have y5 := B0'.frozen 5
    simp at z0 z1 z2 z3 z4 z5
    have Hbw := Lib.hid hbw
    clear b0 b3 b14 bx by_ b16 B0' B1' B2' B3' B0 B1 B2 B3 B4 hb hb0 hbw
    simp [puts, Act.put]
    rw [hv]
    go_wp2_with fail
    generalize hw4 : World.setCell _ _ _ = w4
    obtain ⟨b0, b3, b14, bx, by_, b16, B0', B1', B2', B3'⟩ := HX.out
    obtain ⟨X0, hoth, hsz2, hbel, hblk⟩ := stored (vs := [.slice (some ⟨g0, 0, none⟩) 1 1, .slice (some ⟨g3, 0, none⟩) 2 2, .slice (some ⟨g14, 0, none⟩) 2 2, .slice (some ⟨g16, 0, none⟩) 1 1, .slice none 0 0, .slice none 0 0]) B0' rfl hw4
    clear hw4 z0 z1 z2 z3 z4 z5
    have z0 := X0.cell 0
    have z1 := X0.cell 1
    have z2 := X0.cell 2
    have z3 := X0.cell 3
    have z4 := X0.cell 4
    have z5 := X0.cell 5
    simp at z0 z1 z2 z3 z4 z5
    refine bodyPost_ret (v := .agg #[.slice (some ⟨g0, 0, none⟩) 1 1, .slice (some ⟨g3, 0, none⟩) 2 2, .slice (some ⟨g14, 0, none⟩) 2 2, .slice (some ⟨g16, 0, none⟩) 1 1, .slice none 0 0, .slice none 0 0]) (by simp [results, Try.f22, go_sem, z0, z1, z2, z3, z4, z5]) rfl ⟨⟨_, rfl, w.heap.size + 1, w.heap.size + 2, w.heap.size + 3, by omega, by omega, by omega, ?_, hblk B1' (by omega), hblk B2' (by omega), hblk B3' (by omega)⟩, Hbw.out.trans (hbel _ (Nat.le_refl _))⟩
    exact ⟨_, _, _, _, rfl, ⟨g0, hg0, rfl, hblk b0 (by omega)⟩, ⟨g3, hg3, rfl, hblk b3 (by omega)⟩, ⟨_, _, ⟨g14, hg14, rfl, hblk b14 (by omega)⟩, ⟨gx, hgx, rfl, hblk bx (by omega)⟩, ⟨gy, hgy, rfl, hblk by_ (by omega)⟩⟩, ⟨g16, hg16, rfl, by rw [← hr]; exact hblk b16 (by omega)⟩⟩
end Go.Proofs.Ytogenjbabgibbaa
namespace Go.Proofs.Ytogenjbabgibbaa
open Go.RowKit
theorem Sl.of_blk {α : Type} {n : Nat} {R : Rep α} {w : World} {g : Nat} {c : Array Value} {t : TypeId} {l : List α} (hb : Blk w g c t) (h : ∀ i (hi : i < l.length), ∃ es, R w es l[i] ∧ ∀ j, j < n → c[i * n + j]? = es[j]?) : Sl n R w (some ⟨g, 0, none⟩) l :=
  fun i hi => by
    obtain ⟨es, h1, h2⟩ := h i hi
    exact ⟨g, 0, rfl, hb.lt, es, h1, fun j hj => by rw [hb.cell, Nat.zero_add]; exact h2 j hj⟩
/-- one element, two elements -/
theorem Sl.blk1 {α : Type} {n : Nat} {R : Rep α} {w : World} {g : Nat} {c : Array Value} {t : TypeId} {x : α} (hb : Blk w g c t) (es : List Value) (hr : R w es x) (h : ∀ j, j < n → c[j]? = es[j]?) : Sl n R w (some ⟨g, 0, none⟩) [x] :=
  Sl.of_blk hb fun i hi => by
    have : i = 0 := by simp at hi; omega
    subst this
    exact ⟨es, hr, fun j hj => by simpa using h j hj⟩
theorem Sl.blk2 {α : Type} {n : Nat} {R : Rep α} {w : World} {g : Nat} {c : Array Value} {t : TypeId} {x y : α} (hb : Blk w g c t) (es es' : List Value) (hr : R w es x) (hr' : R w es' y) (h : ∀ j, j < n → c[j]? = es[j]?) (h' : ∀ j, j < n → c[n + j]? = es'[j]?) : Sl n R w (some ⟨g, 0, none⟩) [x, y] :=
  Sl.of_blk hb fun i hi => by
    match i, hi with
    | 0, _ => exact ⟨es, hr, fun j hj => by simpa using h j hj⟩
    | 1, _ => exact ⟨es', hr', fun j hj => by simpa using h' j hj⟩
def trm (v f n : Int) : TermD := { name := ⟨#[]⟩, path := ⟨#[]⟩, var := v, field := f, n := n }
def exRule : RuleD := { head := ⟨#[]⟩, schema := 1, froms := [{ name := ⟨#[]⟩, kind := ⟨#[]⟩, schema := 0, of_ := trm (-1) 0 0 }], where_ := [{ op := 2, a := trm (-1) 0 5, b := trm 0 1 0 }], sets := [{ path := ⟨#[]⟩, field := 1, term := trm 0 1 0 }] }
def exD (hi : Int) : SourceD :=
  { issuers := [⟨#[97]⟩],
    units := [{ name := ⟨#[99]⟩, of_ := ⟨#[]⟩, factor := 0, base := 0, scale := 1 }, { name := ⟨#[101]⟩, of_ := ⟨#[99]⟩, factor := 100, base := 0, scale := 100 }],
    schemas := [{ name := ⟨#[120]⟩, by_ := ⟨#[]⟩, issuer := 0, version := 1, fields := [selfF, numF 10], depends := 0 }, { name := ⟨#[121]⟩, by_ := ⟨#[]⟩, issuer := 0, version := 1, fields := [selfF, numF hi], depends := 0 }],
    rules := [exRule], converts := 0, purposes := [] }
abbrev exAt (g0 gu gs gr : Nat) : SrcAt := ⟨some ⟨g0, 0, none⟩, 1, some ⟨gu, 0, none⟩, 2, some ⟨gs, 0, none⟩, 2, some ⟨gr, 0, none⟩, 1, none, 0, none, 0⟩
set_option maxRecDepth 20000 in
set_option maxHeartbeats 4000000 in
theorem src_of {w : World} {g0 gu gs gx gy gr g1 g2 g3 : Nat} {hi : Int} (hhi : (Lit.int .i64 hi).wf = true) (b0 : Blk w g0 #[.string ⟨#[97]⟩] 9) (bu : Blk w gu #[.string ⟨#[99]⟩, .string ⟨#[]⟩, .int .i64 0, .int .i64 0, .int .i64 1, .string ⟨#[101]⟩, .string ⟨#[99]⟩, .int .i64 100, .int .i64 0, .int .i64 100] 69)
    (bs : Blk w gs #[.string ⟨#[120]⟩, .string ⟨#[]⟩, .int .i64 0, .int .i64 1, .slice (some ⟨gx, 0, none⟩) 2 2, .slice none 0 0, .string ⟨#[121]⟩, .string ⟨#[]⟩, .int .i64 0, .int .i64 1, .slice (some ⟨gy, 0, none⟩) 2 2, .slice none 0 0] 57) (bx : Blk w gx (selfC ++ numC 10) 74) (by' : Blk w gy (selfC ++ numC hi) 74) (br : Blk w gr #[.string ⟨#[]⟩, .int .i64 1, .slice (some ⟨g1, 0, none⟩) 1 1, .slice (some ⟨g2, 0, none⟩) 1 1, .slice (some ⟨g3, 0, none⟩) 1 1] 47)
    (b1 : Blk w g1 #[.string ⟨#[]⟩, .string ⟨#[]⟩, .int .i64 0, .string ⟨#[]⟩, .string ⟨#[]⟩, .int .i64 (-1), .int .i64 0, .int .i64 0] 53) (b2 : Blk w g2 #[.int .i64 2, .string ⟨#[]⟩, .string ⟨#[]⟩, .int .i64 (-1), .int .i64 0, .int .i64 5, .string ⟨#[]⟩, .string ⟨#[]⟩, .int .i64 0, .int .i64 1, .int .i64 0] 63) (b3 : Blk w g3 #[.string ⟨#[]⟩, .int .i64 1, .string ⟨#[]⟩, .string ⟨#[]⟩, .int .i64 0, .int .i64 1, .int .i64 0] 61) : Src w (exD hi) (exAt g0 gu gs gr) where
  h0 := Sl.blk1 b0 [.string ⟨#[97]⟩] ⟨rfl, by decide⟩ (by intro j hj; match j, hj with | 0, _ => rfl)
  h1 := Sl.blk2 bu [.string ⟨#[99]⟩, .string ⟨#[]⟩, .int .i64 0, .int .i64 0, .int .i64 1] [.string ⟨#[101]⟩, .string ⟨#[99]⟩, .int .i64 100, .int .i64 0, .int .i64 100] ⟨[_], [_], [_], [_], [_], rfl, ⟨rfl, by decide⟩, ⟨rfl, by decide⟩, ⟨rfl, by decide⟩, ⟨rfl, by decide⟩, ⟨rfl, by decide⟩⟩ ⟨[_], [_], [_], [_], [_], rfl, ⟨rfl, by decide⟩, ⟨rfl, by decide⟩, ⟨rfl, by decide⟩, ⟨rfl, by decide⟩, ⟨rfl, by decide⟩⟩ (by intro j hj; match j, hj with | 0, _ => rfl | 1, _ => rfl | 2, _ => rfl | 3, _ => rfl | 4, _ => rfl) (by intro j hj; match j, hj with | 0, _ => rfl | 1, _ => rfl | 2, _ => rfl | 3, _ => rfl | 4, _ => rfl)
  h2 := Sl.blk2 bs [.string ⟨#[120]⟩, .string ⟨#[]⟩, .int .i64 0, .int .i64 1, .slice (some ⟨gx, 0, none⟩) 2 2, .slice none 0 0] [.string ⟨#[121]⟩, .string ⟨#[]⟩, .int .i64 0, .int .i64 1, .slice (some ⟨gy, 0, none⟩) 2 2, .slice none 0 0]
    ⟨[_], [_], [_], [_], [_], [_], rfl, ⟨rfl, by decide⟩, ⟨rfl, by decide⟩, ⟨rfl, by decide⟩, ⟨rfl, by decide⟩, ⟨_, _, rfl, Sl.blk2 bx selfC.toList (numC 10).toList ⟨[_], [_, _, _, _, _, _], [_], [_], [_], [_], rfl, ⟨rfl, by decide⟩, ⟨[_], [_], [_], [_], [_], [_], rfl, ⟨rfl, by decide⟩, ⟨rfl, by decide⟩, ⟨rfl, by decide⟩, ⟨rfl, by decide⟩, ⟨rfl, by decide⟩, ⟨_, _, rfl, Sl.nil⟩⟩, ⟨rfl, by decide⟩, ⟨rfl, by decide⟩, ⟨rfl, by decide⟩, ⟨rfl, by decide⟩⟩ ⟨[_], [_, _, _, _, _, _], [_], [_], [_], [_], rfl, ⟨rfl, by decide⟩, ⟨[_], [_], [_], [_], [_], [_], rfl, ⟨rfl, by decide⟩, ⟨rfl, by decide⟩, ⟨rfl, by decide⟩, ⟨rfl, by decide⟩, ⟨rfl, by decide⟩, ⟨_, _, rfl, Sl.nil⟩⟩, ⟨rfl, by decide⟩, ⟨rfl, by decide⟩, ⟨rfl, by decide⟩, ⟨rfl, by decide⟩⟩ (by intro j hj; match j, hj with | 0, _ => rfl | 1, _ => rfl | 2, _ => rfl | 3, _ => rfl | 4, _ => rfl | 5, _ => rfl | 6, _ => rfl | 7, _ => rfl | 8, _ => rfl | 9, _ => rfl | 10, _ => rfl) (by intro j hj; match j, hj with | 0, _ => rfl | 1, _ => rfl | 2, _ => rfl | 3, _ => rfl | 4, _ => rfl | 5, _ => rfl | 6, _ => rfl | 7, _ => rfl | 8, _ => rfl | 9, _ => rfl | 10, _ => rfl)⟩, ⟨_, _, rfl⟩⟩
    ⟨[_], [_], [_], [_], [_], [_], rfl, ⟨rfl, show (⟨#[121]⟩ : ByteArray).size ≤ maxLen by decide⟩, ⟨rfl, show (⟨#[]⟩ : ByteArray).size ≤ maxLen by decide⟩, ⟨rfl, show (Lit.int .i64 0).wf = true by decide⟩, ⟨rfl, show (Lit.int .i64 1).wf = true by decide⟩, ⟨_, _, rfl, Sl.blk2 by' selfC.toList (numC hi).toList ⟨[_], [_, _, _, _, _, _], [_], [_], [_], [_], rfl, ⟨rfl, by decide⟩, ⟨[_], [_], [_], [_], [_], [_], rfl, ⟨rfl, by decide⟩, ⟨rfl, by decide⟩, ⟨rfl, by decide⟩, ⟨rfl, by decide⟩, ⟨rfl, by decide⟩, ⟨_, _, rfl, Sl.nil⟩⟩, ⟨rfl, by decide⟩, ⟨rfl, by decide⟩, ⟨rfl, by decide⟩, ⟨rfl, by decide⟩⟩ ⟨[_], [_, _, _, _, _, _], [_], [_], [_], [_], rfl, ⟨rfl, show (⟨#[110]⟩ : ByteArray).size ≤ maxLen by decide⟩, ⟨[_], [_], [_], [_], [_], [_], rfl, ⟨rfl, show (Lit.int .i64 1).wf = true by decide⟩, ⟨rfl, show (Lit.int .i64 0).wf = true by decide⟩, ⟨rfl, hhi⟩, ⟨rfl, show (⟨#[]⟩ : ByteArray).size ≤ maxLen by decide⟩, ⟨rfl, show (Lit.int .i64 1).wf = true by decide⟩, ⟨_, _, rfl, Sl.nil⟩⟩, ⟨rfl, show (Lit.int .i64 0).wf = true by decide⟩, ⟨rfl, show (Lit.int .i64 0).wf = true by decide⟩, ⟨rfl, show (Lit.int .i64 0).wf = true by decide⟩, ⟨rfl, show (Lit.int .i64 0).wf = true by decide⟩⟩ (by intro j hj; match j, hj with | 0, _ => rfl | 1, _ => rfl | 2, _ => rfl | 3, _ => rfl | 4, _ => rfl | 5, _ => rfl | 6, _ => rfl | 7, _ => rfl | 8, _ => rfl | 9, _ => rfl | 10, _ => rfl) (by intro j hj; match j, hj with | 0, _ => rfl | 1, _ => rfl | 2, _ => rfl | 3, _ => rfl | 4, _ => rfl | 5, _ => rfl | 6, _ => rfl | 7, _ => rfl | 8, _ => rfl | 9, _ => rfl | 10, _ => rfl)⟩, ⟨_, _, rfl⟩⟩
    (by intro j hj; match j, hj with | 0, _ => rfl | 1, _ => rfl | 2, _ => rfl | 3, _ => rfl | 4, _ => rfl | 5, _ => rfl) (by intro j hj; match j, hj with | 0, _ => rfl | 1, _ => rfl | 2, _ => rfl | 3, _ => rfl | 4, _ => rfl | 5, _ => rfl)
  h3 := Sl.blk1 br [.string ⟨#[]⟩, .int .i64 1, .slice (some ⟨g1, 0, none⟩) 1 1, .slice (some ⟨g2, 0, none⟩) 1 1, .slice (some ⟨g3, 0, none⟩) 1 1]
    ⟨[_], [_], [_], [_], [_], rfl, ⟨rfl, by decide⟩, ⟨rfl, by decide⟩,
      ⟨_, _, rfl, Sl.blk1 b1 [.string ⟨#[]⟩, .string ⟨#[]⟩, .int .i64 0, .string ⟨#[]⟩, .string ⟨#[]⟩, .int .i64 (-1), .int .i64 0, .int .i64 0] ⟨[_], [_], [_], [_, _, _, _, _], rfl, ⟨rfl, by decide⟩, ⟨rfl, by decide⟩, ⟨rfl, by decide⟩, ⟨[_], [_], [_], [_], [_], rfl, ⟨rfl, by decide⟩, ⟨rfl, by decide⟩, ⟨rfl, by decide⟩, ⟨rfl, by decide⟩, ⟨rfl, by decide⟩⟩⟩ (by intro j hj; match j, hj with | 0, _ => rfl | 1, _ => rfl | 2, _ => rfl | 3, _ => rfl | 4, _ => rfl | 5, _ => rfl | 6, _ => rfl | 7, _ => rfl)⟩,
      ⟨_, _, rfl, Sl.blk1 b2 [.int .i64 2, .string ⟨#[]⟩, .string ⟨#[]⟩, .int .i64 (-1), .int .i64 0, .int .i64 5, .string ⟨#[]⟩, .string ⟨#[]⟩, .int .i64 0, .int .i64 1, .int .i64 0] ⟨[_], [_, _, _, _, _], [_, _, _, _, _], rfl, ⟨rfl, by decide⟩, ⟨[_], [_], [_], [_], [_], rfl, ⟨rfl, by decide⟩, ⟨rfl, by decide⟩, ⟨rfl, by decide⟩, ⟨rfl, by decide⟩, ⟨rfl, by decide⟩⟩, ⟨[_], [_], [_], [_], [_], rfl, ⟨rfl, by decide⟩, ⟨rfl, by decide⟩, ⟨rfl, by decide⟩, ⟨rfl, by decide⟩, ⟨rfl, by decide⟩⟩⟩ (by intro j hj; match j, hj with | 0, _ => rfl | 1, _ => rfl | 2, _ => rfl | 3, _ => rfl | 4, _ => rfl | 5, _ => rfl | 6, _ => rfl | 7, _ => rfl | 8, _ => rfl | 9, _ => rfl | 10, _ => rfl)⟩,
      ⟨_, _, rfl, Sl.blk1 b3 [.string ⟨#[]⟩, .int .i64 1, .string ⟨#[]⟩, .string ⟨#[]⟩, .int .i64 0, .int .i64 1, .int .i64 0] ⟨[_], [_], [_, _, _, _, _], rfl, ⟨rfl, by decide⟩, ⟨rfl, by decide⟩, ⟨[_], [_], [_], [_], [_], rfl, ⟨rfl, by decide⟩, ⟨rfl, by decide⟩, ⟨rfl, by decide⟩, ⟨rfl, by decide⟩, ⟨rfl, by decide⟩⟩⟩ (by intro j hj; match j, hj with | 0, _ => rfl | 1, _ => rfl | 2, _ => rfl | 3, _ => rfl | 4, _ => rfl | 5, _ => rfl | 6, _ => rfl)⟩⟩
    (by intro j hj; match j, hj with | 0, _ => rfl | 1, _ => rfl | 2, _ => rfl | 3, _ => rfl | 4, _ => rfl)
  h5 := Sl.nil
end Go.Proofs.Ytogenjbabgibbaa
namespace Go.Proofs.Ytogenjbabgibbaa
open Go.RowKit
structure Lens (s : SourceD) : Prop where
  l2 : s.schemas.length ≤ 9223372036854775807
  l3 : s.rules.length ≤ 9223372036854775807
  l5 : s.purposes.length ≤ 9223372036854775807
def fewF (f : FieldD) : Bool := decide (f.ty.names.length ≤ 20)
def fewS (x : SchemaD) : Bool := decide (x.fields.length ≤ 14) && x.fields.all fewF
def fewR (r : RuleD) : Bool := decide (r.froms.length ≤ 6 ∧ r.where_.length ≤ 12 ∧ r.sets.length ≤ 16)
def fewP (x : PurposeD) : Bool := decide (x.may.length ≤ 70)
def fewL (s : SourceD) : Bool := decide (s.issuers.length ≤ 12 ∧ s.units.length ≤ 70 ∧ s.schemas.length ≤ 20 ∧ s.rules.length ≤ 20 ∧ s.converts ≤ 20 ∧ s.purposes.length ≤ 12)
def fewB (s : SourceD) : Bool := s.schemas.all fewS && (s.rules.all fewR && (s.purposes.all fewP && fewL s))
theorem few_of {s : SourceD} (h : fewB s = true) : Few s := by
  unfold fewB at h
  simp only [Bool.and_eq_true] at h
  refine ⟨fun x hx f hf => ?_, fun x hx => ?_⟩
  · have h1 := List.all_eq_true.1 h.1 x hx
    simp only [fewS, Bool.and_eq_true] at h1
    have h2 := List.all_eq_true.1 h1.2 f hf
    simp [fewF] at h2; omega
  · have h1 := List.all_eq_true.1 h.1 x hx
    simp [fewS] at h1; omega
set_option maxRecDepth 20000 in
set_option maxHeartbeats 4000000 in
theorem few_any (s : SourceD) (p : SrcAt) (w : World) (hs : Src w s p) (hn : Lens s) :
    Calls Try.prog 10 #[s.val p] w fun e w' => e = .returned (.bool (fewB s)) ∧ Below w.heap.size w w' := by
  obtain ⟨a0, k0, a1, k1, a2, k2, a3, k3, a4, k4, a5, k5⟩ := p
  obtain ⟨hn1, hn2, hn3⟩ := hn
  have Hs := Lib.hid hs
  have Hv := Lib.hid (show fewB s = (s.schemas.all fewS && (s.rules.all fewR && (s.purposes.all fewP && fewL s))) from rfl)
  clear hs
  go_enter Try.func10, Try.ntmps10
  go_wp2_with fail
  generalize hw0 : World.alloc _ _ = w0
  obtain ⟨X0, hsz, hb0⟩ := blk1 hw0
  have x0 : w0.cell? ⟨w.heap.size, 0, none⟩ = some (.slice a0 s.issuers.length k0) := X0.cell 0
  have x1 : w0.cell? ⟨w.heap.size, 1, none⟩ = some (.slice a1 s.units.length k1) := X0.cell 1
  have x2 : w0.cell? ⟨w.heap.size, 2, none⟩ = some (.slice a2 s.schemas.length k2) := X0.cell 2
  have x3 : w0.cell? ⟨w.heap.size, 3, none⟩ = some (.slice a3 s.rules.length k3) := X0.cell 3
  have x4 : w0.cell? ⟨w.heap.size, 4, none⟩ = some (.slice a4 s.converts k4) := X0.cell 4
  have x5 : w0.cell? ⟨w.heap.size, 5, none⟩ = some (.slice a5 s.purposes.length k5) := X0.cell 5
  have hl_x : w.heap.size < w0.heap.size := by omega
  have hwl : w.heap.size ≤ w0.heap.size := hb0.size
  have Hb := Lib.hid hb0
  clear hw0 hb0 hsz X0
  go_loopw [3] (fun i wr => ∃ k : Nat, k ≤ (s.schemas).length ∧ i = .int .i64 k ∧ Hid (PreP (fewS) (s.schemas) k) ∧ Below w0.heap.size w0 wr) (fun i _ => (s.schemas).length - (intOf i).toNat)
  case atStart => exact ⟨0, Nat.zero_le _, rfl, Lib.hid PreP.zero, Below.refl _ _⟩
  case round =>
    obtain ⟨k, hk, rfl, Hn, hb1⟩ := hrel
    have Hb1 := Lib.hid hb1
    have hwl1 := hb1.size
    replace x0 := cell_kept hb1 x0 hl_x
    replace x1 := cell_kept hb1 x1 hl_x
    replace x2 := cell_kept hb1 x2 hl_x
    replace x3 := cell_kept hb1 x3 hl_x
    replace x4 := cell_kept hb1 x4 hl_x
    replace x5 := cell_kept hb1 x5 hl_x
    replace Hb := Lib.hid (Hb.out.trans (hb1.mono hwl))
    replace hl_x := Nat.lt_of_lt_of_le hl_x hb1.size
    replace hwl := Nat.le_trans hwl hb1.size
    clear hb1
    by_cases hlt : k < (s.schemas).length
    case pos =>
      have hlt' : (k : Int) < ((s.schemas).length : Int) := by omega
      obtain ⟨b, off, e1, hl_d, _, fa, fk, da, dk, d0, d1, d2, d3, d4, d5, hff⟩ := SchemaD.out ((Hs.out.below Hb.out).h2) k hlt
      simp only at e1
      subst e1
      have hsuc := fun h => Hn.out.succ hlt h
      have hno := fun h => not_all (p := fewS) hlt h
      generalize (s.schemas)[k] = x at *
      have Hsuc := Lib.hid hsuc
      have Hno := Lib.hid hno
      clear hsuc hno
      have Hff := Lib.hid hff
      have Hssuc := Hsuc
      have Hsno := Hno
      clear Hsuc Hno hff
      by_cases hf14 : x.fields.length ≤ 14
      case neg =>
        have hq' : (14 : Int) < (x.fields.length : Int) := by omega
        have Hq := Lib.hid hf14
        clear hf14
        go_wp2_with fail
        all_goals (try (exfalso; omega))
        go_ret
        exact ⟨ret_bool (by rw [Hv.out, Hsno.out (by simp [fewS, Hq.out])]; rfl), Hb.out⟩
      have hq' : ¬ (14 : Int) < (x.fields.length : Int) := by omega
      go_wp2_with fail
      all_goals (try (exfalso; omega))
      clear hlt Hn
      have hjt := hlt'
      clear hlt'
      obtain ⟨j, rfl⟩ : ∃ j : Nat, j = k := ⟨_, rfl⟩
      obtain ⟨wo, rfl⟩ : ∃ wo : World, wo = wr := ⟨_, rfl⟩
      go_loopw [4] (fun i wr => ∃ k : Nat, k ≤ (x.fields).length ∧ i = .int .i64 k ∧ Hid (PreP (fewF) (x.fields) k) ∧ Below wo.heap.size wo wr) (fun i _ => (x.fields).length - (intOf i).toNat)
      case atStart => exact ⟨0, Nat.zero_le _, rfl, Lib.hid PreP.zero, Below.refl _ _⟩
      case round =>
        obtain ⟨k, hk, rfl, Hn, hb1⟩ := hrel
        have Hb2 := Lib.hid hb1
        have hwl2 := hb1.size
        replace x0 := cell_kept hb1 x0 hl_x
        replace x1 := cell_kept hb1 x1 hl_x
        replace x2 := cell_kept hb1 x2 hl_x
        replace x3 := cell_kept hb1 x3 hl_x
        replace x4 := cell_kept hb1 x4 hl_x
        replace x5 := cell_kept hb1 x5 hl_x
        replace d0 := cell_kept hb1 d0 hl_d
        replace d1 := cell_kept hb1 d1 hl_d
        replace d2 := cell_kept hb1 d2 hl_d
        replace d3 := cell_kept hb1 d3 hl_d
        replace d4 := cell_kept hb1 d4 hl_d
        replace d5 := cell_kept hb1 d5 hl_d
        replace Hb := Lib.hid (Hb.out.trans (hb1.mono hwl))
        replace Hb1 := Lib.hid (Hb1.out.trans (hb1.mono hwl1))
        replace hl_x := Nat.lt_of_lt_of_le hl_x hb1.size
        replace hl_d := Nat.lt_of_lt_of_le hl_d hb1.size
        replace hwl := Nat.le_trans hwl hb1.size
        replace hwl1 := Nat.le_trans hwl1 hb1.size
        clear hb1
        by_cases hlt : k < (x.fields).length
        case pos =>
          have hlt' : (k : Int) < ((x.fields).length : Int) := by omega
          obtain ⟨b2, o2, e1, hl_g, _, an, kn, g0, g1, g2, g3, g4, g5, g6, g7, g8, g9, g10, -⟩ := FieldD.out (Hff.out.below RFieldD.stab Hb2.out) k hlt
          subst e1
          have hsuc := fun h => Hn.out.succ hlt h
          have hno := fun h => not_all (p := fewF) hlt h
          generalize (x.fields)[k] = f at *
          have Hsuc := Lib.hid hsuc
          have Hno := Lib.hid hno
          clear hsuc hno
          by_cases hq : f.ty.names.length ≤ 20
          case neg =>
            have hq' : (20 : Int) < (f.ty.names.length : Int) := by omega
            have Hq := Lib.hid hq
            clear hq
            go_wp2_with fail
            all_goals (try (exfalso; omega))
            go_ret
            exact ⟨ret_bool (by rw [Hv.out, Hsno.out (by rw [fewS, Hno.out (by simp [fewF, Hq.out])]; simp)]; rfl), Hb.out⟩
          have hq' : ¬ (20 : Int) < (f.ty.names.length : Int) := by omega
          go_wp2_with fail
          all_goals (try (exfalso; omega))
          go_roundw
          case rel => exact ⟨k + 1, by omega, by go_num, Lib.hid (Hsuc.out (by simp [fewF, hq])), Hb2.out⟩
          case measure => simp [intOf]; omega
        case neg =>
          have hall := Hn.out.all (show (x.fields).length ≤ k by omega)
          clear Hn
          go_wp2_with fail
          go_roundw
          case rel => exact ⟨j + 1, by omega, by go_num, Lib.hid (Hssuc.out (by rw [fewS, hall, decide_eq_true hf14]; rfl)), Hb1.out⟩
          case measure => simp [intOf]; omega
    case neg =>
      have hall := Hn.out.all (show (s.schemas).length ≤ k by omega)
      clear Hn
      rw [hall, Bool.true_and] at Hv
      clear hall
      go_wp2_with fail
      obtain ⟨wq, rfl⟩ : ∃ wq : World, wq = wr := ⟨_, rfl⟩
      go_loopw [5] (fun i wr => ∃ k : Nat, k ≤ (s.rules).length ∧ i = .int .i64 k ∧ Hid (PreP (fewR) (s.rules) k) ∧ Below wq.heap.size wq wr) (fun i _ => (s.rules).length - (intOf i).toNat)
      case atStart => exact ⟨0, Nat.zero_le _, rfl, Lib.hid PreP.zero, Below.refl _ _⟩
      case round =>
        obtain ⟨k, hk, rfl, Hn, hb1⟩ := hrel
        have Hb2 := Lib.hid hb1
        have hwl2 := hb1.size
        replace x0 := cell_kept hb1 x0 hl_x
        replace x1 := cell_kept hb1 x1 hl_x
        replace x2 := cell_kept hb1 x2 hl_x
        replace x3 := cell_kept hb1 x3 hl_x
        replace x4 := cell_kept hb1 x4 hl_x
        replace x5 := cell_kept hb1 x5 hl_x
        replace Hb := Lib.hid (Hb.out.trans (hb1.mono hwl))
        replace Hb1 := Lib.hid (Hb1.out.trans (hb1.mono hwl1))
        replace hl_x := Nat.lt_of_lt_of_le hl_x hb1.size
        replace hwl := Nat.le_trans hwl hb1.size
        replace hwl1 := Nat.le_trans hwl1 hb1.size
        clear hb1
        by_cases hlt : k < (s.rules).length
        case pos =>
          have hlt' : (k : Int) < ((s.rules).length : Int) := by omega
          obtain ⟨b, off, e1, hl_d, _, p2, q2, p3, q3, p4, q4, d0, d1, d2, d3, d4, -⟩ := RuleD.out ((Hs.out.below Hb.out).h3) k hlt
          simp only at e1
          subst e1
          have hsuc := fun h => Hn.out.succ hlt h
          have hno := fun h => not_all (p := fewR) hlt h
          generalize (s.rules)[k] = x at *
          have Hsuc := Lib.hid hsuc
          have Hno := Lib.hid hno
          clear hsuc hno
          by_cases hq : x.froms.length ≤ 6 ∧ x.where_.length ≤ 12 ∧ x.sets.length ≤ 16
          case neg =>
            have Hq := Lib.hid hq
            clear hq
            go_wp2_with fail
            all_goals (try (exfalso; have := Hq.out; omega))
            all_goals go_ret
            all_goals exact ⟨ret_bool (by rw [Hv.out, Hno.out (by simp only [fewR]; exact decide_eq_false Hq.out)]; rfl), Hb.out⟩
          have Hq := Lib.hid hq
          obtain ⟨q1, q2, q3⟩ := hq
          go_wp2_with fail
          all_goals (try (exfalso; omega))
          go_roundw
          case rel => exact ⟨k + 1, by omega, by go_num, Lib.hid (Hsuc.out (by simp only [fewR]; exact decide_eq_true Hq.out)), Hb2.out⟩
          case measure => simp [intOf]; omega
        case neg =>
          have hall := Hn.out.all (show (s.rules).length ≤ k by omega)
          clear Hn
          rw [hall, Bool.true_and] at Hv
          clear hall
          go_wp2_with fail
          obtain ⟨wp, rfl⟩ : ∃ wp : World, wp = wr := ⟨_, rfl⟩
          go_loopw [6] (fun i wr => ∃ k : Nat, k ≤ (s.purposes).length ∧ i = .int .i64 k ∧ Hid (PreP (fewP) (s.purposes) k) ∧ Below wp.heap.size wp wr) (fun i _ => (s.purposes).length - (intOf i).toNat)
          case atStart => exact ⟨0, Nat.zero_le _, rfl, Lib.hid PreP.zero, Below.refl _ _⟩
          case round =>
            obtain ⟨k, hk, rfl, Hn, hb1⟩ := hrel
            have Hb3 := Lib.hid hb1
            have hwl3 := hb1.size
            replace x0 := cell_kept hb1 x0 hl_x
            replace x1 := cell_kept hb1 x1 hl_x
            replace x2 := cell_kept hb1 x2 hl_x
            replace x3 := cell_kept hb1 x3 hl_x
            replace x4 := cell_kept hb1 x4 hl_x
            replace x5 := cell_kept hb1 x5 hl_x
            replace Hb := Lib.hid (Hb.out.trans (hb1.mono hwl))
            replace Hb1 := Lib.hid (Hb1.out.trans (hb1.mono hwl1))
            replace Hb2 := Lib.hid (Hb2.out.trans (hb1.mono hwl2))
            replace hl_x := Nat.lt_of_lt_of_le hl_x hb1.size
            replace hwl := Nat.le_trans hwl hb1.size
            replace hwl1 := Nat.le_trans hwl1 hb1.size
            replace hwl2 := Nat.le_trans hwl2 hb1.size
            clear hb1
            by_cases hlt : k < (s.purposes).length
            case pos =>
              have hlt' : (k : Int) < ((s.purposes).length : Int) := by omega
              obtain ⟨b, off, e1, hl_d, _, pa, pk, d0, d1, d2, -⟩ := PurposeD.out ((Hs.out.below Hb.out).h5) k hlt
              simp only at e1
              subst e1
              have hsuc := fun h => Hn.out.succ hlt h
              have hno := fun h => not_all (p := fewP) hlt h
              generalize (s.purposes)[k] = x at *
              have Hsuc := Lib.hid hsuc
              have Hno := Lib.hid hno
              clear hsuc hno
              by_cases hq : x.may.length ≤ 70
              case neg =>
                have Hq := Lib.hid hq
                clear hq
                go_wp2_with fail
                all_goals (try (exfalso; have := Hq.out; omega))
                all_goals go_ret
                all_goals exact ⟨ret_bool (by rw [Hv.out, Hno.out (by simp only [fewP]; exact decide_eq_false Hq.out)]; rfl), Hb.out⟩
              have Hq := Lib.hid hq
              go_wp2_with fail
              all_goals (try (exfalso; omega))
              go_roundw
              case rel => exact ⟨k + 1, by omega, by go_num, Lib.hid (Hsuc.out (by simp only [fewP]; exact decide_eq_true Hq.out)), Hb3.out⟩
              case measure => simp [intOf]; omega
            case neg =>
              have hall := Hn.out.all (show (s.purposes).length ≤ k by omega)
              clear Hn
              rw [hall, Bool.true_and] at Hv
              clear hall
              by_cases hd : s.issuers.length ≤ 12 ∧ s.units.length ≤ 70 ∧ s.schemas.length ≤ 20 ∧ s.rules.length ≤ 20 ∧ s.converts ≤ 20 ∧ s.purposes.length ≤ 12
              · have Hd := Lib.hid hd
                obtain ⟨q1, q2, q3, q4, q5, q6⟩ := hd
                go_wp2_with fail
                all_goals (try (exfalso; omega))
                all_goals go_ret
                all_goals exact ⟨ret_bool (by rw [Hv.out, fewL, decide_eq_true Hd.out]; simp; try omega), Hb.out⟩
              · have Hd := Lib.hid hd
                clear hd
                go_wp2_with fail
                all_goals (try (exfalso; have := Hd.out; omega))
                all_goals go_ret
                all_goals exact ⟨ret_bool (by rw [Hv.out, fewL, decide_eq_false Hd.out]; try (have := Hd.out; simp; try omega)), Hb.out⟩

end Go.Proofs.Ytogenjbabgibbaa
namespace Go.Proofs.Ytogenjbabgibbaa
open Go.RowKit
def ref4 (s f : Int) : RefD := { name := ⟨#[]⟩, path := ⟨#[]⟩, schema := s, field := f }
def zs : SchemaD := { name := ⟨#[]⟩, by_ := ⟨#[]⟩, issuer := 0, version := 0, fields := [], depends := 0 }
def zsD (n : Nat) : SourceD := { issuers := [], units := [], schemas := List.replicate n zs, rules := [], converts := 0, purposes := [] }
theorem f_c0 : checkB (zsD 0) = 0 := by decide +kernel
theorem f_c1 : checkB (exD 20) = 0 := by decide +kernel
theorem f_c2 : checkB (exD 9) = 120 := by decide +kernel
theorem f_c3 : checkB (zsD 1) = 120 := by decide +kernel
theorem f_c4 : checkB (zsD 17) = 2 := by decide +kernel
theorem f_b0 : baseV (exD 20) (ref4 0 1) 3 = (300, 0) := by decide +kernel
theorem f_b1 : baseV (exD 20) (ref4 0 0) 3 = (3, 0) := by decide +kernel
theorem f_b2 : baseV (exD 20) (ref4 2 0) 1 = (0, 120) := by decide +kernel
theorem f_a0 : alikeB (exD 20) (ref4 0 1) (ref4 1 1) = true := by decide +kernel
theorem f_a1 : alikeB (exD 20) (ref4 0 1) (ref4 0 0) = false := by decide +kernel
theorem f_a2 : alikeB (exD 20) (ref4 0 1) (ref4 2 0) = false := by decide +kernel
theorem f_v0 : valueB (exD 20) 0 1 10 = true := by decide +kernel
theorem f_v1 : valueB (exD 20) 0 1 11 = false := by decide +kernel
theorem f_v2 : valueB (exD 20) 0 2 0 = false := by decide +kernel
theorem f_k0 : compareB 2 1 2 = true := by decide +kernel
theorem f_k1 : compareB 0 1 1 = false := by decide +kernel
theorem f_k2 : compareB 4 1 2 = true := by decide +kernel
theorem f_k3 : compareB 3 2 1 = false := by decide +kernel
theorem few_ex (hi : Int) : Few (exD hi) := few_of (by rfl)
theorem few_z0 : Few (zsD 0) := few_of (by decide +kernel)
theorem few_z1 : Few (zsD 1) := few_of (by decide +kernel)
theorem few_z17 : Few (zsD 17) := few_of (by decide +kernel)
/-- the source of the example, as a value -/
abbrev exC (g0 gu gs gr : Nat) : Array Value := #[.slice (some ⟨g0, 0, none⟩) 1 1, .slice (some ⟨gu, 0, none⟩) 2 2, .slice (some ⟨gs, 0, none⟩) 2 2, .slice (some ⟨gr, 0, none⟩) 1 1, .slice none 0 0, .slice none 0 0]
abbrev refC (s f : Int) : Value := .agg #[.string ⟨#[]⟩, .string ⟨#[]⟩, .int .i64 s, .int .i64 f]
theorem check_ex {w : World} {g0 gu gs gr : Nat} {hi : Int} (hs : Src w (exD hi) (exAt g0 gu gs gr)) {r : Int} (hr : checkB (exD hi) = r) :
    Calls Try.prog 11 #[.agg (exC g0 gu gs gr)] w fun e w' => e = .returned (.int .i64 r) ∧ Below w.heap.size w w' := by
  subst hr
  exact check_any (exD hi) (exAt g0 gu gs gr) w hs (few_ex hi)
theorem src_z {w : World} {a : Option Addr} {n k : Nat} (h : Sl 6 RSchemaD w a (List.replicate n zs)) : Src w (zsD n) ⟨none, 0, none, 0, a, k, none, 0, none, 0, none, 0⟩ := ⟨Sl.nil, Sl.nil, h, Sl.nil, Sl.nil⟩
theorem check_z {w : World} {a : Option Addr} {n m k : Nat} (hm : n = m) (h : Sl 6 RSchemaD w a (List.replicate n zs)) (hf : Few (zsD n)) {r : Int} (hr : checkB (zsD n) = r) :
    Calls Try.prog 11 #[.agg #[.slice none 0 0, .slice none 0 0, .slice a m k, .slice none 0 0, .slice none 0 0, .slice none 0 0]] w fun e w' => e = .returned (.int .i64 r) ∧ Below w.heap.size w w' := by
  subst hr
  have h1 := check_any (zsD n) ⟨none, 0, none, 0, a, k, none, 0, none, 0, none, 0⟩ w (src_z h) hf
  simpa [SourceD.val, zsD, hm] using h1
theorem base_ex {w : World} {g0 gu gs gr : Nat} {hi : Int} (hs : Src w (exD hi) (exAt g0 gu gs gr)) (s f v : Int) {n e : Int} (hr : baseV (exD hi) (ref4 s f) v = (n, e)) :
    Calls Try.prog 13 #[.agg (exC g0 gu gs gr), refC s f, .int .i64 v] w fun e' w' => e' = .returned (.tuple #[.int .i64 n, .int .i64 e]) ∧ Below w.heap.size w w' := by
  have h := base_any (exD hi) (exAt g0 gu gs gr) (ref4 s f) v w hs (few_ex hi).short
  rw [hr] at h
  exact h
theorem alike_ex {w : World} {g0 gu gs gr : Nat} {hi : Int} (hs : Src w (exD hi) (exAt g0 gu gs gr)) (s f s' f' : Int) {r : Bool} (hr : alikeB (exD hi) (ref4 s f) (ref4 s' f') = r) :
    Calls Try.prog 17 #[.agg (exC g0 gu gs gr), refC s f, refC s' f'] w fun e w' => e = .returned (.bool r) ∧ Below w.heap.size w w' := by
  subst hr
  exact alike_any (exD hi) (exAt g0 gu gs gr) (ref4 s f) (ref4 s' f') w hs (few_ex hi).short
theorem value_ex {w : World} {g0 gu gs gr : Nat} {hi : Int} (hs : Src w (exD hi) (exAt g0 gu gs gr)) (i j v : Int) {r : Bool} (hr : valueB (exD hi) i j v = r) :
    Calls Try.prog 15 #[.agg (exC g0 gu gs gr), .int .i64 i, .int .i64 j, .int .i64 v] w fun e w' => e = .returned (.bool r) ∧ Below w.heap.size w w' := by
  subst hr
  exact value_any (exD hi) (exAt g0 gu gs gr) i j v w hs (few_ex hi).short
theorem compare_ex (w : World) (op a b : Int) {r : Bool} (hr : compareB op a b = r) :
    Calls Try.prog 19 #[.int .i64 op, .int .i64 a, .int .i64 b] w fun e w' => e = .returned (.bool r) ∧ Below w.heap.size w w' := by
  subst hr
  exact compare_any op a b w
end Go.Proofs.Ytogenjbabgibbaa
namespace Go.Proofs.Ytogenjbabgibbaa
open Go.RowKit
abbrev zc : List Value := [.string ⟨#[]⟩, .string ⟨#[]⟩, .int .i64 0, .int .i64 0, .slice none 0 0, .slice none 0 0]
theorem mk1 (W : World) : (Instr.makeSlice 24 (.int .i64 1) (.int .i64 1)).run Try.prog W = .ok (.slice (some ⟨W.heap.size, 0, none⟩) 1 1) (W.alloc (.cells #[.string ⟨#[]⟩, .string ⟨#[]⟩, .int .i64 0, .int .i64 0, .slice none 0 0, .slice none 0 0] 57)) := by kernel_rfl
theorem mk17 (W : World) : (Instr.makeSlice 24 (.int .i64 17) (.int .i64 17)).run Try.prog W = .ok (.slice (some ⟨W.heap.size, 0, none⟩) 17 17) (W.alloc (.cells #[.string ⟨#[]⟩, .string ⟨#[]⟩, .int .i64 0, .int .i64 0, .slice none 0 0, .slice none 0 0, .string ⟨#[]⟩, .string ⟨#[]⟩, .int .i64 0, .int .i64 0, .slice none 0 0, .slice none 0 0, .string ⟨#[]⟩, .string ⟨#[]⟩, .int .i64 0, .int .i64 0, .slice none 0 0, .slice none 0 0, .string ⟨#[]⟩, .string ⟨#[]⟩, .int .i64 0, .int .i64 0, .slice none 0 0, .slice none 0 0, .string ⟨#[]⟩, .string ⟨#[]⟩, .int .i64 0, .int .i64 0, .slice none 0 0, .slice none 0 0, .string ⟨#[]⟩, .string ⟨#[]⟩, .int .i64 0, .int .i64 0, .slice none 0 0, .slice none 0 0, .string ⟨#[]⟩, .string ⟨#[]⟩, .int .i64 0, .int .i64 0, .slice none 0 0, .slice none 0 0, .string ⟨#[]⟩, .string ⟨#[]⟩, .int .i64 0, .int .i64 0, .slice none 0 0, .slice none 0 0, .string ⟨#[]⟩, .string ⟨#[]⟩, .int .i64 0, .int .i64 0, .slice none 0 0, .slice none 0 0, .string ⟨#[]⟩, .string ⟨#[]⟩, .int .i64 0, .int .i64 0, .slice none 0 0, .slice none 0 0, .string ⟨#[]⟩, .string ⟨#[]⟩, .int .i64 0, .int .i64 0, .slice none 0 0, .slice none 0 0, .string ⟨#[]⟩, .string ⟨#[]⟩, .int .i64 0, .int .i64 0, .slice none 0 0, .slice none 0 0, .string ⟨#[]⟩, .string ⟨#[]⟩, .int .i64 0, .int .i64 0, .slice none 0 0, .slice none 0 0, .string ⟨#[]⟩, .string ⟨#[]⟩, .int .i64 0, .int .i64 0, .slice none 0 0, .slice none 0 0, .string ⟨#[]⟩, .string ⟨#[]⟩, .int .i64 0, .int .i64 0, .slice none 0 0, .slice none 0 0, .string ⟨#[]⟩, .string ⟨#[]⟩, .int .i64 0, .int .i64 0, .slice none 0 0, .slice none 0 0, .string ⟨#[]⟩, .string ⟨#[]⟩, .int .i64 0, .int .i64 0, .slice none 0 0, .slice none 0 0] 57)) := by kernel_rfl
theorem zs_rep (w : World) : RSchemaD w zc zs := ⟨[_], [_], [_], [_], [_], [_], rfl, ⟨rfl, by decide⟩, ⟨rfl, by decide⟩, ⟨rfl, by decide⟩, ⟨rfl, by decide⟩, ⟨_, _, rfl, Sl.nil⟩, ⟨_, _, rfl⟩⟩
def zcells (n : Nat) : Array Value := (List.replicate n zc).flatten.toArray
theorem zcells_get : ∀ (n i j : Nat), i < n → j < 6 → (List.replicate n zc).flatten[i * 6 + j]? = zc[j]?
  | 0, _, _, h, _ => absurd h (Nat.not_lt_zero _)
  | n + 1, 0, j, _, hj => by
    rw [List.replicate_succ, List.flatten_cons, List.getElem?_append_left (by simpa using hj)]
    simp
  | n + 1, i + 1, j, hi, hj => by
    rw [List.replicate_succ, List.flatten_cons, List.getElem?_append_right (by simp; omega), ← zcells_get n i j (by omega) hj]
    congr 1
    simp
    omega
theorem zs_sl {w : World} {g n : Nat} (h : Blk w g (zcells n) 57) : Sl 6 RSchemaD w (some ⟨g, 0, none⟩) (List.replicate n zs) :=
  Sl.of_blk h fun i hi => by
    simp only [List.length_replicate] at hi
    exact ⟨zc, by simpa using zs_rep w, fun j hj => by unfold zcells; rw [List.getElem?_toArray]; exact zcells_get n i j hi hj⟩
theorem zs1 {w : World} {g : Nat} (h : Blk w g #[.string ⟨#[]⟩, .string ⟨#[]⟩, .int .i64 0, .int .i64 0, .slice none 0 0, .slice none 0 0] 57) : Sl 6 RSchemaD w (some ⟨g, 0, none⟩) (List.replicate 1 zs) := zs_sl (n := 1) h
theorem zs17 {w : World} {g : Nat} (h : Blk w g #[.string ⟨#[]⟩, .string ⟨#[]⟩, .int .i64 0, .int .i64 0, .slice none 0 0, .slice none 0 0, .string ⟨#[]⟩, .string ⟨#[]⟩, .int .i64 0, .int .i64 0, .slice none 0 0, .slice none 0 0, .string ⟨#[]⟩, .string ⟨#[]⟩, .int .i64 0, .int .i64 0, .slice none 0 0, .slice none 0 0, .string ⟨#[]⟩, .string ⟨#[]⟩, .int .i64 0, .int .i64 0, .slice none 0 0, .slice none 0 0, .string ⟨#[]⟩, .string ⟨#[]⟩, .int .i64 0, .int .i64 0, .slice none 0 0, .slice none 0 0, .string ⟨#[]⟩, .string ⟨#[]⟩, .int .i64 0, .int .i64 0, .slice none 0 0, .slice none 0 0, .string ⟨#[]⟩, .string ⟨#[]⟩, .int .i64 0, .int .i64 0, .slice none 0 0, .slice none 0 0, .string ⟨#[]⟩, .string ⟨#[]⟩, .int .i64 0, .int .i64 0, .slice none 0 0, .slice none 0 0, .string ⟨#[]⟩, .string ⟨#[]⟩, .int .i64 0, .int .i64 0, .slice none 0 0, .slice none 0 0, .string ⟨#[]⟩, .string ⟨#[]⟩, .int .i64 0, .int .i64 0, .slice none 0 0, .slice none 0 0, .string ⟨#[]⟩, .string ⟨#[]⟩, .int .i64 0, .int .i64 0, .slice none 0 0, .slice none 0 0, .string ⟨#[]⟩, .string ⟨#[]⟩, .int .i64 0, .int .i64 0, .slice none 0 0, .slice none 0 0, .string ⟨#[]⟩, .string ⟨#[]⟩, .int .i64 0, .int .i64 0, .slice none 0 0, .slice none 0 0, .string ⟨#[]⟩, .string ⟨#[]⟩, .int .i64 0, .int .i64 0, .slice none 0 0, .slice none 0 0, .string ⟨#[]⟩, .string ⟨#[]⟩, .int .i64 0, .int .i64 0, .slice none 0 0, .slice none 0 0, .string ⟨#[]⟩, .string ⟨#[]⟩, .int .i64 0, .int .i64 0, .slice none 0 0, .slice none 0 0, .string ⟨#[]⟩, .string ⟨#[]⟩, .int .i64 0, .int .i64 0, .slice none 0 0, .slice none 0 0] 57) : Sl 6 RSchemaD w (some ⟨g, 0, none⟩) (List.replicate 17 zs) := zs_sl (n := 17) h
end Go.Proofs.Ytogenjbabgibbaa
namespace Go.Proofs.Ytogenjbabgibbaa
open Go.RowKit
/-- the example, block by block -/
structure Exs (w : World) (g0 gu gs gx gy gr g1 g2 g3 : Nat) (hi : Int) : Prop where
  b0 : Blk w g0 #[.string ⟨#[97]⟩] 9
  bu : Blk w gu #[.string ⟨#[99]⟩, .string ⟨#[]⟩, .int .i64 0, .int .i64 0, .int .i64 1, .string ⟨#[101]⟩, .string ⟨#[99]⟩, .int .i64 100, .int .i64 0, .int .i64 100] 69
  bs : Blk w gs #[.string ⟨#[120]⟩, .string ⟨#[]⟩, .int .i64 0, .int .i64 1, .slice (some ⟨gx, 0, none⟩) 2 2, .slice none 0 0, .string ⟨#[121]⟩, .string ⟨#[]⟩, .int .i64 0, .int .i64 1, .slice (some ⟨gy, 0, none⟩) 2 2, .slice none 0 0] 57
  bx : Blk w gx (selfC ++ numC 10) 74
  by' : Blk w gy (selfC ++ numC hi) 74
  br : Blk w gr #[.string ⟨#[]⟩, .int .i64 1, .slice (some ⟨g1, 0, none⟩) 1 1, .slice (some ⟨g2, 0, none⟩) 1 1, .slice (some ⟨g3, 0, none⟩) 1 1] 47
  b1 : Blk w g1 #[.string ⟨#[]⟩, .string ⟨#[]⟩, .int .i64 0, .string ⟨#[]⟩, .string ⟨#[]⟩, .int .i64 (-1), .int .i64 0, .int .i64 0] 53
  b2 : Blk w g2 #[.int .i64 2, .string ⟨#[]⟩, .string ⟨#[]⟩, .int .i64 (-1), .int .i64 0, .int .i64 5, .string ⟨#[]⟩, .string ⟨#[]⟩, .int .i64 0, .int .i64 1, .int .i64 0] 63
  b3 : Blk w g3 #[.string ⟨#[]⟩, .int .i64 1, .string ⟨#[]⟩, .string ⟨#[]⟩, .int .i64 0, .int .i64 1, .int .i64 0] 61
theorem Exs.src {w : World} {g0 gu gs gx gy gr g1 g2 g3 : Nat} {hi : Int} (h : Exs w g0 gu gs gx gy gr g1 g2 g3 hi) (hhi : (Lit.int .i64 hi).wf = true) : Src w (exD hi) (exAt g0 gu gs gr) :=
  src_of hhi h.b0 h.bu h.bs h.bx h.by' h.br h.b1 h.b2 h.b3
theorem Exs.below {w w' : World} {g0 gu gs gx gy gr g1 g2 g3 : Nat} {hi : Int} (h : Exs w g0 gu gs gx gy gr g1 g2 g3 hi) (hb : Below w.heap.size w w') : Exs w' g0 gu gs gx gy gr g1 g2 g3 hi :=
  ⟨h.b0.below hb h.b0.lt, h.bu.below hb h.bu.lt, h.bs.below hb h.bs.lt, h.bx.below hb h.bx.lt, h.by'.below hb h.by'.lt, h.br.below hb h.br.lt, h.b1.below hb h.b1.lt, h.b2.below hb h.b2.lt, h.b3.below hb h.b3.lt⟩
theorem example_at (w : World) : Calls Try.prog 22 #[] w fun e w' => (∃ g0 gu gs gx gy gr g1 g2 g3, e = .returned (.agg (exC g0 gu gs gr)) ∧ w.heap.size ≤ gy ∧ Exs w' g0 gu gs gx gy gr g1 g2 g3 20) ∧ Below w.heap.size w w' :=
  (example_any w).mono fun e w' ⟨⟨v, he, g1, g2, g3, _, _, _, hx, b1, b2, b3⟩, hb⟩ => by
    obtain ⟨_, _, _, _, rfl, ⟨g0, _, rfl, b0⟩, ⟨gu, _, rfl, bu⟩, ⟨_, _, ⟨gs, _, rfl, bs⟩, ⟨gx, _, rfl, bx⟩, ⟨gy, hy, rfl, by'⟩⟩, ⟨gr, _, rfl, br⟩⟩ := hx
    exact ⟨⟨g0, gu, gs, gx, gy, gr, g1, g2, g3, he, by omega, ⟨b0, bu, bs, bx, by', br, b1, b2, b3⟩⟩, hb⟩
/-- two blocks that hold different things are two -/
theorem Blk.ne {w : World} {b b' : Nat} {c c' : Array Value} {t t' : TypeId} (h : Blk w b c t) (h' : Blk w b' c' t') (hne : t ≠ t') : b ≠ b' := fun e => by
  subst e
  have := h.symm.trans h'
  simp only [Option.some.injEq, Obj.cells.injEq] at this
  exact hne this.2.1
theorem Blk.ne' {w : World} {b b' : Nat} {c c' : Array Value} {t t' : TypeId} (h : Blk w b c t) (h' : Blk w b' c' t') (i : Nat) (hne : c[i]? ≠ c'[i]?) : b ≠ b' := fun e => by
  subst e
  have := h.symm.trans h'
  simp only [Option.some.injEq, Obj.cells.injEq] at this
  exact hne (by rw [this.1])
/-- t.Schemas[1].Fields[1].Type.Hi = 9 -/
theorem Exs.set {w : World} {g0 gu gs gx gy gr g1 g2 g3 : Nat} (h : Exs w g0 gu gs gx gy gr g1 g2 g3 20) : Exs (w.setCell ⟨gy, 14, none⟩ (.int .i64 9)) g0 gu gs gx gy gr g1 g2 g3 9 :=
  ⟨h.b0.keep (h.b0.ne h.by' (by decide)) _, h.bu.keep (h.bu.ne h.by' (by decide)) _, h.bs.keep (h.bs.ne h.by' (by decide)) _, h.bx.keep (h.bx.ne' h.by' 14 (by simp)) _, h.by'.set 14 _, h.br.keep (h.br.ne h.by' (by decide)) _, h.b1.keep (h.b1.ne h.by' (by decide)) _, h.b2.keep (h.b2.ne h.by' (by decide)) _, h.b3.keep (h.b3.ne h.by' (by decide)) _⟩
theorem Exs.kept {w : World} {g0 gu gs gx gy gr g1 g2 g3 : Nat} {hi : Int} (h : Exs w g0 gu gs gx gy gr g1 g2 g3 hi) {B : Nat} {w' : World} (hb : Below B w w') (hB : g0 < B ∧ gu < B ∧ gs < B ∧ gx < B ∧ gy < B ∧ gr < B ∧ g1 < B ∧ g2 < B ∧ g3 < B) : Exs w' g0 gu gs gx gy gr g1 g2 g3 hi :=
  ⟨h.b0.below hb hB.1, h.bu.below hb hB.2.1, h.bs.below hb hB.2.2.1, h.bx.below hb hB.2.2.2.1, h.by'.below hb hB.2.2.2.2.1, h.br.below hb hB.2.2.2.2.2.1, h.b1.below hb hB.2.2.2.2.2.2.1, h.b2.below hb hB.2.2.2.2.2.2.2.1, h.b3.below hb hB.2.2.2.2.2.2.2.2⟩
theorem Exs.lts {w : World} {g0 gu gs gx gy gr g1 g2 g3 : Nat} {hi : Int} (h : Exs w g0 gu gs gx gy gr g1 g2 g3 hi) : g0 < w.heap.size ∧ gu < w.heap.size ∧ gs < w.heap.size ∧ gx < w.heap.size ∧ gy < w.heap.size ∧ gr < w.heap.size ∧ g1 < w.heap.size ∧ g2 < w.heap.size ∧ g3 < w.heap.size :=
  ⟨h.b0.lt, h.bu.lt, h.bs.lt, h.bx.lt, h.by'.lt, h.br.lt, h.b1.lt, h.b2.lt, h.b3.lt⟩
set_option maxRecDepth 20000 in
set_option maxHeartbeats 8000000 in
theorem sane_any (w : World) : Calls Try.prog 9 #[] w fun e w' => e = .returned (.bool true) ∧ Below w.heap.size w w' := by
  have hm1 := mk1
  have hm17 := mk17
  go_enter Try.func9, Try.ntmps9
  go_wp2_with fail
  refine (example_at _).mono ?_
  rintro e w1 ⟨⟨g0, gu, gs, gx, gy, gr, g1, g2, g3, rfl, -, hS⟩, hb1⟩
  have HSl := Lib.hid hS.lts
  have HS := Lib.hid hS
  have Hb := Lib.hid hb1
  have hwl := hb1.size
  have hw1 := hb1.size
  clear hS hb1
  go_wp2_with fail
  refine (example_at _).mono ?_
  rintro e w2 ⟨⟨t0, tu, ts, tx, ty, tr, t1, t2, t3, rfl, hty, hT⟩, hb1⟩
  replace HS := Lib.hid (HS.out.below hb1)
  replace Hb := Lib.hid (Hb.out.trans (hb1.mono hwl))
  have zs := hT.bs.cell 10
  have zy := hT.by'.cell 14
  have fy := hT.by'.frozen 14
  have hl1 := hT.bs.lt
  have hl2 := hT.by'.lt
  simp at zs zy
  have HT := Lib.hid hT
  replace hwl := Nat.le_trans hwl hb1.size
  clear hT hb1
  go_wp2_with fail
  have hsc : (w2.setCell ⟨ty, 14, none⟩ (.int .i64 9)).heap.size = w2.heap.size := by simp
  replace HS := Lib.hid (HS.out.kept (show Below w1.heap.size w2 (w2.setCell ⟨ty, 14, none⟩ (.int .i64 9)) from (Below.refl _ _).setCell hty _) HSl.out)
  replace HT := Lib.hid HT.out.set
  replace Hb := Lib.hid (Hb.out.trans (show Below w.heap.size w2 (w2.setCell ⟨ty, 14, none⟩ (.int .i64 9)) from (Below.refl _ _).setCell (by simp; omega) _))
  clear zs zy fy hl1 hl2 HSl
  generalize w2.setCell ⟨ty, 14, none⟩ (.int .i64 9) = wc at *
  generalize hw0 : World.alloc _ _ = w3
  obtain ⟨X0, X1, X2, X3, X4, hsz, hb1⟩ := blk5 hw0
  rw [hsc] at X0 X1 X2 X3 X4 hsz
  have x0 : w3.cell? ⟨w2.heap.size, 0, none⟩ = some (.slice (some ⟨g0, 0, none⟩) 1 1) := X0.cell 0
  have x1 : w3.cell? ⟨w2.heap.size, 1, none⟩ = some (.slice (some ⟨gu, 0, none⟩) 2 2) := X0.cell 1
  have x2 : w3.cell? ⟨w2.heap.size, 2, none⟩ = some (.slice (some ⟨gs, 0, none⟩) 2 2) := X0.cell 2
  have x3 : w3.cell? ⟨w2.heap.size, 3, none⟩ = some (.slice (some ⟨gr, 0, none⟩) 1 1) := X0.cell 3
  have x4 : w3.cell? ⟨w2.heap.size, 4, none⟩ = some (.slice none 0 0) := X0.cell 4
  have x5 : w3.cell? ⟨w2.heap.size, 5, none⟩ = some (.slice none 0 0) := X0.cell 5
  have y0 : w3.cell? ⟨w2.heap.size + 1, 0, none⟩ = some (.slice (some ⟨t0, 0, none⟩) 1 1) := X1.cell 0
  have y1 : w3.cell? ⟨w2.heap.size + 1, 1, none⟩ = some (.slice (some ⟨tu, 0, none⟩) 2 2) := X1.cell 1
  have y2 : w3.cell? ⟨w2.heap.size + 1, 2, none⟩ = some (.slice (some ⟨ts, 0, none⟩) 2 2) := X1.cell 2
  have y3 : w3.cell? ⟨w2.heap.size + 1, 3, none⟩ = some (.slice (some ⟨tr, 0, none⟩) 1 1) := X1.cell 3
  have y4 : w3.cell? ⟨w2.heap.size + 1, 4, none⟩ = some (.slice none 0 0) := X1.cell 4
  have y5 : w3.cell? ⟨w2.heap.size + 1, 5, none⟩ = some (.slice none 0 0) := X1.cell 5
  have p0 : w3.cell? ⟨w2.heap.size + 1 + 1, 0, none⟩ = some (.string ⟨#[]⟩) := X2.cell 0
  have p1 : w3.cell? ⟨w2.heap.size + 1 + 1, 1, none⟩ = some (.string ⟨#[]⟩) := X2.cell 1
  have p2 : w3.cell? ⟨w2.heap.size + 1 + 1, 2, none⟩ = some (.int .i64 0) := X2.cell 2
  have p3 : w3.cell? ⟨w2.heap.size + 1 + 1, 3, none⟩ = some (.int .i64 1) := X2.cell 3
  have q0 : w3.cell? ⟨w2.heap.size + 1 + 1 + 1, 0, none⟩ = some (.string ⟨#[]⟩) := X3.cell 0
  have q1 : w3.cell? ⟨w2.heap.size + 1 + 1 + 1, 1, none⟩ = some (.string ⟨#[]⟩) := X3.cell 1
  have q2 : w3.cell? ⟨w2.heap.size + 1 + 1 + 1, 2, none⟩ = some (.int .i64 1) := X3.cell 2
  have q3 : w3.cell? ⟨w2.heap.size + 1 + 1 + 1, 3, none⟩ = some (.int .i64 1) := X3.cell 3
  have r0 : w3.cell? ⟨w2.heap.size + 1 + 1 + 1 + 1, 0, none⟩ = some (.string ⟨#[]⟩) := X4.cell 0
  have r1 : w3.cell? ⟨w2.heap.size + 1 + 1 + 1 + 1, 1, none⟩ = some (.string ⟨#[]⟩) := X4.cell 1
  have r2 : w3.cell? ⟨w2.heap.size + 1 + 1 + 1 + 1, 2, none⟩ = some (.int .i64 2) := X4.cell 2
  have r3 : w3.cell? ⟨w2.heap.size + 1 + 1 + 1 + 1, 3, none⟩ = some (.int .i64 0) := X4.cell 3
  have hl_x : w2.heap.size < w3.heap.size := by omega
  have hl_y : w2.heap.size + 1 < w3.heap.size := by omega
  have hl_p : w2.heap.size + 1 + 1 < w3.heap.size := by omega
  have hl_q : w2.heap.size + 1 + 1 + 1 < w3.heap.size := by omega
  have hl_r : w2.heap.size + 1 + 1 + 1 + 1 < w3.heap.size := by omega
  replace HS := Lib.hid (HS.out.below hb1)
  replace HT := Lib.hid (HT.out.below hb1)
  rw [← hsc] at hwl
  replace Hb := Lib.hid (Hb.out.trans (hb1.mono hwl))
  replace hwl := Nat.le_trans hwl hb1.size
  clear hw0 X0 X1 X2 X3 X4 hsz hb1 hsc hty
  refine (base_ex (HS.out.src (by decide)) 0 1 3 f_b0).mono ?_
  rintro e w4 ⟨rfl, hb1⟩
  replace x0 := cell_kept hb1 x0 hl_x
  replace x1 := cell_kept hb1 x1 hl_x
  replace x2 := cell_kept hb1 x2 hl_x
  replace x3 := cell_kept hb1 x3 hl_x
  replace x4 := cell_kept hb1 x4 hl_x
  replace x5 := cell_kept hb1 x5 hl_x
  replace y0 := cell_kept hb1 y0 hl_y
  replace y1 := cell_kept hb1 y1 hl_y
  replace y2 := cell_kept hb1 y2 hl_y
  replace y3 := cell_kept hb1 y3 hl_y
  replace y4 := cell_kept hb1 y4 hl_y
  replace y5 := cell_kept hb1 y5 hl_y
  replace p0 := cell_kept hb1 p0 hl_p
  replace p1 := cell_kept hb1 p1 hl_p
  replace p2 := cell_kept hb1 p2 hl_p
  replace p3 := cell_kept hb1 p3 hl_p
  replace q0 := cell_kept hb1 q0 hl_q
  replace q1 := cell_kept hb1 q1 hl_q
  replace q2 := cell_kept hb1 q2 hl_q
  replace q3 := cell_kept hb1 q3 hl_q
  replace r0 := cell_kept hb1 r0 hl_r
  replace r1 := cell_kept hb1 r1 hl_r
  replace r2 := cell_kept hb1 r2 hl_r
  replace r3 := cell_kept hb1 r3 hl_r
  replace Hb := Lib.hid (Hb.out.trans (hb1.mono hwl))
  replace hl_x := Nat.lt_of_lt_of_le hl_x hb1.size
  replace hl_y := Nat.lt_of_lt_of_le hl_y hb1.size
  replace hl_p := Nat.lt_of_lt_of_le hl_p hb1.size
  replace hl_q := Nat.lt_of_lt_of_le hl_q hb1.size
  replace hl_r := Nat.lt_of_lt_of_le hl_r hb1.size
  replace hwl := Nat.le_trans hwl hb1.size
  replace HS := Lib.hid (HS.out.below hb1)
  replace HT := Lib.hid (HT.out.below hb1)
  clear hb1
  go_wp2_with fail

  refine (base_ex (HS.out.src (by decide)) 0 0 3 f_b1).mono ?_
  rintro e w5 ⟨rfl, hb1⟩
  replace x0 := cell_kept hb1 x0 hl_x
  replace x1 := cell_kept hb1 x1 hl_x
  replace x2 := cell_kept hb1 x2 hl_x
  replace x3 := cell_kept hb1 x3 hl_x
  replace x4 := cell_kept hb1 x4 hl_x
  replace x5 := cell_kept hb1 x5 hl_x
  replace y0 := cell_kept hb1 y0 hl_y
  replace y1 := cell_kept hb1 y1 hl_y
  replace y2 := cell_kept hb1 y2 hl_y
  replace y3 := cell_kept hb1 y3 hl_y
  replace y4 := cell_kept hb1 y4 hl_y
  replace y5 := cell_kept hb1 y5 hl_y
  replace p0 := cell_kept hb1 p0 hl_p
  replace p1 := cell_kept hb1 p1 hl_p
  replace p2 := cell_kept hb1 p2 hl_p
  replace p3 := cell_kept hb1 p3 hl_p
  replace q0 := cell_kept hb1 q0 hl_q
  replace q1 := cell_kept hb1 q1 hl_q
  replace q2 := cell_kept hb1 q2 hl_q
  replace q3 := cell_kept hb1 q3 hl_q
  replace r0 := cell_kept hb1 r0 hl_r
  replace r1 := cell_kept hb1 r1 hl_r
  replace r2 := cell_kept hb1 r2 hl_r
  replace r3 := cell_kept hb1 r3 hl_r
  replace Hb := Lib.hid (Hb.out.trans (hb1.mono hwl))
  replace hl_x := Nat.lt_of_lt_of_le hl_x hb1.size
  replace hl_y := Nat.lt_of_lt_of_le hl_y hb1.size
  replace hl_p := Nat.lt_of_lt_of_le hl_p hb1.size
  replace hl_q := Nat.lt_of_lt_of_le hl_q hb1.size
  replace hl_r := Nat.lt_of_lt_of_le hl_r hb1.size
  replace hwl := Nat.le_trans hwl hb1.size
  replace HS := Lib.hid (HS.out.below hb1)
  replace HT := Lib.hid (HT.out.below hb1)
  clear hb1
  go_wp2_with fail

  refine (base_ex (HS.out.src (by decide)) 2 0 1 f_b2).mono ?_
  rintro e w6 ⟨rfl, hb1⟩
  replace x0 := cell_kept hb1 x0 hl_x
  replace x1 := cell_kept hb1 x1 hl_x
  replace x2 := cell_kept hb1 x2 hl_x
  replace x3 := cell_kept hb1 x3 hl_x
  replace x4 := cell_kept hb1 x4 hl_x
  replace x5 := cell_kept hb1 x5 hl_x
  replace y0 := cell_kept hb1 y0 hl_y
  replace y1 := cell_kept hb1 y1 hl_y
  replace y2 := cell_kept hb1 y2 hl_y
  replace y3 := cell_kept hb1 y3 hl_y
  replace y4 := cell_kept hb1 y4 hl_y
  replace y5 := cell_kept hb1 y5 hl_y
  replace p0 := cell_kept hb1 p0 hl_p
  replace p1 := cell_kept hb1 p1 hl_p
  replace p2 := cell_kept hb1 p2 hl_p
  replace p3 := cell_kept hb1 p3 hl_p
  replace q0 := cell_kept hb1 q0 hl_q
  replace q1 := cell_kept hb1 q1 hl_q
  replace q2 := cell_kept hb1 q2 hl_q
  replace q3 := cell_kept hb1 q3 hl_q
  replace r0 := cell_kept hb1 r0 hl_r
  replace r1 := cell_kept hb1 r1 hl_r
  replace r2 := cell_kept hb1 r2 hl_r
  replace r3 := cell_kept hb1 r3 hl_r
  replace Hb := Lib.hid (Hb.out.trans (hb1.mono hwl))
  replace hl_x := Nat.lt_of_lt_of_le hl_x hb1.size
  replace hl_y := Nat.lt_of_lt_of_le hl_y hb1.size
  replace hl_p := Nat.lt_of_lt_of_le hl_p hb1.size
  replace hl_q := Nat.lt_of_lt_of_le hl_q hb1.size
  replace hl_r := Nat.lt_of_lt_of_le hl_r hb1.size
  replace hwl := Nat.le_trans hwl hb1.size
  replace HS := Lib.hid (HS.out.below hb1)
  replace HT := Lib.hid (HT.out.below hb1)
  clear hb1
  go_wp2_with fail

  refine (check_z (n := 0) rfl Sl.nil few_z0 f_c0).mono ?_
  rintro e w7 ⟨rfl, hb1⟩
  replace x0 := cell_kept hb1 x0 hl_x
  replace x1 := cell_kept hb1 x1 hl_x
  replace x2 := cell_kept hb1 x2 hl_x
  replace x3 := cell_kept hb1 x3 hl_x
  replace x4 := cell_kept hb1 x4 hl_x
  replace x5 := cell_kept hb1 x5 hl_x
  replace y0 := cell_kept hb1 y0 hl_y
  replace y1 := cell_kept hb1 y1 hl_y
  replace y2 := cell_kept hb1 y2 hl_y
  replace y3 := cell_kept hb1 y3 hl_y
  replace y4 := cell_kept hb1 y4 hl_y
  replace y5 := cell_kept hb1 y5 hl_y
  replace p0 := cell_kept hb1 p0 hl_p
  replace p1 := cell_kept hb1 p1 hl_p
  replace p2 := cell_kept hb1 p2 hl_p
  replace p3 := cell_kept hb1 p3 hl_p
  replace q0 := cell_kept hb1 q0 hl_q
  replace q1 := cell_kept hb1 q1 hl_q
  replace q2 := cell_kept hb1 q2 hl_q
  replace q3 := cell_kept hb1 q3 hl_q
  replace r0 := cell_kept hb1 r0 hl_r
  replace r1 := cell_kept hb1 r1 hl_r
  replace r2 := cell_kept hb1 r2 hl_r
  replace r3 := cell_kept hb1 r3 hl_r
  replace Hb := Lib.hid (Hb.out.trans (hb1.mono hwl))
  replace hl_x := Nat.lt_of_lt_of_le hl_x hb1.size
  replace hl_y := Nat.lt_of_lt_of_le hl_y hb1.size
  replace hl_p := Nat.lt_of_lt_of_le hl_p hb1.size
  replace hl_q := Nat.lt_of_lt_of_le hl_q hb1.size
  replace hl_r := Nat.lt_of_lt_of_le hl_r hb1.size
  replace hwl := Nat.le_trans hwl hb1.size
  replace HS := Lib.hid (HS.out.below hb1)
  replace HT := Lib.hid (HT.out.below hb1)
  clear hb1
  go_wp2_with fail

  refine (check_ex (HS.out.src (by decide)) f_c1).mono ?_
  rintro e w8 ⟨rfl, hb1⟩
  replace x0 := cell_kept hb1 x0 hl_x
  replace x1 := cell_kept hb1 x1 hl_x
  replace x2 := cell_kept hb1 x2 hl_x
  replace x3 := cell_kept hb1 x3 hl_x
  replace x4 := cell_kept hb1 x4 hl_x
  replace x5 := cell_kept hb1 x5 hl_x
  replace y0 := cell_kept hb1 y0 hl_y
  replace y1 := cell_kept hb1 y1 hl_y
  replace y2 := cell_kept hb1 y2 hl_y
  replace y3 := cell_kept hb1 y3 hl_y
  replace y4 := cell_kept hb1 y4 hl_y
  replace y5 := cell_kept hb1 y5 hl_y
  replace p0 := cell_kept hb1 p0 hl_p
  replace p1 := cell_kept hb1 p1 hl_p
  replace p2 := cell_kept hb1 p2 hl_p
  replace p3 := cell_kept hb1 p3 hl_p
  replace q0 := cell_kept hb1 q0 hl_q
  replace q1 := cell_kept hb1 q1 hl_q
  replace q2 := cell_kept hb1 q2 hl_q
  replace q3 := cell_kept hb1 q3 hl_q
  replace r0 := cell_kept hb1 r0 hl_r
  replace r1 := cell_kept hb1 r1 hl_r
  replace r2 := cell_kept hb1 r2 hl_r
  replace r3 := cell_kept hb1 r3 hl_r
  replace Hb := Lib.hid (Hb.out.trans (hb1.mono hwl))
  replace hl_x := Nat.lt_of_lt_of_le hl_x hb1.size
  replace hl_y := Nat.lt_of_lt_of_le hl_y hb1.size
  replace hl_p := Nat.lt_of_lt_of_le hl_p hb1.size
  replace hl_q := Nat.lt_of_lt_of_le hl_q hb1.size
  replace hl_r := Nat.lt_of_lt_of_le hl_r hb1.size
  replace hwl := Nat.le_trans hwl hb1.size
  replace HS := Lib.hid (HS.out.below hb1)
  replace HT := Lib.hid (HT.out.below hb1)
  clear hb1
  go_wp2_with fail

  refine (check_ex (HT.out.src (by decide)) f_c2).mono ?_
  rintro e w9 ⟨rfl, hb1⟩
  replace x0 := cell_kept hb1 x0 hl_x
  replace x1 := cell_kept hb1 x1 hl_x
  replace x2 := cell_kept hb1 x2 hl_x
  replace x3 := cell_kept hb1 x3 hl_x
  replace x4 := cell_kept hb1 x4 hl_x
  replace x5 := cell_kept hb1 x5 hl_x
  replace y0 := cell_kept hb1 y0 hl_y
  replace y1 := cell_kept hb1 y1 hl_y
  replace y2 := cell_kept hb1 y2 hl_y
  replace y3 := cell_kept hb1 y3 hl_y
  replace y4 := cell_kept hb1 y4 hl_y
  replace y5 := cell_kept hb1 y5 hl_y
  replace p0 := cell_kept hb1 p0 hl_p
  replace p1 := cell_kept hb1 p1 hl_p
  replace p2 := cell_kept hb1 p2 hl_p
  replace p3 := cell_kept hb1 p3 hl_p
  replace q0 := cell_kept hb1 q0 hl_q
  replace q1 := cell_kept hb1 q1 hl_q
  replace q2 := cell_kept hb1 q2 hl_q
  replace q3 := cell_kept hb1 q3 hl_q
  replace r0 := cell_kept hb1 r0 hl_r
  replace r1 := cell_kept hb1 r1 hl_r
  replace r2 := cell_kept hb1 r2 hl_r
  replace r3 := cell_kept hb1 r3 hl_r
  replace Hb := Lib.hid (Hb.out.trans (hb1.mono hwl))
  replace hl_x := Nat.lt_of_lt_of_le hl_x hb1.size
  replace hl_y := Nat.lt_of_lt_of_le hl_y hb1.size
  replace hl_p := Nat.lt_of_lt_of_le hl_p hb1.size
  replace hl_q := Nat.lt_of_lt_of_le hl_q hb1.size
  replace hl_r := Nat.lt_of_lt_of_le hl_r hb1.size
  replace hwl := Nat.le_trans hwl hb1.size
  replace HS := Lib.hid (HS.out.below hb1)
  replace HT := Lib.hid (HT.out.below hb1)
  clear hb1
  go_wp2_with fail

  generalize hw0 : World.alloc _ _ = wa1
  obtain ⟨X0, hsz, hb1⟩ := blk1 hw0
  clear hw0 hsz
  replace x0 := cell_kept hb1 x0 hl_x
  replace x1 := cell_kept hb1 x1 hl_x
  replace x2 := cell_kept hb1 x2 hl_x
  replace x3 := cell_kept hb1 x3 hl_x
  replace x4 := cell_kept hb1 x4 hl_x
  replace x5 := cell_kept hb1 x5 hl_x
  replace y0 := cell_kept hb1 y0 hl_y
  replace y1 := cell_kept hb1 y1 hl_y
  replace y2 := cell_kept hb1 y2 hl_y
  replace y3 := cell_kept hb1 y3 hl_y
  replace y4 := cell_kept hb1 y4 hl_y
  replace y5 := cell_kept hb1 y5 hl_y
  replace p0 := cell_kept hb1 p0 hl_p
  replace p1 := cell_kept hb1 p1 hl_p
  replace p2 := cell_kept hb1 p2 hl_p
  replace p3 := cell_kept hb1 p3 hl_p
  replace q0 := cell_kept hb1 q0 hl_q
  replace q1 := cell_kept hb1 q1 hl_q
  replace q2 := cell_kept hb1 q2 hl_q
  replace q3 := cell_kept hb1 q3 hl_q
  replace r0 := cell_kept hb1 r0 hl_r
  replace r1 := cell_kept hb1 r1 hl_r
  replace r2 := cell_kept hb1 r2 hl_r
  replace r3 := cell_kept hb1 r3 hl_r
  replace Hb := Lib.hid (Hb.out.trans (hb1.mono hwl))
  replace hl_x := Nat.lt_of_lt_of_le hl_x hb1.size
  replace hl_y := Nat.lt_of_lt_of_le hl_y hb1.size
  replace hl_p := Nat.lt_of_lt_of_le hl_p hb1.size
  replace hl_q := Nat.lt_of_lt_of_le hl_q hb1.size
  replace hl_r := Nat.lt_of_lt_of_le hl_r hb1.size
  replace hwl := Nat.le_trans hwl hb1.size
  replace HS := Lib.hid (HS.out.below hb1)
  replace HT := Lib.hid (HT.out.below hb1)
  clear hb1
  refine (check_z rfl (zs1 X0) few_z1 f_c3).mono ?_
  clear X0
  rintro e w10 ⟨rfl, hb1⟩
  replace x0 := cell_kept hb1 x0 hl_x
  replace x1 := cell_kept hb1 x1 hl_x
  replace x2 := cell_kept hb1 x2 hl_x
  replace x3 := cell_kept hb1 x3 hl_x
  replace x4 := cell_kept hb1 x4 hl_x
  replace x5 := cell_kept hb1 x5 hl_x
  replace y0 := cell_kept hb1 y0 hl_y
  replace y1 := cell_kept hb1 y1 hl_y
  replace y2 := cell_kept hb1 y2 hl_y
  replace y3 := cell_kept hb1 y3 hl_y
  replace y4 := cell_kept hb1 y4 hl_y
  replace y5 := cell_kept hb1 y5 hl_y
  replace p0 := cell_kept hb1 p0 hl_p
  replace p1 := cell_kept hb1 p1 hl_p
  replace p2 := cell_kept hb1 p2 hl_p
  replace p3 := cell_kept hb1 p3 hl_p
  replace q0 := cell_kept hb1 q0 hl_q
  replace q1 := cell_kept hb1 q1 hl_q
  replace q2 := cell_kept hb1 q2 hl_q
  replace q3 := cell_kept hb1 q3 hl_q
  replace r0 := cell_kept hb1 r0 hl_r
  replace r1 := cell_kept hb1 r1 hl_r
  replace r2 := cell_kept hb1 r2 hl_r
  replace r3 := cell_kept hb1 r3 hl_r
  replace Hb := Lib.hid (Hb.out.trans (hb1.mono hwl))
  replace hl_x := Nat.lt_of_lt_of_le hl_x hb1.size
  replace hl_y := Nat.lt_of_lt_of_le hl_y hb1.size
  replace hl_p := Nat.lt_of_lt_of_le hl_p hb1.size
  replace hl_q := Nat.lt_of_lt_of_le hl_q hb1.size
  replace hl_r := Nat.lt_of_lt_of_le hl_r hb1.size
  replace hwl := Nat.le_trans hwl hb1.size
  replace HS := Lib.hid (HS.out.below hb1)
  replace HT := Lib.hid (HT.out.below hb1)
  clear hb1
  go_wp2_with fail

  generalize hw0 : World.alloc _ _ = wa2
  obtain ⟨X0, hsz, hb1⟩ := blk1 hw0
  clear hw0 hsz
  replace x0 := cell_kept hb1 x0 hl_x
  replace x1 := cell_kept hb1 x1 hl_x
  replace x2 := cell_kept hb1 x2 hl_x
  replace x3 := cell_kept hb1 x3 hl_x
  replace x4 := cell_kept hb1 x4 hl_x
  replace x5 := cell_kept hb1 x5 hl_x
  replace y0 := cell_kept hb1 y0 hl_y
  replace y1 := cell_kept hb1 y1 hl_y
  replace y2 := cell_kept hb1 y2 hl_y
  replace y3 := cell_kept hb1 y3 hl_y
  replace y4 := cell_kept hb1 y4 hl_y
  replace y5 := cell_kept hb1 y5 hl_y
  replace p0 := cell_kept hb1 p0 hl_p
  replace p1 := cell_kept hb1 p1 hl_p
  replace p2 := cell_kept hb1 p2 hl_p
  replace p3 := cell_kept hb1 p3 hl_p
  replace q0 := cell_kept hb1 q0 hl_q
  replace q1 := cell_kept hb1 q1 hl_q
  replace q2 := cell_kept hb1 q2 hl_q
  replace q3 := cell_kept hb1 q3 hl_q
  replace r0 := cell_kept hb1 r0 hl_r
  replace r1 := cell_kept hb1 r1 hl_r
  replace r2 := cell_kept hb1 r2 hl_r
  replace r3 := cell_kept hb1 r3 hl_r
  replace Hb := Lib.hid (Hb.out.trans (hb1.mono hwl))
  replace hl_x := Nat.lt_of_lt_of_le hl_x hb1.size
  replace hl_y := Nat.lt_of_lt_of_le hl_y hb1.size
  replace hl_p := Nat.lt_of_lt_of_le hl_p hb1.size
  replace hl_q := Nat.lt_of_lt_of_le hl_q hb1.size
  replace hl_r := Nat.lt_of_lt_of_le hl_r hb1.size
  replace hwl := Nat.le_trans hwl hb1.size
  replace HS := Lib.hid (HS.out.below hb1)
  replace HT := Lib.hid (HT.out.below hb1)
  clear hb1
  refine (check_z rfl (zs17 X0) few_z17 f_c4).mono ?_
  clear X0
  rintro e w11 ⟨rfl, hb1⟩
  replace x0 := cell_kept hb1 x0 hl_x
  replace x1 := cell_kept hb1 x1 hl_x
  replace x2 := cell_kept hb1 x2 hl_x
  replace x3 := cell_kept hb1 x3 hl_x
  replace x4 := cell_kept hb1 x4 hl_x
  replace x5 := cell_kept hb1 x5 hl_x
  replace y0 := cell_kept hb1 y0 hl_y
  replace y1 := cell_kept hb1 y1 hl_y
  replace y2 := cell_kept hb1 y2 hl_y
  replace y3 := cell_kept hb1 y3 hl_y
  replace y4 := cell_kept hb1 y4 hl_y
  replace y5 := cell_kept hb1 y5 hl_y
  replace p0 := cell_kept hb1 p0 hl_p
  replace p1 := cell_kept hb1 p1 hl_p
  replace p2 := cell_kept hb1 p2 hl_p
  replace p3 := cell_kept hb1 p3 hl_p
  replace q0 := cell_kept hb1 q0 hl_q
  replace q1 := cell_kept hb1 q1 hl_q
  replace q2 := cell_kept hb1 q2 hl_q
  replace q3 := cell_kept hb1 q3 hl_q
  replace r0 := cell_kept hb1 r0 hl_r
  replace r1 := cell_kept hb1 r1 hl_r
  replace r2 := cell_kept hb1 r2 hl_r
  replace r3 := cell_kept hb1 r3 hl_r
  replace Hb := Lib.hid (Hb.out.trans (hb1.mono hwl))
  replace hl_x := Nat.lt_of_lt_of_le hl_x hb1.size
  replace hl_y := Nat.lt_of_lt_of_le hl_y hb1.size
  replace hl_p := Nat.lt_of_lt_of_le hl_p hb1.size
  replace hl_q := Nat.lt_of_lt_of_le hl_q hb1.size
  replace hl_r := Nat.lt_of_lt_of_le hl_r hb1.size
  replace hwl := Nat.le_trans hwl hb1.size
  replace HS := Lib.hid (HS.out.below hb1)
  replace HT := Lib.hid (HT.out.below hb1)
  clear hb1
  go_wp2_with fail

  refine (alike_ex (HS.out.src (by decide)) 0 1 1 1 f_a0).mono ?_
  rintro e w12 ⟨rfl, hb1⟩
  replace x0 := cell_kept hb1 x0 hl_x
  replace x1 := cell_kept hb1 x1 hl_x
  replace x2 := cell_kept hb1 x2 hl_x
  replace x3 := cell_kept hb1 x3 hl_x
  replace x4 := cell_kept hb1 x4 hl_x
  replace x5 := cell_kept hb1 x5 hl_x
  replace y0 := cell_kept hb1 y0 hl_y
  replace y1 := cell_kept hb1 y1 hl_y
  replace y2 := cell_kept hb1 y2 hl_y
  replace y3 := cell_kept hb1 y3 hl_y
  replace y4 := cell_kept hb1 y4 hl_y
  replace y5 := cell_kept hb1 y5 hl_y
  replace p0 := cell_kept hb1 p0 hl_p
  replace p1 := cell_kept hb1 p1 hl_p
  replace p2 := cell_kept hb1 p2 hl_p
  replace p3 := cell_kept hb1 p3 hl_p
  replace q0 := cell_kept hb1 q0 hl_q
  replace q1 := cell_kept hb1 q1 hl_q
  replace q2 := cell_kept hb1 q2 hl_q
  replace q3 := cell_kept hb1 q3 hl_q
  replace r0 := cell_kept hb1 r0 hl_r
  replace r1 := cell_kept hb1 r1 hl_r
  replace r2 := cell_kept hb1 r2 hl_r
  replace r3 := cell_kept hb1 r3 hl_r
  replace Hb := Lib.hid (Hb.out.trans (hb1.mono hwl))
  replace hl_x := Nat.lt_of_lt_of_le hl_x hb1.size
  replace hl_y := Nat.lt_of_lt_of_le hl_y hb1.size
  replace hl_p := Nat.lt_of_lt_of_le hl_p hb1.size
  replace hl_q := Nat.lt_of_lt_of_le hl_q hb1.size
  replace hl_r := Nat.lt_of_lt_of_le hl_r hb1.size
  replace hwl := Nat.le_trans hwl hb1.size
  replace HS := Lib.hid (HS.out.below hb1)
  replace HT := Lib.hid (HT.out.below hb1)
  clear hb1
  go_wp2_with fail

  refine (alike_ex (HS.out.src (by decide)) 0 1 0 0 f_a1).mono ?_
  rintro e w13 ⟨rfl, hb1⟩
  replace x0 := cell_kept hb1 x0 hl_x
  replace x1 := cell_kept hb1 x1 hl_x
  replace x2 := cell_kept hb1 x2 hl_x
  replace x3 := cell_kept hb1 x3 hl_x
  replace x4 := cell_kept hb1 x4 hl_x
  replace x5 := cell_kept hb1 x5 hl_x
  replace y0 := cell_kept hb1 y0 hl_y
  replace y1 := cell_kept hb1 y1 hl_y
  replace y2 := cell_kept hb1 y2 hl_y
  replace y3 := cell_kept hb1 y3 hl_y
  replace y4 := cell_kept hb1 y4 hl_y
  replace y5 := cell_kept hb1 y5 hl_y
  replace p0 := cell_kept hb1 p0 hl_p
  replace p1 := cell_kept hb1 p1 hl_p
  replace p2 := cell_kept hb1 p2 hl_p
  replace p3 := cell_kept hb1 p3 hl_p
  replace q0 := cell_kept hb1 q0 hl_q
  replace q1 := cell_kept hb1 q1 hl_q
  replace q2 := cell_kept hb1 q2 hl_q
  replace q3 := cell_kept hb1 q3 hl_q
  replace r0 := cell_kept hb1 r0 hl_r
  replace r1 := cell_kept hb1 r1 hl_r
  replace r2 := cell_kept hb1 r2 hl_r
  replace r3 := cell_kept hb1 r3 hl_r
  replace Hb := Lib.hid (Hb.out.trans (hb1.mono hwl))
  replace hl_x := Nat.lt_of_lt_of_le hl_x hb1.size
  replace hl_y := Nat.lt_of_lt_of_le hl_y hb1.size
  replace hl_p := Nat.lt_of_lt_of_le hl_p hb1.size
  replace hl_q := Nat.lt_of_lt_of_le hl_q hb1.size
  replace hl_r := Nat.lt_of_lt_of_le hl_r hb1.size
  replace hwl := Nat.le_trans hwl hb1.size
  replace HS := Lib.hid (HS.out.below hb1)
  replace HT := Lib.hid (HT.out.below hb1)
  clear hb1
  go_wp2_with fail

  refine (alike_ex (HS.out.src (by decide)) 0 1 2 0 f_a2).mono ?_
  rintro e w14 ⟨rfl, hb1⟩
  replace x0 := cell_kept hb1 x0 hl_x
  replace x1 := cell_kept hb1 x1 hl_x
  replace x2 := cell_kept hb1 x2 hl_x
  replace x3 := cell_kept hb1 x3 hl_x
  replace x4 := cell_kept hb1 x4 hl_x
  replace x5 := cell_kept hb1 x5 hl_x
  replace y0 := cell_kept hb1 y0 hl_y
  replace y1 := cell_kept hb1 y1 hl_y
  replace y2 := cell_kept hb1 y2 hl_y
  replace y3 := cell_kept hb1 y3 hl_y
  replace y4 := cell_kept hb1 y4 hl_y
  replace y5 := cell_kept hb1 y5 hl_y
  replace p0 := cell_kept hb1 p0 hl_p
  replace p1 := cell_kept hb1 p1 hl_p
  replace p2 := cell_kept hb1 p2 hl_p
  replace p3 := cell_kept hb1 p3 hl_p
  replace q0 := cell_kept hb1 q0 hl_q
  replace q1 := cell_kept hb1 q1 hl_q
  replace q2 := cell_kept hb1 q2 hl_q
  replace q3 := cell_kept hb1 q3 hl_q
  replace r0 := cell_kept hb1 r0 hl_r
  replace r1 := cell_kept hb1 r1 hl_r
  replace r2 := cell_kept hb1 r2 hl_r
  replace r3 := cell_kept hb1 r3 hl_r
  replace Hb := Lib.hid (Hb.out.trans (hb1.mono hwl))
  replace hl_x := Nat.lt_of_lt_of_le hl_x hb1.size
  replace hl_y := Nat.lt_of_lt_of_le hl_y hb1.size
  replace hl_p := Nat.lt_of_lt_of_le hl_p hb1.size
  replace hl_q := Nat.lt_of_lt_of_le hl_q hb1.size
  replace hl_r := Nat.lt_of_lt_of_le hl_r hb1.size
  replace hwl := Nat.le_trans hwl hb1.size
  replace HS := Lib.hid (HS.out.below hb1)
  replace HT := Lib.hid (HT.out.below hb1)
  clear hb1
  go_wp2_with fail

  refine (value_ex (HS.out.src (by decide)) 0 1 10 f_v0).mono ?_
  rintro e w15 ⟨rfl, hb1⟩
  replace x0 := cell_kept hb1 x0 hl_x
  replace x1 := cell_kept hb1 x1 hl_x
  replace x2 := cell_kept hb1 x2 hl_x
  replace x3 := cell_kept hb1 x3 hl_x
  replace x4 := cell_kept hb1 x4 hl_x
  replace x5 := cell_kept hb1 x5 hl_x
  replace y0 := cell_kept hb1 y0 hl_y
  replace y1 := cell_kept hb1 y1 hl_y
  replace y2 := cell_kept hb1 y2 hl_y
  replace y3 := cell_kept hb1 y3 hl_y
  replace y4 := cell_kept hb1 y4 hl_y
  replace y5 := cell_kept hb1 y5 hl_y
  replace p0 := cell_kept hb1 p0 hl_p
  replace p1 := cell_kept hb1 p1 hl_p
  replace p2 := cell_kept hb1 p2 hl_p
  replace p3 := cell_kept hb1 p3 hl_p
  replace q0 := cell_kept hb1 q0 hl_q
  replace q1 := cell_kept hb1 q1 hl_q
  replace q2 := cell_kept hb1 q2 hl_q
  replace q3 := cell_kept hb1 q3 hl_q
  replace r0 := cell_kept hb1 r0 hl_r
  replace r1 := cell_kept hb1 r1 hl_r
  replace r2 := cell_kept hb1 r2 hl_r
  replace r3 := cell_kept hb1 r3 hl_r
  replace Hb := Lib.hid (Hb.out.trans (hb1.mono hwl))
  replace hl_x := Nat.lt_of_lt_of_le hl_x hb1.size
  replace hl_y := Nat.lt_of_lt_of_le hl_y hb1.size
  replace hl_p := Nat.lt_of_lt_of_le hl_p hb1.size
  replace hl_q := Nat.lt_of_lt_of_le hl_q hb1.size
  replace hl_r := Nat.lt_of_lt_of_le hl_r hb1.size
  replace hwl := Nat.le_trans hwl hb1.size
  replace HS := Lib.hid (HS.out.below hb1)
  replace HT := Lib.hid (HT.out.below hb1)
  clear hb1
  go_wp2_with fail

  refine (value_ex (HS.out.src (by decide)) 0 1 11 f_v1).mono ?_
  rintro e w16 ⟨rfl, hb1⟩
  replace x0 := cell_kept hb1 x0 hl_x
  replace x1 := cell_kept hb1 x1 hl_x
  replace x2 := cell_kept hb1 x2 hl_x
  replace x3 := cell_kept hb1 x3 hl_x
  replace x4 := cell_kept hb1 x4 hl_x
  replace x5 := cell_kept hb1 x5 hl_x
  replace y0 := cell_kept hb1 y0 hl_y
  replace y1 := cell_kept hb1 y1 hl_y
  replace y2 := cell_kept hb1 y2 hl_y
  replace y3 := cell_kept hb1 y3 hl_y
  replace y4 := cell_kept hb1 y4 hl_y
  replace y5 := cell_kept hb1 y5 hl_y
  replace p0 := cell_kept hb1 p0 hl_p
  replace p1 := cell_kept hb1 p1 hl_p
  replace p2 := cell_kept hb1 p2 hl_p
  replace p3 := cell_kept hb1 p3 hl_p
  replace q0 := cell_kept hb1 q0 hl_q
  replace q1 := cell_kept hb1 q1 hl_q
  replace q2 := cell_kept hb1 q2 hl_q
  replace q3 := cell_kept hb1 q3 hl_q
  replace r0 := cell_kept hb1 r0 hl_r
  replace r1 := cell_kept hb1 r1 hl_r
  replace r2 := cell_kept hb1 r2 hl_r
  replace r3 := cell_kept hb1 r3 hl_r
  replace Hb := Lib.hid (Hb.out.trans (hb1.mono hwl))
  replace hl_x := Nat.lt_of_lt_of_le hl_x hb1.size
  replace hl_y := Nat.lt_of_lt_of_le hl_y hb1.size
  replace hl_p := Nat.lt_of_lt_of_le hl_p hb1.size
  replace hl_q := Nat.lt_of_lt_of_le hl_q hb1.size
  replace hl_r := Nat.lt_of_lt_of_le hl_r hb1.size
  replace hwl := Nat.le_trans hwl hb1.size
  replace HS := Lib.hid (HS.out.below hb1)
  replace HT := Lib.hid (HT.out.below hb1)
  clear hb1
  go_wp2_with fail

  refine (value_ex (HS.out.src (by decide)) 0 2 0 f_v2).mono ?_
  rintro e w17 ⟨rfl, hb1⟩
  replace x0 := cell_kept hb1 x0 hl_x
  replace x1 := cell_kept hb1 x1 hl_x
  replace x2 := cell_kept hb1 x2 hl_x
  replace x3 := cell_kept hb1 x3 hl_x
  replace x4 := cell_kept hb1 x4 hl_x
  replace x5 := cell_kept hb1 x5 hl_x
  replace y0 := cell_kept hb1 y0 hl_y
  replace y1 := cell_kept hb1 y1 hl_y
  replace y2 := cell_kept hb1 y2 hl_y
  replace y3 := cell_kept hb1 y3 hl_y
  replace y4 := cell_kept hb1 y4 hl_y
  replace y5 := cell_kept hb1 y5 hl_y
  replace p0 := cell_kept hb1 p0 hl_p
  replace p1 := cell_kept hb1 p1 hl_p
  replace p2 := cell_kept hb1 p2 hl_p
  replace p3 := cell_kept hb1 p3 hl_p
  replace q0 := cell_kept hb1 q0 hl_q
  replace q1 := cell_kept hb1 q1 hl_q
  replace q2 := cell_kept hb1 q2 hl_q
  replace q3 := cell_kept hb1 q3 hl_q
  replace r0 := cell_kept hb1 r0 hl_r
  replace r1 := cell_kept hb1 r1 hl_r
  replace r2 := cell_kept hb1 r2 hl_r
  replace r3 := cell_kept hb1 r3 hl_r
  replace Hb := Lib.hid (Hb.out.trans (hb1.mono hwl))
  replace hl_x := Nat.lt_of_lt_of_le hl_x hb1.size
  replace hl_y := Nat.lt_of_lt_of_le hl_y hb1.size
  replace hl_p := Nat.lt_of_lt_of_le hl_p hb1.size
  replace hl_q := Nat.lt_of_lt_of_le hl_q hb1.size
  replace hl_r := Nat.lt_of_lt_of_le hl_r hb1.size
  replace hwl := Nat.le_trans hwl hb1.size
  replace HS := Lib.hid (HS.out.below hb1)
  replace HT := Lib.hid (HT.out.below hb1)
  clear hb1
  go_wp2_with fail

  refine (compare_ex _ 2 1 2 f_k0).mono ?_
  rintro e w18 ⟨rfl, hb1⟩
  replace x0 := cell_kept hb1 x0 hl_x
  replace x1 := cell_kept hb1 x1 hl_x
  replace x2 := cell_kept hb1 x2 hl_x
  replace x3 := cell_kept hb1 x3 hl_x
  replace x4 := cell_kept hb1 x4 hl_x
  replace x5 := cell_kept hb1 x5 hl_x
  replace y0 := cell_kept hb1 y0 hl_y
  replace y1 := cell_kept hb1 y1 hl_y
  replace y2 := cell_kept hb1 y2 hl_y
  replace y3 := cell_kept hb1 y3 hl_y
  replace y4 := cell_kept hb1 y4 hl_y
  replace y5 := cell_kept hb1 y5 hl_y
  replace p0 := cell_kept hb1 p0 hl_p
  replace p1 := cell_kept hb1 p1 hl_p
  replace p2 := cell_kept hb1 p2 hl_p
  replace p3 := cell_kept hb1 p3 hl_p
  replace q0 := cell_kept hb1 q0 hl_q
  replace q1 := cell_kept hb1 q1 hl_q
  replace q2 := cell_kept hb1 q2 hl_q
  replace q3 := cell_kept hb1 q3 hl_q
  replace r0 := cell_kept hb1 r0 hl_r
  replace r1 := cell_kept hb1 r1 hl_r
  replace r2 := cell_kept hb1 r2 hl_r
  replace r3 := cell_kept hb1 r3 hl_r
  replace Hb := Lib.hid (Hb.out.trans (hb1.mono hwl))
  replace hl_x := Nat.lt_of_lt_of_le hl_x hb1.size
  replace hl_y := Nat.lt_of_lt_of_le hl_y hb1.size
  replace hl_p := Nat.lt_of_lt_of_le hl_p hb1.size
  replace hl_q := Nat.lt_of_lt_of_le hl_q hb1.size
  replace hl_r := Nat.lt_of_lt_of_le hl_r hb1.size
  replace hwl := Nat.le_trans hwl hb1.size
  replace HS := Lib.hid (HS.out.below hb1)
  replace HT := Lib.hid (HT.out.below hb1)
  clear hb1
  go_wp2_with fail

  refine (compare_ex _ 0 1 1 f_k1).mono ?_
  rintro e w19 ⟨rfl, hb1⟩
  replace x0 := cell_kept hb1 x0 hl_x
  replace x1 := cell_kept hb1 x1 hl_x
  replace x2 := cell_kept hb1 x2 hl_x
  replace x3 := cell_kept hb1 x3 hl_x
  replace x4 := cell_kept hb1 x4 hl_x
  replace x5 := cell_kept hb1 x5 hl_x
  replace y0 := cell_kept hb1 y0 hl_y
  replace y1 := cell_kept hb1 y1 hl_y
  replace y2 := cell_kept hb1 y2 hl_y
  replace y3 := cell_kept hb1 y3 hl_y
  replace y4 := cell_kept hb1 y4 hl_y
  replace y5 := cell_kept hb1 y5 hl_y
  replace p0 := cell_kept hb1 p0 hl_p
  replace p1 := cell_kept hb1 p1 hl_p
  replace p2 := cell_kept hb1 p2 hl_p
  replace p3 := cell_kept hb1 p3 hl_p
  replace q0 := cell_kept hb1 q0 hl_q
  replace q1 := cell_kept hb1 q1 hl_q
  replace q2 := cell_kept hb1 q2 hl_q
  replace q3 := cell_kept hb1 q3 hl_q
  replace r0 := cell_kept hb1 r0 hl_r
  replace r1 := cell_kept hb1 r1 hl_r
  replace r2 := cell_kept hb1 r2 hl_r
  replace r3 := cell_kept hb1 r3 hl_r
  replace Hb := Lib.hid (Hb.out.trans (hb1.mono hwl))
  replace hl_x := Nat.lt_of_lt_of_le hl_x hb1.size
  replace hl_y := Nat.lt_of_lt_of_le hl_y hb1.size
  replace hl_p := Nat.lt_of_lt_of_le hl_p hb1.size
  replace hl_q := Nat.lt_of_lt_of_le hl_q hb1.size
  replace hl_r := Nat.lt_of_lt_of_le hl_r hb1.size
  replace hwl := Nat.le_trans hwl hb1.size
  replace HS := Lib.hid (HS.out.below hb1)
  replace HT := Lib.hid (HT.out.below hb1)
  clear hb1
  go_wp2_with fail

  refine (compare_ex _ 4 1 2 f_k2).mono ?_
  rintro e w20 ⟨rfl, hb1⟩
  replace x0 := cell_kept hb1 x0 hl_x
  replace x1 := cell_kept hb1 x1 hl_x
  replace x2 := cell_kept hb1 x2 hl_x
  replace x3 := cell_kept hb1 x3 hl_x
  replace x4 := cell_kept hb1 x4 hl_x
  replace x5 := cell_kept hb1 x5 hl_x
  replace y0 := cell_kept hb1 y0 hl_y
  replace y1 := cell_kept hb1 y1 hl_y
  replace y2 := cell_kept hb1 y2 hl_y
  replace y3 := cell_kept hb1 y3 hl_y
  replace y4 := cell_kept hb1 y4 hl_y
  replace y5 := cell_kept hb1 y5 hl_y
  replace p0 := cell_kept hb1 p0 hl_p
  replace p1 := cell_kept hb1 p1 hl_p
  replace p2 := cell_kept hb1 p2 hl_p
  replace p3 := cell_kept hb1 p3 hl_p
  replace q0 := cell_kept hb1 q0 hl_q
  replace q1 := cell_kept hb1 q1 hl_q
  replace q2 := cell_kept hb1 q2 hl_q
  replace q3 := cell_kept hb1 q3 hl_q
  replace r0 := cell_kept hb1 r0 hl_r
  replace r1 := cell_kept hb1 r1 hl_r
  replace r2 := cell_kept hb1 r2 hl_r
  replace r3 := cell_kept hb1 r3 hl_r
  replace Hb := Lib.hid (Hb.out.trans (hb1.mono hwl))
  replace hl_x := Nat.lt_of_lt_of_le hl_x hb1.size
  replace hl_y := Nat.lt_of_lt_of_le hl_y hb1.size
  replace hl_p := Nat.lt_of_lt_of_le hl_p hb1.size
  replace hl_q := Nat.lt_of_lt_of_le hl_q hb1.size
  replace hl_r := Nat.lt_of_lt_of_le hl_r hb1.size
  replace hwl := Nat.le_trans hwl hb1.size
  replace HS := Lib.hid (HS.out.below hb1)
  replace HT := Lib.hid (HT.out.below hb1)
  clear hb1
  go_wp2_with fail

  refine (compare_ex _ 3 2 1 f_k3).mono ?_
  rintro e w21 ⟨rfl, hb1⟩
  replace x0 := cell_kept hb1 x0 hl_x
  replace x1 := cell_kept hb1 x1 hl_x
  replace x2 := cell_kept hb1 x2 hl_x
  replace x3 := cell_kept hb1 x3 hl_x
  replace x4 := cell_kept hb1 x4 hl_x
  replace x5 := cell_kept hb1 x5 hl_x
  replace y0 := cell_kept hb1 y0 hl_y
  replace y1 := cell_kept hb1 y1 hl_y
  replace y2 := cell_kept hb1 y2 hl_y
  replace y3 := cell_kept hb1 y3 hl_y
  replace y4 := cell_kept hb1 y4 hl_y
  replace y5 := cell_kept hb1 y5 hl_y
  replace p0 := cell_kept hb1 p0 hl_p
  replace p1 := cell_kept hb1 p1 hl_p
  replace p2 := cell_kept hb1 p2 hl_p
  replace p3 := cell_kept hb1 p3 hl_p
  replace q0 := cell_kept hb1 q0 hl_q
  replace q1 := cell_kept hb1 q1 hl_q
  replace q2 := cell_kept hb1 q2 hl_q
  replace q3 := cell_kept hb1 q3 hl_q
  replace r0 := cell_kept hb1 r0 hl_r
  replace r1 := cell_kept hb1 r1 hl_r
  replace r2 := cell_kept hb1 r2 hl_r
  replace r3 := cell_kept hb1 r3 hl_r
  replace Hb := Lib.hid (Hb.out.trans (hb1.mono hwl))
  replace hl_x := Nat.lt_of_lt_of_le hl_x hb1.size
  replace hl_y := Nat.lt_of_lt_of_le hl_y hb1.size
  replace hl_p := Nat.lt_of_lt_of_le hl_p hb1.size
  replace hl_q := Nat.lt_of_lt_of_le hl_q hb1.size
  replace hl_r := Nat.lt_of_lt_of_le hl_r hb1.size
  replace hwl := Nat.le_trans hwl hb1.size
  replace HS := Lib.hid (HS.out.below hb1)
  replace HT := Lib.hid (HT.out.below hb1)
  clear hb1

  go_wp2
  go_ret
  exact ⟨rfl, Hb.out⟩
end Go.Proofs.Ytogenjbabgibbaa
namespace Go.Proofs.Ytogenjbabgibbaa
open Go.ChangeShapes Go.WideShapes Go.ChangeAt Go.RowKit
/-- a slice that is read is not longer than a slice can be -/
theorem slice_len {H : Type} {enc : TypeId × Value → H} {w : World} {spare : Nat → Bool} {held : Bool} {t e : TypeId} {fuel : Nat} {a : Option Addr} {n k : Nat} {x : DataW H × List MemPlace} (ht : Try.prog.underlying t = some (.slice e))
    (h : DataW.trod enc Try.prog w 0 spare held fuel t [.slice a n k] = some x) : n ≤ 9223372036854775807 := by
  rcases Go.Deep.open_slice ht h with ⟨hc, _⟩ | ⟨a', len, cap, m, j, D, Pl, hc, _, hl, hm, _⟩
  · simp at hc; omega
  · simp at hc
    unfold maxLen at hm
    omega
set_option maxRecDepth 20000 in
theorem opens_UnitD : Opens Try.prog 69 RUnitD := fun enc w spare held fuel cs x h => by
  obtain ⟨xs, m, _, _, hl, hlen, hf⟩ := DataW.trod_struct Try.underlying69 h
  replace hl : cs.length = 5 := hl.trans (by kernel_rfl)
  replace hlen : xs.length = 5 := hlen
  match cs, hl, hf with
  | [c0, c1, c2, c3, c4], _, hf =>
  have h0 := hf 0 _ rfl
  rw [List.getElem?_eq_getElem (by omega)] at h0
  obtain ⟨y0, e0⟩ := opens_str (by kernel_rfl) enc w spare held m _ _ h0
  have h1 := hf 1 _ rfl
  rw [List.getElem?_eq_getElem (by omega)] at h1
  obtain ⟨y1, e1⟩ := opens_str (by kernel_rfl) enc w spare held m _ _ h1
  have h2 := hf 2 _ rfl
  rw [List.getElem?_eq_getElem (by omega)] at h2
  obtain ⟨y2, e2⟩ := opens_int (by kernel_rfl) enc w spare held m _ _ h2
  have h3 := hf 3 _ rfl
  rw [List.getElem?_eq_getElem (by omega)] at h3
  obtain ⟨y3, e3⟩ := opens_int (by kernel_rfl) enc w spare held m _ _ h3
  have h4 := hf 4 _ rfl
  rw [List.getElem?_eq_getElem (by omega)] at h4
  obtain ⟨y4, e4⟩ := opens_int (by kernel_rfl) enc w spare held m _ _ h4
  exact ⟨⟨y0, y1, y2, y3, y4⟩, [c0], [c1], [c2], [c3], [c4], rfl, e0, e1, e2, e3, e4⟩
set_option maxRecDepth 20000 in
theorem opens_TyD : Opens Try.prog 71 RTyD := fun enc w spare held fuel cs x h => by
  obtain ⟨xs, m, _, _, hl, hlen, hf⟩ := DataW.trod_struct Try.underlying71 h
  replace hl : cs.length = 6 := hl.trans (by kernel_rfl)
  replace hlen : xs.length = 6 := hlen
  match cs, hl, hf with
  | [c0, c1, c2, c3, c4, c5], _, hf =>
  have h0 := hf 0 _ rfl
  rw [List.getElem?_eq_getElem (by omega)] at h0
  obtain ⟨y0, e0⟩ := opens_int (by kernel_rfl) enc w spare held m _ _ h0
  have h1 := hf 1 _ rfl
  rw [List.getElem?_eq_getElem (by omega)] at h1
  obtain ⟨y1, e1⟩ := opens_int (by kernel_rfl) enc w spare held m _ _ h1
  have h2 := hf 2 _ rfl
  rw [List.getElem?_eq_getElem (by omega)] at h2
  obtain ⟨y2, e2⟩ := opens_int (by kernel_rfl) enc w spare held m _ _ h2
  have h3 := hf 3 _ rfl
  rw [List.getElem?_eq_getElem (by omega)] at h3
  obtain ⟨y3, e3⟩ := opens_str (by kernel_rfl) enc w spare held m _ _ h3
  have h4 := hf 4 _ rfl
  rw [List.getElem?_eq_getElem (by omega)] at h4
  obtain ⟨y4, e4⟩ := opens_int (by kernel_rfl) enc w spare held m _ _ h4
  have h5 := hf 5 _ rfl
  rw [List.getElem?_eq_getElem (by omega)] at h5
  obtain ⟨y5, e5⟩ := opens_slice (n := 1) (e := 9) (by kernel_rfl) (by kernel_rfl) (by decide) (opens_str (by kernel_rfl)) enc w spare held m _ _ h5
  exact ⟨⟨y0, y1, y2, y3, y4, y5⟩, [c0], [c1], [c2], [c3], [c4], [c5], rfl, e0, e1, e2, e3, e4, e5⟩
set_option maxRecDepth 20000 in
theorem opens_FieldD : Opens Try.prog 74 RFieldD := fun enc w spare held fuel cs x h => by
  obtain ⟨xs, m, _, _, hl, hlen, hf⟩ := DataW.trod_struct Try.underlying74 h
  replace hl : cs.length = 11 := hl.trans (by kernel_rfl)
  replace hlen : xs.length = 3 := hlen
  match cs, hl, hf with
  | [c0, c1, c2, c3, c4, c5, c6, c7, c8, c9, c10], _, hf =>
  have h0 := hf 0 _ rfl
  rw [List.getElem?_eq_getElem (by omega)] at h0
  obtain ⟨y0, e0⟩ := opens_str (by kernel_rfl) enc w spare held m _ _ h0
  have h1 := hf 1 _ rfl
  rw [List.getElem?_eq_getElem (by omega)] at h1
  obtain ⟨y1, e1⟩ := opens_TyD enc w spare held m _ _ h1
  have h2 := hf 2 _ rfl
  rw [List.getElem?_eq_getElem (by omega)] at h2
  obtain ⟨zs, m2, _, _, _, hzl, hz⟩ := DataW.trod_array Try.underlying72 h2
  have z0 := hz 0 (by decide)
  rw [List.getElem?_eq_getElem (by omega)] at z0
  obtain ⟨y2_0, e2_0⟩ := opens_int (P := Try.prog) (by kernel_rfl) enc w spare held m2 _ _ z0
  have z1 := hz 1 (by decide)
  rw [List.getElem?_eq_getElem (by omega)] at z1
  obtain ⟨y2_1, e2_1⟩ := opens_int (P := Try.prog) (by kernel_rfl) enc w spare held m2 _ _ z1
  have z2 := hz 2 (by decide)
  rw [List.getElem?_eq_getElem (by omega)] at z2
  obtain ⟨y2_2, e2_2⟩ := opens_int (P := Try.prog) (by kernel_rfl) enc w spare held m2 _ _ z2
  have z3 := hz 3 (by decide)
  rw [List.getElem?_eq_getElem (by omega)] at z3
  obtain ⟨y2_3, e2_3⟩ := opens_int (P := Try.prog) (by kernel_rfl) enc w spare held m2 _ _ z3
  exact ⟨⟨y0, y1, y2_0, y2_1, y2_2, y2_3⟩, [c0], [c1, c2, c3, c4, c5, c6], [c7], [c8], [c9], [c10], rfl, e0, e1, e2_0, e2_1, e2_2, e2_3⟩
set_option maxRecDepth 20000 in
theorem opens_SchemaD : Opens Try.prog 57 RSchemaD := fun enc w spare held fuel cs x h => by
  obtain ⟨xs, m, _, _, hl, hlen, hf⟩ := DataW.trod_struct Try.underlying57 h
  replace hl : cs.length = 6 := hl.trans (by kernel_rfl)
  replace hlen : xs.length = 6 := hlen
  match cs, hl, hf with
  | [c0, c1, c2, c3, c4, c5], _, hf =>
  have h0 := hf 0 _ rfl
  rw [List.getElem?_eq_getElem (by omega)] at h0
  obtain ⟨y0, e0⟩ := opens_str (by kernel_rfl) enc w spare held m _ _ h0
  have h1 := hf 1 _ rfl
  rw [List.getElem?_eq_getElem (by omega)] at h1
  obtain ⟨y1, e1⟩ := opens_str (by kernel_rfl) enc w spare held m _ _ h1
  have h2 := hf 2 _ rfl
  rw [List.getElem?_eq_getElem (by omega)] at h2
  obtain ⟨y2, e2⟩ := opens_int (by kernel_rfl) enc w spare held m _ _ h2
  have h3 := hf 3 _ rfl
  rw [List.getElem?_eq_getElem (by omega)] at h3
  obtain ⟨y3, e3⟩ := opens_int (by kernel_rfl) enc w spare held m _ _ h3
  have h4 := hf 4 _ rfl
  rw [List.getElem?_eq_getElem (by omega)] at h4
  obtain ⟨y4, e4⟩ := opens_slice (n := 11) (e := 74) (by kernel_rfl) (by kernel_rfl) (by decide) opens_FieldD enc w spare held m _ _ h4
  have h5 := hf 5 _ rfl
  rw [List.getElem?_eq_getElem (by omega)] at h5
  obtain ⟨y5, e5⟩ := opens_raw (P := Try.prog) (e := 150) (by kernel_rfl) enc w spare held m _ _ h5
  exact ⟨⟨y0, y1, y2, y3, y4, y5⟩, [c0], [c1], [c2], [c3], [c4], [c5], rfl, e0, e1, e2, e3, e4, e5⟩
set_option maxRecDepth 20000 in
theorem opens_TermD : Opens Try.prog 49 RTermD := fun enc w spare held fuel cs x h => by
  obtain ⟨xs, m, _, _, hl, hlen, hf⟩ := DataW.trod_struct Try.underlying49 h
  replace hl : cs.length = 5 := hl.trans (by kernel_rfl)
  replace hlen : xs.length = 5 := hlen
  match cs, hl, hf with
  | [c0, c1, c2, c3, c4], _, hf =>
  have h0 := hf 0 _ rfl
  rw [List.getElem?_eq_getElem (by omega)] at h0
  obtain ⟨y0, e0⟩ := opens_str (by kernel_rfl) enc w spare held m _ _ h0
  have h1 := hf 1 _ rfl
  rw [List.getElem?_eq_getElem (by omega)] at h1
  obtain ⟨y1, e1⟩ := opens_str (by kernel_rfl) enc w spare held m _ _ h1
  have h2 := hf 2 _ rfl
  rw [List.getElem?_eq_getElem (by omega)] at h2
  obtain ⟨y2, e2⟩ := opens_int (by kernel_rfl) enc w spare held m _ _ h2
  have h3 := hf 3 _ rfl
  rw [List.getElem?_eq_getElem (by omega)] at h3
  obtain ⟨y3, e3⟩ := opens_int (by kernel_rfl) enc w spare held m _ _ h3
  have h4 := hf 4 _ rfl
  rw [List.getElem?_eq_getElem (by omega)] at h4
  obtain ⟨y4, e4⟩ := opens_int (by kernel_rfl) enc w spare held m _ _ h4
  exact ⟨⟨y0, y1, y2, y3, y4⟩, [c0], [c1], [c2], [c3], [c4], rfl, e0, e1, e2, e3, e4⟩
set_option maxRecDepth 20000 in
theorem opens_FromD : Opens Try.prog 53 RFromD := fun enc w spare held fuel cs x h => by
  obtain ⟨xs, m, _, _, hl, hlen, hf⟩ := DataW.trod_struct Try.underlying53 h
  replace hl : cs.length = 8 := hl.trans (by kernel_rfl)
  replace hlen : xs.length = 4 := hlen
  match cs, hl, hf with
  | [c0, c1, c2, c3, c4, c5, c6, c7], _, hf =>
  have h0 := hf 0 _ rfl
  rw [List.getElem?_eq_getElem (by omega)] at h0
  obtain ⟨y0, e0⟩ := opens_str (by kernel_rfl) enc w spare held m _ _ h0
  have h1 := hf 1 _ rfl
  rw [List.getElem?_eq_getElem (by omega)] at h1
  obtain ⟨y1, e1⟩ := opens_str (by kernel_rfl) enc w spare held m _ _ h1
  have h2 := hf 2 _ rfl
  rw [List.getElem?_eq_getElem (by omega)] at h2
  obtain ⟨y2, e2⟩ := opens_int (by kernel_rfl) enc w spare held m _ _ h2
  have h3 := hf 3 _ rfl
  rw [List.getElem?_eq_getElem (by omega)] at h3
  obtain ⟨y3, e3⟩ := opens_TermD enc w spare held m _ _ h3
  exact ⟨⟨y0, y1, y2, y3⟩, [c0], [c1], [c2], [c3, c4, c5, c6, c7], rfl, e0, e1, e2, e3⟩
set_option maxRecDepth 20000 in
theorem opens_AtomD : Opens Try.prog 63 RAtomD := fun enc w spare held fuel cs x h => by
  obtain ⟨xs, m, _, _, hl, hlen, hf⟩ := DataW.trod_struct Try.underlying63 h
  replace hl : cs.length = 11 := hl.trans (by kernel_rfl)
  replace hlen : xs.length = 3 := hlen
  match cs, hl, hf with
  | [c0, c1, c2, c3, c4, c5, c6, c7, c8, c9, c10], _, hf =>
  have h0 := hf 0 _ rfl
  rw [List.getElem?_eq_getElem (by omega)] at h0
  obtain ⟨y0, e0⟩ := opens_int (by kernel_rfl) enc w spare held m _ _ h0
  have h1 := hf 1 _ rfl
  rw [List.getElem?_eq_getElem (by omega)] at h1
  obtain ⟨y1, e1⟩ := opens_TermD enc w spare held m _ _ h1
  have h2 := hf 2 _ rfl
  rw [List.getElem?_eq_getElem (by omega)] at h2
  obtain ⟨y2, e2⟩ := opens_TermD enc w spare held m _ _ h2
  exact ⟨⟨y0, y1, y2⟩, [c0], [c1, c2, c3, c4, c5], [c6, c7, c8, c9, c10], rfl, e0, e1, e2⟩
set_option maxRecDepth 20000 in
theorem opens_SetD : Opens Try.prog 61 RSetD := fun enc w spare held fuel cs x h => by
  obtain ⟨xs, m, _, _, hl, hlen, hf⟩ := DataW.trod_struct Try.underlying61 h
  replace hl : cs.length = 7 := hl.trans (by kernel_rfl)
  replace hlen : xs.length = 3 := hlen
  match cs, hl, hf with
  | [c0, c1, c2, c3, c4, c5, c6], _, hf =>
  have h0 := hf 0 _ rfl
  rw [List.getElem?_eq_getElem (by omega)] at h0
  obtain ⟨y0, e0⟩ := opens_str (by kernel_rfl) enc w spare held m _ _ h0
  have h1 := hf 1 _ rfl
  rw [List.getElem?_eq_getElem (by omega)] at h1
  obtain ⟨y1, e1⟩ := opens_int (by kernel_rfl) enc w spare held m _ _ h1
  have h2 := hf 2 _ rfl
  rw [List.getElem?_eq_getElem (by omega)] at h2
  obtain ⟨y2, e2⟩ := opens_TermD enc w spare held m _ _ h2
  exact ⟨⟨y0, y1, y2⟩, [c0], [c1], [c2, c3, c4, c5, c6], rfl, e0, e1, e2⟩
set_option maxRecDepth 20000 in
theorem opens_RuleD : Opens Try.prog 47 RRuleD := fun enc w spare held fuel cs x h => by
  obtain ⟨xs, m, _, _, hl, hlen, hf⟩ := DataW.trod_struct Try.underlying47 h
  replace hl : cs.length = 5 := hl.trans (by kernel_rfl)
  replace hlen : xs.length = 5 := hlen
  match cs, hl, hf with
  | [c0, c1, c2, c3, c4], _, hf =>
  have h0 := hf 0 _ rfl
  rw [List.getElem?_eq_getElem (by omega)] at h0
  obtain ⟨y0, e0⟩ := opens_str (by kernel_rfl) enc w spare held m _ _ h0
  have h1 := hf 1 _ rfl
  rw [List.getElem?_eq_getElem (by omega)] at h1
  obtain ⟨y1, e1⟩ := opens_int (by kernel_rfl) enc w spare held m _ _ h1
  have h2 := hf 2 _ rfl
  rw [List.getElem?_eq_getElem (by omega)] at h2
  obtain ⟨y2, e2⟩ := opens_slice (n := 8) (e := 53) (by kernel_rfl) (by kernel_rfl) (by decide) opens_FromD enc w spare held m _ _ h2
  have h3 := hf 3 _ rfl
  rw [List.getElem?_eq_getElem (by omega)] at h3
  obtain ⟨y3, e3⟩ := opens_slice (n := 11) (e := 63) (by kernel_rfl) (by kernel_rfl) (by decide) opens_AtomD enc w spare held m _ _ h3
  have h4 := hf 4 _ rfl
  rw [List.getElem?_eq_getElem (by omega)] at h4
  obtain ⟨y4, e4⟩ := opens_slice (n := 7) (e := 61) (by kernel_rfl) (by kernel_rfl) (by decide) opens_SetD enc w spare held m _ _ h4
  exact ⟨⟨y0, y1, y2, y3, y4⟩, [c0], [c1], [c2], [c3], [c4], rfl, e0, e1, e2, e3, e4⟩
set_option maxRecDepth 20000 in
theorem opens_RefD : Opens Try.prog 35 RRefD := fun enc w spare held fuel cs x h => by
  obtain ⟨xs, m, _, _, hl, hlen, hf⟩ := DataW.trod_struct Try.underlying35 h
  replace hl : cs.length = 4 := hl.trans (by kernel_rfl)
  replace hlen : xs.length = 4 := hlen
  match cs, hl, hf with
  | [c0, c1, c2, c3], _, hf =>
  have h0 := hf 0 _ rfl
  rw [List.getElem?_eq_getElem (by omega)] at h0
  obtain ⟨y0, e0⟩ := opens_str (by kernel_rfl) enc w spare held m _ _ h0
  have h1 := hf 1 _ rfl
  rw [List.getElem?_eq_getElem (by omega)] at h1
  obtain ⟨y1, e1⟩ := opens_str (by kernel_rfl) enc w spare held m _ _ h1
  have h2 := hf 2 _ rfl
  rw [List.getElem?_eq_getElem (by omega)] at h2
  obtain ⟨y2, e2⟩ := opens_int (by kernel_rfl) enc w spare held m _ _ h2
  have h3 := hf 3 _ rfl
  rw [List.getElem?_eq_getElem (by omega)] at h3
  obtain ⟨y3, e3⟩ := opens_int (by kernel_rfl) enc w spare held m _ _ h3
  exact ⟨⟨y0, y1, y2, y3⟩, [c0], [c1], [c2], [c3], rfl, e0, e1, e2, e3⟩
set_option maxRecDepth 20000 in
theorem opens_PurposeD : Opens Try.prog 77 RPurposeD := fun enc w spare held fuel cs x h => by
  obtain ⟨xs, m, _, _, hl, hlen, hf⟩ := DataW.trod_struct Try.underlying77 h
  replace hl : cs.length = 3 := hl.trans (by kernel_rfl)
  replace hlen : xs.length = 3 := hlen
  match cs, hl, hf with
  | [c0, c1, c2], _, hf =>
  have h0 := hf 0 _ rfl
  rw [List.getElem?_eq_getElem (by omega)] at h0
  obtain ⟨y0, e0⟩ := opens_str (by kernel_rfl) enc w spare held m _ _ h0
  have h1 := hf 1 _ rfl
  rw [List.getElem?_eq_getElem (by omega)] at h1
  obtain ⟨y1, e1⟩ := opens_slice (n := 4) (e := 35) (by kernel_rfl) (by kernel_rfl) (by decide) opens_RefD enc w spare held m _ _ h1
  have h2 := hf 2 _ rfl
  rw [List.getElem?_eq_getElem (by omega)] at h2
  obtain ⟨y2, e2⟩ := opens_int (by kernel_rfl) enc w spare held m _ _ h2
  exact ⟨⟨y0, y1, y2⟩, [c0], [c1], [c2], rfl, e0, e1, e2⟩
set_option maxRecDepth 20000 in
theorem opens_SourceD : Opens Try.prog 29 RSourceD := fun enc w spare held fuel cs x h => by
  obtain ⟨xs, m, _, _, hl, hlen, hf⟩ := DataW.trod_struct Try.underlying29 h
  replace hl : cs.length = 6 := hl.trans (by kernel_rfl)
  replace hlen : xs.length = 6 := hlen
  match cs, hl, hf with
  | [c0, c1, c2, c3, c4, c5], _, hf =>
  have h0 := hf 0 _ rfl
  rw [List.getElem?_eq_getElem (by omega)] at h0
  obtain ⟨y0, e0⟩ := opens_slice (n := 1) (e := 9) (by kernel_rfl) (by kernel_rfl) (by decide) (opens_str (by kernel_rfl)) enc w spare held m _ _ h0
  have h1 := hf 1 _ rfl
  rw [List.getElem?_eq_getElem (by omega)] at h1
  obtain ⟨y1, e1⟩ := opens_slice (n := 5) (e := 69) (by kernel_rfl) (by kernel_rfl) (by decide) opens_UnitD enc w spare held m _ _ h1
  have h2 := hf 2 _ rfl
  rw [List.getElem?_eq_getElem (by omega)] at h2
  obtain ⟨y2, e2⟩ := opens_slice (n := 6) (e := 57) (by kernel_rfl) (by kernel_rfl) (by decide) opens_SchemaD enc w spare held m _ _ h2
  have h3 := hf 3 _ rfl
  rw [List.getElem?_eq_getElem (by omega)] at h3
  obtain ⟨y3, e3⟩ := opens_slice (n := 5) (e := 47) (by kernel_rfl) (by kernel_rfl) (by decide) opens_RuleD enc w spare held m _ _ h3
  have h4 := hf 4 _ rfl
  rw [List.getElem?_eq_getElem (by omega)] at h4
  obtain ⟨y4, e4⟩ := opens_raw (P := Try.prog) (e := 148) (by kernel_rfl) enc w spare held m _ _ h4
  have h5 := hf 5 _ rfl
  rw [List.getElem?_eq_getElem (by omega)] at h5
  obtain ⟨y5, e5⟩ := opens_slice (n := 3) (e := 77) (by kernel_rfl) (by kernel_rfl) (by decide) opens_PurposeD enc w spare held m _ _ h5
  exact ⟨⟨y0, y1, y2, y3, y4, y5⟩, [c0], [c1], [c2], [c3], [c4], [c5], rfl, e0, e1, e2, e3, e4, e5⟩

set_option maxRecDepth 20000 in
/-- the source as it is handed over -/
theorem open_source {H : Type} {enc : TypeId × Value → H} {w : World} {spare : Nat → Bool} {held : Bool} {v : Value} {d : DataW H} {p : List MemPlace} {r : Reach} {b0 : Nat} (hv : Value.okWide Try.prog w r b0 29 v)
    (h : DataW.Trod enc Try.prog w 0 spare held 29 v d p) : ∃ (s : SourceD) (q : SrcAt), v = s.val q ∧ Src w s q ∧ Lens s := by
  obtain ⟨cs, rfl, hsz⟩ := okWide_struct Try.underlying29 hv
  obtain ⟨fuel, hf⟩ := h
  have hf' : DataW.trod enc Try.prog w 0 spare held fuel 29 cs.toList = some (d, p) := hf
  obtain ⟨s, hs⟩ := opens_SourceD enc w spare held fuel cs.toList _ hf'
  obtain ⟨xs, m, _, _, hl, hlen, hg⟩ := DataW.trod_struct Try.underlying29 hf'
  replace hlen : xs.length = 6 := hlen
  have h2 := hg 2 _ rfl
  have h3 := hg 3 _ rfl
  have h5 := hg 5 _ rfl
  rw [List.getElem?_eq_getElem (by omega)] at h2 h3 h5
  obtain ⟨q, hq, hsrc⟩ := hs.src
  have e : cs = #[.slice q.a0 s.issuers.length q.k0, .slice q.a1 s.units.length q.k1, .slice q.a2 s.schemas.length q.k2, .slice q.a3 s.rules.length q.k3, .slice q.a4 s.converts q.k4, .slice q.a5 s.purposes.length q.k5] := by simpa using hq
  refine ⟨s, q, by rw [e], hsrc, ?_⟩
  rw [e] at h2 h3 h5
  exact ⟨slice_len (e := 57) (by kernel_rfl) h2, slice_len (e := 47) (by kernel_rfl) h3, slice_len (e := 77) (by kernel_rfl) h5⟩
end Go.Proofs.Ytogenjbabgibbaa
namespace Go.Proofs.Ytogenjbabgibbaa
open Go.ChangeShapes Go.WideShapes Go.ChangeAt Go.RowKit
theorem few_q (s : SourceD) (p : SrcAt) (w : World) (hs : Src w s p) (hn : Lens s) (r : Bool) (hr : fewB s = r) :
    Calls Try.prog 10 #[s.val p] w fun e w' => e = .returned (.bool r) ∧ Below w.heap.size w w' := by
  subst hr
  exact few_any s p w hs hn
theorem check_q (s : SourceD) (p : SrcAt) (w : World) (hs : Src w s p) (hf : fewB s = true) (r : Int) (hr : checkB s = r) :
    Calls Try.prog 11 #[s.val p] w fun e w' => e = .returned (.int .i64 r) ∧ Below w.heap.size w w' := by
  subst hr
  exact check_any s p w hs (few_of hf)
set_option maxRecDepth 20000 in
/-- a ref as it is handed over -/
theorem open_ref {H : Type} {enc : TypeId × Value → H} {w : World} {spare : Nat → Bool} {held : Bool} {v : Value} {d : DataW H} {p : List MemPlace} {r : Reach} {b0 : Nat} (hv : Value.okWide Try.prog w r b0 35 v)
    (h : DataW.Trod enc Try.prog w 0 spare held 35 v d p) : ∃ x : RefD, v = x.val := by
  obtain ⟨cs, rfl, hsz⟩ := okWide_struct Try.underlying35 hv
  obtain ⟨fuel, hf⟩ := h
  have hf' : DataW.trod enc Try.prog w 0 spare held fuel 35 cs.toList = some (d, p) := hf
  obtain ⟨x, hx⟩ := opens_RefD enc w spare held fuel cs.toList _ hf'
  obtain ⟨e, _⟩ := hx.flat
  refine ⟨x, ?_⟩
  have : cs = #[.string x.name, .string x.path, .int .i64 x.schema, .int .i64 x.field] := by
    apply Array.ext'
    simpa using e
  rw [this]
/-- the head of the laws: sane, and the source is small, or not -/
theorem typeOf?_there {s : SourceD} {i j : Int} (h : ¬ (typeOf? s i j = none)) : 0 ≤ i ∧ i < s.schemas.length ∧ 0 ≤ j ∧ ∃ h1 : i.toNat < s.schemas.length, j < s.schemas[i.toNat].fields.length := by
  by_cases h1 : 0 ≤ i ∧ i < s.schemas.length ∧ 0 ≤ j
  · have hl : i.toNat < s.schemas.length := by omega
    by_cases h2 : j < s.schemas[i.toNat].fields.length
    · exact ⟨h1.1, h1.2.1, h1.2.2, hl, h2⟩
    · exact absurd (typeOf?_out2 hl h2) h
  · exact absurd (typeOf?_out1 h1) h
end Go.Proofs.Ytogenjbabgibbaa
namespace Go.Proofs.Ytogenjbabgibbaa
open Go.RowKit

/-! Names do not matter, and less remains accepted: what TypesNames says, in plain words. -/
def nmU (n : ByteArray) (u : UnitD) : UnitD := ⟨n, n, 7, u.base, u.scale⟩
def nmT (n : ByteArray) (t : TyD) : TyD := ⟨t.kind, t.lo, t.hi, n, t.unit, t.names⟩
def nmF (n : ByteArray) (f : FieldD) : FieldD := ⟨n, nmT n f.ty, f.w0, f.w1, f.w2, f.w3⟩
def nmS (n : ByteArray) (x : SchemaD) : SchemaD := ⟨n, n, x.issuer, x.version, x.fields.map (nmF n), x.depends⟩
def nmP (n : ByteArray) (p : PurposeD) : PurposeD := ⟨n, p.may, p.most⟩
def ren (n : ByteArray) (s : SourceD) : SourceD := ⟨s.issuers.map (fun _ => n), s.units.map (nmU n), s.schemas.map (nmS n), s.rules, s.converts, s.purposes.map (nmP n)⟩
section
variable (n : ByteArray) (s : SourceD)
theorem all_map' {α β : Type} (f : α → β) (p : β → Bool) (q : α → Bool) (l : List α) (h : ∀ x, p (f x) = q x) : (l.map f).all p = l.all q := by
  rw [List.all_map]
  congr 1
  funext x
  exact h x
theorem unitB_ren (us : List UnitD) (u : UnitD) : unitB (us.map (nmU n)) (nmU n u) = unitB us u := by
  unfold unitB
  rw [List.length_map, List.getElem?_map]
  show (decide (1 ≤ u.scale) && decide (u.scale ≤ 1099511627776) && decide (0 ≤ u.base) && (decide (u.base < us.length) && match (us[u.base.toNat]?).map (nmU n) with | some v => decide (v.scale = 1) | none => false)) = _
  cases us[u.base.toNat]? <;> rfl
theorem typeOf_ren (i j : Int) : typeOf? (ren n s) i j = (typeOf? s i j).map (nmT n) := by
  unfold typeOf?
  split
  · show (match (s.schemas.map (nmS n))[i.toNat]? with | some x => (match x.fields[j.toNat]? with | some f => some f.ty | none => none) | none => none) = _
    rw [List.getElem?_map]
    cases s.schemas[i.toNat]? with
    | none => rfl
    | some x =>
      show (match (x.fields.map (nmF n))[j.toNat]? with | some f => some f.ty | none => none) = Option.map (nmT n) (match x.fields[j.toNat]? with | some f => some f.ty | none => none)
      rw [List.getElem?_map]
      cases x.fields[j.toNat]? <;> rfl
  · rfl
theorem termTy_ren (fs : List FromD) (t : TermD) (k : Int) : termTy? (ren n s) fs t k = (termTy? s fs t k).map (nmT n) := by
  unfold termTy?
  split
  · cases fs[t.var.toNat]? with
    | none => rfl
    | some f => exact typeOf_ren n s f.schema t.field
  · rfl
theorem schIn_ren (i : Int) : schIn (ren n s) i = schIn s i := by
  unfold schIn
  show (decide (0 ≤ i) && decide (i < ((s.schemas.map (nmS n)).length : Int))) = _
  rw [List.length_map]
theorem fieldB_ren (f : FieldD) : fieldB (ren n s) (nmF n f) = fieldB s f := by
  unfold fieldB
  show (kindB (nmT n f.ty) ((s.units.map (nmU n)).length : Nat) && [f.w0, f.w1, f.w2, f.w3].all wOK) = _
  rw [List.length_map]
  rfl
theorem schB_ren (x : SchemaD) : schB (ren n s) (nmS n x) = schB s x := by
  unfold schB
  have h1 : selfB (nmS n x).fields = selfB x.fields := by
    unfold selfB
    show (match (x.fields.map (nmF n))[0]? with | some f => decide (f.ty.kind = 3) | none => false) = _
    rw [List.getElem?_map]
    cases x.fields[0]? <;> rfl
  have h2 : (nmS n x).fields.all (fieldB (ren n s)) = x.fields.all (fieldB s) := all_map' _ _ _ _ (fieldB_ren n s)
  have h3 : (nmS n x).fields.length = x.fields.length := by show (x.fields.map (nmF n)).length = _; rw [List.length_map]
  have h4 : (ren n s).issuers.length = s.issuers.length := by show (s.issuers.map (fun _ => n)).length = _; rw [List.length_map]
  rw [h1, h2, h3, h4]
  rfl
theorem fromB_ren (fs : List FromD) (i : Nat) : fromB (ren n s) fs i = fromB s fs i := by
  unfold fromB
  cases fs[i]? with
  | none => rfl
  | some f =>
    simp only
    rw [schIn_ren, termTy_ren]
    cases termTy? s fs f.of_ i <;> rfl
theorem baseOf_ren (us : List UnitD) (i : Int) : baseOf (us.map (nmU n)) i = baseOf us i := by
  unfold baseOf
  rw [List.getElem?_map]
  cases us[i.toNat]? <;> rfl
theorem cmpB_ren (us : List UnitD) (a b : TyD) : cmpB (us.map (nmU n)) (nmT n a) (nmT n b) = cmpB us a b := by
  unfold cmpB
  rw [baseOf_ren, baseOf_ren]
  rfl
theorem atomTys_ren (fs : List FromD) (m : AtomD) : atomTys (ren n s) fs m = (atomTys s fs m).map (nmT n) := by
  unfold atomTys
  have h : (fun t => termTy? (ren n s) fs t fs.length) = fun t => (termTy? s fs t fs.length).map (nmT n) := funext fun t => termTy_ren n s fs t _
  rw [h, List.map_filterMap]
theorem pairOK_ren (us : List UnitD) (l : List TyD) : pairOK (us.map (nmU n)) (l.map (nmT n)) = pairOK us l := by
  match l with
  | [] => rfl
  | [y] => rfl
  | [y, z] => exact cmpB_ren n us y z
  | _ :: _ :: _ :: _ => rfl
theorem atomB_ren (fs : List FromD) (m : AtomD) : atomB (ren n s) fs m = atomB s fs m := by
  unfold atomB
  have h1 : okT (ren n s) fs = okT s fs := funext fun t => by
    unfold okT
    rw [termTy_ren]
    cases termTy? s fs t fs.length <;> rfl
  have h2 : pairOK (ren n s).units (atomTys (ren n s) fs m) = pairOK s.units (atomTys s fs m) := by rw [atomTys_ren]; exact pairOK_ren n _ _
  have h3 : (atomTys (ren n s) fs m).all (ordOK m.op) = (atomTys s fs m).all (ordOK m.op) := by rw [atomTys_ren]; exact all_map' _ _ _ _ fun y => rfl
  rw [h1, h2, h3]
theorem setB_ren (fs : List FromD) (fd : TyD) (t : TermD) : setB (ren n s) fs (nmT n fd) t = setB s fs fd t := by
  unfold setB
  rw [termTy_ren]
  cases termTy? s fs t fs.length <;> rfl
theorem setIn_ren (r : RuleD) (x : SetD) : setIn (ren n s) r x = setIn s r x := by
  unfold setIn
  rw [typeOf_ren]
  cases typeOf? s r.schema x.field with
  | none => rfl
  | some fd => exact congrArg (fun b => !decide (x.field = 0) && b) (setB_ren n s r.froms fd x.term)
theorem headLen_ren (i : Int) : headLen (ren n s) i = headLen s i := by
  unfold headLen
  show (match (s.schemas.map (nmS n))[i.toNat]? with | some x => (x.fields.length : Int) | none => 0) = _
  rw [List.getElem?_map]
  cases s.schemas[i.toNat]? with
  | none => rfl
  | some x =>
    show (((x.fields.map (nmF n)).length : Nat) : Int) = _
    rw [List.length_map]
theorem ruleB_ren (r : RuleD) : ruleB (ren n s) r = ruleB s r := by
  unfold ruleB fromsB
  rw [show fromB (ren n s) r.froms = fromB s r.froms from funext fun i => fromB_ren n s _ i, show atomB (ren n s) r.froms = atomB s r.froms from funext fun m => atomB_ren n s _ m,
    show setIn (ren n s) r = setIn s r from funext fun x => setIn_ren n s r x, headLen_ren, schIn_ren]
theorem purpB_ren (p : PurposeD) : purpB (ren n s) (nmP n p) = purpB s p := by
  unfold purpB
  rw [show refIn (ren n s) = refIn s from funext fun x => by unfold refIn; rw [typeOf_ren]; cases typeOf? s x.schema x.field <;> rfl]
  rfl
theorem check_ren : checkB (ren n s) = checkB s := by
  unfold checkB
  have h1 : limB (ren n s) = limB s := by
    unfold limB
    have e : (ren n s).purposes.any (fun x => decide (64 < x.may.length)) = s.purposes.any (fun x => decide (64 < x.may.length)) := by
      show (s.purposes.map (nmP n)).any _ = _
      rw [List.any_map]
      rfl
    rw [e]
    show ((decide ((s.issuers.map (fun _ => n)).length ≤ 8) && (decide ((s.units.map (nmU n)).length ≤ 64) && (decide ((s.schemas.map (nmS n)).length ≤ 16) && (decide (s.rules.length ≤ 16) && (decide (s.converts ≤ 16) && decide ((s.purposes.map (nmP n)).length ≤ 8)))))) && !(s.purposes.any fun x => decide (64 < x.may.length))) = _
    simp only [List.length_map]
  have h2 : (ren n s).units.all (unitB (ren n s).units) = s.units.all (unitB s.units) := all_map' _ _ _ _ (unitB_ren n s.units)
  have h3 : (ren n s).schemas.all (schB (ren n s)) = s.schemas.all (schB s) := all_map' _ _ _ _ (schB_ren n s)
  have h4 : (ren n s).rules.all (ruleB (ren n s)) = s.rules.all (ruleB s) := by
    rw [show ruleB (ren n s) = ruleB s from funext fun r => ruleB_ren n s r]
    rfl
  have h5 : (ren n s).purposes.all (purpB (ren n s)) = s.purposes.all (purpB s) := all_map' _ _ _ _ (purpB_ren n s)
  rw [h1, h2, h3, h4, h5]
theorem few_ren : fewB (ren n s) = fewB s := by
  unfold fewB
  have h1 : (ren n s).schemas.all fewS = s.schemas.all fewS := all_map' _ _ _ _ fun x => by
    unfold fewS
    have e : (nmS n x).fields.all fewF = x.fields.all fewF := all_map' _ _ _ _ fun f => rfl
    rw [e]
    show (decide ((x.fields.map (nmF n)).length ≤ 14) && x.fields.all fewF) = _
    rw [List.length_map]
  have h2 : (ren n s).purposes.all fewP = s.purposes.all fewP := all_map' _ _ _ _ fun x => rfl
  have h3 : fewL (ren n s) = fewL s := by
    unfold fewL
    show decide ((s.issuers.map (fun _ => n)).length ≤ 12 ∧ (s.units.map (nmU n)).length ≤ 70 ∧ (s.schemas.map (nmS n)).length ≤ 20 ∧ s.rules.length ≤ 20 ∧ s.converts ≤ 20 ∧ (s.purposes.map (nmP n)).length ≤ 12) = _
    simp only [List.length_map]
  rw [h1, h2, h3]
  rfl
end
theorem all_take {α : Type} {p : α → Bool} {l : List α} (k : Nat) (h : l.all p = true) : (l.take k).all p = true := by
  rw [List.all_eq_true] at h ⊢
  exact fun x hx => h x (List.mem_of_mem_take hx)
/-- fewer rules, purposes and conversions -/
def sub_ (s : SourceD) (c k m : Nat) : SourceD := ⟨s.issuers, s.units, s.schemas, s.rules.take k, c, s.purposes.take m⟩
theorem check_sub {s : SourceD} {c k m : Nat} (hc : c ≤ s.converts) (h : checkB s = 0) : checkB (sub_ s c k m) = 0 := by
  unfold checkB at h ⊢
  split at h
  · next hl =>
    split at h
    · next hb =>
      rw [Bool.and_eq_true, Bool.and_eq_true, Bool.and_eq_true] at hb
      obtain ⟨b1, b2, b3, b4⟩ := hb
      have hl2 : limB (sub_ s c k m) = true := by
        unfold limB at hl ⊢
        simp only [Bool.and_eq_true, decide_eq_true_eq, Bool.not_eq_true'] at hl ⊢
        obtain ⟨⟨l1, l2, l3, l4, l5, l6⟩, l7⟩ := hl
        refine ⟨⟨l1, l2, l3, ?_, Nat.le_trans hc l5, ?_⟩, ?_⟩
        · show (s.rules.take k).length ≤ 16
          rw [List.length_take]; omega
        · show (s.purposes.take m).length ≤ 8
          rw [List.length_take]; omega
        · rw [List.any_eq_false] at l7 ⊢
          exact fun x hx => l7 x (List.mem_of_mem_take hx)
      have b : ((sub_ s c k m).units.all (unitB (sub_ s c k m).units) && ((sub_ s c k m).schemas.all (schB (sub_ s c k m)) && ((sub_ s c k m).rules.all (ruleB (sub_ s c k m)) && (sub_ s c k m).purposes.all (purpB (sub_ s c k m))))) = true := by
        rw [Bool.and_eq_true, Bool.and_eq_true, Bool.and_eq_true]
        exact ⟨b1, b2, all_take k b3, all_take m b4⟩
      rw [if_pos hl2, if_pos b]
    · cases h
  · cases h
theorem few_sub {s : SourceD} {c k m : Nat} (hc : c ≤ s.converts) (h : fewB s = true) : fewB (sub_ s c k m) = true := by
  unfold fewB at h ⊢
  rw [Bool.and_eq_true, Bool.and_eq_true, Bool.and_eq_true] at h ⊢
  obtain ⟨b1, b2, b3, b4⟩ := h
  refine ⟨b1, all_take k b2, all_take m b3, ?_⟩
  unfold fewL at b4 ⊢
  rw [decide_eq_true_eq] at b4 ⊢
  obtain ⟨l1, l2, l3, l4, l5, l6⟩ := b4
  refine ⟨l1, l2, l3, ?_, Nat.le_trans hc l5, ?_⟩
  · show (s.rules.take k).length ≤ 20
    rw [List.length_take]; omega
  · show (s.purposes.take m).length ≤ 12
    rw [List.length_take]; omega
theorem check_cases (s : SourceD) : checkB s = 0 ∨ checkB s = 120 ∨ checkB s = 2 := by
  unfold checkB
  split
  · split
    · exact .inl rfl
    · exact .inr (.inl rfl)
  · exact .inr (.inr rfl)
end Go.Proofs.Ytogenjbabgibbaa
