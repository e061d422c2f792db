/- Part 6 of the walks and laws that these claims rest on. No condition. -/
import Derived.Laws.AppendOwn
import Derived.Laws.CopyRow
import Derived.Test.YtogenjbabgibbaaPart5
set_option linter.all false
set_option linter.unusedSimpArgs false
set_option linter.unusedVariables false
set_option linter.unnecessarySimpa false
namespace Go.Proofs.Ytogenjbabgibbaa
open Go.RowKit

/-! Rows of the call's own that are copies: append to an empty literal, and stores into them. -/
structure Own (w : World) (B g n N : Nat) (f : Nat → List Value) : Prop where
  ge : B ≤ g
  lt : g < w.heap.size
  fz : ∀ i, w.frozen? ⟨g, i, none⟩ = false
  cl : ∀ i, i < N → ∀ j, j < n → ∃ v, (f i)[j]? = some v ∧ w.cell? ⟨g, i * n + j, none⟩ = some v
theorem Own.below {w w' : World} {B g n N : Nat} {f : Nat → List Value} (h : Own w B g n N f) {B' : Nat} (hb : Below B' w w') (hg : g < B') : Own w' B g n N f :=
  ⟨h.ge, Nat.lt_of_lt_of_le h.lt hb.size, fun i => (World.frozen?_of_block (a := ⟨g, i, none⟩) (hb.block g hg)).trans (h.fz i), fun i hi j hj => by
    obtain ⟨v, h1, h2⟩ := h.cl i hi j hj
    exact ⟨v, h1, (hb.cell (p := ⟨g, _, none⟩) hg).trans h2⟩⟩
theorem Own.other {w : World} {B g n N : Nat} {f : Nat → List Value} (h : Own w B g n N f) {a : Addr} (ha : g ≠ a.block) (v : Value) : Own (w.setCell a v) B g n N f :=
  ⟨h.ge, by have := h.lt; simpa using this, fun i => by rw [World.frozen?_setCell]; exact h.fz i, fun i hi j hj => by
    obtain ⟨u, h1, h2⟩ := h.cl i hi j hj
    exact ⟨u, h1, by rw [World.cell?_setCell_other _ _ _ _ (by intro e; rw [e] at ha; exact ha rfl)]; exact h2⟩⟩
/-- element k with cell o changed -/
def setE (f : Nat → List Value) (k o : Nat) (v : Value) : Nat → List Value := fun i => if i = k then (f k).set o v else f i
theorem mul_add_ne {n i k j o : Nat} (hj : j < n) (ho : o < n) (h : ¬ (i = k ∧ j = o)) : i * n + j ≠ k * n + o := by
  intro e
  have h1 : (i * n + j) / n = (k * n + o) / n := by rw [e]
  have h2 : (i * n + j) % n = (k * n + o) % n := by rw [e]
  have hn : 0 < n := by omega
  rw [Nat.mul_comm i n, Nat.mul_comm k n, Nat.mul_add_div hn, Nat.mul_add_div hn, Nat.div_eq_of_lt hj, Nat.div_eq_of_lt ho] at h1
  rw [Nat.mul_comm i n, Nat.mul_comm k n, Nat.mul_add_mod, Nat.mul_add_mod, Nat.mod_eq_of_lt hj, Nat.mod_eq_of_lt ho] at h2
  exact h ⟨by omega, h2⟩
theorem Own.set {w : World} {B g n N : Nat} {f : Nat → List Value} (h : Own w B g n N f) {k o : Nat} (hk : k < N) (ho : o < n) (v : Value) : Own (w.setCell ⟨g, k * n + o, none⟩ v) B g n N (setE f k o v) := by
  obtain ⟨u0, q1, q2⟩ := h.cl k hk o ho
  refine ⟨h.ge, by have := h.lt; simpa using this, fun i => by rw [World.frozen?_setCell]; exact h.fz i, fun i hi j hj => ?_⟩
  obtain ⟨u, h1, h2⟩ := h.cl i hi j hj
  by_cases e : i = k ∧ j = o
  · obtain ⟨rfl, rfl⟩ := e
    refine ⟨v, ?_, World.cell?_setCell_same _ _ _ h2⟩
    unfold setE
    rw [if_pos rfl, List.getElem?_set_self (List.getElem?_eq_some_iff.1 h1).1]
  · refine ⟨u, ?_, by rw [World.cell?_setCell_other _ _ _ _ (by intro q; exact mul_add_ne hj ho e (by injection q with _ q2 _; exact q2.symm))]; exact h2⟩
    unfold setE
    by_cases e1 : i = k
    · subst e1
      rw [if_pos rfl, List.getElem?_set_ne (fun q => e ⟨rfl, q.symm⟩)]
      exact h1
    · rw [if_neg e1]
      exact h1
theorem Own.congr {w : World} {B g n N : Nat} {f f' : Nat → List Value} (h : Own w B g n N f) (hf : ∀ i, i < N → f' i = f i) : Own w B g n N f' :=
  ⟨h.ge, h.lt, h.fz, fun i hi j hj => by rw [hf i hi]; exact h.cl i hi j hj⟩
theorem Own.at0 {w : World} {B g n N : Nat} {f : Nat → List Value} (h : Own w B g n N f) {i j : Nat} (hi : i < N) (hj : j < n) {v : Value} (hv : (f i)[j]? = some v) : w.cell? ⟨g, i * n + j, none⟩ = some v := by
  obtain ⟨u, h1, h2⟩ := h.cl i hi j hj
  rw [hv] at h1
  cases h1
  exact h2
def mixF (k : Nat) (g f : Nat → List Value) : Nat → List Value := fun i => if i < k then g i else f i
theorem mixF_at (k : Nat) (g f : Nat → List Value) : mixF k g f k = f k := if_neg (Nat.lt_irrefl k)
theorem setE_at (f : Nat → List Value) (k o : Nat) (v : Value) : setE f k o v k = (f k).set o v := if_pos rfl
theorem setE_ne {f : Nat → List Value} {k o : Nat} {v : Value} {i : Nat} (h : i ≠ k) : setE f k o v i = f i := if_neg h
theorem Own.mix0 {w : World} {B b n N : Nat} {g f : Nat → List Value} (h : Own w B b n N f) : Own w B b n N (mixF 0 g f) := h.congr fun i _ => if_neg (Nat.not_lt_zero i)
theorem Own.mixS {w : World} {B b n N k : Nat} {g f h : Nat → List Value} (ho : Own w B b n N h) (h1 : h k = g k) (h2 : ∀ i, i ≠ k → h i = mixF k g f i) : Own w B b n N (mixF (k + 1) g f) := ho.congr fun i _ => by
  by_cases e : i = k
  · subst e
    rw [h1]
    exact if_pos (Nat.lt_succ_self _)
  · rw [h2 i e]
    unfold mixF
    by_cases e2 : i < k
    · rw [if_pos e2, if_pos (by omega)]
    · rw [if_neg e2, if_neg (by omega)]
theorem Own.mixN {w : World} {B b n N : Nat} {g f : Nat → List Value} (h : Own w B b n N (mixF N g f)) : Own w B b n N g := h.congr fun i hi => (if_pos hi).symm
/-- an own row reads as a list -/
theorem Own.sl {α : Type} {R : Rep α} {w : World} {B g n N : Nat} {f : Nat → List Value} (h : Own w B g n N f) {l : List α} (hl : l.length = N) (hn : ∀ i, i < N → (f i).length = n) (hR : ∀ i (hi : i < l.length), R w (f i) l[i]) : Sl n R w (some ⟨g, 0, none⟩) l := fun i hi => by
  refine ⟨g, 0, rfl, h.lt, f i, hR i hi, fun j hj => ?_⟩
  obtain ⟨u, h1, h2⟩ := h.cl i (by omega) j hj
  rw [Nat.zero_add, h2, h1]
/-- what a slice's elements lie as -/
structure Src0 (w : World) (ad : Option Addr) (n m : Nat) (es : Nat → List Value) : Prop where
  ln : ∀ i, i < m → (es i).length = n
  on : ∀ i, i < m → ∀ u ∈ es i, u.oneCell' = true
  cl : ∀ i, i < m → ∃ b off, ad = some ⟨b, off, none⟩ ∧ b < w.heap.size ∧ ∀ j, j < n → w.cell? ⟨b, off + i * n + j, none⟩ = (es i)[j]?
theorem Src0.below {w w' : World} {ad : Option Addr} {n m : Nat} {es : Nat → List Value} (h : Src0 w ad n m es) (hb : Below w.heap.size w w') : Src0 w' ad n m es :=
  ⟨h.ln, h.on, fun i hi => by
    obtain ⟨b, off, h1, h2, h3⟩ := h.cl i hi
    exact ⟨b, off, h1, Nat.lt_of_lt_of_le h2 hb.size, fun j hj => (hb.cell (p := ⟨b, _, none⟩) h2).trans (h3 j hj)⟩⟩
theorem src0_of {α : Type} {R : Rep α} {w : World} {ad : Option Addr} {n : Nat} {l : List α} (h : Sl n R w ad l) (hR : ∀ es x, R w es x → es.length = n ∧ ∀ u ∈ es, u.oneCell' = true) :
    ∃ es : Nat → List Value, Src0 w ad n l.length es ∧ ∀ i (hi : i < l.length), R w (es i) l[i] := by
  have e0 : ∀ i, i < l.length → ∃ es : List Value, ∃ b off, ad = some ⟨b, off, none⟩ ∧ b < w.heap.size ∧ (∀ hi : i < l.length, R w es l[i]) ∧ ∀ j, j < n → w.cell? ⟨b, off + i * n + j, none⟩ = es[j]? := fun i hi => by
    obtain ⟨b, off, h1, h2, es, h3, h4⟩ := h i hi
    exact ⟨es, b, off, h1, h2, fun _ => h3, h4⟩
  obtain ⟨es, hes⟩ := Go.Deep.choose_lt e0
  refine ⟨es, ⟨fun i hi => ?_, fun i hi => ?_, fun i hi => ?_⟩, fun i hi => ?_⟩
  · obtain ⟨_, _, _, _, h3, _⟩ := hes i hi
    exact (hR _ _ (h3 hi)).1
  · obtain ⟨_, _, _, _, h3, _⟩ := hes i hi
    exact (hR _ _ (h3 hi)).2
  · obtain ⟨b, off, h1, h2, _, h4⟩ := hes i hi
    exact ⟨b, off, h1, h2, h4⟩
  · obtain ⟨_, _, _, _, h3, _⟩ := hes i hi
    exact h3 hi
theorem flat_get {n m : Nat} {es : Nat → List Value} (hl : ∀ i, i < m → (es i).length = n) : ((List.range m).flatMap es).length = m * n ∧ ∀ i, i < m → ∀ j, j < n → ((List.range m).flatMap es)[i * n + j]? = (es i)[j]? := by
  induction m with
  | zero => simp
  | succ m ih =>
    obtain ⟨h1, h2⟩ := ih fun i hi => hl i (by omega)
    rw [List.range_succ, List.flatMap_append, List.flatMap_singleton]
    refine ⟨by rw [List.length_append, h1, hl m (by omega), Nat.add_mul, Nat.one_mul], fun i hi j hj => ?_⟩
    by_cases q : i < m
    · rw [List.getElem?_append_left (by rw [h1]; have : (i + 1) * n ≤ m * n := Nat.mul_le_mul_right n q; rw [Nat.add_mul] at this; omega)]
      exact h2 i q j hj
    · have : i = m := by omega
      subst this
      rw [List.getElem?_append_right (by rw [h1]; omega), h1, show i * n + j - i * n = j by omega]
section
variable {P : Program}
theorem run_append_copy (w : World) (base : Nat) (t ty e : TypeId) (i : TypeInfo) (z : Value) (size bytes : Nat) (ht : P.underlying t = some (.slice e)) (hi : P.info? e = some i) (hz : i.zero = some z)
    (hsize : i.size = size) (hby : i.bytes = bytes) (hsz : 0 < size) (g0 : Nat) (hg0 : w.heap[g0]? = some (.cells #[] e (0, 0))) (hB : base ≤ g0) (hB2 : base ≤ w.heap.size)
    (ad : Option Addr) (m c : Nat) (es : Nat → List Value) (hs : Src0 w ad size m es) (h63 : m ≤ 1000) (hbytes : bytes ≤ 100000) :
    ∃ g cap w', (Builtin.append_ #[t, t] ty #[.slice (some ⟨g0, 0, none⟩) 0 0, .slice ad m c]).run P w = .ok (.slice (some ⟨g, 0, none⟩) m cap) w' ∧ Below w.heap.size w w' ∧ Own w' base g size m es := by
  have hlt : g0 < w.heap.size := (Array.getElem?_eq_some_iff.1 hg0).1
  by_cases h0 : m = 0
  · subst h0
    refine ⟨g0, 0, w, ?_, Below.refl _ _, ⟨hB, hlt, fun i => frozen_of_row w g0 i _ e hg0, fun i hi => by omega⟩⟩
    cases ad <;> simp [Builtin.append_, run_underlying ht, sizeOf, typeInfo, hi, Builtin.lenOf, Builtin.firstCells, loadCells, loadCellsFrom, storeCells]
  · obtain ⟨b, off, rfl, hb, _⟩ := hs.cl 0 (by omega)
    obtain ⟨f1, f2⟩ := flat_get hs.ln
    obtain ⟨news, hn⟩ : ∃ l, l = (List.range m).flatMap es := ⟨_, rfl⟩
    rw [← hn] at f1 f2
    subst hsize
    have hnews : ∀ j u, news[j]? = some u → w.cell? ((⟨b, off, none⟩ : Addr).add j) = some u := fun j u hj => by
      have hjl : j < m * i.size := by rw [← f1]; exact (List.getElem?_eq_some_iff.1 hj).1
      have d1 : j / i.size < m := Nat.div_lt_of_lt_mul (by rw [Nat.mul_comm]; exact hjl)
      have d2 : j % i.size < i.size := Nat.mod_lt _ hsz
      have d3 : j / i.size * i.size + j % i.size = j := by rw [Nat.mul_comm]; exact Nat.div_add_mod _ _
      have g1 := f2 _ d1 _ d2
      rw [d3, hj] at g1
      obtain ⟨b', off', q1, _, q2⟩ := hs.cl _ d1
      simp only [Option.some.injEq, Addr.mk.injEq, and_true] at q1
      obtain ⟨rfl, rfl⟩ := q1
      rw [add_none, show off + j = off + j / i.size * i.size + j % i.size by omega, q2 _ d2, ← g1]
    have hr := run_append_grow (P := P) w t ty e i z ht hi hz ⟨g0, 0, none⟩ 0 0 [] (by simp) (fun j v hj => by simp at hj) ⟨b, off, none⟩ m c news f1 hnews (by omega) (by omega) (by
      rw [hby]
      refine growslice_fits (by omega) ?_
      have := Nat.mul_le_mul (show 0 + m ≤ 1000 by omega) hbytes
      omega)
    rw [Nat.zero_add] at hr
    refine ⟨_, _, _, hr, (Below.refl _ _).drew.alloc (Nat.le_refl _) _, ?_⟩
    have hbk := heap_alloc_new w.drew (.cells (([] : List Value).toArray ++ news.toArray ++ Builtin.zeroCells z.cells (grownCap w m 0 e - m)) e)
    refine ⟨hB2, by simp, fun i => frozen_of_row _ _ i _ e hbk, fun k hk j hj => ?_⟩
    have hkj : k * i.size + j < news.length := by
      rw [f1]
      have : (k + 1) * i.size ≤ m * i.size := Nat.mul_le_mul_right _ hk
      rw [Nat.add_mul] at this
      omega
    have h5 := f2 k hk j hj
    rw [List.getElem?_eq_getElem hkj] at h5
    refine ⟨_, h5.symm, ?_⟩
    refine (cell_of_row _ _ _ _ e (0, 0) hbk).trans ?_
    rw [Array.getElem?_append_left (by simp; omega)]
    simp [hkj]
theorem wpList_append_copy {w : World} {ops : Array Oper} {rest : List Oper} {o : Oper} {a : Act} {Q : Exit → Act → World → Prop} (hgd : o.guard = none) (s x : Operand) (t : TypeId)
    (ho : o.op = .call { callee := .builtin .append, args := #[s, x], argTypes := #[t, t] })
    (base : Nat) (e : TypeId) (i : TypeInfo) (z : Value) (size bytes : Nat) (ht : P.underlying t = some (.slice e)) (hi : P.info? e = some i) (hz : i.zero = some z)
    (hsize : i.size = size) (hby : i.bytes = bytes) (hsz : 0 < size) (g0 : Nat) (hg0 : w.heap[g0]? = some (.cells #[] e (0, 0))) (hB : base ≤ g0) (hB2 : base ≤ w.heap.size)
    (ad : Option Addr) (m c : Nat) (es : Nat → List Value) (hs : Src0 w ad size m es) (h63 : m ≤ 1000) (hbytes : bytes ≤ 100000)
    (hs0 : a.eval s = .slice (some ⟨g0, 0, none⟩) 0 0) (hx : a.eval x = .slice ad m c)
    (h : ∀ g cap w', Below w.heap.size w w' → Own w' base g size m es → wpList P ops Q rest (a.put o.dst (.slice (some ⟨g, 0, none⟩) m cap)) w') :
    wpList P ops Q (o :: rest) a w := by
  refine wpList_plain hgd fun K hK => ?_
  obtain ⟨g, cap, w', hr, h2, h3⟩ := run_append_copy (P := P) w base t o.type e i z size bytes ht hi hz hsize hby hsz g0 hg0 hB hB2 ad m c es hs h63 hbytes
  unfold Oper.wp execOp
  simp only [ho, resolve, invoke, builtin, Sem.run_bind, Sem.run_pure, Result.andThen_ok, List.map_toArray, List.map_cons, List.map_nil, hs0, hx, hr]
  exact hK _ _ (h g cap w' h2 h3)
end
/-- one cell of an own block is written -/
theorem set_facts {w wn : World} {b o : Nat} {v : Value} (h : w.setCell ⟨b, o, none⟩ v = wn) : wn.heap.size = w.heap.size ∧ (∀ B, B ≤ b → Below B w wn) ∧ (∀ {b' o' : Nat} {u : Value}, w.cell? ⟨b', o', none⟩ = some u → b' ≠ b → wn.cell? ⟨b', o', none⟩ = some u) ∧
    (∀ {b' : Nat} {c : Array Value} {t : TypeId}, Blk w b' c t → b' ≠ b → Blk wn b' c t) ∧ ∀ {B g n N : Nat} {f : Nat → List Value}, Own w B g n N f → g ≠ b → Own wn B g n N f := by
  subst h
  refine ⟨by simp, fun B hB => (Below.refl _ _).setCell hB _, fun hu hne => ?_, fun hu hne => hu.keep (a := ⟨b, o, none⟩) hne v, fun hu hne => hu.other (a := ⟨b, o, none⟩) hne v⟩
  rw [World.cell?_setCell_other _ _ _ _ (by intro e; injection e with e1 _ _; exact hne e1.symm)]
  exact hu
theorem info_out {t s : Nat} (h : (Try.prog.info? t).map (fun i => (i.zero.isSome, i.size, decide (i.bytes ≤ 100000))) = some (true, s, true)) : ∃ i z, Try.prog.info? t = some i ∧ i.zero = some z ∧ i.size = s ∧ i.bytes ≤ 100000 := by
  cases hi : Try.prog.info? t with
  | none => rw [hi] at h; cases h
  | some i =>
    rw [hi] at h
    simp at h
    obtain ⟨h1, h2, h3⟩ := h
    obtain ⟨z, hz⟩ := Option.isSome_iff_exists.1 h1
    exact ⟨i, z, rfl, hz, h2, h3⟩
theorem info9 : ∃ i z, Try.prog.info? 9 = some i ∧ i.zero = some z ∧ i.size = 1 ∧ i.bytes ≤ 100000 := info_out (by kernel_rfl)
theorem info69 : ∃ i z, Try.prog.info? 69 = some i ∧ i.zero = some z ∧ i.size = 5 ∧ i.bytes ≤ 100000 := info_out (by kernel_rfl)
theorem info57 : ∃ i z, Try.prog.info? 57 = some i ∧ i.zero = some z ∧ i.size = 6 ∧ i.bytes ≤ 100000 := info_out (by kernel_rfl)
theorem info74 : ∃ i z, Try.prog.info? 74 = some i ∧ i.zero = some z ∧ i.size = 11 ∧ i.bytes ≤ 100000 := info_out (by kernel_rfl)
theorem info77 : ∃ i z, Try.prog.info? 77 = some i ∧ i.zero = some z ∧ i.size = 3 ∧ i.bytes ≤ 100000 := info_out (by kernel_rfl)
end Go.Proofs.Ytogenjbabgibbaa
namespace Go.Proofs.Ytogenjbabgibbaa
open Go.RowKit

/-! A region that draws its order, whose operations read, lay blocks, and write cells of one own block: each leaves for good what it says, whatever the order. -/
def repR (P : Program) (R : World → World → Prop) (w : World) (Φ : Value → World → Prop) : Result Next → Prop
  | .ok (.value u) w' => R w w' ∧ Φ u w'
  | .ok .skip w' => R w w' ∧ Φ undef w'
  | _ => False
def slotV (ops : Array Oper) (a : Act) (j : Nat) : Value := match ops[j]? with
  | some o => match o.dst with
    | some d => a.eval (.tmp d)
    | none => undef
  | none => undef
def relB (md : Region.Mode) (ops : Array Oper) (sz : Nat) : Bool := (List.range ops.size).all fun t => match ops[t]? with
  | some o => o.after.all (fun e => !Region.binds md e || decide (e.on < t)) && (o.guard.isNone && ((match o.dst with | some d => decide (d < sz) | none => true) && (List.range t).all fun s => match ops[s]? with | some q => (q.dst.isNone || q.dst != o.dst) | none => true))
  | none => true
section
variable {P : Program} {ops : Array Oper} {md : Region.Mode}
theorem relB_spec {sz : Nat} (h : relB md ops sz = true) {t : Nat} {o : Oper} (ho : ops[t]? = some o) : (∀ e ∈ o.after, Region.binds md e = true → e.on < t) ∧ o.guard = none ∧ (∀ d, o.dst = some d → d < sz) ∧ ∀ s q d, s < t → ops[s]? = some q → q.dst = some d → o.dst ≠ some d := by
  have hlt : t < ops.size := (Array.getElem?_eq_some_iff.1 ho).1
  have h1 := List.all_eq_true.1 h t (List.mem_range.2 hlt)
  simp only [ho, Bool.and_eq_true] at h1
  obtain ⟨h1, h2, h3, h4⟩ := h1
  refine ⟨fun e he hb => ?_, by simpa using h2, fun d hd => by rw [hd] at h3; simpa using h3, fun s q d hs hq hd hod => ?_⟩
  · have := Array.all_eq_true_iff_forall_mem.1 h1 e he
    simpa [hb] using this
  · have := List.all_eq_true.1 h4 s (List.mem_range.2 hs)
    rw [hq] at this
    simp [hd, hod] at this
theorem wp_of_repR {R : World → World → Prop} {o : Oper} {a : Act} {w : World} {Φ : Value → World → Prop} {K : Act → World → Prop} {Q' : Exit → Act → World → Prop} (h : repR P R w Φ ((execOp a.eval o).run P w))
    (hk : ∀ v w', (o.dst = none ∨ True) → R w w' → (Φ v w' ∨ Φ undef w' ∧ v = undef) → Φ v w' → K (a.put o.dst v) w') : o.wp P a w K Q' := by
  unfold Oper.wp
  generalize (execOp a.eval o).run P w = r at *
  cases r with
  | ok nx w' =>
    cases nx <;> simp only [repR] at h <;> simp only [Oper.upon]
    case value u => exact hk _ _ (.inr trivial) h.1 (.inl h.2) h.2
    case skip => exact hk _ _ (.inr trivial) h.1 (.inl h.2) h.2
  | halt x w' => simp only [repR] at h
theorem slotV_some {a : Act} {j d : Nat} {o : Oper} (ho : ops[j]? = some o) (hd : o.dst = some d) : slotV ops a j = a.eval (.tmp d) := by
  unfold slotV
  rw [ho]
  simp only [hd]
theorem slotV_none {a : Act} {j : Nat} {o : Oper} (ho : ops[j]? = some o) (hd : o.dst = none) : slotV ops a j = undef := by
  unfold slotV
  rw [ho]
  simp only [hd]
theorem wpAny_rel {a0 : Act} {w0 : World} (hB : relB md ops a0.tmps.size = true) (R : World → World → Prop) (htr : ∀ {x y z}, R x y → R y z → R x z) (Φ : Nat → Value → World → Prop)
    (stab : ∀ i v w w', Φ i v w → R w w' → Φ i v w') (hnone : ∀ i o, ops[i]? = some o → o.dst = none → ∀ v w, Φ i v w → Φ i undef w)
    (step : ∀ i o, ops[i]? = some o → ∀ (a : Act) (w : World), R w0 w → (∀ d, (∀ (j : Nat) (q : Oper), ops[j]? = some q → q.dst ≠ some d) → a.eval (.tmp d) = a0.eval (.tmp d)) →
      (∀ e ∈ o.after, Region.binds md e = true → Φ e.on (slotV ops a e.on) w) → repR P R w (Φ i) ((execOp a.eval o).run P w))
    {Q : Exit → Act → World → Prop}
    (hend : ∀ (a : Act) (w : World), R w0 w → a.tmps.size = a0.tmps.size → a.defers = a0.defers → (∀ d, (∀ (j : Nat) (q : Oper), ops[j]? = some q → q.dst ≠ some d) → a.eval (.tmp d) = a0.eval (.tmp d)) → (∀ j, j < ops.size → Φ j (slotV ops a j) w) → Q .normal a w) :
    ∀ (f : Nat) (U : List Nat) (listed : Array Bool) (a : Act) (w : World), U.length = f → U.Nodup → listed.size = ops.size → (∀ t, listed.getD t true = false ↔ t ∈ U) → (∀ t ∈ U, t < ops.size) →
      R w0 w → a.tmps.size = a0.tmps.size → a.defers = a0.defers → (∀ d, (∀ (j : Nat) (q : Oper), ops[j]? = some q → q.dst ≠ some d) → a.eval (.tmp d) = a0.eval (.tmp d)) → (∀ j, j < ops.size → j ∉ U → Φ j (slotV ops a j) w) → wpAny P md ops Q f listed a w
  | 0, U, listed, a, w, hU, _, hs, hu, _, hR, hsz, hdf, ho, hp => by
    have : U = [] := List.length_eq_zero_iff.1 hU
    subst this
    refine ⟨?_, hend a w hR hsz hdf ho (fun j hj => hp j hj (by simp))⟩
    rw [List.eq_nil_iff_forall_not_mem]
    intro i hi
    exact absurd ((hu i).1 (mem_ready.1 hi).1) (by simp)
  | f + 1, U, listed, a, w, hU, hnd, hs, hu, hUn, hR, hsz, hdf, ho, hp => by
    have hex : ∀ (j : Nat), j ∈ U → ∃ r ∈ U, r ∈ Region.ready md ops listed := by
      intro j
      induction j using Nat.strongRecOn with
      | _ j ih =>
        intro hj
        have hjn := hUn j hj
        obtain ⟨o, ho⟩ : ∃ o, ops[j]? = some o := ⟨_, Array.getElem?_eq_getElem (by omega)⟩
        by_cases hall : ∀ e ∈ o.after, Region.binds md e = true → listed.getD e.on false = true
        · exact ⟨j, hj, mem_ready.2 ⟨(hu j).2 hj, o, ho, hall⟩⟩
        · simp only [Classical.not_forall] at hall
          obtain ⟨e, he, hb, hne⟩ := hall
          have hlt := (relB_spec hB ho).1 e he hb
          have : listed.getD e.on true = false := by
            have hsz : e.on < listed.size := by omega
            simp [hsz] at hne ⊢; exact hne
          exact ih e.on hlt ((hu e.on).1 this)
    obtain ⟨j0, hj0⟩ : ∃ j0, j0 ∈ U := by
      cases U with
      | nil => simp at hU
      | cons x xs => exact ⟨x, by simp⟩
    obtain ⟨r, hrU, hr⟩ := hex j0 hj0
    refine ⟨fun h0 => (by rw [h0] at hr; cases hr), fun i hi => ?_⟩
    obtain ⟨hun, o, hoi, hall⟩ := mem_ready.1 hi
    have hiU : i ∈ U := (hu i).1 hun
    have hin := hUn i hiU
    obtain ⟨hbk, hgd, hdl, hdn⟩ := relB_spec hB hoi
    have hrun := step i o hoi a w hR ho (fun e he hb => by
      have hlt := hbk e he hb
      refine hp e.on (by omega) fun q => ?_
      have h1 := hall e he hb
      rw [getD_flip' ((hu e.on).2 q)] at h1
      cases h1)
    unfold wpOp
    rw [hoi]
    simp only
    rw [if_pos (by unfold Region.wanted; rw [hgd])]
    refine .inl (wp_of_repR hrun fun v w' _ hb _ hv => ?_)
    have hkeep : ∀ j q, j ≠ i → ops[j]? = some q → ∀ d, q.dst = some d → o.dst ≠ some d := fun j q hji hq d hd hod => by
      rcases Nat.lt_or_ge j i with h | h
      · exact hdn j q d h hq hd hod
      · exact (relB_spec hB hq).2.2.2 i o d (by omega) hoi hod hd
    refine wpAny_rel hB R htr Φ stab hnone step hend f (U.erase i) _ _ w' ?_ (hnd.erase i) (by simpa using hs) (fun t => ?_) (fun t ht => hUn t (List.mem_of_mem_erase ht)) (htr hR hb) (put_size.trans hsz) (put_defers'.trans hdf) (fun d hd => ?_) (fun j hj hjU => ?_)
    · rw [List.length_erase_of_mem hiU]; omega
    · by_cases e : i = t
      · subst e
        have hsz : i < listed.size := by omega
        have : i ∉ U.erase i := fun q => by rw [hnd.mem_erase_iff] at q; exact q.1 rfl
        simp [hsz, this]
      · rw [getD_set_ne true e, hu t, hnd.mem_erase_iff]
        constructor
        · exact fun q => ⟨fun q2 => e q2.symm, q⟩
        · exact fun q => q.2
    · cases hod : o.dst with
      | none => rw [show (a.put none v).eval (.tmp d) = a.eval (.tmp d) from rfl]; exact ho d hd
      | some d' =>
        rw [eval_put_ne (fun q => hd i o hoi (by rw [hod, q]))]
        exact ho d hd
    · obtain ⟨q, hq⟩ : ∃ q, ops[j]? = some q := ⟨_, Array.getElem?_eq_getElem hj⟩
      by_cases e : j = i
      · subst e
        rw [hoi] at hq
        cases hq
        cases hod : o.dst with
        | none =>
          rw [slotV_none hoi hod]
          exact hnone j o hoi hod v w' hv
        | some d =>
          rw [slotV_some hoi hod, eval_put_same (Nat.lt_of_lt_of_eq (hdl d hod) hsz.symm)]
          exact hv
      · have hold := hp j hj fun q => hjU ((hnd.mem_erase_iff).2 ⟨e, q⟩)
        have hsame : slotV ops (a.put o.dst v) j = slotV ops a j := by
          cases hqd : q.dst with
          | none => rw [slotV_none hq hqd, slotV_none hq hqd]
          | some d =>
            rw [slotV_some hq hqd, slotV_some hq hqd]
            cases hod : o.dst with
            | none => rfl
            | some d' => exact eval_put_ne (fun q2 => hkeep j q e hq d hqd (by rw [hod, q2]))
        rw [hsame]
        exact stab _ _ _ _ hold hb
end
theorem wp_region_rel {P : Program} {id : Nat} {Q : Exit → Act → World → Prop} {a : Act} {w : World} {l : List Oper} (ds : List Nat) (R : World → World → Prop) (Φ : Nat → Value → World → Prop) (hm : P.follows .mixedOrders = true)
    (hB : relB .any l.toArray a.tmps.size = true) (hds : (l.filterMap (·.dst)) = ds) (hR0 : R w w.drew) (htr : ∀ {x y z}, R x y → R y z → R x z) (stab : ∀ i v w w', Φ i v w → R w w' → Φ i v w')
    (hnone : ∀ i o, l[i]? = some o → o.dst = none → ∀ v w, Φ i v w → Φ i undef w)
    (step : ∀ i o, l[i]? = some o → ∀ (a' : Act) (w' : World), R w w' → (∀ d, d ∉ ds → a'.eval (.tmp d) = a.eval (.tmp d)) →
      (∀ e ∈ o.after, Region.binds .any e = true → Φ e.on (slotV l.toArray a' e.on) w') → repR P R w' (Φ i) ((execOp a'.eval o).run P w'))
    (h : ∀ (f : Nat → Value) (w' : World), R w w' → (∀ j o, l[j]? = some o → Φ j (match o.dst with | some d => f d | none => undef) w') → Q .normal (puts a ds f) w') : (Code.region id l.toArray true).wp P Q a w := by
  have hout : ∀ d, d ∉ ds → ∀ (j : Nat) (q : Oper), l.toArray[j]? = some q → q.dst ≠ some d := fun d hd j q hq hqd => by
    subst hds
    exact hd (List.mem_filterMap.2 ⟨q, List.mem_iff_getElem?.2 ⟨j, by simpa using hq⟩, hqd⟩)
  refine wp_region_any hm ?_
  refine wpAny_rel (w0 := w) (a0 := a) hB R htr Φ stab (fun i o ho => hnone i o (by simpa using ho)) (fun i o ho a' w' hr hoth hd => step i o (by simpa using ho) a' w' hr (fun d hd2 => hoth d (hout d hd2)) hd)
    (fun a' w' hr hsz hdf hoth hp => ?_) l.toArray.size (List.range l.toArray.size) _ a w.drew (by simp) List.nodup_range (by simp) (fun t => ?_) (fun t ht => by simpa using ht) hR0 rfl rfl (fun _ _ => rfl) (fun j hj hjn => absurd (List.mem_range.2 hj) hjn)
  · have := h (fun d => a'.eval (.tmp d)) w' hr (fun j o ho => by
      have hj : j < l.toArray.size := by simpa using (List.getElem?_eq_some_iff.1 ho).1
      have h2 := hp j hj
      unfold slotV at h2
      rw [show l.toArray[j]? = some o by simpa using ho] at h2
      exact h2)
    rw [puts_eq hsz hdf fun d hd => hoth d (hout d hd)] at this
    exact this
  · rcases Nat.lt_or_ge t l.toArray.size with q | q
    · simp at q ⊢; simp [q]
    · have q' : l.length ≤ t := by simpa using q
      have q2 : ¬ t < l.length := by omega
      simp [q2]
/-! One own block is written, all else stays. -/
structure RSet (g : Nat) (L : List (Nat × Value)) (w w' : World) : Prop where
  os : w'.os = w.os
  tape : w'.tape = w.tape
  output : w'.output = w.output
  size : w.heap.size ≤ w'.heap.size
  block : ∀ b, b < w.heap.size → b ≠ g → w'.heap[b]? = w.heap[b]?
  fz : ∀ i, g < w.heap.size → w'.frozen? ⟨g, i, none⟩ = w.frozen? ⟨g, i, none⟩
  out : ∀ i v, w.cell? ⟨g, i, none⟩ = some v → (∀ x ∈ L, x.1 ≠ i) → w'.cell? ⟨g, i, none⟩ = some v
  inn : ∀ x ∈ L, w.cell? ⟨g, x.1, none⟩ = some x.2 → w'.cell? ⟨g, x.1, none⟩ = some x.2
  some_ : ∀ i, (w.cell? ⟨g, i, none⟩).isSome = true → (w'.cell? ⟨g, i, none⟩).isSome = true
theorem RSet.trans {g : Nat} {L : List (Nat × Value)} {w w' w'' : World} (h : RSet g L w w') (k : RSet g L w' w'') : RSet g L w w'' :=
  ⟨k.os.trans h.os, k.tape.trans h.tape, k.output.trans h.output, Nat.le_trans h.size k.size, fun b hb hne => (k.block b (Nat.lt_of_lt_of_le hb h.size) hne).trans (h.block b hb hne),
    fun i hg => (k.fz i (Nat.lt_of_lt_of_le hg h.size)).trans (h.fz i hg), fun i v hv hi => k.out i v (h.out i v hv hi) hi, fun x hx hv => k.inn x hx (h.inn x hx hv), fun i hi => k.some_ i (h.some_ i hi)⟩
theorem RSet.of_below {g : Nat} {L : List (Nat × Value)} {w w' : World} (hg : g < w.heap.size) (h : Below w.heap.size w w') : RSet g L w w' :=
  ⟨h.os, h.tape, h.output, h.size, fun b hb _ => h.block b hb, fun i _ => World.frozen?_of_block (a := ⟨g, i, none⟩) (h.block g hg), fun i v hv _ => (h.cell (p := ⟨g, i, none⟩) hg).trans hv,
    fun x _ hv => (h.cell (p := ⟨g, _, none⟩) hg).trans hv, fun i hi => by rw [h.cell (p := ⟨g, i, none⟩) hg]; exact hi⟩
theorem RSet.set {g : Nat} {L : List (Nat × Value)} {w : World} {o : Nat} {v : Value} (hx : (o, v) ∈ L) (hL : (L.map (·.1)).Nodup) (hc : (w.cell? ⟨g, o, none⟩).isSome = true) : RSet g L w (w.setCell ⟨g, o, none⟩ v) ∧ (w.setCell ⟨g, o, none⟩ v).cell? ⟨g, o, none⟩ = some v := by
  obtain ⟨u, hu⟩ := Option.isSome_iff_exists.1 hc
  have hcs : (w.setCell ⟨g, o, none⟩ v).cell? ⟨g, o, none⟩ = some v := World.cell?_setCell_same _ _ _ hu
  have hco : ∀ i, i ≠ o → (w.setCell ⟨g, o, none⟩ v).cell? ⟨g, i, none⟩ = w.cell? ⟨g, i, none⟩ := fun i hi => World.cell?_setCell_other _ _ _ _ (by intro e; injection e with _ e2 _; exact hi e2.symm)
  have hbel : Below g w (w.setCell ⟨g, o, none⟩ v) := (set_facts (w := w) (b := g) (o := o) (v := v) rfl).2.1 g (Nat.le_refl g)
  refine ⟨⟨hbel.os, hbel.tape, hbel.output, hbel.size, fun b hb hne => heap_setCell_other w ⟨g, o, none⟩ b v hne, fun i _ => by rw [World.frozen?_setCell], fun i u hu hi => ?_, fun x hxL hu => ?_, fun i hi => ?_⟩, hcs⟩
  · rw [hco i (fun e => hi _ hx e.symm)]
    exact hu
  · by_cases e : x.1 = o
    · have : x = (o, v) := by
        obtain ⟨i, hi, e1⟩ := List.mem_iff_getElem.1 hxL
        obtain ⟨j, hj, e2⟩ := List.mem_iff_getElem.1 hx
        have : i = j := (List.getElem_inj hL (i := i) (j := j) (h₀ := by simpa using hi) (h₁ := by simpa using hj)).1 (by rw [List.getElem_map, List.getElem_map, e1, e2]; exact e)
        subst this
        exact e1.symm.trans e2
      subst this
      exact hcs
    · rw [hco _ e]
      exact hu
  · by_cases e : i = o
    · subst e; rw [hcs]; rfl
    · rw [hco i e]; exact hi
theorem RSet.blk {g : Nat} {L : List (Nat × Value)} {w w' : World} (h : RSet g L w w') {b : Nat} {c : Array Value} {t : TypeId} (hb : Blk w b c t) (hne : b ≠ g) : Blk w' b c t := (h.block b hb.lt hne).trans hb
theorem RSet.own {g : Nat} {L : List (Nat × Value)} {w w' : World} (h : RSet g L w w') {B b n N : Nat} {f : Nat → List Value} (ho : Own w B b n N f) (hne : b ≠ g) : Own w' B b n N f :=
  ⟨ho.ge, Nat.lt_of_lt_of_le ho.lt h.size, fun i => (World.frozen?_of_block (a := ⟨b, i, none⟩) (h.block b ho.lt hne)).trans (ho.fz i), fun i hi j hj => by
    obtain ⟨v, h1, h2⟩ := ho.cl i hi j hj
    exact ⟨v, h1, (World.cell?_of_block (a := ⟨b, _, none⟩) (h.block b ho.lt hne)).trans h2⟩⟩
theorem RSet.below {g : Nat} {L : List (Nat × Value)} {w w' : World} (h : RSet g L w w') {B : Nat} (hB : B ≤ g) (hs : g < w.heap.size) : Below B w w' := ⟨h.os, h.tape, h.output, h.size, fun b hb => h.block b (by omega) (by omega)⟩
/-- the row itself: cells os of element k are new -/
theorem RSet.row {g n N k B : Nat} {os : List (Nat × Value)} {w w' : World} {f : Nat → List Value} (h : RSet g (os.map fun x => (k * n + x.1, x.2)) w w') (ho : Own w B g n N f) (hos : ∀ x ∈ os, x.1 < n) (hk : k < N) (hnew : ∀ x ∈ os, w'.cell? ⟨g, k * n + x.1, none⟩ = some x.2)
    {r : List Value} (hr1 : ∀ x ∈ os, r[x.1]? = some x.2) (hr2 : ∀ j, j < n → (∀ x ∈ os, x.1 ≠ j) → r[j]? = (f k)[j]?) : Own w' B g n N (fun i => if i = k then r else f i) := by
  refine ⟨ho.ge, Nat.lt_of_lt_of_le ho.lt h.size, fun i => (h.fz i ho.lt).trans (ho.fz i), fun i hi j hj => ?_⟩
  obtain ⟨v, h1, h2⟩ := ho.cl i hi j hj
  by_cases e : i = k
  · subst e
    simp only [if_true]
    by_cases e2 : ∃ x ∈ os, x.1 = j
    · obtain ⟨x, hx, rfl⟩ := e2
      exact ⟨x.2, hr1 x hx, hnew x hx⟩
    · have e3 : ∀ x ∈ os, x.1 ≠ j := fun x hx q => e2 ⟨x, hx, q⟩
      refine ⟨v, by rw [hr2 j hj e3]; exact h1, h.out _ _ h2 fun y hy => ?_⟩
      obtain ⟨x, hx, rfl⟩ := List.mem_map.1 hy
      exact fun q => e3 x hx (by omega)
  · simp only [if_neg e]
    refine ⟨v, h1, h.out _ _ h2 fun y hy => ?_⟩
    obtain ⟨x, hx, rfl⟩ := List.mem_map.1 hy
    exact fun q => mul_add_ne hj (hos x hx) (fun q2 => e q2.1) q.symm
theorem len3 {l : List Value} (h : l.length = 3) : ∃ c0 c1 c2, l = [c0, c1, c2] := by
  match l, h with
  | [c0, c1, c2], _ => exact ⟨_, _, _, rfl⟩
theorem len5 {l : List Value} (h : l.length = 5) : ∃ c0 c1 c2 c3 c4, l = [c0, c1, c2, c3, c4] := by
  match l, h with
  | [c0, c1, c2, c3, c4], _ => exact ⟨_, _, _, _, _, rfl⟩
theorem len6 {l : List Value} (h : l.length = 6) : ∃ c0 c1 c2 c3 c4 c5, l = [c0, c1, c2, c3, c4, c5] := by
  match l, h with
  | [c0, c1, c2, c3, c4, c5], _ => exact ⟨_, _, _, _, _, _, rfl⟩
theorem len11 {l : List Value} (h : l.length = 11) : ∃ c0 c1 c2 c3 c4 c5 c6 c7 c8 c9 c10, l = [c0, c1, c2, c3, c4, c5, c6, c7, c8, c9, c10] := by
  match l, h with
  | [c0, c1, c2, c3, c4, c5, c6, c7, c8, c9, c10], _ => exact ⟨_, _, _, _, _, _, _, _, _, _, _, rfl⟩
/-- what each operation leaves: a value, a cell of the block, or something else that lasts -/
inductive Spec where
  | val (v : Value)
  | st (o : Nat) (v : Value)
  | p (P : Value → World → Prop)
def Spec.isSt : Spec → Bool
  | .st _ _ => true
  | _ => false
def PhiS (g : Nat) (T : List Spec) (i : Nat) (v : Value) (w : World) : Prop := match T[i]? with
  | some (.val u) => v = u
  | some (.st o u) => w.cell? ⟨g, o, none⟩ = some u
  | some (.p P) => P v w
  | none => True
theorem PhiS.stab {g : Nat} {L : List (Nat × Value)} {T : List Spec} (hT : ∀ x ∈ T, match x with | .val _ => True | .st o u => (o, u) ∈ L | .p P => ∀ v w w', P v w → RSet g L w w' → P v w') : ∀ i v w w', PhiS g T i v w → RSet g L w w' → PhiS g T i v w' := fun i v w w' h hr => by
  unfold PhiS at h ⊢
  cases hq : T[i]? with
  | none => trivial
  | some x =>
    have hx := hT x (List.mem_of_getElem? hq)
    rw [hq] at h
    cases x with
    | val u => exact h
    | st o u => exact hr.inn _ hx h
    | p P => exact hx _ _ _ h hr
theorem PhiS.none {g : Nat} {T : List Spec} {l : List Oper} (hl : ((List.range l.length).all fun i => match l[i]? with | some o => o.dst.isSome || (match T[i]? with | some x => x.isSt | none => true) | none => true) = true) :
    ∀ i o, l[i]? = some o → o.dst = none → ∀ v w, PhiS g T i v w → PhiS g T i undef w := fun i o ho hd v w h => by
  have hi : i < l.length := (List.getElem?_eq_some_iff.1 ho).1
  have h1 := List.all_eq_true.1 hl i (List.mem_range.2 hi)
  rw [ho] at h1
  simp only [hd, Option.isSome_none, Bool.false_or] at h1
  unfold PhiS at h ⊢
  cases hq : T[i]? with
  | none => trivial
  | some x =>
    rw [hq] at h h1
    cases x with
    | val u => cases h1
    | st o u => exact h
    | p P => cases h1
theorem RSet.refl {g : Nat} {L : List (Nat × Value)} (w : World) : RSet g L w w := ⟨rfl, rfl, rfl, Nat.le_refl _, fun _ _ _ => rfl, fun _ _ => rfl, fun _ _ h _ => h, fun _ _ h => h, fun _ h => h⟩
theorem RSet.drew {g : Nat} {L : List (Nat × Value)} (w : World) (hg : g < w.heap.size) : RSet g L w w.drew := RSet.of_below hg (Below.refl _ _).drew
/-- the row of a schema's fields, with the new names -/
def FRow (w0 w : World) (nm : ByteArray) (gs : Nat) (x : SchemaD) (v : Value) : Prop := ∃ g c, ∃ es : Nat → List Value, v = .slice (some ⟨g, 0, none⟩) x.fields.length c ∧ gs < g ∧ Own w 0 g 11 x.fields.length (fun j => ((es j).set 0 (.string nm)).set 4 (.string nm)) ∧ ∀ j (hj : j < x.fields.length), RFieldD w0 (es j) x.fields[j]
theorem FRow.below {w0 w w' : World} {nm : ByteArray} {gs : Nat} {x : SchemaD} {v : Value} (h : FRow w0 w nm gs x v) (hb : Below w.heap.size w w') : FRow w0 w' nm gs x v := by
  obtain ⟨g, c, es, h1, h2, h3, h4⟩ := h
  exact ⟨g, c, es, h1, h2, h3.below hb h3.lt, h4⟩
theorem FRow.rset {w0 w w' : World} {nm : ByteArray} {gs : Nat} {x : SchemaD} {v : Value} {L : List (Nat × Value)} (h : FRow w0 w nm gs x v) (hr : RSet gs L w w') : FRow w0 w' nm gs x v := by
  obtain ⟨g, c, es, h1, h2, h3, h4⟩ := h
  exact ⟨g, c, es, h1, h2, hr.own h3 (by omega), h4⟩
theorem FRow.set {w0 w : World} {nm : ByteArray} {gs : Nat} {x : SchemaD} {v : Value} (h : FRow w0 w nm gs x v) (o : Nat) (u : Value) : FRow w0 (w.setCell ⟨gs, o, none⟩ u) nm gs x v := by
  obtain ⟨g, c, es, h1, h2, h3, h4⟩ := h
  exact ⟨g, c, es, h1, h2, h3.other (a := ⟨gs, o, none⟩) (Nat.ne_of_gt h2) u, h4⟩
def FRowB (w0 w : World) (nm : ByteArray) (gs B : Nat) (x : SchemaD) (v : Value) : Prop := ∃ g c, ∃ es : Nat → List Value, v = .slice (some ⟨g, 0, none⟩) x.fields.length c ∧ gs < g ∧ g < B ∧ Own w 0 g 11 x.fields.length (fun j => ((es j).set 0 (.string nm)).set 4 (.string nm)) ∧ ∀ j (hj : j < x.fields.length), RFieldD w0 (es j) x.fields[j]
theorem FRow.toB {w0 w : World} {nm : ByteArray} {gs : Nat} {x : SchemaD} {v : Value} (h : FRow w0 w nm gs x v) : FRowB w0 w nm gs w.heap.size x v := by
  obtain ⟨g, c, es, h1, h2, h3, h4⟩ := h
  exact ⟨g, c, es, h1, h2, h3.lt, h3, h4⟩
theorem FRowB.toRow {w0 w : World} {nm : ByteArray} {gs B : Nat} {x : SchemaD} {v : Value} (h : FRowB w0 w nm gs B x v) : FRow w0 w nm gs x v := by
  obtain ⟨g, c, es, h1, h2, _, h3, h4⟩ := h
  exact ⟨g, c, es, h1, h2, h3, h4⟩
theorem FRowB.below {w0 w w' : World} {nm : ByteArray} {gs B B' : Nat} {x : SchemaD} {v : Value} (h : FRowB w0 w nm gs B x v) (hb : Below B' w w') (hB : B ≤ B') : FRowB w0 w' nm gs B x v := by
  obtain ⟨g, c, es, h1, h2, h5, h3, h4⟩ := h
  exact ⟨g, c, es, h1, h2, h5, h3.below hb (by omega), h4⟩
theorem FRowB.rset {w0 w w' : World} {nm : ByteArray} {gs B g' : Nat} {x : SchemaD} {v : Value} {L : List (Nat × Value)} (h : FRowB w0 w nm gs B x v) (hr : RSet g' L w w') (hB : B ≤ g') : FRowB w0 w' nm gs B x v := by
  obtain ⟨g, c, es, h1, h2, h5, h3, h4⟩ := h
  exact ⟨g, c, es, h1, h2, h5, hr.own h3 (by omega), h4⟩
theorem FRowB.set {w0 w wn : World} {nm : ByteArray} {gs B : Nat} {x : SchemaD} {v : Value} (h : FRowB w0 w nm gs B x v) {b o : Nat} {u : Value} (hw : w.setCell ⟨b, o, none⟩ u = wn) (hb : b ≤ gs) : FRowB w0 wn nm gs B x v := by
  subst hw
  obtain ⟨g, c, es, h1, h2, h5, h3, h4⟩ := h
  exact ⟨g, c, es, h1, h2, h5, h3.other (a := ⟨b, o, none⟩) (show g ≠ b by omega) u, h4⟩
theorem Own.base0 {w : World} {B g n N : Nat} {f : Nat → List Value} (h : Own w B g n N f) : Own w 0 g n N f := ⟨Nat.zero_le _, h.lt, h.fz, h.cl⟩
/-- values of the drawn region that copies a schema's fields -/
def PhiB (T : List Spec) (i : Nat) (v : Value) (w : World) : Prop := match T[i]? with
  | some (.val u) => v = u
  | some (.p P) => P v w
  | _ => True
theorem PhiB.stab {T : List Spec} (hT : ∀ x ∈ T, match x with | .p P => ∀ v w w', P v w → Below w.heap.size w w' → P v w' | _ => True) : ∀ i v w w', PhiB T i v w → Below w.heap.size w w' → PhiB T i v w' := fun i v w w' h hr => by
  unfold PhiB at h ⊢
  cases hq : T[i]? with
  | none => trivial
  | some x =>
    have hx := hT x (List.mem_of_getElem? hq)
    rw [hq] at h
    cases x with
    | val u => exact h
    | st o u => trivial
    | p P => exact hx _ _ _ h hr
def EmptyAt (base e : Nat) (v : Value) (w : World) : Prop := ∃ g, v = .slice (some ⟨g, 0, none⟩) 0 0 ∧ base ≤ g ∧ w.heap[g]? = some (.cells #[] e (0, 0))
theorem EmptyAt.stab {base e : Nat} : ∀ v (w w' : World), EmptyAt base e v w → Below w.heap.size w w' → EmptyAt base e v w' := fun v w w' ⟨g, h1, h2, h3⟩ hb => ⟨g, h1, h2, (hb.block g (Array.getElem?_eq_some_iff.1 h3).1).trans h3⟩
def CopyAt (base n m : Nat) (es : Nat → List Value) (v : Value) (w : World) : Prop := ∃ g c, v = .slice (some ⟨g, 0, none⟩) m c ∧ Own w base g n m es
theorem CopyAt.stab {base n m : Nat} {es : Nat → List Value} : ∀ v (w w' : World), CopyAt base n m es v w → Below w.heap.size w w' → CopyAt base n m es v w' := fun v w w' ⟨g, c, h1, h2⟩ hb => ⟨g, c, h1, h2.below hb h2.lt⟩
end Go.Proofs.Ytogenjbabgibbaa
namespace Go.Proofs.Ytogenjbabgibbaa
open Go.RowKit

/-! The copies read as the source with the new names. -/
theorem str_new {w : World} {nm : ByteArray} (h : nm.size ≤ maxLen) : RStr w [.string nm] nm := ⟨rfl, h⟩
theorem unit_new {w w' : World} {nm : ByteArray} (hnm : nm.size ≤ maxLen) {cs : List Value} {x : UnitD} (h : RUnitD w cs x) : ((cs.set 0 (.string nm)).set 1 (.string nm)).set 2 (.int .i64 7) = [.string nm, .string nm, .int .i64 7, .int .i64 x.base, .int .i64 x.scale] ∧ RUnitD w' (((cs.set 0 (.string nm)).set 1 (.string nm)).set 2 (.int .i64 7)) (nmU nm x) := by
  obtain ⟨rfl, _, _, _, h4, h5⟩ := h.flat
  exact ⟨rfl, [.string nm], [.string nm], [.int .i64 7], [.int .i64 x.base], [.int .i64 x.scale], rfl, ⟨rfl, hnm⟩, ⟨rfl, hnm⟩, ⟨rfl, (by decide : (Lit.int .i64 7).wf = true)⟩, ⟨rfl, h4⟩, ⟨rfl, h5⟩⟩
theorem field_new {w w' : World} {nm : ByteArray} (hnm : nm.size ≤ maxLen) (hb : Below w.heap.size w w') {cs : List Value} {x : FieldD} (h : RFieldD w cs x) : ((cs.set 0 (.string nm)).set 4 (.string nm)).length = 11 ∧ RFieldD w' ((cs.set 0 (.string nm)).set 4 (.string nm)) (nmF nm x) := by
  obtain ⟨a0, k0, rfl, hs, _, h1, h2, h3, _, h5, h6, h7, h8, h9⟩ := h.flat
  refine ⟨rfl, [.string nm], [.int .i64 x.ty.kind, .int .i64 x.ty.lo, .int .i64 x.ty.hi, .string nm, .int .i64 x.ty.unit, .slice a0 x.ty.names.length k0], [.int .i64 x.w0], [.int .i64 x.w1], [.int .i64 x.w2], [.int .i64 x.w3], rfl, ⟨rfl, hnm⟩, ?_, ⟨rfl, h6⟩, ⟨rfl, h7⟩, ⟨rfl, h8⟩, ⟨rfl, h9⟩⟩
  exact ⟨[.int .i64 x.ty.kind], [.int .i64 x.ty.lo], [.int .i64 x.ty.hi], [.string nm], [.int .i64 x.ty.unit], [.slice a0 x.ty.names.length k0], rfl, ⟨rfl, h1⟩, ⟨rfl, h2⟩, ⟨rfl, h3⟩, ⟨rfl, hnm⟩, ⟨rfl, h5⟩, ⟨a0, k0, rfl, hs.below RStr.stab hb⟩⟩
theorem schema_new {w w' : World} {nm : ByteArray} (hnm : nm.size ≤ maxLen) (hb : Below w.heap.size w w') {cs : List Value} {x : SchemaD} (h : RSchemaD w cs x) {gs B : Nat} {v : Value} (hv : FRowB w w' nm gs B x v) : (((cs.set 0 (.string nm)).set 1 (.string nm)).set 4 v).length = 6 ∧ RSchemaD w' (((cs.set 0 (.string nm)).set 1 (.string nm)).set 4 v) (nmS nm x) := by
  obtain ⟨a0, k0, a1, k1, rfl, _, _, _, h3, h4⟩ := h.flat
  obtain ⟨g, c, es, rfl, _, _, ho, he⟩ := hv
  refine ⟨rfl, [.string nm], [.string nm], [.int .i64 x.issuer], [.int .i64 x.version], [.slice (some ⟨g, 0, none⟩) x.fields.length c], [.slice a1 x.depends k1], rfl, ⟨rfl, hnm⟩, ⟨rfl, hnm⟩, ⟨rfl, h3⟩, ⟨rfl, h4⟩, ⟨some ⟨g, 0, none⟩, c, ?_, ?_⟩, ⟨a1, k1, rfl⟩⟩
  · show [Value.slice (some ⟨g, 0, none⟩) x.fields.length c] = [.slice (some ⟨g, 0, none⟩) (x.fields.map (nmF nm)).length c]
    rw [List.length_map]
  · refine ho.sl (l := x.fields.map (nmF nm)) (List.length_map ..) (fun i hi => (field_new (w' := w') hnm hb (he i hi)).1) fun i hi => ?_
    rw [List.getElem_map]
    exact (field_new hnm hb (he i (by simpa using hi))).2
theorem purpose_new {w w' : World} {nm : ByteArray} (hnm : nm.size ≤ maxLen) (hb : Below w.heap.size w w') {cs : List Value} {x : PurposeD} (h : RPurposeD w cs x) : (cs.set 0 (.string nm)).length = 3 ∧ RPurposeD w' (cs.set 0 (.string nm)) (nmP nm x) := by
  obtain ⟨a0, k0, rfl, hs, _, h2⟩ := h.flat
  exact ⟨rfl, [.string nm], [.slice a0 x.may.length k0], [.int .i64 x.most], rfl, ⟨rfl, hnm⟩, ⟨a0, k0, rfl, hs.below RRefD.stab hb⟩, ⟨rfl, h2⟩⟩
theorem src_ren {w w' : World} {s : SourceD} {p : SrcAt} {nm : ByteArray} (hnm : nm.size ≤ maxLen) (hs : Src w s p) (hb : Below w.heap.size w w') {gi gu gs gp ci cu cs cp B1 B2 B3 B4 B5 : Nat} {fU fS fP : Nat → List Value} {V : Nat → Value}
    (hI : Own w' B1 gi 1 s.issuers.length fun _ => [.string nm])
    (hU : Own w' B2 gu 5 s.units.length fun i => (((fU i).set 0 (.string nm)).set 1 (.string nm)).set 2 (.int .i64 7)) (hU1 : ∀ i (hi : i < s.units.length), RUnitD w (fU i) s.units[i])
    (hS : Own w' B3 gs 6 s.schemas.length fun i => (((fS i).set 0 (.string nm)).set 1 (.string nm)).set 4 (V i)) (hS1 : ∀ i (hi : i < s.schemas.length), RSchemaD w (fS i) s.schemas[i]) (hV : ∀ i (hi : i < s.schemas.length), FRowB w w' nm gs B5 s.schemas[i] (V i))
    (hP : Own w' B4 gp 3 s.purposes.length fun i => (fP i).set 0 (.string nm)) (hP1 : ∀ i (hi : i < s.purposes.length), RPurposeD w (fP i) s.purposes[i]) :
    Src w' (ren nm s) ⟨some ⟨gi, 0, none⟩, ci, some ⟨gu, 0, none⟩, cu, some ⟨gs, 0, none⟩, cs, p.a3, p.k3, p.a4, p.k4, some ⟨gp, 0, none⟩, cp⟩ := by
  refine ⟨?_, ?_, ?_, hs.h3.below RRuleD.stab hb, ?_⟩
  · refine hI.sl (l := s.issuers.map fun _ => nm) (List.length_map ..) (fun i hi => rfl) fun i hi => ?_
    rw [List.getElem_map]
    exact ⟨rfl, hnm⟩
  · refine hU.sl (l := s.units.map (nmU nm)) (List.length_map ..) (fun i hi => by rw [(unit_new (w' := w') hnm (hU1 i hi)).1]; rfl) fun i hi => ?_
    rw [List.getElem_map]
    exact (unit_new hnm (hU1 i (by simpa using hi))).2
  · refine hS.sl (l := s.schemas.map (nmS nm)) (List.length_map ..) (fun i hi => (schema_new hnm hb (hS1 i hi) (hV i hi)).1) fun i hi => ?_
    rw [List.getElem_map]
    exact (schema_new hnm hb (hS1 i (by simpa using hi)) (hV i (by simpa using hi))).2
  · refine hP.sl (l := s.purposes.map (nmP nm)) (List.length_map ..) (fun i hi => (purpose_new (w' := w') hnm hb (hP1 i hi)).1) fun i hi => ?_
    rw [List.getElem_map]
    exact (purpose_new hnm hb (hP1 i (by simpa using hi))).2
theorem ren_q {s : SourceD} {nm : ByteArray} {a0 a1 a2 a3 a4 a5 : Option Addr} {k0 k1 k2 k3 k4 k5 : Nat} {w : World} (hs : Src w (ren nm s) ⟨a0, k0, a1, k1, a2, k2, a3, k3, a4, k4, a5, k5⟩) (hf : fewB s = true) (c : Int) (hc : checkB s = c) :
    Calls Try.prog 11 #[.agg #[.slice a0 s.issuers.length k0, .slice a1 s.units.length k1, .slice a2 s.schemas.length k2, .slice a3 s.rules.length k3, .slice a4 s.converts k4, .slice a5 s.purposes.length k5]] w fun e w' => e = .returned (.int .i64 c) ∧ Below w.heap.size w w' := by
  have h := check_q (ren nm s) ⟨a0, k0, a1, k1, a2, k2, a3, k3, a4, k4, a5, k5⟩ w hs (by rw [few_ren]; exact hf) c (by rw [check_ren]; exact hc)
  have e : (ren nm s).val ⟨a0, k0, a1, k1, a2, k2, a3, k3, a4, k4, a5, k5⟩ = .agg #[.slice a0 s.issuers.length k0, .slice a1 s.units.length k1, .slice a2 s.schemas.length k2, .slice a3 s.rules.length k3, .slice a4 s.converts k4, .slice a5 s.purposes.length k5] := by
    simp [SourceD.val, ren]
  rw [e] at h
  exact h
/-- a shorter slice reads as a shorter list -/
theorem Sl.take {α : Type} {n : Nat} {R : Rep α} {w : World} {a : Option Addr} {l : List α} (h : Sl n R w a l) (k : Nat) : Sl n R w a (l.take k) := fun i hi => by
  have hi' : i < l.length := by rw [List.length_take] at hi; omega
  obtain ⟨b, off, h1, h2, es, h3, h4⟩ := h i hi'
  exact ⟨b, off, h1, h2, es, by rw [List.getElem_take]; exact h3, h4⟩
theorem sub_q {s : SourceD} {p : SrcAt} {w : World} (hs : Src w s p) (hf : fewB s = true) (hc : checkB s = 0) {c k m : Nat} (hcc : c ≤ s.converts) (hk : k ≤ s.rules.length) (hm : m ≤ s.purposes.length) (b3 b4 b5 : Option Addr) (q3 q4 q5 : Nat) (h3 : k = 0 ∨ b3 = p.a3) (h5 : m = 0 ∨ b5 = p.a5) :
    Calls Try.prog 11 #[.agg #[.slice p.a0 s.issuers.length p.k0, .slice p.a1 s.units.length p.k1, .slice p.a2 s.schemas.length p.k2, .slice b3 k q3, .slice b4 c q4, .slice b5 m q5]] w fun e w' => e = .returned (.int .i64 0) ∧ Below w.heap.size w w' := by
  have hsrc : Src w (sub_ s c k m) ⟨p.a0, p.k0, p.a1, p.k1, p.a2, p.k2, b3, q3, b4, q4, b5, q5⟩ := by
    refine ⟨hs.h0, hs.h1, hs.h2, ?_, ?_⟩
    · rcases h3 with rfl | rfl
      · exact Sl.nil
      · exact hs.h3.take k
    · rcases h5 with rfl | rfl
      · exact Sl.nil
      · exact hs.h5.take m
  have h := check_q (sub_ s c k m) ⟨p.a0, p.k0, p.a1, p.k1, p.a2, p.k2, b3, q3, b4, q4, b5, q5⟩ w hsrc (few_sub hcc hf) 0 (check_sub hcc hc)
  have e : (sub_ s c k m).val ⟨p.a0, p.k0, p.a1, p.k1, p.a2, p.k2, b3, q3, b4, q4, b5, q5⟩ = .agg #[.slice p.a0 s.issuers.length p.k0, .slice p.a1 s.units.length p.k1, .slice p.a2 s.schemas.length p.k2, .slice b3 k q3, .slice b4 c q4, .slice b5 m q5] := by
    show Value.agg #[.slice p.a0 s.issuers.length p.k0, .slice p.a1 s.units.length p.k1, .slice p.a2 s.schemas.length p.k2, .slice b3 (s.rules.take k).length q3, .slice b4 c q4, .slice b5 (s.purposes.take m).length q5] = _
    rw [List.length_take, List.length_take, Nat.min_eq_left hk, Nat.min_eq_left hm]
  rw [e] at h
  exact h
end Go.Proofs.Ytogenjbabgibbaa
